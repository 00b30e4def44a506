/- Rows of rules: copied, put into, taken out of: the walks of the library's functions. -/
import Derived.Test.YtnlibngncicobaaPolQ
import Derived.Test.YtnlibngncicobaaSoLH
import Derived.Test.YtnlibngncicobaaFacts
import Derived.Test.YtnlibngncicobaaLibK
import Derived.Test.YtnlibngncicobaaLibH
import Derived.Test.YtnlibngncicobaaLibR
namespace Go.Proofs.Ytnlibngncicobaa
open Go Go.RowKit
theorem leN {a b : Nat} (h : a ≤ b) : Nat.ble a b = true := Nat.ble_eq_true_of_le h
theorem flat1 (r : Ru) : flat [.agg r.cells.toArray] = r.cells := by simp [flat, Value.cells]
def ruV (r : Ru) : Value := .agg r.cells.toArray
theorem vtU : VT Try.prog 24 5 Ru.ok ruV := .agg (cel := Ru.cells) (by kernel_rfl) (by kernel_rfl) (by decide) (fun _ => rfl) (fun r _ => Ru.len r) (fun r => Ru.ones r)
def UOk (xs : List Ru) : Prop := ∀ r ∈ xs, r.ok
theorem UOk.get {xs : List Ru} (h : UOk xs) {j : Nat} {x : Ru} (hx : xs[j]? = some x) : x.ok := h x (List.mem_of_getElem? hx)
theorem cloneU_any (v : Value) (xs : List Ru) (hG : UOk xs) (hl : xs.length ≤ 1000000) (w : World) (hx : RdS w (fpL []) v 5 xs.length (vcs ruV xs)) (hw : OK w (fpL []) [] w) :
    Fn Try.prog 36 [v] [] w (fun _ : Option Addr × Nat => True) (fun y => .slice y.1 xs.length y.2) (fun y => [ownR (.slice y.1 xs.length y.2) 24 5 xs.length (vcs ruV xs)]) := by
  obtain ⟨al, cl, rfl, hcl, hml⟩ := hx.rd.form
  refine enterF Try.func36 rfl Try.ntmps36 rfl hw ?_
  refine WC.seq ?_
  refine WC.region ?_
  refine WL.y (Yl.assign rfl) rfl ?_
  refine WL.nil ?_
  refine WC.seq ?_
  refine WC.seq ?_
  refine WC.region ?_
  refine WL.y (Yl.move rfl) rfl ?_
  refine WL.y (Yl.eqNil un64 rfl rfl) rfl ?_
  refine WL.nil ?_
  refine WC.cond rfl (fun g4 => ?_) (fun g4 => ?_)
  · refine WC.seq ?_
    refine WC.region ?_
    refine WL.y (Yl.assign rfl) rfl ?_
    refine WL.nil ?_
    refine WC.ret ?_
    repeat (first | (with_reducible refine peelT ?_) | (with_reducible refine peelB ?_) | (with_reducible refine peelTX ?_) | (with_reducible refine peelBX ?_) | (with_reducible refine peelBN ?_) | (with_reducible refine peelBO rfl ?_))
    have h0 : xs.length = 0 := by
      rcases hx.rd.2 with ⟨_, h0⟩ | ⟨a, cap, he, _⟩
      · exact h0
      · cases he; simp at g4
    have hxs : xs = [] := List.eq_nil_of_length_eq_zero h0
    subst hxs
    exact ret1 (.inr rfl) Try.results36 rfl fun w' h => ⟨(none, 0), trivial, rfl, (h.addNil 24 5).sub (by repeat (first | exact TakeL.nil | (apply TakeL.cons; · repeat (first | exact Take1.head | apply Take1.tail))))⟩
  · refine WC.skip ?_
    refine WC.seq ?_
    refine WC.region ?_
    refine WL.to (To.buildSlice (vs := []) un64 zs24 rfl rfl (by simp) (by decide) (by decide)) rfl ?_
    intro b5
    rw [show flat [] = [] from rfl]
    refine WL.view (fun w h => h.blkOwn (b := b5) (size := 5) (n := 0) (by repeat (first | exact Take1.head | apply Take1.tail)) (by unfold maxLen; omega) rfl) ?_
    refine WL.y (Yl.move rfl) rfl ?_
    refine WL.to (To.append sl64 rfl rfl (by repeat (first | exact Take1.head | apply Take1.tail)) (Reads.s hx) (vtU.ones _) (Nat.zero_add _) (List.nil_append _) (by unfold maxLen; omega) (by omega)) rfl ?_
    rintro ⟨⟨ao7, c7⟩, hc7⟩
    dsimp only at hc7 ⊢
    refine WL.y (Yl.assign rfl) rfl ?_
    refine WL.nil ?_
    refine WC.ret ?_
    repeat (first | (with_reducible refine peelT ?_) | (with_reducible refine peelB ?_) | (with_reducible refine peelTX ?_) | (with_reducible refine peelBX ?_) | (with_reducible refine peelBN ?_) | (with_reducible refine peelBO rfl ?_))
    exact ret1 (.inr rfl) Try.results36 rfl fun w' h => ⟨(ao7, c7), trivial, rfl, h.sub (by repeat (first | exact TakeL.nil | (apply TakeL.cons; · repeat (first | exact Take1.head | apply Take1.tail))))⟩
theorem ru_len {xs : List Ru} (h : UOk xs) : (vcs ruV xs).length = xs.length * 5 := vtU.size h
theorem ru_take {xs : List Ru} (h : UOk xs) (i : Nat) : (vcs ruV xs).take (i * 5) = vcs ruV (xs.take i) := vtU.take i h
theorem ru_drop {xs : List Ru} (h : UOk xs) (i : Nat) : (vcs ruV xs).drop (i * 5) = vcs ruV (xs.drop i) := vtU.drop i h
theorem ru_cat {xs ys : List Ru} {x : Ru} : vcs ruV xs ++ x.cells ++ vcs ruV ys = vcs ruV (xs ++ x :: ys) := by
  rw [vcs_app, vcs_cons, List.append_assoc]
  rfl
theorem rdRu {bv : Nat} {x : Ru} (hx : x.ok) : RdOf (blkR bv 24 x.cells) (.slice (some ⟨bv, 0, none⟩) 1 1) 5 1 x.cells := RdOf.blk (Nat.le_refl _) (by unfold maxLen; omega) (by rw [Ru.len x]; omega) (by rw [List.drop_zero, List.take_of_length_le (by rw [Ru.len x]; omega)])
theorem ext_overlaps {w : World} {args : Array Value} {v : Value} (h : (Extern.SlicesOverlaps.overlaps #[64, 64] #[4] args).run Try.prog w = .ok v w) : (callFunc 60 args).run Try.prog w = .ok (.value v) w := by
  rw [run_callFunc_extern (e := Extern.SlicesOverlaps.overlaps #[64, 64] #[4]) Try.func60 (by kernel_rfl) (by kernel_rfl) (by kernel_rfl) (by kernel_rfl), h]
  rfl
def zcU : Array Value := Ru.zero.cells.toArray
set_option maxRecDepth 100000 in
theorem insUr_any (ao : Option Addr) (cap : Nat) (xs : List Ru) (x : Ru) (hG : UOk xs) (hx : x.ok) (i bv : Nat) (hl : xs.length ≤ 1000000) (hi : i ≤ xs.length) (w : World)
    (hw : OK w (fpL [ownR (.slice ao xs.length cap) 24 5 xs.length (vcs ruV xs), blkR bv 24 x.cells]) [ownR (.slice ao xs.length cap) 24 5 xs.length (vcs ruV xs), blkR bv 24 x.cells] w) :
    Fn Try.prog 35 [.slice ao xs.length cap, .int .i64 (i : Int), .slice (some ⟨bv, 0, none⟩) 1 1] [ownR (.slice ao xs.length cap) 24 5 xs.length (vcs ruV xs), blkR bv 24 x.cells] w (fun _ : Option Addr × Nat => True) (fun y => .slice y.1 (xs.length + 1) y.2)
      (fun y => [ownR (.slice y.1 (xs.length + 1) y.2) 24 5 (xs.length + 1) (vcs ruV (xs.take i ++ x :: xs.drop i))]) := by
  have hcap : xs.length ≤ cap := Sown.le (hw.get .head)
  have hml : cap ≤ maxLen := by obtain ⟨_, _, he, _, h⟩ := (hw.get .head : Sown _ _ _ _ _ _).rd.form; cases he; exact h
  have hlen := ru_len hG
  have h22 := Ru.len x
  refine enterF Try.func35 rfl Try.ntmps35 rfl hw ?_
  refine WC.seq ?_
  refine WC.region ?_
  refine WL.y (Yl.assign rfl) rfl ?_
  refine WL.nil ?_
  refine WC.seq ?_
  refine WC.region ?_
  refine WL.y (Yl.move rfl) rfl ?_
  refine WL.y (Yl.move rfl) rfl ?_
  refine WL.y (Yl.slice un64 sz24 rfl ⟨_, rfl⟩ rfl (by omega) (by omega)) rfl ?_
  refine WL.nil ?_
  refine WC.seq ?_
  refine WC.region ?_
  refine WL.y (Yl.move rfl) rfl ?_
  refine WL.y (Yl.len un64 rfl) rfl ?_
  refine WL.y (Yl.assign rfl) rfl ?_
  refine WL.nil ?_
  refine WC.seq ?_
  refine WC.seq ?_
  refine WC.region ?_
  refine WL.y (Yl.move rfl) rfl ?_
  refine WL.y (Yl.eql rfl rfl) rfl ?_
  refine WL.nil ?_
  refine WC.condF rfl (by first | rfl | (simp; done) | (simp; omega)) ?_
  refine WC.skip ?_
  refine WC.seq ?_
  refine WC.region ?_
  refine WL.y (Yl.move rfl) rfl ?_
  refine WL.y (Yl.len un64 rfl) rfl ?_
  refine WL.y (Yl.assign rfl) rfl ?_
  refine WL.nil ?_
  refine WC.seq ?_
  refine WC.seq ?_
  refine WC.region ?_
  refine WL.y (Yl.move rfl) rfl ?_
  refine WL.y (Yl.move rfl) rfl ?_
  refine WL.y (Yl.eql rfl rfl) rfl ?_
  refine WL.nil ?_
  refine WC.condD rfl (fun g22 => ?_) (fun g22 => ?_)
  · refine WC.seq ?_
    refine WC.region ?_
    refine WL.y (Yl.move rfl) rfl ?_
    refine WL.y (Yl.move rfl) rfl ?_
    refine WL.to (To.append sl64 rfl rfl (by repeat (first | exact Take1.head | apply Take1.tail)) (Reads.of (rdRu hx) (by repeat (first | exact Take1.head | apply Take1.tail))) (Ru.ones x) rfl (show vcs ruV xs ++ x.cells = vcs ruV (xs.take i ++ x :: xs.drop i) from by
      obtain rfl : i = xs.length := by omega
      rw [List.take_length, List.drop_length, ← ru_cat]; simp [vcs, flat]) (by unfold maxLen; omega) (by omega)) rfl ?_
    rintro ⟨⟨ao25, c25⟩, hc25⟩
    dsimp only at hc25 ⊢
    refine WL.y (Yl.assign rfl) rfl ?_
    refine WL.nil ?_
    refine WC.ret ?_
    repeat (first | (with_reducible refine peelT ?_) | (with_reducible refine peelB ?_) | (with_reducible refine peelTX ?_) | (with_reducible refine peelBX ?_) | (with_reducible refine peelBN ?_) | (with_reducible refine peelBO rfl ?_))
    exact ret1 (.inr rfl) Try.results35 rfl fun w' h => ⟨(ao25, c25), trivial, rfl, h.sub (by repeat (first | exact TakeL.nil | (apply TakeL.cons; · repeat (first | exact Take1.head | apply Take1.tail))))⟩
  · refine WC.skip ?_
    refine WC.seq ?_
    refine WC.seq ?_
    refine WC.region ?_
    refine WL.y (Yl.move rfl) rfl ?_
    refine WL.y (Yl.move rfl) rfl ?_
    refine WL.y (Yl.add rfl rfl (IntWalk.i64_in _ (by omega))) rfl ?_
    refine WL.y (Yl.move rfl) rfl ?_
    refine WL.y (Yl.cap un64 rfl) rfl ?_
    refine WL.y (Yl.gtr rfl rfl) rfl ?_
    refine WL.nil ?_
    refine WC.condD rfl (fun g31 => ?_) (fun g31 => ?_)
    · refine WC.seq ?_
      refine WC.region ?_
      refine WL.y (Yl.move rfl) rfl ?_
      refine WL.y (Yl.move rfl) rfl ?_
      refine WL.y (Yl.slice un64 sz24 rfl rfl ⟨_, rfl⟩ (by omega) (by omega)) rfl ?_
      refine WL.say (t := 34) (v' := .slice ao i cap) rfl (by exact sub0) ?_
      refine WL.y (Yl.move rfl) rfl ?_
      refine WL.y (Yl.move rfl) rfl ?_
      refine WL.y (Yl.add rfl rfl (IntWalk.i64_in _ (by omega))) rfl ?_
      refine WL.y (Yl.move rfl) rfl ?_
      refine WL.y (Yl.sub rfl rfl (IntWalk.i64_in _ (by omega))) rfl ?_
      refine WL.say (t := 39) (v' := .int .i64 ((xs.length + 1 - i : Nat) : Int)) rfl (by congr 1; omega) ?_
      obtain ⟨Z, hZ⟩ : ∃ Z, Z = (Builtin.zeroCells zcU (xs.length + 1 - i)).toList := ⟨_, rfl⟩
      have hZl : Z.length = (xs.length + 1 - i) * 5 := by rw [hZ, Array.length_toList, size_zeroCells]; rfl
      refine WL.to (To.appendZN (i := i) (m := xs.length + 1 - i) (N := xs.length + 1) (zs := (vcs ruV xs).take (i * 5) ++ Z) sl64 un3 rfl rfl (by repeat (first | exact Take1.head | apply Take1.tail)) hi (by omega) (by omega) (by omega) (by omega) (by rw [hZ]; rfl) (by unfold maxLen; omega) (by omega)) rfl ?_
      rintro ⟨⟨b40, c40⟩, hc40⟩
      dsimp only at hc40 ⊢
      refine WL.y (Yl.assign rfl) rfl ?_
      refine WL.nil ?_
      refine WC.seq ?_
      refine WC.region ?_
      refine WL.y (Yl.move rfl) rfl ?_
      refine WL.y (Yl.move rfl) rfl ?_
      refine WL.y (Yl.slice un64 sz24 rfl ⟨_, rfl⟩ rfl (by omega) (by omega)) rfl ?_
      refine WL.y (Yl.move rfl) rfl ?_
      refine WL.to (To.copyOwn (l := i) (k := 1) (m := 1) un64 sz24 rfl rfl (by repeat (first | exact Take1.head | apply Take1.tail)) (Reads.of (rdRu hx) (by repeat (first | exact Take1.head | apply Take1.tail))) (fun u hu => Ru.ones x u (List.mem_of_mem_take hu)) (by omega) (Nat.min_eq_left (by omega)) rfl) rfl ?_
      rintro ⟨⟩
      refine WL.nil ?_
      refine WC.seq ?_
      refine WC.drawTail 8 mixed (by kernel_rfl) ?_
      refine WH.y (Yl.move rfl) rfl ?_
      refine WH.y (Yl.move rfl) rfl ?_
      refine WH.y (Yl.move rfl) rfl ?_
      refine WH.y (Yl.add rfl rfl (IntWalk.i64_in _ (by omega))) rfl ?_
      refine WH.say (t := 49) (v' := .int .i64 ((i + 1 : Nat) : Int)) rfl (by rfl) ?_
      refine WH.y (Yl.slice un64 sz24 rfl ⟨_, rfl⟩ rfl (by omega) (by omega)) rfl ?_
      refine WH.y (Yl.move rfl) rfl ?_
      refine WH.y (Yl.move rfl) rfl ?_
      refine WH.y (Yl.slice un64 sz24 rfl ⟨_, rfl⟩ rfl (by omega) (by omega)) rfl ?_
      refine WH.nil ?_
      refine WP.to (To.copyOwn (l := i + 1) (k := xs.length - i) (m := xs.length - i) (news := (vcs ruV xs).drop (i * 5)) (cs' := vcs ruV (xs.take i ++ x :: xs.drop i)) un64 sz24 rfl rfl (by repeat (first | exact Take1.head | apply Take1.tail)) (Reads.of (RdOf.sub RdOf.own hi (Nat.le_refl _) (List.take_of_length_le (by rw [List.length_drop, hlen, Nat.sub_mul]; exact Nat.le_refl _))) (by repeat (first | exact Take1.head | apply Take1.tail))) (fun u hu => vtU.ones xs u (List.mem_of_mem_drop (List.mem_of_mem_take hu))) (by omega) (Nat.min_eq_left (by omega))
          (by rw [growL (n := xs.length) hlen hZl h22 hi (by decide), ru_take hG, ru_drop hG]; exact ru_cat)) rfl ?_
      rintro ⟨⟩
      refine WP.nil ?_
      refine WC.seq ?_
      refine WC.region ?_
      refine WL.y (Yl.move rfl) rfl ?_
      refine WL.y (Yl.assign rfl) rfl ?_
      refine WL.nil ?_
      refine WC.ret ?_
      repeat (first | (with_reducible refine peelT ?_) | (with_reducible refine peelB ?_) | (with_reducible refine peelTX ?_) | (with_reducible refine peelBX ?_) | (with_reducible refine peelBN ?_) | (with_reducible refine peelBO rfl ?_))
      exact ret1 (.inr rfl) Try.results35 rfl fun w' h => ⟨(some ⟨b40, 0, none⟩, c40), trivial, rfl, h.sub (by repeat (first | exact TakeL.nil | (apply TakeL.cons; · repeat (first | exact Take1.head | apply Take1.tail))))⟩
    · refine WC.skip ?_
      refine WC.seq ?_
      refine WC.region ?_
      refine WL.y (Yl.move rfl) rfl ?_
      refine WL.y (Yl.move rfl) rfl ?_
      refine WL.y (Yl.move rfl) rfl ?_
      refine WL.y (Yl.add rfl rfl (IntWalk.i64_in _ (by omega))) rfl ?_
      refine WL.y (Yl.slice un64 sz24 rfl rfl ⟨_, rfl⟩ (by omega) (by omega)) rfl ?_
      refine WL.viewX (fun w h => h.extend (m := 1) (by repeat (first | exact Take1.head | apply Take1.tail)) (by omega)) ?_
      intro ys hys
      refine WL.say (t := 60) (v' := .slice ao (xs.length + 1) cap) rfl (by exact sub0) ?_
      refine WL.y (Yl.assign rfl) rfl ?_
      refine WL.nil ?_
      refine WC.seq ?_
      refine WC.seq ?_
      refine WC.region ?_
      refine WL.y (Yl.move rfl) rfl ?_
      refine WL.y (Yl.move rfl) rfl ?_
      refine WL.y (Yl.move rfl) rfl ?_
      refine WL.y (Yl.move rfl) rfl ?_
      refine WL.y (Yl.add rfl rfl (IntWalk.i64_in _ (by omega))) rfl ?_
      refine WL.y (Yl.slice un64 sz24 rfl ⟨_, rfl⟩ rfl (by omega) (by omega)) rfl ?_
      refine WL.y (Yl.callExt (xs := [.tmp 61, .tmp 66]) rfl rfl (fun w hw => ext_overlaps (hw.overlaps un64 sz24 (by repeat (first | exact TakeL.nil | (apply TakeL.cons; · repeat (first | exact Take1.head | apply Take1.tail)))) (by omega) (by decide)))) rfl ?_
      refine WL.y (Yl.not rfl) rfl ?_
      refine WL.nil ?_
      refine WC.condT rfl (by first | rfl | (simp; done) | (simp; omega)) ?_
      refine WC.seq ?_
      refine WC.drawTail 8 mixed (by kernel_rfl) ?_
      refine WH.y (Yl.move rfl) rfl ?_
      refine WH.y (Yl.move rfl) rfl ?_
      refine WH.y (Yl.move rfl) rfl ?_
      refine WH.y (Yl.add rfl rfl (IntWalk.i64_in _ (by omega))) rfl ?_
      refine WH.say (t := 72) (v' := .int .i64 ((i + 1 : Nat) : Int)) rfl (by rfl) ?_
      refine WH.y (Yl.slice un64 sz24 rfl ⟨_, rfl⟩ rfl (by omega) (by omega)) rfl ?_
      refine WH.y (Yl.move rfl) rfl ?_
      refine WH.y (Yl.move rfl) rfl ?_
      refine WH.y (Yl.slice un64 sz24 rfl ⟨_, rfl⟩ rfl (by omega) (by omega)) rfl ?_
      refine WH.nil ?_
      refine WP.to (To.copyOwn (l := i + 1) (k := xs.length - i) (m := xs.length + 1 - i) (news := (vcs ruV xs ++ ys).drop (i * 5)) un64 sz24 rfl rfl (by repeat (first | exact Take1.head | apply Take1.tail)) (Reads.of (RdOf.sub RdOf.own (by omega) (Nat.le_refl _) (List.take_of_length_le (by rw [List.length_drop, List.length_append, hlen, hys]; omega))) (by repeat (first | exact Take1.head | apply Take1.tail))) (fun u hu => by
          rw [List.drop_append_of_le_length (by omega), List.take_left' (by rw [List.length_drop, hlen, Nat.sub_mul])] at hu
          exact vtU.ones xs u (List.mem_of_mem_drop hu)) (by omega) ((Nat.min_eq_right (by omega)).trans (by omega)) rfl) rfl ?_
      rintro ⟨⟩
      refine WP.nil ?_
      refine WC.seq ?_
      refine WC.region ?_
      refine WL.y (Yl.move rfl) rfl ?_
      refine WL.y (Yl.move rfl) rfl ?_
      refine WL.y (Yl.slice un64 sz24 rfl ⟨_, rfl⟩ rfl (by omega) (by omega)) rfl ?_
      refine WL.y (Yl.move rfl) rfl ?_
      refine WL.to (To.copyOwn (l := i) (k := 1) (m := 1) (cs' := vcs ruV (xs.take i ++ x :: xs.drop i)) un64 sz24 rfl rfl (by repeat (first | exact Take1.head | apply Take1.tail)) (Reads.of (rdRu hx) (by repeat (first | exact Take1.head | apply Take1.tail))) (fun u hu => Ru.ones x u (List.mem_of_mem_take hu)) (by omega) (Nat.min_eq_left (by omega))
          (by rw [show (i + 1) = 1 + i from Nat.add_comm _ _] at *; rw [Nat.add_comm 1 i]; exact (shiftL (x := x.cells) (n := xs.length) hlen hys h22 hi (by decide)).trans (by rw [ru_take hG, ru_drop hG]; exact ru_cat))) rfl ?_
      rintro ⟨⟩
      refine WL.nil ?_
      refine WC.seq ?_
      refine WC.region ?_
      refine WL.y (Yl.move rfl) rfl ?_
      refine WL.y (Yl.assign rfl) rfl ?_
      refine WL.nil ?_
      refine WC.ret ?_
      repeat (first | (with_reducible refine peelT ?_) | (with_reducible refine peelB ?_) | (with_reducible refine peelTX ?_) | (with_reducible refine peelBX ?_) | (with_reducible refine peelBN ?_) | (with_reducible refine peelBO rfl ?_))
      exact ret1 (.inr rfl) Try.results35 rfl fun w' h => ⟨(ao, cap), trivial, rfl, h.sub (by repeat (first | exact TakeL.nil | (apply TakeL.cons; · repeat (first | exact Take1.head | apply Take1.tail))))⟩
set_option maxRecDepth 100000 in
theorem delUr_any (ao : Option Addr) (cap : Nat) (xs : List Ru) (hG : UOk xs) (i : Nat) (hl : xs.length ≤ 1000000) (hi : i < xs.length) (w : World)
    (hw : OK w (fpL [ownR (.slice ao xs.length cap) 24 5 xs.length (vcs ruV xs)]) [ownR (.slice ao xs.length cap) 24 5 xs.length (vcs ruV xs)] w) :
    Fn Try.prog 37 [.slice ao xs.length cap, .int .i64 (i : Int), .int .i64 ((i + 1 : Nat) : Int)] [ownR (.slice ao xs.length cap) 24 5 xs.length (vcs ruV xs)] w (fun _ : Unit => True) (fun _ => .slice ao (xs.length - 1) cap)
      (fun _ => [ownR (.slice ao (xs.length - 1) cap) 24 5 (xs.length - 1) (vcs ruV (xs.take i ++ xs.drop (i + 1)))]) := by
  have hcap : xs.length ≤ cap := Sown.le (hw.get .head)
  have hlen := ru_len hG
  refine enterF Try.func37 rfl Try.ntmps37 rfl hw ?_
  refine WC.seq ?_
  refine WC.region ?_
  refine WL.y (Yl.assign rfl) rfl ?_
  refine WL.nil ?_
  refine WC.seq ?_
  refine WC.region ?_
  refine WL.y (Yl.move rfl) rfl ?_
  refine WL.y (Yl.move rfl) rfl ?_
  refine WL.y (Yl.move rfl) rfl ?_
  refine WL.y (Yl.move rfl) rfl ?_
  refine WL.y (Yl.len un64 rfl) rfl ?_
  refine WL.y (Yl.slice3L (l := i) (h := i + 1) (m := xs.length) un64 sz24 rfl rfl rfl rfl (by omega) (by omega) (by omega)) rfl ?_
  refine WL.nil ?_
  refine WC.seq ?_
  refine WC.seq ?_
  refine WC.region ?_
  refine WL.y (Yl.move rfl) rfl ?_
  refine WL.y (Yl.move rfl) rfl ?_
  refine WL.y (Yl.eql rfl rfl) rfl ?_
  refine WL.nil ?_
  refine WC.condF rfl (by first | rfl | (simp; done) | (simp; omega)) ?_
  refine WC.skip ?_
  refine WC.seq ?_
  refine WC.region ?_
  refine WL.y (Yl.move rfl) rfl ?_
  refine WL.y (Yl.len un64 rfl) rfl ?_
  refine WL.y (Yl.assign rfl) rfl ?_
  refine WL.nil ?_
  refine WC.seq ?_
  refine WC.drawTail 6 mixed (by kernel_rfl) ?_
  refine WH.y (Yl.move rfl) rfl ?_
  refine WH.y (Yl.move rfl) rfl ?_
  refine WH.y (Yl.slice un64 sz24 rfl rfl ⟨_, rfl⟩ (by omega) (by omega)) rfl ?_
  refine WH.say (t := 22) (v' := .slice ao i cap) rfl (by exact sub0) ?_
  refine WH.y (Yl.move rfl) rfl ?_
  refine WH.y (Yl.move rfl) rfl ?_
  refine WH.y (Yl.slice un64 sz24 rfl ⟨_, rfl⟩ rfl (by omega) (by omega)) rfl ?_
  refine WH.nil ?_
  refine WP.to (To.appendIn (i := i) (m := xs.length - (i + 1)) (N := xs.length - 1) (news := (vcs ruV xs).drop ((i + 1) * 5)) sl64 rfl rfl (by repeat (first | exact Take1.head | apply Take1.tail)) (Reads.of (RdOf.sub RdOf.own (by omega) (Nat.le_refl _) (List.take_of_length_le (by rw [List.length_drop, hlen, Nat.sub_mul]; exact Nat.le_refl _))) (by repeat (first | exact Take1.head | apply Take1.tail))) (fun u hu => vtU.ones xs u (List.mem_of_mem_drop hu)) (by omega) (by omega) rfl) rfl ?_
  rintro ⟨⟩
  refine WP.y (Yl.assign rfl) rfl ?_
  refine WP.nil ?_
  refine WC.seq ?_
  refine WC.region ?_
  refine WL.y (Yl.move rfl) rfl ?_
  refine WL.y (Yl.move rfl) rfl ?_
  refine WL.y (Yl.len un64 rfl) rfl ?_
  refine WL.y (Yl.move rfl) rfl ?_
  refine WL.y (Yl.slice un64 sz24 rfl ⟨_, rfl⟩ ⟨_, rfl⟩ (by omega) (by omega)) rfl ?_
  refine WL.eff (Eff.clear sl64 (n := xs.length) (i := xs.length - 1) (cs' := vcs ruV (xs.take i ++ xs.drop (i + 1))) (by intro u hu; exact Ru.ones Ru.zero u hu) rfl (by repeat (first | exact Take1.head | apply Take1.tail)) (by omega) (by
    have := closeL (cs := vcs ruV xs) (s := 5) (n := xs.length) (i := i) (j := i + 1) hlen (by omega) (by omega)
    rw [show i + (xs.length - (i + 1)) = xs.length - 1 by omega] at this ⊢
    rw [this, ru_take hG, ru_drop hG, vcs_app])) ?_
  refine WL.nil ?_
  refine WC.seq ?_
  refine WC.region ?_
  refine WL.y (Yl.move rfl) rfl ?_
  refine WL.y (Yl.assign rfl) rfl ?_
  refine WL.nil ?_
  refine WC.ret ?_
  repeat (first | (with_reducible refine peelT ?_) | (with_reducible refine peelB ?_) | (with_reducible refine peelTX ?_) | (with_reducible refine peelBX ?_) | (with_reducible refine peelBN ?_) | (with_reducible refine peelBO rfl ?_))
  exact ret1 (.inr rfl) Try.results37 rfl fun w' h => ⟨(), trivial, rfl, by rw [sub0] at h; exact h.sub (by repeat (first | exact TakeL.nil | (apply TakeL.cons; · repeat (first | exact Take1.head | apply Take1.tail))))⟩
end Go.Proofs.Ytnlibngncicobaa
