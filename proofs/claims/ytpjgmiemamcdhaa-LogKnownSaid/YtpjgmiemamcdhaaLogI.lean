/- LogBounds: the walk. -/
import Derived.Test.YtpjgmiemamcdhaaLogH
import Derived.Test.YtpjgmiemamcdhaaLogCU
namespace Go.Proofs.Ytpjgmiemamcdhaa
open Go Go.RowKit

def mx (most : Int) : Int := if (0 : Int) > most then 0 else most
theorem mx_pos (most : Int) : 0 ≤ mx most := by unfold mx; split <;> omega

theorem rputU_any (most : Int) (v : Value) (xs : List Int) (x : Int) (hl : xs.length ≤ 1000000) (w : World) (hx : RdS w (fpL []) v 1 xs.length (vcs (Value.int .u32) xs)) (hw : OK w (fpL []) [] w) :
    Fn Try.prog 10 [v, .int .i64 most, .int .u32 x] [] w (fun _ : Option Addr × Nat => True) (fun y => .tuple #[.slice y.1 (putF (mx most) xs x).length y.2, .int .u32 (outF 0 (mx most) xs x), .bool (fullF (mx most) xs)])
      (fun y => [ownR (.slice y.1 (putF (mx most) xs x).length y.2) 23 1 (putF (mx most) xs x).length (vcs (Value.int .u32) (putF (mx most) xs x))]) := by
  obtain ⟨al, cl, rfl, hcl, hml⟩ := hx.rd.form
  obtain ⟨ys, hys⟩ : ∃ ys, xs ++ [x] = ys := ⟨_, rfl⟩
  have hyl : ys.length = xs.length + 1 := by rw [← hys]; simp
  have hne : ys ≠ [] := by intro h; rw [h] at hyl; simp at hyl
  have hcat : vcs (Value.int .u32) xs ++ [Value.int .u32 x] = vcs (Value.int .u32) ys := by rw [← hys, vcs_app]; rfl
  refine enterF Try.func10 rfl Try.ntmps10 rfl hw ?_
  refine WC.seq ?_
  refine WC.region ?_
  refine WL.y (Yl.assign rfl) rfl ?_ -- t6
  refine WL.y (Yl.assign rfl) rfl ?_ -- t7
  refine WL.y (Yl.assign rfl) rfl ?_ -- t8
  refine WL.nil ?_
  refine WC.seq ?_
  refine WC.region ?_
  refine WL.to (To.buildSlice (vs := []) un22 zs23 rfl rfl (by simp) (by decide) (by decide)) rfl ?_
  intro b9
  rw [show flat [] = [] from rfl]
  refine WL.view (fun w h => h.blkOwn (b := b9) (size := 1) (n := 0) (by repeat (first | exact Take1.head | apply Take1.tail)) (by unfold maxLen; omega) rfl) ?_
  refine WL.y (Yl.move rfl) rfl ?_ -- t10
  refine WL.to (To.append sl22 rfl rfl (by repeat (first | exact Take1.head | apply Take1.tail)) (Reads.s hx) (vtU.ones _) (Nat.zero_add _) (List.nil_append _) (by unfold maxLen; omega) (by omega)) rfl ?_ -- t11
  rintro ⟨⟨ao11, c11⟩, hc11⟩
  dsimp only at hc11 ⊢
  refine WL.y (Yl.move rfl) rfl ?_ -- t12
  refine WL.to (To.buildSlice (vs := [.int .u32 x]) un22 zs23 rfl rfl (by simp [Value.cells]) (by decide) (by decide)) rfl ?_ -- t13
  intro b13
  refine WL.to (To.append sl22 rfl rfl (by repeat (first | exact Take1.head | apply Take1.tail)) (Reads.of (RdOf.blk (size := 1) (cs := [.int .u32 x]) (cs' := [.int .u32 x]) (Nat.le_refl _) (by unfold maxLen; omega) (by simp) rfl) (by repeat (first | exact Take1.head | apply Take1.tail))) (by intro v hv; rw [List.mem_singleton.1 hv]; rfl) hyl.symm hcat (by unfold maxLen; omega) (by omega)) rfl ?_ -- t14
  rintro ⟨⟨ao14, c14⟩, hc14⟩
  dsimp only at hc14 ⊢
  refine WL.y (Yl.assign rfl) rfl ?_ -- t0
  refine WL.nil ?_
  refine WC.seq ?_
  refine WC.seq ?_
  refine WC.region ?_
  refine WL.y (Yl.move rfl) rfl ?_ -- t15
  refine WL.y (Yl.lss rfl rfl) rfl ?_ -- t16
  refine WL.nil ?_
  refine WC.condD rfl (fun g16 => ?_) (fun g16 => ?_)
  · refine WC.region ?_
    refine WL.y (Yl.assign rfl) rfl ?_ -- t1
    refine WL.nil ?_
    refine WC.seq ?_
    refine WC.seq ?_
    refine WC.region ?_
    have hm : mx most = 0 := by unfold mx; rw [if_pos (by omega)]
    rw [hm]
    refine WL.y (Yl.move rfl) rfl ?_ -- t17
    refine WL.y (Yl.len un22 rfl) rfl ?_ -- t18
    refine WL.y (Yl.move rfl) rfl ?_ -- t19
    refine WL.y (Yl.gtr rfl rfl) rfl ?_ -- t20
    refine WL.nil ?_
    refine WC.condD rfl (fun g20 => ?_) (fun g20 => ?_)
    · refine WC.seq ?_
      refine WC.drawRead mixed (by kernel_rfl) ?_
      have e1 : putF (0 : Int) xs x = ys.drop 1 := by unfold putF; rw [if_neg (by omega), hys]
      have e2 : outF 0 (0 : Int) xs x = ys.head hne := by unfold outF; rw [if_neg (by omega)]; simp only [hys]
      have e3 : fullF (0 : Int) xs = true := by unfold fullF; rw [decide_eq_false (by omega)]; rfl
      have e4 : (ys.drop 1).length = ys.length - 1 := List.length_drop
      rw [e1, e2, e3, e4]
      refine WH.y (Yl.move rfl) rfl ?_ -- t21
      refine WH.y (Yl.slice (l := 1) un22 sz23 rfl ⟨_, rfl⟩ rfl (by omega) (by omega)) rfl ?_ -- t22
      refine WH.y (Yl.move rfl) rfl ?_ -- t23
      refine WH.y (Yl.index (j := 0) un22 sz23 rfl rfl (Reads.of RdOf.own (by repeat (first | exact Take1.head | apply Take1.tail))) rfl (by omega)) rfl ?_ -- t24
      refine WH.y (Yl.loadV (j := 0) (u := ys.head hne) vtU (fun _ _ => trivial) rfl (Reads.of RdOf.own (by repeat (first | exact Take1.head | apply Take1.tail))) rfl (head_get hne)) rfl ?_
      refine WH.y (Yl.assign rfl) rfl ?_ -- t6
      refine WH.y (Yl.assign rfl) rfl ?_ -- t7
      refine WH.y (Yl.assign rfl) rfl ?_ -- t8
      refine WH.nil ?_
      refine WC.ret ?_
      repeat (first | (with_reducible refine peelT ?_) | (with_reducible refine peelB ?_) | (with_reducible refine peelTX ?_) | (with_reducible refine peelBX ?_) | (with_reducible refine peelBN ?_) | (with_reducible refine peelBO rfl ?_))
      exact ret3 (.inr rfl) Try.results10 rfl rfl rfl fun w' h => ⟨((if c14 = 1 then ao14 else ao14.map (·.add (1 * 1))), c14 - 1), trivial, rfl, OK.sub (h.subG (by repeat (first | exact Take1.head | apply Take1.tail)) (ao := ao14) (l := 1) (hh := ys.length) (m := c14) (by omega) hc14 (Nat.le_refl _) (Nat.le_refl _) (cs' := vcs (Value.int .u32) (ys.drop 1)) (by rw [vtU.drop 1 (fun _ _ => trivial), List.take_of_length_le (by rw [vtU.size (fun _ _ => trivial), List.length_drop]; omega)])) (by repeat (first | exact TakeL.nil | (apply TakeL.cons; · repeat (first | exact Take1.head | apply Take1.tail))))⟩
    · refine WC.skip ?_
      refine WC.seq ?_
      refine WC.region ?_
      refine WL.y (Yl.move rfl) rfl ?_ -- t26
      refine WL.y (Yl.assign rfl) rfl ?_ -- t6
      refine WL.y (Yl.assign rfl) rfl ?_ -- t7
      refine WL.y (Yl.assign rfl) rfl ?_ -- t8
      refine WL.nil ?_
      refine WC.ret ?_
      repeat (first | (with_reducible refine peelT ?_) | (with_reducible refine peelB ?_) | (with_reducible refine peelTX ?_) | (with_reducible refine peelBX ?_) | (with_reducible refine peelBN ?_) | (with_reducible refine peelBO rfl ?_))
      have e : ∀ m : Int, ((ys.length : Nat) : Int) ≤ m → putF m xs x = ys ∧ outF 0 m xs x = 0 ∧ fullF m xs = false := fun m hm2 => by
        unfold putF outF fullF
        rw [if_pos (by omega), if_pos (by omega), decide_eq_true (by omega), hys]
        exact ⟨rfl, rfl, rfl⟩
      rw [(e _ (by omega)).1, (e _ (by omega)).2.1, (e _ (by omega)).2.2]
      exact ret3 (.inr rfl) Try.results10 rfl rfl rfl fun w' h => ⟨(ao14, c14), trivial, rfl, h.sub (by repeat (first | exact TakeL.nil | (apply TakeL.cons; · repeat (first | exact Take1.head | apply Take1.tail))))⟩
  · refine WC.skip ?_
    refine WC.seq ?_
    refine WC.seq ?_
    refine WC.region ?_
    have hm : mx most = most := by unfold mx; rw [if_neg (by omega)]
    rw [hm]
    refine WL.y (Yl.move rfl) rfl ?_ -- t17
    refine WL.y (Yl.len un22 rfl) rfl ?_ -- t18
    refine WL.y (Yl.move rfl) rfl ?_ -- t19
    refine WL.y (Yl.gtr rfl rfl) rfl ?_ -- t20
    refine WL.nil ?_
    refine WC.condD rfl (fun g20 => ?_) (fun g20 => ?_)
    · refine WC.seq ?_
      refine WC.drawRead mixed (by kernel_rfl) ?_
      have e1 : putF most xs x = ys.drop 1 := by unfold putF; rw [if_neg (by omega), hys]
      have e2 : outF 0 most xs x = ys.head hne := by unfold outF; rw [if_neg (by omega)]; simp only [hys]
      have e3 : fullF most xs = true := by unfold fullF; rw [decide_eq_false (by omega)]; rfl
      have e4 : (ys.drop 1).length = ys.length - 1 := List.length_drop
      rw [e1, e2, e3, e4]
      refine WH.y (Yl.move rfl) rfl ?_ -- t21
      refine WH.y (Yl.slice (l := 1) un22 sz23 rfl ⟨_, rfl⟩ rfl (by omega) (by omega)) rfl ?_ -- t22
      refine WH.y (Yl.move rfl) rfl ?_ -- t23
      refine WH.y (Yl.index (j := 0) un22 sz23 rfl rfl (Reads.of RdOf.own (by repeat (first | exact Take1.head | apply Take1.tail))) rfl (by omega)) rfl ?_ -- t24
      refine WH.y (Yl.loadV (j := 0) (u := ys.head hne) vtU (fun _ _ => trivial) rfl (Reads.of RdOf.own (by repeat (first | exact Take1.head | apply Take1.tail))) rfl (head_get hne)) rfl ?_
      refine WH.y (Yl.assign rfl) rfl ?_ -- t6
      refine WH.y (Yl.assign rfl) rfl ?_ -- t7
      refine WH.y (Yl.assign rfl) rfl ?_ -- t8
      refine WH.nil ?_
      refine WC.ret ?_
      repeat (first | (with_reducible refine peelT ?_) | (with_reducible refine peelB ?_) | (with_reducible refine peelTX ?_) | (with_reducible refine peelBX ?_) | (with_reducible refine peelBN ?_) | (with_reducible refine peelBO rfl ?_))
      exact ret3 (.inr rfl) Try.results10 rfl rfl rfl fun w' h => ⟨((if c14 = 1 then ao14 else ao14.map (·.add (1 * 1))), c14 - 1), trivial, rfl, OK.sub (h.subG (by repeat (first | exact Take1.head | apply Take1.tail)) (ao := ao14) (l := 1) (hh := ys.length) (m := c14) (by omega) hc14 (Nat.le_refl _) (Nat.le_refl _) (cs' := vcs (Value.int .u32) (ys.drop 1)) (by rw [vtU.drop 1 (fun _ _ => trivial), List.take_of_length_le (by rw [vtU.size (fun _ _ => trivial), List.length_drop]; omega)])) (by repeat (first | exact TakeL.nil | (apply TakeL.cons; · repeat (first | exact Take1.head | apply Take1.tail))))⟩
    · refine WC.skip ?_
      refine WC.seq ?_
      refine WC.region ?_
      refine WL.y (Yl.move rfl) rfl ?_ -- t26
      refine WL.y (Yl.assign rfl) rfl ?_ -- t6
      refine WL.y (Yl.assign rfl) rfl ?_ -- t7
      refine WL.y (Yl.assign rfl) rfl ?_ -- t8
      refine WL.nil ?_
      refine WC.ret ?_
      repeat (first | (with_reducible refine peelT ?_) | (with_reducible refine peelB ?_) | (with_reducible refine peelTX ?_) | (with_reducible refine peelBX ?_) | (with_reducible refine peelBN ?_) | (with_reducible refine peelBO rfl ?_))
      have e : ∀ m : Int, ((ys.length : Nat) : Int) ≤ m → putF m xs x = ys ∧ outF 0 m xs x = 0 ∧ fullF m xs = false := fun m hm2 => by
        unfold putF outF fullF
        rw [if_pos (by omega), if_pos (by omega), decide_eq_true (by omega), hys]
        exact ⟨rfl, rfl, rfl⟩
      rw [(e _ (by omega)).1, (e _ (by omega)).2.1, (e _ (by omega)).2.2]
      exact ret3 (.inr rfl) Try.results10 rfl rfl rfl fun w' h => ⟨(ao14, c14), trivial, rfl, h.sub (by repeat (first | exact TakeL.nil | (apply TakeL.cons; · repeat (first | exact Take1.head | apply Take1.tail))))⟩

def pM (x y : Int) : Bool := decide (y.tmod 3 = x.tmod 3)
theorem predM (x : Int) (b : Nat) (w : World) (T : Pm) (hm0 : BlkS w T b 23 [.int .u32 x]) : PredS Try.prog w T 13 [.pointer (some ⟨b, 0, none⟩)] (fun _ : Int => True) (Value.int .u32) (pM x) := by
  refine ⟨en13, fun w' hc y _ => ?_⟩
  have hm : BlkS w' (fpL []) b 23 [.int .u32 x] := fun w'' h2 => hm0 w'' (hc.trans' h2 (fun _ _ e => e) (by rintro i hi ⟨s, hs, _⟩; cases hs))
  have hw : OK w' (fpL []) [] w' := OK.nil _ _
  refine enterF Try.func13 rfl Try.ntmps13 rfl hw ?_
  refine WC.seq ?_
  refine WC.region ?_
  refine WL.y (Yl.assign rfl) rfl ?_ -- t3
  refine WL.nil ?_
  refine WC.seq ?_
  refine WC.region ?_
  refine WL.y (Yl.move rfl) rfl ?_ -- t4
  refine WL.y (Yl.rem rfl rfl (by omega) rfl) rfl ?_ -- t5
  refine WL.y (Yl.loadS on23 rfl hm (by rfl)) rfl ?_ -- t6
  refine WL.y (Yl.rem rfl rfl (by omega) rfl) rfl ?_ -- t7
  refine WL.y (Yl.eql rfl rfl) rfl ?_ -- t8
  refine WL.y (Yl.assign rfl) rfl ?_ -- t3
  refine WL.nil ?_
  refine WC.ret ?_
  repeat (first | (with_reducible refine peelT ?_) | (with_reducible refine peelB ?_) | (with_reducible refine peelTX ?_) | (with_reducible refine peelBX ?_) | (with_reducible refine peelBN ?_) | (with_reducible refine peelBO rfl ?_))
  exact ret1 (.inr rfl) Try.results13 rfl fun w' h => ⟨(), trivial, rfl, h.sub (by repeat (first | exact TakeL.nil | (apply TakeL.cons; · repeat (first | exact Take1.head | apply Take1.tail))))⟩

theorem logBounds_any (most : Int) (xs : List Int) (v : Value) (drop left : Int) (hleft : -9223372036854775808 ≤ left ∧ left ≤ 9223372036854775807) (w : World) (hw : OK w (fpL [rdR v 1 xs.length (vcs (Value.int .u32) xs)]) [rdR v 1 xs.length (vcs (Value.int .u32) xs)] w) :
    Fn Try.prog 3 [.int .i64 most, v, .int .u32 drop, .int .i64 left] [rdR v 1 xs.length (vcs (Value.int .u32) xs)] w (fun _ : Unit => True) (fun _ => .bool true) (fun _ => []) := by
  obtain ⟨al, cl, rfl, hcl, hml⟩ := (hw.get .head : Rd _ _ _ _ _).form
  refine enterF Try.func3 rfl Try.ntmps3 rfl hw ?_
  refine WC.seq ?_
  refine WC.region ?_
  refine WL.y (Yl.assign rfl) rfl ?_ -- t8
  refine WL.nil ?_
  refine WC.seq ?_
  refine WC.seq ?_
  refine WC.region ?_
  refine WL.callC (xs := []) (cap := []) rfl rfl en8 (by repeat (first | exact TakeL.nil | (apply TakeL.cons; · repeat (first | exact Take1.head | apply Take1.tail)))) (fun w hw => worksL_any w hw.left.here) rfl ?_ -- t21 hailer/hailerlaw25.works
  rintro ⟨⟩ -
  refine WL.y (Yl.not rfl) rfl ?_ -- t22
  refine WL.know (t := 22) (b' := false) rfl (by first | rfl | (simp; done) | (simp; omega)) ?_
  refine WL.nil ?_
  refine WC.condF rfl (by first | rfl | (simp; done) | (simp; omega)) ?_
  refine WC.skip ?_
  refine WC.seq ?_
  refine WC.seq ?_
  refine WC.region ?_
  refine WL.y (Yl.move rfl) rfl ?_ -- t23
  refine WL.y (Yl.len un22 rfl) rfl ?_ -- t24
  refine WL.y (Yl.gtr rfl rfl) rfl ?_ -- t25
  refine WL.nil ?_
  refine WC.condD rfl (fun g25 => ?_) (fun g25 => ?_)
  · refine WC.seq ?_
    refine WC.region ?_
    refine WL.y (Yl.assign rfl) rfl ?_ -- t8
    refine WL.nil ?_
    refine WC.ret ?_
    repeat (first | (with_reducible refine peelT ?_) | (with_reducible refine peelB ?_) | (with_reducible refine peelTX ?_) | (with_reducible refine peelBX ?_) | (with_reducible refine peelBN ?_) | (with_reducible refine peelBO rfl ?_))
    exact ret1 (.inr rfl) Try.results3 rfl fun w' h => ⟨(), trivial, rfl, h.sub (by repeat (first | exact TakeL.nil | (apply TakeL.cons; · repeat (first | exact Take1.head | apply Take1.tail))))⟩
  · refine WC.skip ?_
    refine WC.seq ?_
    refine WC.region ?_
    refine WL.y (Yl.move rfl) rfl ?_ -- t26
    refine WL.callC (xs := [.tmp 26]) (cap := []) rfl rfl en9 (by repeat (first | exact TakeL.nil | (apply TakeL.cons; · repeat (first | exact Take1.head | apply Take1.tail)))) (fun w hw => newU_any most w hw.left.here) rfl ?_ -- t27 hailer/log.NewBounded[uint32]
    rintro bb -
    rw [show (if (0 : Int) > most then 0 else most) = mx most from rfl]
    refine WL.y (Yl.assign rfl) rfl ?_ -- t9
    refine WL.nil ?_
    refine WC.seq ?_
    refine WC.region ?_
    refine WL.y (Yl.assign rfl) rfl ?_ -- t10
    refine WL.nil ?_
    refine WC.seq ?_
    refine WC.seq ?_
    refine WC.region ?_
    have hl : xs.length ≤ 300 := by omega
    refine WL.y (Yl.move rfl) rfl ?_ -- t28
    refine WL.y (Yl.len un22 rfl) rfl ?_ -- t29
    refine WL.y (Yl.move rfl) rfl ?_ -- t30
    refine WL.nil ?_
    refine WC.block ?_
    refine WC.view (fun w h => h.addNil 23 1) ?_
    refine WC.loop (α := Nat × List Int × (Option Addr × Nat) × (Option Addr × Nat)) (fun p => [(0, .int .i64 most), (2, .int .u32 drop), (3, .int .i64 left), (9, .pointer (some ⟨bb, 0, none⟩)), (10, .slice p.2.2.2.1 p.2.1.length p.2.2.2.2), (28, .slice al xs.length cl), (29, .int .i64 (xs.length : Int)), (30, .int .i64 (p.1 : Int))]) (fun p => [ownR (.slice p.2.2.2.1 p.2.1.length p.2.2.2.2) 23 1 p.2.1.length (vcs (Value.int .u32) p.2.1), blkR bb 81 [.slice p.2.2.1.1 p.2.1.length p.2.2.1.2, .int .i64 (mx most)], ownR (.slice p.2.2.1.1 p.2.1.length p.2.2.1.2) 23 1 p.2.1.length (vcs (Value.int .u32) p.2.1), rdR (.slice al xs.length cl) 1 xs.length (vcs (Value.int .u32) xs)]) (fun p => p.1 ≤ xs.length ∧ p.2.1.length ≤ p.1) (fun p => xs.length - p.1) (0, [], (none, 0), (none, 0)) ⟨Nat.zero_le _, Nat.le_refl _⟩ ⟨(by repeat (first | exact Sub.nil | refine Sub.cons rfl ?_)), _, (by repeat (first | exact TakeL.nil | (apply TakeL.cons; · repeat (first | exact Take1.head | apply Take1.tail))))⟩ ?_
    rintro ⟨j, r, ⟨ao, ca⟩, ⟨bo, cb⟩⟩ ⟨hj, hr⟩
    dsimp only at hj hr ⊢
    refine WC.seq ?_
    refine WC.region ?_
    refine WL.y (Yl.lss rfl rfl) rfl ?_ -- t31
    refine WL.nil ?_
    refine WC.seq ?_
    refine WC.condD rfl (fun g31 => ?_) (fun g31 => ?_)
    · refine WC.skip ?_
      refine WC.seq ?_
      refine WC.block ?_
      refine WC.seq ?_
      refine WC.region ?_
      obtain ⟨x, hx0⟩ : ∃ x, xs[j]? = some x := ⟨_, List.getElem?_eq_getElem (by omega)⟩
      have hq := putF_len (most := mx most) (xs := r) (x := x)
      refine WL.y (Yl.index un22 sz23 rfl rfl (Reads.of RdOf.rd' (by repeat (first | exact Take1.head | apply Take1.tail))) rfl (by omega)) rfl ?_ -- t32
      refine WL.y (Yl.loadV (j := j) (u := x) vtU (fun _ _ => trivial) rfl (Reads.of RdOf.rd' (by repeat (first | exact Take1.head | apply Take1.tail))) rfl hx0) rfl ?_
      refine WL.to (To.alloc (cs := [.int .u32 0]) zr23 rfl) rfl ?_ -- t12
      intro b12
      refine WL.sto (Sto.one sz23 rfl rfl (by repeat (first | exact Take1.head | apply Take1.tail)) rfl (by rfl) (by rfl)) (fun _ h => nomatch h) ?_ -- st 1
      refine WL.nil ?_
      refine WC.seq ?_
      refine WC.region ?_
      refine WL.y (Yl.move rfl) rfl ?_ -- t35
      refine WL.y (Yl.move rfl) rfl ?_ -- t36
      refine WL.y (Yl.load on23 rfl (by repeat (first | exact Take1.head | apply Take1.tail)) (by rfl)) rfl ?_ -- t37
      refine WL.callC (xs := [.tmp 35, .tmp 36, .tmp 37]) (cap := []) rfl rfl en10 (by repeat (first | exact TakeL.nil | (apply TakeL.cons; · repeat (first | exact Take1.head | apply Take1.tail)))) (fun w hw => rputU_any most _ r x (by omega) w (hw.src (A := []) (RdOf.own (v := .slice bo r.length cb)) (by repeat (first | exact Take1.head | apply Take1.tail))) hw.left.here) rfl ?_ -- t38 hailer/hailerref25.Put
      rintro ⟨a38, c38⟩ -
      dsimp only
      refine WL.y (Yl.move rfl) rfl ?_ -- t34
      refine WL.y (Yl.extract rfl rfl) rfl ?_ -- t39
      refine WL.y (Yl.extract rfl rfl) rfl ?_ -- t40
      refine WL.y (Yl.extract rfl rfl) rfl ?_ -- t41
      refine WL.y (Yl.assign rfl) rfl ?_ -- t13
      refine WL.y (Yl.assign rfl) rfl ?_ -- t14
      refine WL.y (Yl.assign rfl) rfl ?_ -- t15
      refine WL.nil ?_
      refine WC.seq ?_
      refine WC.region ?_
      refine WL.y (Yl.move rfl) rfl ?_ -- t42
      refine WL.y (Yl.assign rfl) rfl ?_ -- t10
      refine WL.nil ?_
      refine WC.seq ?_
      refine WC.seq ?_
      refine WC.region ?_
      refine WL.y (Yl.move rfl) rfl ?_ -- t44
      refine WL.y (Yl.load on23 rfl (by repeat (first | exact Take1.head | apply Take1.tail)) (by rfl)) rfl ?_ -- t45
      refine WL.callC (xs := [.tmp 44, .tmp 45]) (cap := []) rfl rfl en11 (by repeat (first | exact TakeL.nil | (apply TakeL.cons; · repeat (first | exact Take1.head | apply Take1.tail)))) (fun w hw => putU_any bb (mx most) ao ca r x (by omega) w hw.left.here (mx_pos most)) rfl ?_ -- t46 (*hailer/log.Bounded[uint32]).Put
      rintro ⟨a46, c46⟩ -
      dsimp only
      refine WL.y (Yl.move rfl) rfl ?_ -- t43
      refine WL.y (Yl.extract rfl rfl) rfl ?_ -- t47
      refine WL.y (Yl.extract rfl rfl) rfl ?_ -- t48
      refine WL.y (Yl.assign rfl) rfl ?_ -- t16
      refine WL.y (Yl.assign rfl) rfl ?_ -- t17
      refine WL.nil ?_
      refine WC.seq ?_
      refine WC.region ?_
      obtain ⟨q, hqq⟩ : ∃ q, putF (mx most) r x = q := ⟨_, rfl⟩
      rw [hqq] at hq ⊢
      refine WL.y (Yl.move rfl) rfl ?_ -- t49
      refine WL.y (Yl.move rfl) rfl ?_ -- t50
      refine WL.y (Yl.neq rfl rfl) rfl ?_ -- t51
      refine WL.know (t := 51) (b' := false) rfl (by first | rfl | (simp; done) | (simp; omega)) ?_
      refine WL.y (Yl.move rfl) rfl ?_ -- t52
      refine WL.on rfl rfl ?_
      refine WL.y (Yl.move rfl) rfl ?_ -- t53
      refine WL.on rfl rfl ?_
      refine WL.y (Yl.move rfl) rfl ?_ -- t54
      refine WL.on rfl rfl ?_
      refine WL.y (Yl.bNe un4 rfl rfl) rfl ?_ -- t55
      refine WL.know (t := 55) (b' := false) rfl (by first | rfl | (simp; done) | (simp; omega)) ?_
      refine WL.y (Yl.pickF rfl rfl) rfl ?_ -- t56
      refine WL.nil ?_
      refine WC.condF rfl (by first | rfl | (simp; done) | (simp; omega)) ?_
      refine WC.skip ?_
      refine WC.seq ?_
      refine WC.seq ?_
      refine WC.region ?_
      refine WL.y (Yl.load on23 rfl (by repeat (first | exact Take1.head | apply Take1.tail)) (by rfl)) rfl ?_ -- t57
      refine WL.y (Yl.move rfl) rfl ?_ -- t58
      refine WL.y (Yl.eql rfl rfl) rfl ?_ -- t59
      refine WL.nil ?_
      refine WC.condD rfl (fun g59 => ?_) (fun g59 => ?_)
      · refine WC.seq ?_
        refine WC.region ?_
        refine WL.y (Yl.assign rfl) rfl ?_ -- t18
        refine WL.nil ?_
        refine WC.seq ?_
        refine WC.seq ?_
        refine WC.region ?_
        refine WL.y (Yl.move rfl) rfl ?_ -- t60
        refine WL.y (Yl.len un22 rfl) rfl ?_ -- t61
        refine WL.y (Yl.move rfl) rfl ?_ -- t62
        refine WL.nil ?_
        refine WC.block ?_
        refine WC.view (fun w h => h.addNil 23 1) ?_
        refine WC.loop (α := Nat × (Option Addr × Nat)) (fun p => [(0, .int .i64 most), (2, .int .u32 drop), (3, .int .i64 left), (9, .pointer (some ⟨bb, 0, none⟩)), (10, .slice a38 q.length c38), (12, .pointer (some ⟨b12, 0, none⟩)), (28, .slice al xs.length cl), (29, .int .i64 (xs.length : Int)), (30, .int .i64 (j : Int)), (18, .slice p.2.1 ((q.take p.1).filter fun y => !pM x y).length p.2.2), (60, .slice a38 q.length c38), (61, .int .i64 (q.length : Int)), (62, .int .i64 (p.1 : Int))]) (fun p => [ownR (.slice p.2.1 ((q.take p.1).filter fun y => !pM x y).length p.2.2) 23 1 ((q.take p.1).filter fun y => !pM x y).length (vcs (Value.int .u32) ((q.take p.1).filter fun y => !pM x y)), ownR (.slice a38 q.length c38) 23 1 q.length (vcs (Value.int .u32) q), blkR b12 23 [.int .u32 x], blkR bb 81 [.slice a46 q.length c46, .int .i64 (mx most)], ownR (.slice a46 q.length c46) 23 1 q.length (vcs (Value.int .u32) q), rdR (.slice al xs.length cl) 1 xs.length (vcs (Value.int .u32) xs)]) (fun p => p.1 ≤ q.length) (fun p => q.length - p.1) (0, (none, 0)) (Nat.zero_le _) ⟨(by repeat (first | exact Sub.nil | refine Sub.cons rfl ?_)), _, (by repeat (first | exact TakeL.nil | (apply TakeL.cons; · repeat (first | exact Take1.head | apply Take1.tail))))⟩ ?_
        rintro ⟨i, ⟨ko, kc⟩⟩ hi
        dsimp only at hi ⊢
        have hfl := List.length_filter_le (fun y => !pM x y) (q.take i)
        have htl : (q.take i).length ≤ q.length := by rw [List.length_take]; omega
        refine WC.seq ?_
        refine WC.region ?_
        refine WL.y (Yl.lss rfl rfl) rfl ?_ -- t63
        refine WL.nil ?_
        refine WC.seq ?_
        refine WC.condD rfl (fun g63 => ?_) (fun g63 => ?_)
        · refine WC.skip ?_
          refine WC.seq ?_
          refine WC.block ?_
          refine WC.seq ?_
          refine WC.region ?_
          obtain ⟨y, hy0⟩ : ∃ y, q[i]? = some y := ⟨_, List.getElem?_eq_getElem (by omega)⟩
          have hnext : ((q.take (i + 1)).filter fun y => !pM x y) = ((q.take i).filter fun y => !pM x y) ++ (if pM x y then [] else [y]) := by
            rw [List.take_add_one, hy0, List.filter_append]
            cases hp : pM x y <;> simp [hp]
          refine WL.y (Yl.index un22 sz23 rfl rfl (Reads.of RdOf.own (by repeat (first | exact Take1.head | apply Take1.tail))) rfl (by omega)) rfl ?_ -- t64
          refine WL.y (Yl.loadV (j := i) (u := y) vtU (fun _ _ => trivial) rfl (Reads.of (RdOf.own (v := .slice a38 q.length c38)) (by repeat (first | exact Take1.head | apply Take1.tail))) rfl hy0) rfl ?_
          refine WL.y (Yl.assign rfl) rfl ?_ -- t20
          refine WL.nil ?_
          refine WC.seq ?_
          refine WC.region ?_
          refine WL.y (Yl.move rfl) rfl ?_ -- t66
          refine WL.y (Yl.rem rfl rfl (by omega) rfl) rfl ?_ -- t67
          refine WL.y (Yl.load on23 rfl (by repeat (first | exact Take1.head | apply Take1.tail)) (by rfl)) rfl ?_ -- t68
          refine WL.y (Yl.rem rfl rfl (by omega) rfl) rfl ?_ -- t69
          refine WL.y (Yl.neq rfl rfl) rfl ?_ -- t70
          refine WL.nil ?_
          refine WC.condD rfl (fun g70 => ?_) (fun g70 => ?_)
          · refine WC.region ?_
            have hp : pM x y = false := decide_eq_false (by simpa using g70)
            rw [hp] at hnext
            simp only [Bool.false_eq_true, if_false] at hnext
            have hnl : ((q.take (i + 1)).filter fun y => !pM x y).length = ((q.take i).filter fun y => !pM x y).length + 1 := by rw [hnext, List.length_append]; rfl
            refine WL.y (Yl.move rfl) rfl ?_ -- t71
            refine WL.y (Yl.move rfl) rfl ?_ -- t72
            refine WL.to (To.buildSlice (vs := [.int .u32 y]) un22 zs23 rfl rfl (by simp [Value.cells]) (by decide) (by decide)) rfl ?_ -- t73
            intro b73
            refine WL.to (To.append sl22 rfl rfl (by repeat (first | exact Take1.head | apply Take1.tail)) (Reads.of (RdOf.blk (size := 1) (cs := [.int .u32 y]) (cs' := [.int .u32 y]) (Nat.le_refl _) (by unfold maxLen; omega) (by simp) rfl) (by repeat (first | exact Take1.head | apply Take1.tail))) (by intro v hv; rw [List.mem_singleton.1 hv]; rfl) (show _ = ((q.take (i + 1)).filter fun y => !pM x y).length by rw [hnext, List.length_append]; rfl) (show _ = vcs (Value.int .u32) ((q.take (i + 1)).filter fun y => !pM x y) by rw [hnext, vcs_app]; rfl) (by unfold maxLen; omega) (by omega)) rfl ?_ -- t74
            rintro ⟨⟨ao74, c74⟩, hc74⟩
            dsimp only at hc74 ⊢
            refine WL.y (Yl.assign rfl) rfl ?_ -- t18
            refine WL.nil ?_
            refine WC.region ?_
            refine WL.y (Yl.add rfl rfl (IntWalk.i64_in _ (by omega))) rfl ?_ -- t75
            refine WL.y (Yl.move rfl) rfl ?_ -- t62
            refine WL.nil ?_
            first | exact ⟨rfl, (i + 1, (ao74, c74)), by dsimp only; omega, by dsimp only; omega, (by repeat (first | exact Sub.nil | refine Sub.cons rfl ?_)), _, (by repeat (first | exact TakeL.nil | (apply TakeL.cons; · repeat (first | exact Take1.head | apply Take1.tail))))⟩ | (have hp : pM x y = true := decide_eq_true (by simpa using g70); rw [hp] at hnext; simp only [if_true, List.append_nil] at hnext; refine ⟨rfl, (i + 1, (ko, kc)), by dsimp only; omega, by dsimp only; omega, ?_⟩; dsimp only; rw [hnext]; exact ⟨(by repeat (first | exact Sub.nil | refine Sub.cons rfl ?_)), _, (by repeat (first | exact TakeL.nil | (apply TakeL.cons; · repeat (first | exact Take1.head | apply Take1.tail))))⟩)
          · refine WC.skip ?_
            refine WC.region ?_
            refine WL.y (Yl.add rfl rfl (IntWalk.i64_in _ (by omega))) rfl ?_ -- t75
            refine WL.y (Yl.move rfl) rfl ?_ -- t62
            refine WL.nil ?_
            first | exact ⟨rfl, (i + 1, (ao74, c74)), by dsimp only; omega, by dsimp only; omega, (by repeat (first | exact Sub.nil | refine Sub.cons rfl ?_)), _, (by repeat (first | exact TakeL.nil | (apply TakeL.cons; · repeat (first | exact Take1.head | apply Take1.tail))))⟩ | (have hp : pM x y = true := decide_eq_true (by simpa using g70); rw [hp] at hnext; simp only [if_true, List.append_nil] at hnext; refine ⟨rfl, (i + 1, (ko, kc)), by dsimp only; omega, by dsimp only; omega, ?_⟩; dsimp only; rw [hnext]; exact ⟨(by repeat (first | exact Sub.nil | refine Sub.cons rfl ?_)), _, (by repeat (first | exact TakeL.nil | (apply TakeL.cons; · repeat (first | exact Take1.head | apply Take1.tail))))⟩)
        · refine WC.exit ?_
          refine WC.seq ?_
          refine WC.seq ?_
          refine WC.region ?_
          have hiq : i = q.length := by omega
          subst hiq
          rw [List.take_length] at hfl ⊢
          refine WL.y (Yl.move rfl) rfl ?_ -- t76
          refine WL.y (Yl.makeFunc (us := []) (vs := [.pointer (some ⟨b12, 0, none⟩)]) rfl rfl) rfl ?_
          refine WL.callC (xs := [.tmp 76, .tmp 77]) (cap := []) rfl rfl en12 (by repeat (first | exact TakeL.nil | (apply TakeL.cons; · repeat (first | exact Take1.head | apply Take1.tail)))) (fun w hw => dropU_any bb (mx most) a46 c46 q 13 [.pointer (some ⟨b12, 0, none⟩)] (pM x) (by omega) w hw.left.here (predM x b12 w _ (hw.srcB (A := [_, _]) (by repeat (first | exact Take1.head | apply Take1.tail))))) rfl ?_ -- t78 (*hailer/log.Bounded[uint32]).Drop
          rintro ⟨a78, c78⟩ -
          dsimp only
          refine WL.y (Yl.move rfl) rfl ?_ -- t79
          refine WL.y (Yl.len un22 rfl) rfl ?_ -- t80
          refine WL.y (Yl.move rfl) rfl ?_ -- t81
          refine WL.y (Yl.len un22 rfl) rfl ?_ -- t82
          refine WL.y (Yl.sub rfl rfl (IntWalk.i64_in _ (by omega))) rfl ?_ -- t83
          refine WL.y (Yl.neq rfl rfl) rfl ?_ -- t84
          refine WL.know (t := 84) (b' := false) rfl (decide_eq_false (by omega)) ?_
          refine WL.nil ?_
          refine WC.condF rfl (by first | rfl | (simp; done) | (simp; omega)) ?_
          refine WC.skip ?_
          refine WC.region ?_
          refine WL.y (Yl.move rfl) rfl ?_ -- t85
          refine WL.y (Yl.assign rfl) rfl ?_ -- t10
          refine WL.nil ?_
          refine WC.seq ?_
          refine WC.region ?_
          refine WL.y (Yl.move rfl) rfl ?_ -- t86
          refine WL.callC (xs := [.tmp 86]) (cap := []) rfl rfl en14 (by repeat (first | exact TakeL.nil | (apply TakeL.cons; · repeat (first | exact Take1.head | apply Take1.tail)))) (fun w hw => lenU_any bb (mx most) _ _ _ w hw.left.here) rfl ?_ -- t87 (*hailer/log.Bounded[uint32]).Len
          rintro ⟨⟩ -
          refine WL.y (Yl.move rfl) rfl ?_ -- t88
          refine WL.y (Yl.len un22 rfl) rfl ?_ -- t89
          refine WL.y (Yl.neq rfl rfl) rfl ?_ -- t90
          refine WL.know (t := 90) (b' := false) rfl (by first | rfl | (simp; done) | (simp; omega)) ?_
          refine WL.nil ?_
          refine WC.condF rfl (by first | rfl | (simp; done) | (simp; omega)) ?_
          refine WC.skip ?_
          refine WC.region ?_
          refine WL.y (Yl.add rfl rfl (IntWalk.i64_in _ (by omega))) rfl ?_ -- t91
          refine WL.y (Yl.move rfl) rfl ?_ -- t30
          refine WL.nil ?_
          first | exact ⟨rfl, (j + 1, (q.filter fun y => !pM x y), (a78, c78), (ko, kc)), ⟨by dsimp only; omega, by dsimp only; omega⟩, by dsimp only; omega, (by repeat (first | exact Sub.nil | refine Sub.cons rfl ?_)), _, (by repeat (first | exact TakeL.nil | (apply TakeL.cons; · repeat (first | exact Take1.head | apply Take1.tail))))⟩ | exact ⟨rfl, (j + 1, q, (a46, c46), (a38, c38)), ⟨by dsimp only; omega, by dsimp only; omega⟩, by dsimp only; omega, (by repeat (first | exact Sub.nil | refine Sub.cons rfl ?_)), _, (by repeat (first | exact TakeL.nil | (apply TakeL.cons; · repeat (first | exact Take1.head | apply Take1.tail))))⟩
      · refine WC.skip ?_
        refine WC.seq ?_
        refine WC.region ?_
        refine WL.y (Yl.move rfl) rfl ?_ -- t86
        refine WL.callC (xs := [.tmp 86]) (cap := []) rfl rfl en14 (by repeat (first | exact TakeL.nil | (apply TakeL.cons; · repeat (first | exact Take1.head | apply Take1.tail)))) (fun w hw => lenU_any bb (mx most) _ _ _ w hw.left.here) rfl ?_ -- t87 (*hailer/log.Bounded[uint32]).Len
        rintro ⟨⟩ -
        refine WL.y (Yl.move rfl) rfl ?_ -- t88
        refine WL.y (Yl.len un22 rfl) rfl ?_ -- t89
        refine WL.y (Yl.neq rfl rfl) rfl ?_ -- t90
        refine WL.know (t := 90) (b' := false) rfl (by first | rfl | (simp; done) | (simp; omega)) ?_
        refine WL.nil ?_
        refine WC.condF rfl (by first | rfl | (simp; done) | (simp; omega)) ?_
        refine WC.skip ?_
        refine WC.region ?_
        refine WL.y (Yl.add rfl rfl (IntWalk.i64_in _ (by omega))) rfl ?_ -- t91
        refine WL.y (Yl.move rfl) rfl ?_ -- t30
        refine WL.nil ?_
        first | exact ⟨rfl, (j + 1, (q.filter fun y => !pM x y), (a78, c78), (ko, kc)), ⟨by dsimp only; omega, by dsimp only; omega⟩, by dsimp only; omega, (by repeat (first | exact Sub.nil | refine Sub.cons rfl ?_)), _, (by repeat (first | exact TakeL.nil | (apply TakeL.cons; · repeat (first | exact Take1.head | apply Take1.tail))))⟩ | exact ⟨rfl, (j + 1, q, (a46, c46), (a38, c38)), ⟨by dsimp only; omega, by dsimp only; omega⟩, by dsimp only; omega, (by repeat (first | exact Sub.nil | refine Sub.cons rfl ?_)), _, (by repeat (first | exact TakeL.nil | (apply TakeL.cons; · repeat (first | exact Take1.head | apply Take1.tail))))⟩
    · refine WC.exit ?_
      refine WC.seq ?_
      refine WC.region ?_
      refine WL.y (Yl.move rfl) rfl ?_ -- t92
      refine WL.y (Yl.len un22 rfl) rfl ?_ -- t93
      refine WL.y (Yl.eql rfl rfl) rfl ?_ -- t94
      refine WL.y (Yl.move rfl) rfl ?_ -- t95
      refine WL.both (t := 95) rfl (fun g95 => ?_) (fun g95 => ?_)
      · refine WL.off rfl rfl rfl rfl ?_ -- t96
        refine WL.off rfl rfl rfl rfl ?_ -- t97
        refine WL.off rfl rfl rfl rfl ?_ -- t98
        refine WL.off rfl rfl rfl rfl ?_ -- t99
        refine WL.off rfl rfl rfl rfl ?_ -- t100
        refine WL.y (Yl.pickT rfl rfl) rfl ?_ -- t101
        refine WL.y (Yl.assign rfl) rfl ?_ -- t8
        refine WL.nil ?_
        refine WC.ret ?_
        repeat (first | (with_reducible refine peelT ?_) | (with_reducible refine peelB ?_) | (with_reducible refine peelTX ?_) | (with_reducible refine peelBX ?_) | (with_reducible refine peelBN ?_) | (with_reducible refine peelBO rfl ?_))
        exact ret1 (.inr rfl) Try.results3 rfl fun w' h => ⟨(), trivial, rfl, h.sub (by repeat (first | exact TakeL.nil | (apply TakeL.cons; · repeat (first | exact Take1.head | apply Take1.tail))))⟩
      · refine WL.on rfl rfl ?_
        refine WL.y (Yl.move rfl) rfl ?_ -- t96
        refine WL.on rfl rfl ?_
        refine WL.callC (xs := [.tmp 96]) (cap := []) rfl rfl en16 (by repeat (first | exact TakeL.nil | (apply TakeL.cons; · repeat (first | exact Take1.head | apply Take1.tail)))) (fun w hw => allU_any bb (mx most) ao ca r (by omega) w hw.left.here) rfl ?_ -- t97 (*hailer/log.Bounded[uint32]).All
        rintro ⟨bn, own⟩ -
        dsimp only [List.cons_append, List.nil_append]
        refine WL.on rfl rfl ?_
        refine WL.y (Yl.move rfl) rfl ?_ -- t98
        refine WL.on rfl rfl ?_
        refine WL.y (Yl.move rfl) rfl ?_ -- t99
        refine WL.on rfl rfl ?_
        refine WL.view (fun w h => h.readOnly (v := .slice bo r.length cb) (by repeat (first | exact Take1.head | apply Take1.tail))) ?_
        refine WL.callC (xs := [.tmp 97, .tmp 98, .tmp 99]) (cap := []) rfl rfl en15 (by repeat (first | exact TakeL.nil | (apply TakeL.cons; · repeat (first | exact Take1.head | apply Take1.tail)))) (fun w hw => areU_any 39 [.pointer (some ⟨bn, 0, none⟩)] own en39 r _ left hleft (by omega) w hw.left.here) rfl ?_ -- t100 hailer/hailerlaw25.are[uint32]
        rintro ⟨⟩ -
        refine WL.y (Yl.pickF rfl rfl) rfl ?_ -- t101
        refine WL.y (Yl.assign rfl) rfl ?_ -- t8
        refine WL.nil ?_
        refine WC.ret ?_
        repeat (first | (with_reducible refine peelT ?_) | (with_reducible refine peelB ?_) | (with_reducible refine peelTX ?_) | (with_reducible refine peelBX ?_) | (with_reducible refine peelBN ?_) | (with_reducible refine peelBO rfl ?_))
        exact ret1 (.inr rfl) Try.results3 rfl fun w' h => ⟨(), trivial, rfl, h.sub (by repeat (first | exact TakeL.nil | (apply TakeL.cons; · repeat (first | exact Take1.head | apply Take1.tail))))⟩
end Go.Proofs.Ytpjgmiemamcdhaa
