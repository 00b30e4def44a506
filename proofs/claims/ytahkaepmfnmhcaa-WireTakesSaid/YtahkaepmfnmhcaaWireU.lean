/- What the document's taking tells: the walks. -/
import Derived.Test.YtahkaepmfnmhcaaWireT
namespace Go.Proofs.Ytahkaepmfnmhcaa
open Go Go.RowKit

theorem val_lt8 {xs : List Int} (hB : Bytes xs) (hl : xs.length ≤ 8) : 0 ≤ val xs ∧ val xs < 18446744073709551616 := by
  have := val_range hB
  have := pow256 hl
  omega
theorem rof_any (xs : List Int) (hB : Bytes xs) (hl : xs.length ≤ 8) (v : Value) (w : World) (hx : RdS w (fpL []) v 1 xs.length (ints .u8 xs)) (hw : OK w (fpL []) [] w) :
    Fn Try.prog 38 [v] [] w (fun _ : Unit => True) (fun _ => .int .u64 (val xs)) (fun _ => []) := by
  obtain ⟨al, cl, rfl, hcl, hml⟩ := hx.rd.form
  refine enterF Try.func38 rfl Try.ntmps38 rfl hw ?_
  refine WC.seq ?_
  refine WC.region ?_
  refine WL.y (Yl.assign rfl) rfl ?_ -- t2
  refine WL.nil ?_
  refine WC.seq ?_
  refine WC.region ?_
  refine WL.y (Yl.assign rfl) rfl ?_ -- t3
  refine WL.nil ?_
  refine WC.seq ?_
  refine WC.seq ?_
  refine WC.region ?_
  refine WL.y (Yl.assign rfl) rfl ?_ -- t4
  refine WL.nil ?_
  refine WC.block ?_
  refine WC.loop (α := Nat) (fun k => [(0, .slice al xs.length cl), (3, .int .u64 (val (xs.take k))), (4, .int .i64 (k : Int))]) (fun _ => []) (fun k => k ≤ xs.length) (fun k => xs.length - k) 0 (Nat.zero_le _) ⟨(by repeat (first | exact Sub.nil | refine Sub.cons rfl ?_)), _, (by repeat (first | exact TakeL.nil | (apply TakeL.cons; · repeat (first | exact Take1.head | apply Take1.tail))))⟩ ?_
  intro k hk
  refine WC.seq ?_
  refine WC.seq ?_
  refine WC.region ?_
  refine WL.y (Yl.move rfl) rfl ?_ -- t5
  refine WL.y (Yl.move rfl) rfl ?_ -- t6
  refine WL.y (Yl.len un28 rfl) rfl ?_ -- t7
  refine WL.y (Yl.lss rfl rfl) rfl ?_ -- t8
  refine WL.nil ?_
  refine WC.condD rfl (fun g8 => ?_) (fun g8 => ?_)
  · refine WC.skip ?_
    refine WC.seq ?_
    refine WC.block ?_
    refine WC.region ?_
    refine WL.y (Yl.move rfl) rfl ?_ -- t11
    have hkl : k < xs.length := by omega
    have hs := take_getD hkl
    have hv0 := val_lt8 (hB.take k) (by rw [List.length_take]; omega)
    have hv1 := val_lt8 (hB.take (k + 1)) (by rw [List.length_take]; omega)
    rw [hs, val_snoc] at hv1
    have hx0 := hB.getD hkl
    refine WL.y (Yl.mul rfl rfl (u64_in _ (by omega))) rfl ?_
    refine WL.y (Yl.move rfl) rfl ?_ -- t13
    refine WL.y (Yl.move rfl) rfl ?_ -- t14
    refine WL.y (Yl.index un28 sz5 rfl rfl (Reads.s hx) rfl (by omega)) rfl ?_ -- t15
    refine WL.y (Yl.loadE (u := .int .u8 (xs.getD k 0)) on5 rfl (Reads.s hx) (by simp [ints, hkl])) rfl ?_
    refine WL.y (Yl.conv un5 un51 rfl (u64_in _ (by omega))) rfl ?_ -- t17
    refine WL.y (Yl.add rfl rfl (u64_in _ (by omega))) rfl ?_
    refine WL.say (t := 18) (v' := .int .u64 (val (xs.take (k + 1)))) rfl (by (rw [hs, val_snoc, Int.mul_comm])) ?_
    refine WL.y (Yl.assign rfl) rfl ?_ -- t3
    refine WL.nil ?_
    refine WC.region ?_
    refine WL.y (Yl.move rfl) rfl ?_ -- t9
    refine WL.y (Yl.add rfl rfl (IntWalk.i64_in _ (by omega))) rfl ?_ -- t10
    refine WL.y (Yl.assign rfl) rfl ?_ -- t4
    refine WL.nil ?_
    exact ⟨rfl, k + 1, by omega, by omega, (by repeat (first | exact Sub.nil | refine Sub.cons rfl ?_)), _, (by repeat (first | exact TakeL.nil | (apply TakeL.cons; · repeat (first | exact Take1.head | apply Take1.tail))))⟩
  · refine WC.exit ?_
    refine WC.seq ?_
    refine WC.region ?_
    refine WL.y (Yl.move rfl) rfl ?_ -- t19
    refine WL.y (Yl.assign rfl) rfl ?_ -- t2
    refine WL.nil ?_
    refine WC.ret ?_
    repeat (first | (with_reducible refine peelT ?_) | (with_reducible refine peelB ?_) | (with_reducible refine peelTX ?_) | (with_reducible refine peelBX ?_) | (with_reducible refine peelBN ?_) | (with_reducible refine peelBO rfl ?_))
    have hkl : k = xs.length := by omega
    subst hkl
    rw [List.take_length]
    exact ret1 (.inr rfl) Try.results38 rfl fun w' h => ⟨(), trivial, rfl, h.sub (by repeat (first | exact TakeL.nil | (apply TakeL.cons; · repeat (first | exact Take1.head | apply Take1.tail))))⟩

theorem wd_le {f : Fd} (h : f.kind ≠ 4) : wd f ≤ 8 := by unfold wd; (repeat' split) <;> omega
theorem width_any (f : Fd) (w : World) (hw : OK w (fpL []) [] w) :
    Fn Try.prog 37 [f.val] [] w (fun _ : Unit => True) (fun _ => .int .i64 ((wd f : Nat) : Int)) (fun _ => []) := by
  refine enterF Try.func37 rfl Try.ntmps37 rfl hw ?_
  refine WC.seq ?_
  refine WC.region ?_
  refine WL.to (To.box (cs := f.cells) rfl rfl) rfl ?_ -- t1
  intro b1
  refine WL.y (Yl.assign rfl) rfl ?_ -- t2
  refine WL.nil ?_
  refine WC.seq ?_
  refine WC.seq ?_
  refine WC.region ?_
  refine WL.y (Yl.field fo54_0 rfl) rfl ?_ -- t3
  refine WL.y (Yl.load on5 rfl (by repeat (first | exact Take1.head | apply Take1.tail)) (by rfl)) rfl ?_ -- t4
  refine WL.nil ?_
  refine WC.block ?_
  refine WC.seq ?_
  refine WC.seq ?_
  refine WC.region ?_
  refine WL.y (Yl.eql rfl rfl) rfl ?_ -- t6
  refine WL.y (Yl.assign rfl) rfl ?_ -- t5
  refine WL.nil ?_
  refine WC.condD rfl (fun g5 => ?_) (fun g5 => ?_)
  · refine WC.skip ?_
    refine WC.condT rfl (by first | rfl | (simp; done) | (simp; omega)) ?_
    refine WC.seq ?_
    refine WC.region ?_
    refine WL.y (Yl.assign rfl) rfl ?_ -- t2
    refine WL.nil ?_
    refine WC.ret ?_
    repeat (first | (with_reducible refine peelT ?_) | (with_reducible refine peelB ?_) | (with_reducible refine peelTX ?_) | (with_reducible refine peelBX ?_) | (with_reducible refine peelBN ?_) | (with_reducible refine peelBO rfl ?_))
    exact ret1 (.inr rfl) Try.results37 rfl fun w' h => ⟨(), trivial, by (unfold wd; repeat' split) <;> first | rfl | (exfalso; omega), h.sub (by repeat (first | exact TakeL.nil | (apply TakeL.cons; · repeat (first | exact Take1.head | apply Take1.tail))))⟩
  · refine WC.region ?_
    refine WL.y (Yl.eql rfl rfl) rfl ?_ -- t7
    refine WL.y (Yl.assign rfl) rfl ?_ -- t5
    refine WL.nil ?_
    refine WC.condD rfl (fun g5 => ?_) (fun g5 => ?_)
    · refine WC.seq ?_
      refine WC.region ?_
      refine WL.y (Yl.assign rfl) rfl ?_ -- t2
      refine WL.nil ?_
      refine WC.ret ?_
      repeat (first | (with_reducible refine peelT ?_) | (with_reducible refine peelB ?_) | (with_reducible refine peelTX ?_) | (with_reducible refine peelBX ?_) | (with_reducible refine peelBN ?_) | (with_reducible refine peelBO rfl ?_))
      exact ret1 (.inr rfl) Try.results37 rfl fun w' h => ⟨(), trivial, by (unfold wd; repeat' split) <;> first | rfl | (exfalso; omega), h.sub (by repeat (first | exact TakeL.nil | (apply TakeL.cons; · repeat (first | exact Take1.head | apply Take1.tail))))⟩
    · refine WC.seq ?_
      refine WC.region ?_
      refine WL.y (Yl.eql rfl rfl) rfl ?_ -- t9
      refine WL.y (Yl.assign rfl) rfl ?_ -- t8
      refine WL.nil ?_
      refine WC.condD rfl (fun g8 => ?_) (fun g8 => ?_)
      · refine WC.seq ?_
        refine WC.region ?_
        refine WL.y (Yl.assign rfl) rfl ?_ -- t2
        refine WL.nil ?_
        refine WC.ret ?_
        repeat (first | (with_reducible refine peelT ?_) | (with_reducible refine peelB ?_) | (with_reducible refine peelTX ?_) | (with_reducible refine peelBX ?_) | (with_reducible refine peelBN ?_) | (with_reducible refine peelBO rfl ?_))
        exact ret1 (.inr rfl) Try.results37 rfl fun w' h => ⟨(), trivial, by (unfold wd; repeat' split) <;> first | rfl | (exfalso; omega), h.sub (by repeat (first | exact TakeL.nil | (apply TakeL.cons; · repeat (first | exact Take1.head | apply Take1.tail))))⟩
      · refine WC.seq ?_
        refine WC.region ?_
        refine WL.y (Yl.eql rfl rfl) rfl ?_ -- t11
        refine WL.y (Yl.assign rfl) rfl ?_ -- t10
        refine WL.nil ?_
        refine WC.condD rfl (fun g10 => ?_) (fun g10 => ?_)
        · refine WC.seq ?_
          refine WC.region ?_
          refine WL.y (Yl.assign rfl) rfl ?_ -- t2
          refine WL.nil ?_
          refine WC.ret ?_
          repeat (first | (with_reducible refine peelT ?_) | (with_reducible refine peelB ?_) | (with_reducible refine peelTX ?_) | (with_reducible refine peelBX ?_) | (with_reducible refine peelBN ?_) | (with_reducible refine peelBO rfl ?_))
          exact ret1 (.inr rfl) Try.results37 rfl fun w' h => ⟨(), trivial, by (unfold wd; repeat' split) <;> first | rfl | (exfalso; omega), h.sub (by repeat (first | exact TakeL.nil | (apply TakeL.cons; · repeat (first | exact Take1.head | apply Take1.tail))))⟩
        · refine WC.seq ?_
          refine WC.region ?_
          refine WL.y (Yl.eql rfl rfl) rfl ?_ -- t13
          refine WL.y (Yl.assign rfl) rfl ?_ -- t12
          refine WL.nil ?_
          refine WC.condD rfl (fun g12 => ?_) (fun g12 => ?_)
          · refine WC.seq ?_
            refine WC.region ?_
            refine WL.y (Yl.field fo54_2 rfl) rfl ?_ -- t14
            refine WL.y (Yl.load on28 rfl (by repeat (first | exact Take1.head | apply Take1.tail)) (by rfl)) rfl ?_ -- t15
            refine WL.y (Yl.len un28 rfl) rfl ?_ -- t16
            refine WL.y (Yl.assign rfl) rfl ?_ -- t2
            refine WL.nil ?_
            refine WC.ret ?_
            repeat (first | (with_reducible refine peelT ?_) | (with_reducible refine peelB ?_) | (with_reducible refine peelTX ?_) | (with_reducible refine peelBX ?_) | (with_reducible refine peelBN ?_) | (with_reducible refine peelBO rfl ?_))
            exact ret1 (.inr rfl) Try.results37 rfl fun w' h => ⟨(), trivial, by (unfold wd; repeat' split) <;> first | rfl | (exfalso; omega), h.sub (by repeat (first | exact TakeL.nil | (apply TakeL.cons; · repeat (first | exact Take1.head | apply Take1.tail))))⟩
          · refine WC.seq ?_
            refine WC.seq ?_
            refine WC.region ?_
            refine WL.y (Yl.eql rfl rfl) rfl ?_ -- t18
            refine WL.y (Yl.assign rfl) rfl ?_ -- t17
            refine WL.nil ?_
            refine WC.condD rfl (fun g17 => ?_) (fun g17 => ?_)
            · refine WC.skip ?_
              refine WC.condT rfl (by first | rfl | (simp; done) | (simp; omega)) ?_
              refine WC.seq ?_
              refine WC.region ?_
              refine WL.y (Yl.assign rfl) rfl ?_ -- t2
              refine WL.nil ?_
              refine WC.ret ?_
              repeat (first | (with_reducible refine peelT ?_) | (with_reducible refine peelB ?_) | (with_reducible refine peelTX ?_) | (with_reducible refine peelBX ?_) | (with_reducible refine peelBN ?_) | (with_reducible refine peelBO rfl ?_))
              exact ret1 (.inr rfl) Try.results37 rfl fun w' h => ⟨(), trivial, by (unfold wd; repeat' split) <;> first | rfl | (exfalso; omega), h.sub (by repeat (first | exact TakeL.nil | (apply TakeL.cons; · repeat (first | exact Take1.head | apply Take1.tail))))⟩
            · refine WC.region ?_
              refine WL.y (Yl.eql rfl rfl) rfl ?_ -- t19
              refine WL.y (Yl.assign rfl) rfl ?_ -- t17
              refine WL.nil ?_
              refine WC.condD rfl (fun g17 => ?_) (fun g17 => ?_)
              · refine WC.seq ?_
                refine WC.region ?_
                refine WL.y (Yl.assign rfl) rfl ?_ -- t2
                refine WL.nil ?_
                refine WC.ret ?_
                repeat (first | (with_reducible refine peelT ?_) | (with_reducible refine peelB ?_) | (with_reducible refine peelTX ?_) | (with_reducible refine peelBX ?_) | (with_reducible refine peelBN ?_) | (with_reducible refine peelBO rfl ?_))
                exact ret1 (.inr rfl) Try.results37 rfl fun w' h => ⟨(), trivial, by (unfold wd; repeat' split) <;> first | rfl | (exfalso; omega), h.sub (by repeat (first | exact TakeL.nil | (apply TakeL.cons; · repeat (first | exact Take1.head | apply Take1.tail))))⟩
              · refine WC.skip ?_
                refine WC.seq ?_
                refine WC.region ?_
                refine WL.y (Yl.assign rfl) rfl ?_ -- t2
                refine WL.nil ?_
                refine WC.ret ?_
                repeat (first | (with_reducible refine peelT ?_) | (with_reducible refine peelB ?_) | (with_reducible refine peelTX ?_) | (with_reducible refine peelBX ?_) | (with_reducible refine peelBN ?_) | (with_reducible refine peelBO rfl ?_))
                exact ret1 (.inr rfl) Try.results37 rfl fun w' h => ⟨(), trivial, by (unfold wd; repeat' split) <;> first | rfl | (exfalso; omega), h.sub (by repeat (first | exact TakeL.nil | (apply TakeL.cons; · repeat (first | exact Take1.head | apply Take1.tail))))⟩

theorem sub8x {r : Res} {ab : Option Addr} {cb l n : Nat} {B : List Int} (hr : RdOf r (.slice ab B.length cb) 1 B.length (ints .u8 B)) (h : l + n ≤ B.length) :
    ∃ a4 c4, subS (.slice ab B.length cb) l (l + n) cb 1 = .slice a4 ((B.drop l).take n).length c4 ∧ RdOf r (.slice a4 ((B.drop l).take n).length c4) 1 ((B.drop l).take n).length (ints .u8 ((B.drop l).take n)) := by
  have hl : ((B.drop l).take n).length = n := by rw [List.length_take, List.length_drop]; omega
  have h1 := RdOf.sub hr (l := l) (h := l + n) (by omega) h (cs' := ints .u8 ((B.drop l).take n)) (by rw [Nat.mul_one, ints_drop, ints_take, Nat.add_sub_cancel_left, Nat.mul_one])
  rw [Nat.add_sub_cancel_left] at h1
  refine ⟨if cb = l then ab else ab.map (·.add (l * 1)), cb - l, ?_, ?_⟩
  rotate_left
  · rw [hl]
    have e : subS (.slice ab B.length cb) l (l + n) cb 1 = .slice (if cb = l then ab else ab.map (·.add (l * 1))) n (cb - l) := by
      show Value.slice _ (l + n - l) _ = _
      rw [Nat.add_sub_cancel_left]
    rw [e] at h1
    exact h1
  · rw [hl]
    show Value.slice _ (l + n - l) _ = _
    rw [Nat.add_sub_cancel_left]

set_option maxRecDepth 100000 in
theorem rtake_any (fs : List Fd) (v : Value) (hfl : fs.length ≤ 100000) (hsz : ∀ f ∈ fs, f.b.length ≤ 140737488355328) (r : Res) (ab : Option Addr) (cb : Nat) (B : List Int) (hr : RdOf r (.slice ab B.length cb) 1 B.length (ints .u8 B)) (hc : B.length ≤ cb) (hbl : B.length ≤ 1000000) (hB : Bytes B) (w : World)
    (hx : FdS w (fpL [r]) v fs) (hw : OK w (fpL [r]) [r] w) :
    Fn Try.prog 14 [.slice ab B.length cb, v] [r] w
      (fun x : (Option Addr × Nat) × List Fd × Res => (tks fs B false).2.2 = false → FdOf x.2.2 (.slice x.1.1 x.2.1.length x.1.2) x.2.1 ∧ x.2.1.map Fd.norm = (tks fs B false).1)
      (fun x => .tuple #[.slice x.1.1 x.2.1.length x.1.2, .int .i64 (if (tks fs B false).2.2 then -1 else ((tks fs B false).2.1.length : Int))]) (fun x => [x.2.2]) := by
  obtain ⟨al, cl, rfl, hcl, hml⟩ := hx.rows.rd.form
  unfold maxLen at hml
  refine enterF Try.func14 rfl Try.ntmps14 rfl hw ?_
  refine WC.seq ?_
  refine WC.region ?_
  refine WL.y (Yl.assign rfl) rfl ?_ -- t4
  refine WL.y (Yl.assign rfl) rfl ?_ -- t5
  refine WL.nil ?_
  refine WC.seq ?_
  refine WC.region ?_
  refine WL.y (Yl.assign rfl) rfl ?_ -- t6
  refine WL.nil ?_
  refine WC.seq ?_
  refine WC.region ?_
  refine WL.y (Yl.assign rfl) rfl ?_ -- t7
  refine WL.nil ?_
  refine WC.seq ?_
  refine WC.seq ?_
  refine WC.region ?_
  refine WL.y (Yl.assign rfl) rfl ?_ -- t8
  refine WL.nil ?_
  refine WC.block ?_
  refine WC.view (fun w h => (h.addNil 54 5).addNone) ?_
  refine WC.loop (α := Nat × Nat × (Option Addr × Nat) × List Fd × Res) (fun p => [(0, .slice ab B.length cb), (1, .slice al fs.length cl), (6, .slice p.2.2.1.1 p.2.2.2.1.length p.2.2.1.2), (7, .int .i64 (p.2.1 : Int)), (8, .int .i64 (p.1 : Int))]) (fun p => [ownR (.slice p.2.2.1.1 p.2.2.2.1.length p.2.2.1.2) 54 5 p.2.2.2.1.length (vcs Fd.val p.2.2.2.1), r, p.2.2.2.2]) (fun p => p.1 ≤ fs.length ∧ p.2.1 ≤ B.length ∧ tks (fs.take p.1) B false = (p.2.2.2.1.map Fd.norm, B.drop p.2.1, false) ∧ ∀ f ∈ p.2.2.2.1, RdOf (allR [r, p.2.2.2.2]) (.slice f.ba f.b.length f.bc) 1 f.b.length (ints .u8 f.b) ∧ RdOf (allR [r, p.2.2.2.2]) (.slice f.la f.l.length f.lc) 1 f.l.length (ints .u32 f.l)) (fun p => fs.length - p.1) (0, 0, (none, 0), [], allR []) ⟨Nat.zero_le _, Nat.zero_le _, rfl, (fun f hf => by cases hf)⟩ ⟨(by repeat (first | exact Sub.nil | refine Sub.cons rfl ?_)), _, (by repeat (first | exact TakeL.nil | (apply TakeL.cons; · repeat (first | exact Take1.head | apply Take1.tail))))⟩ ?_
  rintro ⟨j, o, ⟨ao2, co2⟩, gs, G⟩ ⟨hj, ho, ht, hp⟩
  dsimp only at hj ho ht hp ⊢
  refine WC.seq ?_
  refine WC.seq ?_
  refine WC.region ?_
  refine WL.y (Yl.move rfl) rfl ?_ -- t15
  refine WL.y (Yl.move rfl) rfl ?_ -- t16
  refine WL.y (Yl.len un22 rfl) rfl ?_ -- t17
  refine WL.y (Yl.lss rfl rfl) rfl ?_ -- t18
  refine WL.nil ?_
  refine WC.condD rfl (fun g18 => ?_) (fun g18 => ?_)
  · refine WC.skip ?_
    refine WC.seq ?_
    refine WC.block ?_
    refine WC.seq ?_
    obtain ⟨f, hfj⟩ : ∃ f, fs[j]? = some f := ⟨_, List.getElem?_eq_getElem (by omega)⟩
    have hfm := List.mem_of_getElem? hfj
    have hfs := hsz f hfm
    have hgl0 : gs.length = j := by have := congrArg (fun z => z.1.length) ht; dsimp only at this; rw [List.length_map, tks_len, List.length_take] at this; omega
    have hwb : wd f ≤ 140737488355328 := by unfold wd; (repeat' split) <;> omega
    refine WC.drawAny (Hs := []) mixed (by kernel_rfl) ⟨_, (by repeat (first | exact TakeL.nil | (apply TakeL.cons; · repeat (first | exact Take1.head | apply Take1.tail))))⟩ ?_
    refine WD.take 0 rfl (by kernel_rfl) (by kernel_rfl) (by kernel_rfl) rfl rfl (Yl.move rfl) rfl ?_ -- t21
    refine WD.take 1 rfl (by kernel_rfl) (by kernel_rfl) (by kernel_rfl) rfl rfl (Yl.move rfl) rfl ?_ -- t22
    refine WD.take 2 rfl (by kernel_rfl) (by kernel_rfl) (by kernel_rfl) rfl rfl (Yl.index un22 sz54 rfl rfl (Reads.s hx.rows) rfl (by omega)) rfl ?_ -- t23
    refine WD.take 3 rfl (by kernel_rfl) (by kernel_rfl) (by kernel_rfl) rfl rfl (Yl.fieldV fo54_0 rfl (Reads.s hx.rows) (by rw [fdV.size fdAll]; omega)) rfl ?_
    refine WD.take 4 rfl (by kernel_rfl) (by kernel_rfl) (by kernel_rfl) rfl rfl (Yl.loadO (u := .int .u8 f.kind) on5 rfl (Reads.s hx.rows) (cellV fdV fdAll hfj (k := 0) (by decide) rfl)) rfl ?_
    refine WD.take 5 rfl (by kernel_rfl) (by kernel_rfl) (by kernel_rfl) rfl rfl (Yl.move rfl) rfl ?_ -- t26
    refine WD.take 6 rfl (by kernel_rfl) (by kernel_rfl) (by kernel_rfl) rfl rfl (Yl.move rfl) rfl ?_ -- t27
    refine WD.take 7 rfl (by kernel_rfl) (by kernel_rfl) (by kernel_rfl) rfl rfl (Yl.index un22 sz54 rfl rfl (Reads.s hx.rows) rfl (by omega)) rfl ?_ -- t28
    refine WD.take 8 rfl (by kernel_rfl) (by kernel_rfl) (by kernel_rfl) rfl rfl (Yl.fieldV fo54_4 rfl (Reads.s hx.rows) (by rw [fdV.size fdAll]; omega)) rfl ?_
    refine WD.take 9 rfl (by kernel_rfl) (by kernel_rfl) (by kernel_rfl) rfl rfl (Yl.loadO (u := .int .i64 f.most) on3 rfl (Reads.s hx.rows) (cellV fdV fdAll hfj (k := 4) (by decide) rfl)) rfl ?_
    refine WD.take 10 rfl (by kernel_rfl) (by kernel_rfl) (by kernel_rfl) rfl rfl (Yl.build rfl (cs := (Fd.mk f.kind 0 none 0 [] none 0 [] f.most).cells) (fun _ => by kernel_rfl)) rfl ?_ -- t31
    refine WD.one 11 (by kernel_rfl) ?_
    refine WO.to rfl rfl .no (To.alloc (cs := [.int .u8 0, .int .u64 0, .slice none 0 0, .slice none 0 0, .int .i64 0]) zr54 rfl) rfl (fun _ => ⟨_, (by repeat (first | exact TakeL.nil | (apply TakeL.cons; · repeat (first | exact Take1.head | apply Take1.tail))))⟩) ?_ -- t9
    intro b9
    refine WD.one 12 (by kernel_rfl) ?_
    refine WO.sto rfl rfl .no (Sto.agg (cs' := (Fd.mk f.kind 0 none 0 [] none 0 [] f.most).cells) sz54 rfl rfl (by repeat (first | exact Take1.head | apply Take1.tail)) (Fd.ones _) rfl (by rfl) rfl) ⟨_, (by repeat (first | exact TakeL.nil | (apply TakeL.cons; · repeat (first | exact Take1.head | apply Take1.tail))))⟩ ?_
    refine WD.done (by kernel_rfl) ?_
    refine WC.seq ?_
    refine WC.region ?_
    refine WL.y (Yl.move rfl) rfl ?_ -- t32
    refine WL.y (Yl.move rfl) rfl ?_ -- t33
    refine WL.y (Yl.index un22 sz54 rfl rfl (Reads.s hx.rows) rfl (by omega)) rfl ?_ -- t34
    refine WL.y (Yl.loadV (j := j) (u := f) fdV fdAll rfl (Reads.s hx.rows) rfl hfj) rfl ?_
    refine WL.callC (xs := [.tmp 35]) (cap := []) rfl rfl en37 (by repeat (first | exact TakeL.nil | (apply TakeL.cons; · repeat (first | exact Take1.head | apply Take1.tail)))) (fun w hw => width_any f w hw.left.here) rfl ?_ -- t36 hailer/hailerref08.width
    rintro ⟨⟩ -
    refine WL.y (Yl.assign rfl) rfl ?_ -- t10
    refine WL.nil ?_
    refine WC.seq ?_
    refine WC.seq ?_
    refine WC.region ?_
    refine WL.y (Yl.move rfl) rfl ?_ -- t37
    refine WL.y (Yl.move rfl) rfl ?_ -- t38
    refine WL.y (Yl.len un28 rfl) rfl ?_ -- t39
    refine WL.y (Yl.move rfl) rfl ?_ -- t40
    refine WL.y (Yl.sub rfl rfl (IntWalk.i64_in _ (by omega))) rfl ?_ -- t41
    refine WL.y (Yl.gtr rfl rfl) rfl ?_ -- t42
    refine WL.nil ?_
    refine WC.condD rfl (fun g42 => ?_) (fun g42 => ?_)
    · refine WC.seq ?_
      have hbad := tks_bad hfj (by rw [ht]) (by rw [ht]; exact tkF_no (by rw [List.length_drop]; omega))
      refine WC.region ?_
      refine WL.y (Yl.assign rfl) rfl ?_ -- t4
      refine WL.y (Yl.assign rfl) rfl ?_ -- t5
      refine WL.nil ?_
      refine WC.ret ?_
      repeat (first | (with_reducible refine peelT ?_) | (with_reducible refine peelB ?_) | (with_reducible refine peelTX ?_) | (with_reducible refine peelBX ?_) | (with_reducible refine peelBN ?_) | (with_reducible refine peelBO rfl ?_))
      exact ret2 (.inr rfl) Try.results14 rfl rfl fun w' h => ⟨((none, 0), [], allR []), (fun q => by rw [hbad] at q; cases q), by rw [hbad]; rfl, (h.addNone).sub (by repeat (first | exact TakeL.nil | (apply TakeL.cons; · repeat (first | exact Take1.head | apply Take1.tail))))⟩
    · refine WC.skip ?_
      refine WC.seq ?_
      have hwo : o + wd f ≤ B.length := by omega
      have hwl : wd f ≤ (B.drop o).length := by rw [List.length_drop]; omega
      obtain ⟨a4, c4, hs4, hr4⟩ := sub8x hr hwo
      refine WC.region ?_
      refine WL.y (Yl.move rfl) rfl ?_ -- t43
      refine WL.y (Yl.move rfl) rfl ?_ -- t44
      refine WL.y (Yl.move rfl) rfl ?_ -- t45
      refine WL.y (Yl.move rfl) rfl ?_ -- t46
      refine WL.y (Yl.add rfl rfl (IntWalk.i64_in _ (by omega))) rfl ?_ -- t47
      refine WL.say (t := 47) (v' := .int .i64 ((o + wd f : Nat) : Int)) rfl (by (refine congrArg _ ?_; omega)) ?_
      refine WL.y (Yl.slice un28 sz5 rfl ⟨_, rfl⟩ ⟨_, rfl⟩ (by omega) (by omega)) rfl ?_ -- t48
      refine WL.say (t := 48) (v' := .slice a4 ((B.drop o).take (wd f)).length c4) rfl (by exact hs4) ?_
      refine WL.y (Yl.assign rfl) rfl ?_ -- t11
      refine WL.nil ?_
      refine WC.seq ?_
      refine WC.region ?_
      refine WL.y (Yl.move rfl) rfl ?_ -- t49
      refine WL.y (Yl.move rfl) rfl ?_ -- t50
      refine WL.y (Yl.add rfl rfl (IntWalk.i64_in _ (by omega))) rfl ?_ -- t51
      refine WL.say (t := 51) (v' := .int .i64 ((o + wd f : Nat) : Int)) rfl (by (refine congrArg _ ?_; omega)) ?_
      refine WL.y (Yl.assign rfl) rfl ?_ -- t7
      refine WL.nil ?_
      refine WC.seq ?_
      refine WC.seq ?_
      refine WC.region ?_
      refine WL.y (Yl.field fo54_0 rfl) rfl ?_ -- t52
      refine WL.y (Yl.load on5 rfl (by repeat (first | exact Take1.head | apply Take1.tail)) (by rfl)) rfl ?_ -- t53
      refine WL.nil ?_
      refine WC.block ?_
      refine WC.seq ?_
      refine WC.region ?_
      refine WL.y (Yl.eql rfl rfl) rfl ?_ -- t66
      refine WL.y (Yl.assign rfl) rfl ?_ -- t65
      refine WL.nil ?_
      refine WC.condD rfl (fun g65 => ?_) (fun g65 => ?_)
      · refine WC.region ?_
        refine WL.y (Yl.move rfl) rfl ?_ -- t67
        refine WL.y (Yl.field fo54_2 rfl) rfl ?_ -- t68
        refine WL.sto (Sto.one (cs' := (Fd.mk f.kind 0 a4 c4 ((B.drop o).take (wd f)) none 0 [] f.most).cells) sz28 rfl rfl (by repeat (first | exact Take1.head | apply Take1.tail)) rfl (by rfl) rfl) (fun _ h => nomatch h) ?_
        refine WL.nil ?_
        have hst : tkF f (B.drop o) false = ((Fd.mk f.kind 0 a4 c4 ((B.drop o).take (wd f)) none 0 [] f.most).norm, B.drop (o + wd f), false) := by have := (tkF_fix hwl (by simpa using g65)).2; rw [this, List.drop_drop]; rfl
        have hqB : o + wd f ≤ B.length := by omega
        obtain ⟨g, hg⟩ : ∃ g : Fd, (Fd.mk f.kind 0 a4 c4 ((B.drop o).take (wd f)) none 0 [] f.most) = g := ⟨_, rfl⟩
        obtain ⟨G2, hG2⟩ : ∃ x, x = G := ⟨_, rfl⟩
        have hmono : ∀ w, (allR [r, G2]).ok w → (allR [r, G]).ok w := fun w h => by rw [hG2] at h; exact h
        have hgb : RdOf (allR [r, G2]) (.slice g.ba g.b.length g.bc) 1 g.b.length (ints .u8 g.b) := by rw [← hg]; exact RdOf.all hr4 (by simp)
        have hgl : RdOf (allR [r, G2]) (.slice g.la g.l.length g.lc) 1 g.l.length (ints .u32 g.l) := by rw [← hg]; exact RdOf.nothing
        rw [hg] at hst ⊢
        subst hG2
        obtain ⟨q, hq⟩ : ∃ q : Nat, o + wd f = q := ⟨_, rfl⟩
        rw [hq] at hst hqB ⊢
        refine WC.region ?_
        refine WL.y (Yl.move rfl) rfl ?_ -- t135
        refine WL.y (Yl.loadN ag54 rfl (by repeat (first | exact Take1.head | apply Take1.tail)) (by rfl) (show _ = g.cells from rfl)) rfl ?_ -- t136
        refine WL.to (To.buildSlice (vs := [g.val]) un22 zs54 rfl rfl (by intro v hv; rw [List.mem_singleton.1 hv]; rfl) (by decide) (by decide)) rfl ?_ -- t137
        intro b137
        refine WL.to (To.append sl22 rfl rfl (by repeat (first | exact Take1.head | apply Take1.tail)) (Reads.of (RdOf.blk (size := 5) (n := 1) (cs := flat [g.val]) (cs' := g.cells) (Nat.le_refl _) (by unfold maxLen; omega) (Nat.le_refl _) rfl) (by repeat (first | exact Take1.head | apply Take1.tail))) g.ones (show gs.length + 1 = (gs ++ [g]).length by simp) (show vcs Fd.val gs ++ g.cells = vcs Fd.val (gs ++ [g]) by rw [vcs_app, vcs_one]; rfl) (by simp; unfold maxLen; omega) (by simp; omega)) rfl ?_ -- t138
        rintro ⟨⟨ao138, c138⟩, hc138⟩
        dsimp only at hc138 ⊢
        refine WL.y (Yl.assign rfl) rfl ?_ -- t6
        refine WL.nil ?_
        refine WC.region ?_
        refine WL.y (Yl.move rfl) rfl ?_ -- t19
        refine WL.y (Yl.add rfl rfl (IntWalk.i64_in _ (by omega))) rfl ?_ -- t20
        refine WL.y (Yl.assign rfl) rfl ?_ -- t8
        refine WL.nil ?_
        refine ⟨rfl, (j + 1, q, (ao138, c138), gs ++ [g], G2), ⟨by dsimp only; omega, hqB, by dsimp only; rw [← take_snoc _ _ _ hfj, tks_snoc, ht]; dsimp only; rw [hst, List.map_append]; rfl, fun f' hf' => ?_⟩, by dsimp only; omega, (by repeat (first | exact Sub.nil | refine Sub.cons rfl ?_)), _, (by repeat (first | exact TakeL.nil | (apply TakeL.cons; · repeat (first | exact Take1.head | apply Take1.tail))))⟩
        dsimp only at hf' ⊢
        rcases List.mem_append.1 hf' with hf' | hf'
        · exact ⟨(hp f' hf').1.mono hmono, (hp f' hf').2.mono hmono⟩
        · rw [List.mem_singleton.1 hf']; exact ⟨hgb, hgl⟩
      · refine WC.seq ?_
        refine WC.seq ?_
        refine WC.region ?_
        refine WL.y (Yl.eql rfl rfl) rfl ?_ -- t70
        refine WL.y (Yl.assign rfl) rfl ?_ -- t69
        refine WL.nil ?_
        refine WC.condD rfl (fun g69 => ?_) (fun g69 => ?_)
        · refine WC.skip ?_
          refine WC.condT rfl (by first | rfl | (simp; done) | (simp; omega)) ?_
          refine WC.seq ?_
          have hk5 : f.kind = 5 := by assumption
          have hw2 := wd2 (f := f) (.inl hk5)
          refine WC.region ?_
          refine WL.y (Yl.move rfl) rfl ?_ -- t72
          have h2l : 2 ≤ (B.drop o).length := by omega
          have hv2 := val_range ((hB.drop o).take (wd f))
          rw [show ((B.drop o).take (wd f)).length = 2 by rw [List.length_take]; omega] at hv2
          simp only [show (256 : Int) ^ 2 = 65536 from by decide] at hv2
          obtain ⟨n, hn⟩ : ∃ n : Nat, val ((B.drop o).take (wd f)) = (n : Int) := ⟨(val ((B.drop o).take (wd f))).toNat, by omega⟩
          have hn2 : val ((B.drop o).take 2) = (n : Int) := by rw [← hw2]; exact hn
          refine WL.callC (xs := [.tmp 72]) (cap := []) rfl rfl en38 (by repeat (first | exact TakeL.nil | (apply TakeL.cons; · repeat (first | exact Take1.head | apply Take1.tail)))) (fun w hw => rof_any ((B.drop o).take (wd f)) ((hB.drop o).take _) (by rw [List.length_take]; omega) _ w (hw.src (A := []) (r := r) hr4 (by repeat (first | exact Take1.head | apply Take1.tail))) hw.left.here) rfl ?_ -- t73 hailer/hailerref08.of
          rintro ⟨⟩ -
          refine WL.say (t := 73) (v' := .int .u64 (n : Int)) rfl (by (rw [hn])) ?_
          refine WL.y (Yl.conv un51 un3 rfl (IntWalk.i64_in _ (by omega))) rfl ?_ -- t74
          refine WL.y (Yl.assign rfl) rfl ?_ -- t12
          refine WL.nil ?_
          refine WC.seq ?_
          refine WC.region ?_
          refine WL.y (Yl.assign rfl) rfl ?_ -- t13
          refine WL.nil ?_
          refine WC.seq ?_
          refine WC.seq ?_
          refine WC.region ?_
          refine WL.y (Yl.field fo54_0 rfl) rfl ?_ -- t75
          refine WL.y (Yl.load on5 rfl (by repeat (first | exact Take1.head | apply Take1.tail)) (by rfl)) rfl ?_ -- t76
          refine WL.y (Yl.eql rfl rfl) rfl ?_ -- t77
          refine WL.nil ?_
          refine WC.condF rfl (by first | rfl | (simp; done) | (simp; omega)) ?_
          refine WC.skip ?_
          refine WC.seq ?_
          refine WC.seq ?_
          refine WC.region ?_
          refine WL.y (Yl.move rfl) rfl ?_ -- t78
          refine WL.y (Yl.field fo54_4 rfl) rfl ?_ -- t79
          refine WL.y (Yl.load on3 rfl (by repeat (first | exact Take1.head | apply Take1.tail)) (by rfl)) rfl ?_ -- t80
          refine WL.y (Yl.gtr rfl rfl) rfl ?_ -- t81
          refine WL.y (Yl.move rfl) rfl ?_ -- t82
          refine WL.both (t := 82) rfl (fun g82 => ?_) (fun g82 => ?_)
          · refine WL.off rfl rfl rfl rfl ?_ -- t83
            refine WL.off rfl rfl rfl rfl ?_ -- t84
            refine WL.off rfl rfl rfl rfl ?_ -- t85
            refine WL.off rfl rfl rfl rfl ?_ -- t86
            refine WL.off rfl rfl rfl rfl ?_ -- t87
            refine WL.off rfl rfl rfl rfl ?_ -- t88
            refine WL.off rfl rfl rfl rfl ?_ -- t89
            refine WL.off rfl rfl rfl rfl ?_ -- t90
            refine WL.y (Yl.pickT rfl rfl) rfl ?_ -- t91
            refine WL.nil ?_
            refine WC.condT rfl (by first | rfl | (simp; done) | (simp; omega)) ?_
            refine WC.seq ?_
            have hbad := tks_bad hfj (by rw [ht]) (by rw [ht]; exact tkF_mny h2l hn2 (.inl hk5) (by simpa using g82))
            refine WC.region ?_
            refine WL.y (Yl.assign rfl) rfl ?_ -- t4
            refine WL.y (Yl.assign rfl) rfl ?_ -- t5
            refine WL.nil ?_
            refine WC.ret ?_
            repeat (first | (with_reducible refine peelT ?_) | (with_reducible refine peelB ?_) | (with_reducible refine peelTX ?_) | (with_reducible refine peelBX ?_) | (with_reducible refine peelBN ?_) | (with_reducible refine peelBO rfl ?_))
            exact ret2 (.inr rfl) Try.results14 rfl rfl fun w' h => ⟨((none, 0), [], allR []), (fun q => by rw [hbad] at q; cases q), by rw [hbad]; rfl, (h.addNone).sub (by repeat (first | exact TakeL.nil | (apply TakeL.cons; · repeat (first | exact Take1.head | apply Take1.tail))))⟩
          · refine WL.on rfl rfl ?_
            refine WL.y (Yl.move rfl) rfl ?_ -- t83
            refine WL.on rfl rfl ?_
            refine WL.y (Yl.move rfl) rfl ?_ -- t84
            refine WL.on rfl rfl ?_
            refine WL.y (Yl.mul rfl rfl (IntWalk.i64_in _ (by omega))) rfl ?_ -- t85
            refine WL.on rfl rfl ?_
            refine WL.y (Yl.move rfl) rfl ?_ -- t86
            refine WL.on rfl rfl ?_
            refine WL.y (Yl.len un28 rfl) rfl ?_ -- t87
            refine WL.on rfl rfl ?_
            refine WL.y (Yl.move rfl) rfl ?_ -- t88
            refine WL.on rfl rfl ?_
            refine WL.y (Yl.sub rfl rfl (IntWalk.i64_in _ (by omega))) rfl ?_ -- t89
            refine WL.on rfl rfl ?_
            refine WL.y (Yl.gtr rfl rfl) rfl ?_ -- t90
            refine WL.y (Yl.pickF rfl rfl) rfl ?_ -- t91
            refine WL.nil ?_
            refine WC.condD rfl (fun g91 => ?_) (fun g91 => ?_)
            · refine WC.seq ?_
              have hbad := tks_bad hfj (by rw [ht]) (by rw [ht]; exact tkF_shr h2l hn2 hk5 (by rw [List.length_drop, List.length_drop]; omega))
              refine WC.region ?_
              refine WL.y (Yl.assign rfl) rfl ?_ -- t4
              refine WL.y (Yl.assign rfl) rfl ?_ -- t5
              refine WL.nil ?_
              refine WC.ret ?_
              repeat (first | (with_reducible refine peelT ?_) | (with_reducible refine peelB ?_) | (with_reducible refine peelTX ?_) | (with_reducible refine peelBX ?_) | (with_reducible refine peelBN ?_) | (with_reducible refine peelBO rfl ?_))
              exact ret2 (.inr rfl) Try.results14 rfl rfl fun w' h => ⟨((none, 0), [], allR []), (fun q => by rw [hbad] at q; cases q), by rw [hbad]; rfl, (h.addNone).sub (by repeat (first | exact TakeL.nil | (apply TakeL.cons; · repeat (first | exact Take1.head | apply Take1.tail))))⟩
            · refine WC.skip ?_
              refine WC.seq ?_
              refine WC.seq ?_
              refine WC.region ?_
              refine WL.y (Yl.field fo54_0 rfl) rfl ?_ -- t92
              refine WL.y (Yl.load on5 rfl (by repeat (first | exact Take1.head | apply Take1.tail)) (by rfl)) rfl ?_ -- t93
              refine WL.y (Yl.eql rfl rfl) rfl ?_ -- t94
              refine WL.nil ?_
              refine WC.condT rfl (by first | rfl | (simp; done) | (simp; omega)) ?_
              refine WC.region ?_
              refine WL.y (Yl.move rfl) rfl ?_ -- t95
              refine WL.y (Yl.move rfl) rfl ?_ -- t96
              refine WL.y (Yl.move rfl) rfl ?_ -- t97
              refine WL.y (Yl.move rfl) rfl ?_ -- t98
              refine WL.y (Yl.add rfl rfl (IntWalk.i64_in _ (by omega))) rfl ?_ -- t99
              refine WL.say (t := 99) (v' := .int .i64 ((o + wd f + n : Nat) : Int)) rfl (by (refine congrArg _ ?_; omega)) ?_
              obtain ⟨a5, c5, hs5, hr5⟩ := sub8x hr (l := o + wd f) (n := n) (by omega)
              refine WL.y (Yl.slice un28 sz5 rfl ⟨_, rfl⟩ ⟨_, rfl⟩ (by omega) (by omega)) rfl ?_ -- t100
              refine WL.say (t := 100) (v' := .slice a5 ((B.drop (o + wd f)).take n).length c5) rfl (by exact hs5) ?_
              refine WL.y (Yl.field fo54_2 rfl) rfl ?_ -- t101
              refine WL.sto (Sto.one (cs' := (Fd.mk f.kind 0 a5 c5 ((B.drop (o + wd f)).take n) none 0 [] f.most).cells) sz28 rfl rfl (by repeat (first | exact Take1.head | apply Take1.tail)) rfl (by rfl) rfl) (fun _ h => nomatch h) ?_
              refine WL.nil ?_
              refine WC.seq ?_
              refine WC.seq ?_
              refine WC.region ?_
              refine WL.y (Yl.assign rfl) rfl ?_ -- t14
              refine WL.nil ?_
              refine WC.block ?_
              refine WC.loop (α := Unit) (fun _ => [(0, .slice ab B.length cb), (1, .slice al fs.length cl), (6, .slice ao2 gs.length co2), (7, .int .i64 ((o + wd f : Nat) : Int)), (8, .int .i64 (j : Int)), (9, .pointer (some ⟨b9, 0, none⟩)), (12, .int .i64 (n : Int)), (13, .int .i64 1), (14, .int .i64 0)]) (fun _ => [blkR b9 54 (Fd.mk f.kind 0 a5 c5 ((B.drop (o + wd f)).take n) none 0 [] f.most).cells, ownR (.slice ao2 gs.length co2) 54 5 gs.length (vcs Fd.val gs), r, G]) (fun _ => True) (fun _ => 0) () trivial ⟨(by repeat (first | exact Sub.nil | refine Sub.cons rfl ?_)), _, (by repeat (first | exact TakeL.nil | (apply TakeL.cons; · repeat (first | exact Take1.head | apply Take1.tail))))⟩ ?_
              intro _ _
              refine WC.seq ?_
              refine WC.seq ?_
              refine WC.region ?_
              refine WL.y (Yl.move rfl) rfl ?_ -- t102
              refine WL.y (Yl.move rfl) rfl ?_ -- t103
              refine WL.y (Yl.lss rfl rfl) rfl ?_ -- t104
              refine WL.y (Yl.move rfl) rfl ?_ -- t105
              refine WL.both (t := 105) rfl (fun g105 => ?_) (fun g105 => ?_)
              · refine WL.on rfl rfl ?_
                refine WL.y (Yl.field fo54_0 rfl) rfl ?_ -- t106
                refine WL.on rfl rfl ?_
                refine WL.y (Yl.load on5 rfl (by repeat (first | exact Take1.head | apply Take1.tail)) (by rfl)) rfl ?_ -- t107
                refine WL.on rfl rfl ?_
                refine WL.y (Yl.eql rfl rfl) rfl ?_ -- t108
                refine WL.know (t := 108) (b' := false) rfl (by first | rfl | (simp; done) | (simp; omega)) ?_
                refine WL.y (Yl.pickT rfl rfl) rfl ?_ -- t109
                refine WL.nil ?_
                refine WC.condF rfl (by first | rfl | (simp; done) | (simp; omega)) ?_
                refine WC.exit ?_
                refine WC.region ?_
                refine WL.y (Yl.move rfl) rfl ?_ -- t130
                refine WL.y (Yl.move rfl) rfl ?_ -- t131
                refine WL.y (Yl.move rfl) rfl ?_ -- t132
                refine WL.y (Yl.mul rfl rfl (IntWalk.i64_in _ (by omega))) rfl ?_ -- t133
                refine WL.y (Yl.add rfl rfl (IntWalk.i64_in _ (by omega))) rfl ?_ -- t134
                refine WL.say (t := 134) (v' := .int .i64 ((o + wd f + n : Nat) : Int)) rfl (by (refine congrArg _ ?_; omega)) ?_
                refine WL.y (Yl.assign rfl) rfl ?_ -- t7
                refine WL.nil ?_
                have hst : tkF f (B.drop o) false = ((Fd.mk f.kind 0 a5 c5 ((B.drop (o + wd f)).take n) none 0 [] f.most).norm, B.drop (o + wd f + n), false) := by rw [tkF_szd h2l hn2 hk5 (by simpa using g82) (by rw [List.length_drop, List.length_drop]; omega), List.drop_drop, List.drop_drop, hw2]; rfl
                have hqB : o + wd f + n ≤ B.length := by omega
                obtain ⟨g, hg⟩ : ∃ g : Fd, (Fd.mk f.kind 0 a5 c5 ((B.drop (o + wd f)).take n) none 0 [] f.most) = g := ⟨_, rfl⟩
                obtain ⟨G2, hG2⟩ : ∃ x, x = G := ⟨_, rfl⟩
                have hmono : ∀ w, (allR [r, G2]).ok w → (allR [r, G]).ok w := fun w h => by rw [hG2] at h; exact h
                have hgb : RdOf (allR [r, G2]) (.slice g.ba g.b.length g.bc) 1 g.b.length (ints .u8 g.b) := by rw [← hg]; exact RdOf.all hr5 (by simp)
                have hgl : RdOf (allR [r, G2]) (.slice g.la g.l.length g.lc) 1 g.l.length (ints .u32 g.l) := by rw [← hg]; exact RdOf.nothing
                rw [hg] at hst ⊢
                subst hG2
                obtain ⟨q, hq⟩ : ∃ q : Nat, o + wd f + n = q := ⟨_, rfl⟩
                rw [hq] at hst hqB ⊢
                refine WC.region ?_
                refine WL.y (Yl.move rfl) rfl ?_ -- t135
                refine WL.y (Yl.loadN ag54 rfl (by repeat (first | exact Take1.head | apply Take1.tail)) (by rfl) (show _ = g.cells from rfl)) rfl ?_ -- t136
                refine WL.to (To.buildSlice (vs := [g.val]) un22 zs54 rfl rfl (by intro v hv; rw [List.mem_singleton.1 hv]; rfl) (by decide) (by decide)) rfl ?_ -- t137
                intro b137
                refine WL.to (To.append sl22 rfl rfl (by repeat (first | exact Take1.head | apply Take1.tail)) (Reads.of (RdOf.blk (size := 5) (n := 1) (cs := flat [g.val]) (cs' := g.cells) (Nat.le_refl _) (by unfold maxLen; omega) (Nat.le_refl _) rfl) (by repeat (first | exact Take1.head | apply Take1.tail))) g.ones (show gs.length + 1 = (gs ++ [g]).length by simp) (show vcs Fd.val gs ++ g.cells = vcs Fd.val (gs ++ [g]) by rw [vcs_app, vcs_one]; rfl) (by simp; unfold maxLen; omega) (by simp; omega)) rfl ?_ -- t138
                rintro ⟨⟨ao138, c138⟩, hc138⟩
                dsimp only at hc138 ⊢
                refine WL.y (Yl.assign rfl) rfl ?_ -- t6
                refine WL.nil ?_
                refine WC.region ?_
                refine WL.y (Yl.move rfl) rfl ?_ -- t19
                refine WL.y (Yl.add rfl rfl (IntWalk.i64_in _ (by omega))) rfl ?_ -- t20
                refine WL.y (Yl.assign rfl) rfl ?_ -- t8
                refine WL.nil ?_
                refine ⟨rfl, (j + 1, q, (ao138, c138), gs ++ [g], G2), ⟨by dsimp only; omega, hqB, by dsimp only; rw [← take_snoc _ _ _ hfj, tks_snoc, ht]; dsimp only; rw [hst, List.map_append]; rfl, fun f' hf' => ?_⟩, by dsimp only; omega, (by repeat (first | exact Sub.nil | refine Sub.cons rfl ?_)), _, (by repeat (first | exact TakeL.nil | (apply TakeL.cons; · repeat (first | exact Take1.head | apply Take1.tail))))⟩
                dsimp only at hf' ⊢
                rcases List.mem_append.1 hf' with hf' | hf'
                · exact ⟨(hp f' hf').1.mono hmono, (hp f' hf').2.mono hmono⟩
                · rw [List.mem_singleton.1 hf']; exact ⟨hgb, hgl⟩
              · refine WL.off rfl rfl rfl rfl ?_ -- t106
                refine WL.off rfl rfl rfl rfl ?_ -- t107
                refine WL.off rfl rfl rfl rfl ?_ -- t108
                refine WL.y (Yl.pickF rfl rfl) rfl ?_ -- t109
                refine WL.nil ?_
                refine WC.condF rfl (by first | rfl | (simp; done) | (simp; omega)) ?_
                refine WC.exit ?_
                refine WC.region ?_
                refine WL.y (Yl.move rfl) rfl ?_ -- t130
                refine WL.y (Yl.move rfl) rfl ?_ -- t131
                refine WL.y (Yl.move rfl) rfl ?_ -- t132
                refine WL.y (Yl.mul rfl rfl (IntWalk.i64_in _ (by omega))) rfl ?_ -- t133
                refine WL.y (Yl.add rfl rfl (IntWalk.i64_in _ (by omega))) rfl ?_ -- t134
                refine WL.say (t := 134) (v' := .int .i64 ((o + wd f + n : Nat) : Int)) rfl (by (refine congrArg _ ?_; omega)) ?_
                refine WL.y (Yl.assign rfl) rfl ?_ -- t7
                refine WL.nil ?_
                have hst : tkF f (B.drop o) false = ((Fd.mk f.kind 0 a5 c5 ((B.drop (o + wd f)).take n) none 0 [] f.most).norm, B.drop (o + wd f + n), false) := by rw [tkF_szd h2l hn2 hk5 (by simpa using g82) (by rw [List.length_drop, List.length_drop]; omega), List.drop_drop, List.drop_drop, hw2]; rfl
                have hqB : o + wd f + n ≤ B.length := by omega
                obtain ⟨g, hg⟩ : ∃ g : Fd, (Fd.mk f.kind 0 a5 c5 ((B.drop (o + wd f)).take n) none 0 [] f.most) = g := ⟨_, rfl⟩
                obtain ⟨G2, hG2⟩ : ∃ x, x = G := ⟨_, rfl⟩
                have hmono : ∀ w, (allR [r, G2]).ok w → (allR [r, G]).ok w := fun w h => by rw [hG2] at h; exact h
                have hgb : RdOf (allR [r, G2]) (.slice g.ba g.b.length g.bc) 1 g.b.length (ints .u8 g.b) := by rw [← hg]; exact RdOf.all hr5 (by simp)
                have hgl : RdOf (allR [r, G2]) (.slice g.la g.l.length g.lc) 1 g.l.length (ints .u32 g.l) := by rw [← hg]; exact RdOf.nothing
                rw [hg] at hst ⊢
                subst hG2
                obtain ⟨q, hq⟩ : ∃ q : Nat, o + wd f + n = q := ⟨_, rfl⟩
                rw [hq] at hst hqB ⊢
                refine WC.region ?_
                refine WL.y (Yl.move rfl) rfl ?_ -- t135
                refine WL.y (Yl.loadN ag54 rfl (by repeat (first | exact Take1.head | apply Take1.tail)) (by rfl) (show _ = g.cells from rfl)) rfl ?_ -- t136
                refine WL.to (To.buildSlice (vs := [g.val]) un22 zs54 rfl rfl (by intro v hv; rw [List.mem_singleton.1 hv]; rfl) (by decide) (by decide)) rfl ?_ -- t137
                intro b137
                refine WL.to (To.append sl22 rfl rfl (by repeat (first | exact Take1.head | apply Take1.tail)) (Reads.of (RdOf.blk (size := 5) (n := 1) (cs := flat [g.val]) (cs' := g.cells) (Nat.le_refl _) (by unfold maxLen; omega) (Nat.le_refl _) rfl) (by repeat (first | exact Take1.head | apply Take1.tail))) g.ones (show gs.length + 1 = (gs ++ [g]).length by simp) (show vcs Fd.val gs ++ g.cells = vcs Fd.val (gs ++ [g]) by rw [vcs_app, vcs_one]; rfl) (by simp; unfold maxLen; omega) (by simp; omega)) rfl ?_ -- t138
                rintro ⟨⟨ao138, c138⟩, hc138⟩
                dsimp only at hc138 ⊢
                refine WL.y (Yl.assign rfl) rfl ?_ -- t6
                refine WL.nil ?_
                refine WC.region ?_
                refine WL.y (Yl.move rfl) rfl ?_ -- t19
                refine WL.y (Yl.add rfl rfl (IntWalk.i64_in _ (by omega))) rfl ?_ -- t20
                refine WL.y (Yl.assign rfl) rfl ?_ -- t8
                refine WL.nil ?_
                refine ⟨rfl, (j + 1, q, (ao138, c138), gs ++ [g], G2), ⟨by dsimp only; omega, hqB, by dsimp only; rw [← take_snoc _ _ _ hfj, tks_snoc, ht]; dsimp only; rw [hst, List.map_append]; rfl, fun f' hf' => ?_⟩, by dsimp only; omega, (by repeat (first | exact Sub.nil | refine Sub.cons rfl ?_)), _, (by repeat (first | exact TakeL.nil | (apply TakeL.cons; · repeat (first | exact Take1.head | apply Take1.tail))))⟩
                dsimp only at hf' ⊢
                rcases List.mem_append.1 hf' with hf' | hf'
                · exact ⟨(hp f' hf').1.mono hmono, (hp f' hf').2.mono hmono⟩
                · rw [List.mem_singleton.1 hf']; exact ⟨hgb, hgl⟩
        · refine WC.region ?_
          refine WL.y (Yl.eql rfl rfl) rfl ?_ -- t71
          refine WL.y (Yl.assign rfl) rfl ?_ -- t69
          refine WL.nil ?_
          refine WC.condD rfl (fun g69 => ?_) (fun g69 => ?_)
          · refine WC.seq ?_
            have hk6 : f.kind = 6 := by assumption
            have hw2 := wd2 (f := f) (.inr hk6)
            refine WC.region ?_
            refine WL.y (Yl.move rfl) rfl ?_ -- t72
            have h2l : 2 ≤ (B.drop o).length := by omega
            have hv2 := val_range ((hB.drop o).take (wd f))
            rw [show ((B.drop o).take (wd f)).length = 2 by rw [List.length_take]; omega] at hv2
            simp only [show (256 : Int) ^ 2 = 65536 from by decide] at hv2
            obtain ⟨n, hn⟩ : ∃ n : Nat, val ((B.drop o).take (wd f)) = (n : Int) := ⟨(val ((B.drop o).take (wd f))).toNat, by omega⟩
            have hn2 : val ((B.drop o).take 2) = (n : Int) := by rw [← hw2]; exact hn
            refine WL.callC (xs := [.tmp 72]) (cap := []) rfl rfl en38 (by repeat (first | exact TakeL.nil | (apply TakeL.cons; · repeat (first | exact Take1.head | apply Take1.tail)))) (fun w hw => rof_any ((B.drop o).take (wd f)) ((hB.drop o).take _) (by rw [List.length_take]; omega) _ w (hw.src (A := []) (r := r) hr4 (by repeat (first | exact Take1.head | apply Take1.tail))) hw.left.here) rfl ?_ -- t73 hailer/hailerref08.of
            rintro ⟨⟩ -
            refine WL.say (t := 73) (v' := .int .u64 (n : Int)) rfl (by (rw [hn])) ?_
            refine WL.y (Yl.conv un51 un3 rfl (IntWalk.i64_in _ (by omega))) rfl ?_ -- t74
            refine WL.y (Yl.assign rfl) rfl ?_ -- t12
            refine WL.nil ?_
            refine WC.seq ?_
            refine WC.region ?_
            refine WL.y (Yl.assign rfl) rfl ?_ -- t13
            refine WL.nil ?_
            refine WC.seq ?_
            refine WC.seq ?_
            refine WC.region ?_
            refine WL.y (Yl.field fo54_0 rfl) rfl ?_ -- t75
            refine WL.y (Yl.load on5 rfl (by repeat (first | exact Take1.head | apply Take1.tail)) (by rfl)) rfl ?_ -- t76
            refine WL.y (Yl.eql rfl rfl) rfl ?_ -- t77
            refine WL.nil ?_
            refine WC.condT rfl (by first | rfl | (simp; done) | (simp; omega)) ?_
            refine WC.region ?_
            refine WL.y (Yl.assign rfl) rfl ?_ -- t13
            refine WL.nil ?_
            refine WC.seq ?_
            refine WC.seq ?_
            refine WC.region ?_
            refine WL.y (Yl.move rfl) rfl ?_ -- t78
            refine WL.y (Yl.field fo54_4 rfl) rfl ?_ -- t79
            refine WL.y (Yl.load on3 rfl (by repeat (first | exact Take1.head | apply Take1.tail)) (by rfl)) rfl ?_ -- t80
            refine WL.y (Yl.gtr rfl rfl) rfl ?_ -- t81
            refine WL.y (Yl.move rfl) rfl ?_ -- t82
            refine WL.both (t := 82) rfl (fun g82 => ?_) (fun g82 => ?_)
            · refine WL.off rfl rfl rfl rfl ?_ -- t83
              refine WL.off rfl rfl rfl rfl ?_ -- t84
              refine WL.off rfl rfl rfl rfl ?_ -- t85
              refine WL.off rfl rfl rfl rfl ?_ -- t86
              refine WL.off rfl rfl rfl rfl ?_ -- t87
              refine WL.off rfl rfl rfl rfl ?_ -- t88
              refine WL.off rfl rfl rfl rfl ?_ -- t89
              refine WL.off rfl rfl rfl rfl ?_ -- t90
              refine WL.y (Yl.pickT rfl rfl) rfl ?_ -- t91
              refine WL.nil ?_
              refine WC.condT rfl (by first | rfl | (simp; done) | (simp; omega)) ?_
              refine WC.seq ?_
              have hbad := tks_bad hfj (by rw [ht]) (by rw [ht]; exact tkF_mny h2l hn2 (.inr hk6) (by simpa using g82))
              refine WC.region ?_
              refine WL.y (Yl.assign rfl) rfl ?_ -- t4
              refine WL.y (Yl.assign rfl) rfl ?_ -- t5
              refine WL.nil ?_
              refine WC.ret ?_
              repeat (first | (with_reducible refine peelT ?_) | (with_reducible refine peelB ?_) | (with_reducible refine peelTX ?_) | (with_reducible refine peelBX ?_) | (with_reducible refine peelBN ?_) | (with_reducible refine peelBO rfl ?_))
              exact ret2 (.inr rfl) Try.results14 rfl rfl fun w' h => ⟨((none, 0), [], allR []), (fun q => by rw [hbad] at q; cases q), by rw [hbad]; rfl, (h.addNone).sub (by repeat (first | exact TakeL.nil | (apply TakeL.cons; · repeat (first | exact Take1.head | apply Take1.tail))))⟩
            · refine WL.on rfl rfl ?_
              refine WL.y (Yl.move rfl) rfl ?_ -- t83
              refine WL.on rfl rfl ?_
              refine WL.y (Yl.move rfl) rfl ?_ -- t84
              refine WL.on rfl rfl ?_
              refine WL.y (Yl.mul rfl rfl (IntWalk.i64_in _ (by omega))) rfl ?_ -- t85
              refine WL.on rfl rfl ?_
              refine WL.y (Yl.move rfl) rfl ?_ -- t86
              refine WL.on rfl rfl ?_
              refine WL.y (Yl.len un28 rfl) rfl ?_ -- t87
              refine WL.on rfl rfl ?_
              refine WL.y (Yl.move rfl) rfl ?_ -- t88
              refine WL.on rfl rfl ?_
              refine WL.y (Yl.sub rfl rfl (IntWalk.i64_in _ (by omega))) rfl ?_ -- t89
              refine WL.on rfl rfl ?_
              refine WL.y (Yl.gtr rfl rfl) rfl ?_ -- t90
              refine WL.y (Yl.pickF rfl rfl) rfl ?_ -- t91
              refine WL.nil ?_
              refine WC.condD rfl (fun g91 => ?_) (fun g91 => ?_)
              · refine WC.seq ?_
                have hbad := tks_bad hfj (by rw [ht]) (by rw [ht]; exact tkF_lfw h2l hn2 hk6 (by rw [List.length_drop, List.length_drop]; omega))
                refine WC.region ?_
                refine WL.y (Yl.assign rfl) rfl ?_ -- t4
                refine WL.y (Yl.assign rfl) rfl ?_ -- t5
                refine WL.nil ?_
                refine WC.ret ?_
                repeat (first | (with_reducible refine peelT ?_) | (with_reducible refine peelB ?_) | (with_reducible refine peelTX ?_) | (with_reducible refine peelBX ?_) | (with_reducible refine peelBN ?_) | (with_reducible refine peelBO rfl ?_))
                exact ret2 (.inr rfl) Try.results14 rfl rfl fun w' h => ⟨((none, 0), [], allR []), (fun q => by rw [hbad] at q; cases q), by rw [hbad]; rfl, (h.addNone).sub (by repeat (first | exact TakeL.nil | (apply TakeL.cons; · repeat (first | exact Take1.head | apply Take1.tail))))⟩
              · refine WC.skip ?_
                refine WC.seq ?_
                refine WC.seq ?_
                refine WC.region ?_
                refine WL.y (Yl.field fo54_0 rfl) rfl ?_ -- t92
                refine WL.y (Yl.load on5 rfl (by repeat (first | exact Take1.head | apply Take1.tail)) (by rfl)) rfl ?_ -- t93
                refine WL.y (Yl.eql rfl rfl) rfl ?_ -- t94
                refine WL.nil ?_
                refine WC.condF rfl (by first | rfl | (simp; done) | (simp; omega)) ?_
                refine WC.skip ?_
                refine WC.seq ?_
                refine WC.seq ?_
                refine WC.region ?_
                refine WL.y (Yl.assign rfl) rfl ?_ -- t14
                refine WL.nil ?_
                refine WC.block ?_
                refine WC.view (fun w h => h.addNil 49 1) ?_
                refine WC.loop (α := Nat × (Option Addr × Nat)) (fun p => [(0, .slice ab B.length cb), (1, .slice al fs.length cl), (6, .slice ao2 gs.length co2), (7, .int .i64 ((o + wd f : Nat) : Int)), (8, .int .i64 (j : Int)), (9, .pointer (some ⟨b9, 0, none⟩)), (12, .int .i64 (n : Int)), (13, .int .i64 4), (14, .int .i64 (p.1 : Int))]) (fun p => [ownR (.slice p.2.1 (chk (B.drop (o + wd f)) p.1).length p.2.2) 49 1 (chk (B.drop (o + wd f)) p.1).length (ints .u32 (chk (B.drop (o + wd f)) p.1)), blkR b9 54 (Fd.mk f.kind 0 none 0 [] p.2.1 p.2.2 (chk (B.drop (o + wd f)) p.1) f.most).cells, ownR (.slice ao2 gs.length co2) 54 5 gs.length (vcs Fd.val gs), r, G]) (fun p => p.1 ≤ n) (fun p => n - p.1) (0, none, 0) (Nat.zero_le _) ⟨(by repeat (first | exact Sub.nil | refine Sub.cons rfl ?_)), _, (by repeat (first | exact TakeL.nil | (apply TakeL.cons; · repeat (first | exact Take1.head | apply Take1.tail))))⟩ ?_
                rintro ⟨k, a6, c6⟩ hkn
                dsimp only at hkn ⊢
                refine WC.seq ?_
                refine WC.seq ?_
                refine WC.region ?_
                refine WL.y (Yl.move rfl) rfl ?_ -- t102
                refine WL.y (Yl.move rfl) rfl ?_ -- t103
                refine WL.y (Yl.lss rfl rfl) rfl ?_ -- t104
                refine WL.y (Yl.move rfl) rfl ?_ -- t105
                refine WL.both (t := 105) rfl (fun g105 => ?_) (fun g105 => ?_)
                · refine WL.on rfl rfl ?_
                  refine WL.y (Yl.field fo54_0 rfl) rfl ?_ -- t106
                  refine WL.on rfl rfl ?_
                  refine WL.y (Yl.load on5 rfl (by repeat (first | exact Take1.head | apply Take1.tail)) (by rfl)) rfl ?_ -- t107
                  refine WL.on rfl rfl ?_
                  refine WL.y (Yl.eql rfl rfl) rfl ?_ -- t108
                  refine WL.know (t := 108) (b' := true) rfl (by first | rfl | (simp; done) | (simp; omega)) ?_
                  refine WL.y (Yl.pickT rfl rfl) rfl ?_ -- t109
                  refine WL.nil ?_
                  refine WC.condT rfl (by first | rfl | (simp; done) | (simp; omega)) ?_
                  refine WC.skip ?_
                  refine WC.seq ?_
                  refine WC.block ?_
                  have hkl : k < n := by simpa using g105
                  have hcl := chk_len (B.drop (o + wd f)) k
                  refine WC.drawAny (Hs := []) mixed (by kernel_rfl) ⟨_, (by repeat (first | exact TakeL.nil | (apply TakeL.cons; · repeat (first | exact Take1.head | apply Take1.tail))))⟩ ?_
                  refine WD.take 0 rfl (by kernel_rfl) (by kernel_rfl) (by kernel_rfl) rfl rfl (Yl.field fo54_3 rfl) rfl ?_ -- t112
                  refine WD.take 2 rfl (by kernel_rfl) (by kernel_rfl) (by kernel_rfl) rfl rfl (Yl.move rfl) rfl ?_ -- t114
                  refine WD.take 3 rfl (by kernel_rfl) (by kernel_rfl) (by kernel_rfl) rfl rfl (Yl.move rfl) rfl ?_ -- t115
                  refine WD.take 4 rfl (by kernel_rfl) (by kernel_rfl) (by kernel_rfl) rfl rfl (Yl.move rfl) rfl ?_ -- t116
                  refine WD.take 5 rfl (by kernel_rfl) (by kernel_rfl) (by kernel_rfl) rfl rfl (Yl.mul rfl rfl (IntWalk.i64_in _ (by omega))) rfl ?_ -- t117
                  refine WD.take 6 rfl (by kernel_rfl) (by kernel_rfl) (by kernel_rfl) rfl rfl (Yl.add rfl rfl (IntWalk.i64_in _ (by omega))) rfl ?_ -- t118
                  refine WD.say (t := 118) (v' := .int .i64 ((o + wd f + 4 * k : Nat) : Int)) rfl (by (refine congrArg _ ?_; omega)) ?_
                  refine WD.take 7 rfl (by kernel_rfl) (by kernel_rfl) (by kernel_rfl) rfl rfl (Yl.move rfl) rfl ?_ -- t119
                  refine WD.take 8 rfl (by kernel_rfl) (by kernel_rfl) (by kernel_rfl) rfl rfl (Yl.move rfl) rfl ?_ -- t120
                  refine WD.take 9 rfl (by kernel_rfl) (by kernel_rfl) (by kernel_rfl) rfl rfl (Yl.mul rfl rfl (IntWalk.i64_in _ (by omega))) rfl ?_ -- t121
                  refine WD.take 10 rfl (by kernel_rfl) (by kernel_rfl) (by kernel_rfl) rfl rfl (Yl.add rfl rfl (IntWalk.i64_in _ (by omega))) rfl ?_ -- t122
                  refine WD.take 11 rfl (by kernel_rfl) (by kernel_rfl) (by kernel_rfl) rfl rfl (Yl.add rfl rfl (IntWalk.i64_in _ (by omega))) rfl ?_ -- t123
                  refine WD.say (t := 123) (v' := .int .i64 ((o + wd f + 4 * k + 4 : Nat) : Int)) rfl (by (refine congrArg _ ?_; omega)) ?_
                  obtain ⟨a7, c7, hs7, hr7⟩ := sub8x hr (l := o + wd f + 4 * k) (n := 4) (by omega)
                  refine WD.take 12 rfl (by kernel_rfl) (by kernel_rfl) (by kernel_rfl) rfl rfl (Yl.slice un28 sz5 rfl ⟨_, rfl⟩ ⟨_, rfl⟩ (by omega) (by omega)) rfl ?_ -- t124
                  refine WD.say (t := 124) (v' := .slice a7 ((B.drop (o + wd f + 4 * k)).take 4).length c7) rfl (by exact hs7) ?_
                  refine WD.two 1 13 (by kernel_rfl) ?_ ?_
                  · refine WO.y rfl rfl .no (Yl.load on52 rfl (by repeat (first | exact Take1.head | apply Take1.tail)) (by rfl)) rfl ?_ -- t113
                    refine WD.one 13 (by kernel_rfl) ?_
                    have hv4 := val_range ((hB.drop (o + wd f + 4 * k)).take 4)
                    rw [show ((B.drop (o + wd f + 4 * k)).take 4).length = 4 by rw [List.length_take, List.length_drop]; omega] at hv4
                    simp only [show (256 : Int) ^ 4 = 4294967296 from by decide] at hv4
                    refine WO.callC (xs := [.tmp 124]) (cap := []) rfl .no rfl rfl en38 (by repeat (first | exact TakeL.nil | (apply TakeL.cons; · repeat (first | exact Take1.head | apply Take1.tail)))) (fun w hw => rof_any ((B.drop (o + wd f + 4 * k)).take 4) ((hB.drop _).take _) (by rw [List.length_take]; omega) _ w (hw.src (A := []) (r := r) hr7 (by repeat (first | exact Take1.head | apply Take1.tail))) hw.left.here) rfl (fun _ => ⟨_, (by repeat (first | exact TakeL.nil | (apply TakeL.cons; · repeat (first | exact Take1.head | apply Take1.tail))))⟩) ?_ -- t125 hailer/hailerref08.of
                    rintro ⟨⟩ -
                    refine WD.take 14 rfl (by kernel_rfl) (by kernel_rfl) (by kernel_rfl) rfl rfl (Yl.conv un51 un49 rfl (show IntKind.u32.wrap _ = val ((B.drop (o + wd f + 4 * k)).take 4) by rw [IntKind.wrap_u32]; omega)) rfl ?_ -- t126
                    refine WD.one 15 (by kernel_rfl) ?_
                    refine WO.to rfl rfl .no (To.buildSlice (vs := [.int .u32 (val ((B.drop (o + wd f + 4 * k)).take 4))]) un52 zs49 rfl rfl (by simp [Value.cells]) (by decide) (by decide)) rfl (fun _ => ⟨_, (by repeat (first | exact TakeL.nil | (apply TakeL.cons; · repeat (first | exact Take1.head | apply Take1.tail))))⟩) ?_ -- t127
                    intro b127
                    refine WD.one 16 (by kernel_rfl) ?_
                    refine WO.to rfl rfl .no (To.append sl52 rfl rfl (by repeat (first | exact Take1.head | apply Take1.tail)) (Reads.of (RdOf.blk (cs := [.int .u32 (val ((B.drop (o + wd f + 4 * k)).take 4))]) (cs' := ints .u32 [val ((B.drop (o + wd f + 4 * k)).take 4)]) (Nat.le_refl _) (by unfold maxLen; omega) (by simp) rfl) (by repeat (first | exact Take1.head | apply Take1.tail))) (ints_one _ _) (show (chk (B.drop (o + wd f)) k).length + 1 = (chk (B.drop (o + wd f)) (k + 1)).length by rw [chk_len, chk_len]) (show ints .u32 (chk (B.drop (o + wd f)) k) ++ ints .u32 [val ((B.drop (o + wd f + 4 * k)).take 4)] = ints .u32 (chk (B.drop (o + wd f)) (k + 1)) by rw [chk_succ, List.drop_drop, ints_append]) (by rw [chk_len]; unfold maxLen; omega) (by rw [chk_len]; omega)) rfl (fun _ => ⟨_, (by repeat (first | exact TakeL.nil | (apply TakeL.cons; · repeat (first | exact Take1.head | apply Take1.tail))))⟩) ?_ -- t128
                    rintro ⟨⟨ao128, c128⟩, hc128⟩
                    dsimp only at hc128 ⊢
                    refine WD.take 17 rfl (by kernel_rfl) (by kernel_rfl) (by kernel_rfl) rfl rfl (Yl.field fo54_3 rfl) rfl ?_ -- t129
                    refine WD.one 18 (by kernel_rfl) ?_
                    refine WO.sto rfl rfl .no (Sto.one (cs' := (Fd.mk f.kind 0 none 0 [] ao128 c128 (chk (B.drop (o + wd f)) (k + 1)) f.most).cells) sz52 rfl rfl (by repeat (first | exact Take1.head | apply Take1.tail)) rfl (by rfl) rfl) ⟨_, (by repeat (first | exact TakeL.nil | (apply TakeL.cons; · repeat (first | exact Take1.head | apply Take1.tail))))⟩ ?_
                    refine WD.done (by kernel_rfl) ?_
                    refine WC.region ?_
                    refine WL.y (Yl.move rfl) rfl ?_ -- t110
                    refine WL.y (Yl.add rfl rfl (IntWalk.i64_in _ (by omega))) rfl ?_ -- t111
                    refine WL.y (Yl.assign rfl) rfl ?_ -- t14
                    refine WL.nil ?_
                    exact ⟨rfl, (k + 1, ao128, c128), by dsimp only; omega, by dsimp only; omega, (by repeat (first | exact Sub.nil | refine Sub.cons rfl ?_)), _, (by repeat (first | exact TakeL.nil | (apply TakeL.cons; · repeat (first | exact Take1.head | apply Take1.tail))))⟩
                  · have hv4 := val_range ((hB.drop (o + wd f + 4 * k)).take 4)
                    rw [show ((B.drop (o + wd f + 4 * k)).take 4).length = 4 by rw [List.length_take, List.length_drop]; omega] at hv4
                    simp only [show (256 : Int) ^ 4 = 4294967296 from by decide] at hv4
                    refine WO.callC (xs := [.tmp 124]) (cap := []) rfl .no rfl rfl en38 (by repeat (first | exact TakeL.nil | (apply TakeL.cons; · repeat (first | exact Take1.head | apply Take1.tail)))) (fun w hw => rof_any ((B.drop (o + wd f + 4 * k)).take 4) ((hB.drop _).take _) (by rw [List.length_take]; omega) _ w (hw.src (A := []) (r := r) hr7 (by repeat (first | exact Take1.head | apply Take1.tail))) hw.left.here) rfl (fun _ => ⟨_, (by repeat (first | exact TakeL.nil | (apply TakeL.cons; · repeat (first | exact Take1.head | apply Take1.tail))))⟩) ?_ -- t125 hailer/hailerref08.of
                    rintro ⟨⟩ -
                    refine WD.take 14 rfl (by kernel_rfl) (by kernel_rfl) (by kernel_rfl) rfl rfl (Yl.conv un51 un49 rfl (show IntKind.u32.wrap _ = val ((B.drop (o + wd f + 4 * k)).take 4) by rw [IntKind.wrap_u32]; omega)) rfl ?_ -- t126
                    refine WD.two 1 15 (by kernel_rfl) ?_ ?_
                    · refine WO.y rfl rfl .no (Yl.load on52 rfl (by repeat (first | exact Take1.head | apply Take1.tail)) (by rfl)) rfl ?_ -- t113
                      refine WD.one 15 (by kernel_rfl) ?_
                      refine WO.to rfl rfl .no (To.buildSlice (vs := [.int .u32 (val ((B.drop (o + wd f + 4 * k)).take 4))]) un52 zs49 rfl rfl (by simp [Value.cells]) (by decide) (by decide)) rfl (fun _ => ⟨_, (by repeat (first | exact TakeL.nil | (apply TakeL.cons; · repeat (first | exact Take1.head | apply Take1.tail))))⟩) ?_ -- t127
                      intro b127
                      refine WD.one 16 (by kernel_rfl) ?_
                      refine WO.to rfl rfl .no (To.append sl52 rfl rfl (by repeat (first | exact Take1.head | apply Take1.tail)) (Reads.of (RdOf.blk (cs := [.int .u32 (val ((B.drop (o + wd f + 4 * k)).take 4))]) (cs' := ints .u32 [val ((B.drop (o + wd f + 4 * k)).take 4)]) (Nat.le_refl _) (by unfold maxLen; omega) (by simp) rfl) (by repeat (first | exact Take1.head | apply Take1.tail))) (ints_one _ _) (show (chk (B.drop (o + wd f)) k).length + 1 = (chk (B.drop (o + wd f)) (k + 1)).length by rw [chk_len, chk_len]) (show ints .u32 (chk (B.drop (o + wd f)) k) ++ ints .u32 [val ((B.drop (o + wd f + 4 * k)).take 4)] = ints .u32 (chk (B.drop (o + wd f)) (k + 1)) by rw [chk_succ, List.drop_drop, ints_append]) (by rw [chk_len]; unfold maxLen; omega) (by rw [chk_len]; omega)) rfl (fun _ => ⟨_, (by repeat (first | exact TakeL.nil | (apply TakeL.cons; · repeat (first | exact Take1.head | apply Take1.tail))))⟩) ?_ -- t128
                      rintro ⟨⟨ao128, c128⟩, hc128⟩
                      dsimp only at hc128 ⊢
                      refine WD.take 17 rfl (by kernel_rfl) (by kernel_rfl) (by kernel_rfl) rfl rfl (Yl.field fo54_3 rfl) rfl ?_ -- t129
                      refine WD.one 18 (by kernel_rfl) ?_
                      refine WO.sto rfl rfl .no (Sto.one (cs' := (Fd.mk f.kind 0 none 0 [] ao128 c128 (chk (B.drop (o + wd f)) (k + 1)) f.most).cells) sz52 rfl rfl (by repeat (first | exact Take1.head | apply Take1.tail)) rfl (by rfl) rfl) ⟨_, (by repeat (first | exact TakeL.nil | (apply TakeL.cons; · repeat (first | exact Take1.head | apply Take1.tail))))⟩ ?_
                      refine WD.done (by kernel_rfl) ?_
                      refine WC.region ?_
                      refine WL.y (Yl.move rfl) rfl ?_ -- t110
                      refine WL.y (Yl.add rfl rfl (IntWalk.i64_in _ (by omega))) rfl ?_ -- t111
                      refine WL.y (Yl.assign rfl) rfl ?_ -- t14
                      refine WL.nil ?_
                      exact ⟨rfl, (k + 1, ao128, c128), by dsimp only; omega, by dsimp only; omega, (by repeat (first | exact Sub.nil | refine Sub.cons rfl ?_)), _, (by repeat (first | exact TakeL.nil | (apply TakeL.cons; · repeat (first | exact Take1.head | apply Take1.tail))))⟩
                    · refine WO.to rfl rfl .no (To.buildSlice (vs := [.int .u32 (val ((B.drop (o + wd f + 4 * k)).take 4))]) un52 zs49 rfl rfl (by simp [Value.cells]) (by decide) (by decide)) rfl (fun _ => ⟨_, (by repeat (first | exact TakeL.nil | (apply TakeL.cons; · repeat (first | exact Take1.head | apply Take1.tail))))⟩) ?_ -- t127
                      intro b127
                      refine WD.one 1 (by kernel_rfl) ?_
                      refine WO.y rfl rfl .no (Yl.load on52 rfl (by repeat (first | exact Take1.head | apply Take1.tail)) (by rfl)) rfl ?_ -- t113
                      refine WD.one 16 (by kernel_rfl) ?_
                      refine WO.to rfl rfl .no (To.append sl52 rfl rfl (by repeat (first | exact Take1.head | apply Take1.tail)) (Reads.of (RdOf.blk (cs := [.int .u32 (val ((B.drop (o + wd f + 4 * k)).take 4))]) (cs' := ints .u32 [val ((B.drop (o + wd f + 4 * k)).take 4)]) (Nat.le_refl _) (by unfold maxLen; omega) (by simp) rfl) (by repeat (first | exact Take1.head | apply Take1.tail))) (ints_one _ _) (show (chk (B.drop (o + wd f)) k).length + 1 = (chk (B.drop (o + wd f)) (k + 1)).length by rw [chk_len, chk_len]) (show ints .u32 (chk (B.drop (o + wd f)) k) ++ ints .u32 [val ((B.drop (o + wd f + 4 * k)).take 4)] = ints .u32 (chk (B.drop (o + wd f)) (k + 1)) by rw [chk_succ, List.drop_drop, ints_append]) (by rw [chk_len]; unfold maxLen; omega) (by rw [chk_len]; omega)) rfl (fun _ => ⟨_, (by repeat (first | exact TakeL.nil | (apply TakeL.cons; · repeat (first | exact Take1.head | apply Take1.tail))))⟩) ?_ -- t128
                      rintro ⟨⟨ao128, c128⟩, hc128⟩
                      dsimp only at hc128 ⊢
                      refine WD.take 17 rfl (by kernel_rfl) (by kernel_rfl) (by kernel_rfl) rfl rfl (Yl.field fo54_3 rfl) rfl ?_ -- t129
                      refine WD.one 18 (by kernel_rfl) ?_
                      refine WO.sto rfl rfl .no (Sto.one (cs' := (Fd.mk f.kind 0 none 0 [] ao128 c128 (chk (B.drop (o + wd f)) (k + 1)) f.most).cells) sz52 rfl rfl (by repeat (first | exact Take1.head | apply Take1.tail)) rfl (by rfl) rfl) ⟨_, (by repeat (first | exact TakeL.nil | (apply TakeL.cons; · repeat (first | exact Take1.head | apply Take1.tail))))⟩ ?_
                      refine WD.done (by kernel_rfl) ?_
                      refine WC.region ?_
                      refine WL.y (Yl.move rfl) rfl ?_ -- t110
                      refine WL.y (Yl.add rfl rfl (IntWalk.i64_in _ (by omega))) rfl ?_ -- t111
                      refine WL.y (Yl.assign rfl) rfl ?_ -- t14
                      refine WL.nil ?_
                      exact ⟨rfl, (k + 1, ao128, c128), by dsimp only; omega, by dsimp only; omega, (by repeat (first | exact Sub.nil | refine Sub.cons rfl ?_)), _, (by repeat (first | exact TakeL.nil | (apply TakeL.cons; · repeat (first | exact Take1.head | apply Take1.tail))))⟩
                · refine WL.off rfl rfl rfl rfl ?_ -- t106
                  refine WL.off rfl rfl rfl rfl ?_ -- t107
                  refine WL.off rfl rfl rfl rfl ?_ -- t108
                  refine WL.y (Yl.pickF rfl rfl) rfl ?_ -- t109
                  refine WL.nil ?_
                  refine WC.condF rfl (by first | rfl | (simp; done) | (simp; omega)) ?_
                  refine WC.exit ?_
                  refine WC.region ?_
                  refine WL.y (Yl.move rfl) rfl ?_ -- t130
                  refine WL.y (Yl.move rfl) rfl ?_ -- t131
                  refine WL.y (Yl.move rfl) rfl ?_ -- t132
                  refine WL.y (Yl.mul rfl rfl (IntWalk.i64_in _ (by omega))) rfl ?_ -- t133
                  refine WL.y (Yl.add rfl rfl (IntWalk.i64_in _ (by omega))) rfl ?_ -- t134
                  refine WL.say (t := 134) (v' := .int .i64 ((o + wd f + 4 * n : Nat) : Int)) rfl (by (refine congrArg _ ?_; omega)) ?_
                  refine WL.y (Yl.assign rfl) rfl ?_ -- t7
                  refine WL.nil ?_
                  have hkn : k = n := by
                    have : ¬ k < n := by simpa using g105
                    omega
                  subst hkn
                  refine WC.view (fun w h => h.join (A := [G, ownR (.slice a6 (chk (B.drop (o + wd f)) k).length c6) 49 1 (chk (B.drop (o + wd f)) k).length (ints .u32 (chk (B.drop (o + wd f)) k))]) (by repeat (first | exact TakeL.nil | (apply TakeL.cons; · repeat (first | exact Take1.head | apply Take1.tail))))) ?_
                  have hst : tkF f (B.drop o) false = ((Fd.mk f.kind 0 none 0 [] a6 c6 (chk (B.drop (o + wd f)) k) f.most).norm, B.drop (o + wd f + 4 * k), false) := by rw [tkF_lst h2l hn2 hk6 (by simpa using g82) (by rw [List.length_drop, List.length_drop]; omega), List.drop_drop, List.drop_drop, hw2]; rfl
                  have hqB : o + wd f + 4 * k ≤ B.length := by omega
                  obtain ⟨g, hg⟩ : ∃ g : Fd, (Fd.mk f.kind 0 none 0 [] a6 c6 (chk (B.drop (o + wd f)) k) f.most) = g := ⟨_, rfl⟩
                  obtain ⟨G2, hG2⟩ : ∃ x, (allR [G, ownR (.slice a6 (chk (B.drop (o + wd f)) k).length c6) 49 1 (chk (B.drop (o + wd f)) k).length (ints .u32 (chk (B.drop (o + wd f)) k))]) = x := ⟨_, rfl⟩
                  have hmono : ∀ w, (allR [r, G2]).ok w → (allR [r, G]).ok w := fun w h q hq => by
                    rw [← hG2] at h
                    rcases List.mem_cons.1 hq with rfl | hq
                    · exact h _ (by simp)
                    · rw [List.mem_singleton.1 hq]; exact h _ (List.mem_cons.2 (.inr (List.mem_singleton.2 rfl))) G (by simp)
                  have hgb : RdOf (allR [r, G2]) (.slice g.ba g.b.length g.bc) 1 g.b.length (ints .u8 g.b) := by rw [← hg]; exact RdOf.nothing
                  have hgl : RdOf (allR [r, G2]) (.slice g.la g.l.length g.lc) 1 g.l.length (ints .u32 g.l) := by rw [← hg, ← hG2]; exact RdOf.all (RdOf.all RdOf.own (List.mem_cons.2 (.inr (List.mem_singleton.2 rfl)))) (List.mem_cons.2 (.inr (List.mem_singleton.2 rfl)))
                  rw [hg] at hst ⊢
                  rw [hG2]
                  obtain ⟨q, hq⟩ : ∃ q : Nat, o + wd f + 4 * k = q := ⟨_, rfl⟩
                  rw [hq] at hst hqB ⊢
                  refine WC.region ?_
                  refine WL.y (Yl.move rfl) rfl ?_ -- t135
                  refine WL.y (Yl.loadN ag54 rfl (by repeat (first | exact Take1.head | apply Take1.tail)) (by rfl) (show _ = g.cells from rfl)) rfl ?_ -- t136
                  refine WL.to (To.buildSlice (vs := [g.val]) un22 zs54 rfl rfl (by intro v hv; rw [List.mem_singleton.1 hv]; rfl) (by decide) (by decide)) rfl ?_ -- t137
                  intro b137
                  refine WL.to (To.append sl22 rfl rfl (by repeat (first | exact Take1.head | apply Take1.tail)) (Reads.of (RdOf.blk (size := 5) (n := 1) (cs := flat [g.val]) (cs' := g.cells) (Nat.le_refl _) (by unfold maxLen; omega) (Nat.le_refl _) rfl) (by repeat (first | exact Take1.head | apply Take1.tail))) g.ones (show gs.length + 1 = (gs ++ [g]).length by simp) (show vcs Fd.val gs ++ g.cells = vcs Fd.val (gs ++ [g]) by rw [vcs_app, vcs_one]; rfl) (by simp; unfold maxLen; omega) (by simp; omega)) rfl ?_ -- t138
                  rintro ⟨⟨ao138, c138⟩, hc138⟩
                  dsimp only at hc138 ⊢
                  refine WL.y (Yl.assign rfl) rfl ?_ -- t6
                  refine WL.nil ?_
                  refine WC.region ?_
                  refine WL.y (Yl.move rfl) rfl ?_ -- t19
                  refine WL.y (Yl.add rfl rfl (IntWalk.i64_in _ (by omega))) rfl ?_ -- t20
                  refine WL.y (Yl.assign rfl) rfl ?_ -- t8
                  refine WL.nil ?_
                  refine ⟨rfl, (j + 1, q, (ao138, c138), gs ++ [g], G2), ⟨by dsimp only; omega, hqB, by dsimp only; rw [← take_snoc _ _ _ hfj, tks_snoc, ht]; dsimp only; rw [hst, List.map_append]; rfl, fun f' hf' => ?_⟩, by dsimp only; omega, (by repeat (first | exact Sub.nil | refine Sub.cons rfl ?_)), _, (by repeat (first | exact TakeL.nil | (apply TakeL.cons; · repeat (first | exact Take1.head | apply Take1.tail))))⟩
                  dsimp only at hf' ⊢
                  rcases List.mem_append.1 hf' with hf' | hf'
                  · exact ⟨(hp f' hf').1.mono hmono, (hp f' hf').2.mono hmono⟩
                  · rw [List.mem_singleton.1 hf']; exact ⟨hgb, hgl⟩
          · refine WC.seq ?_
            have hk5 : ¬ f.kind = 5 := by assumption
            have hk6 : ¬ f.kind = 6 := by assumption
            have hv8 := val_lt8 ((hB.drop o).take (wd f)) (by have := wd_le (f := f) (by simpa using g65); rw [List.length_take]; omega)
            refine WC.region ?_
            refine WL.y (Yl.move rfl) rfl ?_ -- t54
            refine WL.callC (xs := [.tmp 54]) (cap := []) rfl rfl en38 (by repeat (first | exact TakeL.nil | (apply TakeL.cons; · repeat (first | exact Take1.head | apply Take1.tail)))) (fun w hw => rof_any ((B.drop o).take (wd f)) ((hB.drop o).take _) (by have := wd_le (f := f) (by simpa using g65); rw [List.length_take]; omega) _ w (hw.src (A := []) (r := r) hr4 (by repeat (first | exact Take1.head | apply Take1.tail))) hw.left.here) rfl ?_ -- t55 hailer/hailerref08.of
            rintro ⟨⟩ -
            refine WL.y (Yl.field fo54_1 rfl) rfl ?_ -- t56
            refine WL.sto (Sto.one (cs' := (Fd.mk f.kind (val ((B.drop o).take (wd f))) none 0 [] none 0 [] f.most).cells) sz51 rfl rfl (by repeat (first | exact Take1.head | apply Take1.tail)) rfl (by rfl) rfl) (fun _ h => nomatch h) ?_
            refine WL.nil ?_
            refine WC.seq ?_
            refine WC.region ?_
            refine WL.y (Yl.field fo54_0 rfl) rfl ?_ -- t57
            refine WL.y (Yl.load on5 rfl (by repeat (first | exact Take1.head | apply Take1.tail)) (by rfl)) rfl ?_ -- t58
            refine WL.y (Yl.eql rfl rfl) rfl ?_ -- t59
            refine WL.y (Yl.move rfl) rfl ?_ -- t60
            refine WL.both (t := 60) rfl (fun g60 => ?_) (fun g60 => ?_)
            · refine WL.on rfl rfl ?_
              refine WL.y (Yl.field fo54_1 rfl) rfl ?_ -- t61
              refine WL.on rfl rfl ?_
              refine WL.y (Yl.load on51 rfl (by repeat (first | exact Take1.head | apply Take1.tail)) (by rfl)) rfl ?_ -- t62
              refine WL.on rfl rfl ?_
              refine WL.y (Yl.gtr rfl rfl) rfl ?_ -- t63
              refine WL.y (Yl.pickT rfl rfl) rfl ?_ -- t64
              refine WL.nil ?_
              refine WC.condD rfl (fun g64 => ?_) (fun g64 => ?_)
              · refine WC.seq ?_
                have hbad := tks_bad hfj (by rw [ht]) (by rw [ht]; exact tkF_flag hwl ⟨by simpa using g60, by simpa using g64⟩)
                refine WC.region ?_
                refine WL.y (Yl.assign rfl) rfl ?_ -- t4
                refine WL.y (Yl.assign rfl) rfl ?_ -- t5
                refine WL.nil ?_
                refine WC.ret ?_
                repeat (first | (with_reducible refine peelT ?_) | (with_reducible refine peelB ?_) | (with_reducible refine peelTX ?_) | (with_reducible refine peelBX ?_) | (with_reducible refine peelBN ?_) | (with_reducible refine peelBO rfl ?_))
                exact ret2 (.inr rfl) Try.results14 rfl rfl fun w' h => ⟨((none, 0), [], allR []), (fun q => by rw [hbad] at q; cases q), by rw [hbad]; rfl, (h.addNone).sub (by repeat (first | exact TakeL.nil | (apply TakeL.cons; · repeat (first | exact Take1.head | apply Take1.tail))))⟩
              · refine WC.skip ?_
                have hflag : ¬ (f.kind = 3 ∧ 1 < val ((B.drop o).take (wd f))) := by
                  rintro ⟨z1, z2⟩
                  first | exact absurd (by simpa using z2) (by simpa using g64) | exact absurd z1 (by simpa using g60)
                have hst : tkF f (B.drop o) false = ((Fd.mk f.kind (val ((B.drop o).take (wd f))) none 0 [] none 0 [] f.most).norm, B.drop (o + wd f), false) := by rw [tkF_num (hB.drop o) hwl (by simpa using g65) (by simpa using hk5) (by simpa using hk6) hflag, List.drop_drop]; rfl
                have hqB : o + wd f ≤ B.length := by omega
                obtain ⟨g, hg⟩ : ∃ g : Fd, (Fd.mk f.kind (val ((B.drop o).take (wd f))) none 0 [] none 0 [] f.most) = g := ⟨_, rfl⟩
                obtain ⟨G2, hG2⟩ : ∃ x, x = G := ⟨_, rfl⟩
                have hmono : ∀ w, (allR [r, G2]).ok w → (allR [r, G]).ok w := fun w h => by rw [hG2] at h; exact h
                have hgb : RdOf (allR [r, G2]) (.slice g.ba g.b.length g.bc) 1 g.b.length (ints .u8 g.b) := by rw [← hg]; exact RdOf.nothing
                have hgl : RdOf (allR [r, G2]) (.slice g.la g.l.length g.lc) 1 g.l.length (ints .u32 g.l) := by rw [← hg]; exact RdOf.nothing
                rw [hg] at hst ⊢
                subst hG2
                obtain ⟨q, hq⟩ : ∃ q : Nat, o + wd f = q := ⟨_, rfl⟩
                rw [hq] at hst hqB ⊢
                refine WC.region ?_
                refine WL.y (Yl.move rfl) rfl ?_ -- t135
                refine WL.y (Yl.loadN ag54 rfl (by repeat (first | exact Take1.head | apply Take1.tail)) (by rfl) (show _ = g.cells from rfl)) rfl ?_ -- t136
                refine WL.to (To.buildSlice (vs := [g.val]) un22 zs54 rfl rfl (by intro v hv; rw [List.mem_singleton.1 hv]; rfl) (by decide) (by decide)) rfl ?_ -- t137
                intro b137
                refine WL.to (To.append sl22 rfl rfl (by repeat (first | exact Take1.head | apply Take1.tail)) (Reads.of (RdOf.blk (size := 5) (n := 1) (cs := flat [g.val]) (cs' := g.cells) (Nat.le_refl _) (by unfold maxLen; omega) (Nat.le_refl _) rfl) (by repeat (first | exact Take1.head | apply Take1.tail))) g.ones (show gs.length + 1 = (gs ++ [g]).length by simp) (show vcs Fd.val gs ++ g.cells = vcs Fd.val (gs ++ [g]) by rw [vcs_app, vcs_one]; rfl) (by simp; unfold maxLen; omega) (by simp; omega)) rfl ?_ -- t138
                rintro ⟨⟨ao138, c138⟩, hc138⟩
                dsimp only at hc138 ⊢
                refine WL.y (Yl.assign rfl) rfl ?_ -- t6
                refine WL.nil ?_
                refine WC.region ?_
                refine WL.y (Yl.move rfl) rfl ?_ -- t19
                refine WL.y (Yl.add rfl rfl (IntWalk.i64_in _ (by omega))) rfl ?_ -- t20
                refine WL.y (Yl.assign rfl) rfl ?_ -- t8
                refine WL.nil ?_
                refine ⟨rfl, (j + 1, q, (ao138, c138), gs ++ [g], G2), ⟨by dsimp only; omega, hqB, by dsimp only; rw [← take_snoc _ _ _ hfj, tks_snoc, ht]; dsimp only; rw [hst, List.map_append]; rfl, fun f' hf' => ?_⟩, by dsimp only; omega, (by repeat (first | exact Sub.nil | refine Sub.cons rfl ?_)), _, (by repeat (first | exact TakeL.nil | (apply TakeL.cons; · repeat (first | exact Take1.head | apply Take1.tail))))⟩
                dsimp only at hf' ⊢
                rcases List.mem_append.1 hf' with hf' | hf'
                · exact ⟨(hp f' hf').1.mono hmono, (hp f' hf').2.mono hmono⟩
                · rw [List.mem_singleton.1 hf']; exact ⟨hgb, hgl⟩
            · refine WL.off rfl rfl rfl rfl ?_ -- t61
              refine WL.off rfl rfl rfl rfl ?_ -- t62
              refine WL.off rfl rfl rfl rfl ?_ -- t63
              refine WL.y (Yl.pickF rfl rfl) rfl ?_ -- t64
              refine WL.nil ?_
              refine WC.condF rfl (by first | rfl | (simp; done) | (simp; omega)) ?_
              refine WC.skip ?_
              have hflag : ¬ (f.kind = 3 ∧ 1 < val ((B.drop o).take (wd f))) := by
                rintro ⟨z1, z2⟩
                first | exact absurd (by simpa using z2) (by simpa using g64) | exact absurd z1 (by simpa using g60)
              have hst : tkF f (B.drop o) false = ((Fd.mk f.kind (val ((B.drop o).take (wd f))) none 0 [] none 0 [] f.most).norm, B.drop (o + wd f), false) := by rw [tkF_num (hB.drop o) hwl (by simpa using g65) (by simpa using hk5) (by simpa using hk6) hflag, List.drop_drop]; rfl
              have hqB : o + wd f ≤ B.length := by omega
              obtain ⟨g, hg⟩ : ∃ g : Fd, (Fd.mk f.kind (val ((B.drop o).take (wd f))) none 0 [] none 0 [] f.most) = g := ⟨_, rfl⟩
              obtain ⟨G2, hG2⟩ : ∃ x, x = G := ⟨_, rfl⟩
              have hmono : ∀ w, (allR [r, G2]).ok w → (allR [r, G]).ok w := fun w h => by rw [hG2] at h; exact h
              have hgb : RdOf (allR [r, G2]) (.slice g.ba g.b.length g.bc) 1 g.b.length (ints .u8 g.b) := by rw [← hg]; exact RdOf.nothing
              have hgl : RdOf (allR [r, G2]) (.slice g.la g.l.length g.lc) 1 g.l.length (ints .u32 g.l) := by rw [← hg]; exact RdOf.nothing
              rw [hg] at hst ⊢
              subst hG2
              obtain ⟨q, hq⟩ : ∃ q : Nat, o + wd f = q := ⟨_, rfl⟩
              rw [hq] at hst hqB ⊢
              refine WC.region ?_
              refine WL.y (Yl.move rfl) rfl ?_ -- t135
              refine WL.y (Yl.loadN ag54 rfl (by repeat (first | exact Take1.head | apply Take1.tail)) (by rfl) (show _ = g.cells from rfl)) rfl ?_ -- t136
              refine WL.to (To.buildSlice (vs := [g.val]) un22 zs54 rfl rfl (by intro v hv; rw [List.mem_singleton.1 hv]; rfl) (by decide) (by decide)) rfl ?_ -- t137
              intro b137
              refine WL.to (To.append sl22 rfl rfl (by repeat (first | exact Take1.head | apply Take1.tail)) (Reads.of (RdOf.blk (size := 5) (n := 1) (cs := flat [g.val]) (cs' := g.cells) (Nat.le_refl _) (by unfold maxLen; omega) (Nat.le_refl _) rfl) (by repeat (first | exact Take1.head | apply Take1.tail))) g.ones (show gs.length + 1 = (gs ++ [g]).length by simp) (show vcs Fd.val gs ++ g.cells = vcs Fd.val (gs ++ [g]) by rw [vcs_app, vcs_one]; rfl) (by simp; unfold maxLen; omega) (by simp; omega)) rfl ?_ -- t138
              rintro ⟨⟨ao138, c138⟩, hc138⟩
              dsimp only at hc138 ⊢
              refine WL.y (Yl.assign rfl) rfl ?_ -- t6
              refine WL.nil ?_
              refine WC.region ?_
              refine WL.y (Yl.move rfl) rfl ?_ -- t19
              refine WL.y (Yl.add rfl rfl (IntWalk.i64_in _ (by omega))) rfl ?_ -- t20
              refine WL.y (Yl.assign rfl) rfl ?_ -- t8
              refine WL.nil ?_
              refine ⟨rfl, (j + 1, q, (ao138, c138), gs ++ [g], G2), ⟨by dsimp only; omega, hqB, by dsimp only; rw [← take_snoc _ _ _ hfj, tks_snoc, ht]; dsimp only; rw [hst, List.map_append]; rfl, fun f' hf' => ?_⟩, by dsimp only; omega, (by repeat (first | exact Sub.nil | refine Sub.cons rfl ?_)), _, (by repeat (first | exact TakeL.nil | (apply TakeL.cons; · repeat (first | exact Take1.head | apply Take1.tail))))⟩
              dsimp only at hf' ⊢
              rcases List.mem_append.1 hf' with hf' | hf'
              · exact ⟨(hp f' hf').1.mono hmono, (hp f' hf').2.mono hmono⟩
              · rw [List.mem_singleton.1 hf']; exact ⟨hgb, hgl⟩
  · refine WC.exit ?_
    refine WC.seq ?_
    refine WC.region ?_
    refine WL.y (Yl.move rfl) rfl ?_ -- t139
    refine WL.y (Yl.move rfl) rfl ?_ -- t140
    refine WL.y (Yl.len un28 rfl) rfl ?_ -- t141
    refine WL.y (Yl.move rfl) rfl ?_ -- t142
    refine WL.y (Yl.sub rfl rfl (IntWalk.i64_in _ (by omega))) rfl ?_ -- t143
    refine WL.y (Yl.assign rfl) rfl ?_ -- t4
    refine WL.y (Yl.assign rfl) rfl ?_ -- t5
    refine WL.nil ?_
    refine WC.ret ?_
    repeat (first | (with_reducible refine peelT ?_) | (with_reducible refine peelB ?_) | (with_reducible refine peelTX ?_) | (with_reducible refine peelBX ?_) | (with_reducible refine peelBN ?_) | (with_reducible refine peelBO rfl ?_))
    have hj2 : j = fs.length := by omega
    subst hj2
    rw [List.take_length] at ht
    rw [ht]
    refine ret2 (.inr rfl) Try.results14 rfl rfl fun w' h => ⟨((ao2, co2), gs, allR [ownR (.slice ao2 gs.length co2) 54 5 gs.length (vcs Fd.val gs), r, G]), fun _ => ⟨⟨RdOf.all RdOf.own (List.mem_cons.2 (.inl rfl)), fun f hf => (hp f hf).1.mono ?_, fun f hf => (hp f hf).2.mono ?_⟩, rfl⟩, ?_, (h.join (A := [ownR (.slice ao2 gs.length co2) 54 5 gs.length (vcs Fd.val gs), r, G]) (by repeat (first | exact TakeL.nil | (apply TakeL.cons; · repeat (first | exact Take1.head | apply Take1.tail))))).sub (by repeat (first | exact TakeL.nil | (apply TakeL.cons; · repeat (first | exact Take1.head | apply Take1.tail))))⟩
    · exact fun w h q hq => h q (List.mem_cons_of_mem _ hq)
    · exact fun w h q hq => h q (List.mem_cons_of_mem _ hq)
    · dsimp only
      rw [List.length_drop, if_neg (by decide), show ((B.length - o : Nat) : Int) = (B.length : Int) - (o : Int) by omega]
end Go.Proofs.Ytahkaepmfnmhcaa

