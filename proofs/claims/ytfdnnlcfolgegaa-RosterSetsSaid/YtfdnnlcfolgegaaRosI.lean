/- Rosters: the laws' own walks: works. -/
import Derived.Test.YtfdnnlcfolgegaaRosH
namespace Go.Proofs.Ytfdnnlcfolgegaa
open Go Go.RowKit

def gid : List Int := 1 :: List.replicate 15 0
theorem rdDvs {b T n : Nat} {xs : List Dv} (h : xs.length = n) (hm : n ≤ maxLen) : RdOf (blkR b T (vcs Dv.val xs)) (.slice (some ⟨b, 0, none⟩) n n) 2 n (vcs Dv.val xs) := by
  subst h
  exact RdOf.blk (Nat.le_refl _) hm (by rw [dv_len]; omega) (by rw [List.drop_zero, List.take_of_length_le (by rw [dv_len]; omega)])
theorem gid_len : gid.length = 16 := rfl
theorem gid_b : ∀ x ∈ gid, 0 ≤ x ∧ x < 256 := by
  intro x hx
  simp [gid] at hx
  omega
theorem dok {a d : Int} (h : (decide (0 ≤ a) && decide (a < 256) && decide (0 ≤ d) && decide (d < 256)) = true) : (Dv.mk a d).ok := by
  simp only [Bool.and_eq_true, decide_eq_true_eq] at h
  exact ⟨⟨h.1.1.1, h.1.1.2⟩, h.1.2, h.2⟩
def kS : List Dv := [⟨0, 3⟩, ⟨1, 0⟩, ⟨1, 2⟩]
theorem k1_ok : DOk [⟨1, 2⟩] := fun x hx => by rw [List.mem_singleton.1 hx]; exact dok (by decide)
theorem k2_ok : DOk [⟨0, 3⟩, ⟨1, 0⟩] := fun x hx => by
  simp at hx
  rcases hx with rfl | rfl <;> exact dok (by decide)
theorem kS_ok : DOk kS := fun x hx => by
  simp [kS] at hx
  rcases hx with rfl | rfl | rfl <;> exact dok (by decide)
theorem rg_ok (e : Int) (h : 0 ≤ e ∧ e < 18446744073709551616) (v : Value) : (Rs.mk gid e v).ok := ⟨gid_len, gid_b, h⟩

theorem new_kn (w : World) (hw : OK w (fpL []) [] w) : Fn Try.prog 13 [.agg (ints .u8 gid).toArray, (Dv.mk 1 2).val] [] w IsSl (fun y => .tuple #[.agg (Rs.mk gid 1 y).cells.toArray, .int .i64 0]) (fun y => [ownR y 31 2 1 (vcs Dv.val [⟨1, 2⟩])]) :=
  new_any gid gid_len ⟨1, 2⟩ w hw
theorem kn_code : codeF true 1 [⟨1, 2⟩] [⟨0, 3⟩, ⟨1, 0⟩] = 0 := by decide
theorem kn_ms : outMs true 1 [⟨1, 2⟩] [⟨0, 3⟩, ⟨1, 0⟩] = kS := by decide
theorem with_kn (v lv : Value) (w : World) (hx : RdS w (fpL []) v 2 1 (vcs Dv.val [⟨1, 2⟩])) (hy : RdS w (fpL []) lv 2 2 (vcs Dv.val [⟨0, 3⟩, ⟨1, 0⟩])) (hw : OK w (fpL []) [] w) :
    Fn Try.prog 8 [.agg (Rs.mk gid 1 v).cells.toArray, lv] [] w IsSl (fun y => .tuple #[.agg (Rs.mk gid 2 y).cells.toArray, .int .i64 0]) (fun y => [ownR y 31 2 3 (vcs Dv.val kS)]) := by
  have h := with_any (Rs.mk gid 1 v) (rg_ok 1 (by omega) v) [⟨1, 2⟩] [⟨0, 3⟩, ⟨1, 0⟩] lv k1_ok k2_ok (by decide) w hx hy hw
  simp only [kn_ms, outRs, kn_code, if_true] at h
  refine Calls.mono h ?_
  rintro e w' ⟨x, a, b⟩
  exact ⟨x, a.sl, b⟩
/-- One device that cannot come, or go. -/
theorem with_bad (c : Int) (d : Dv) (hd : d.ok) (hc : codeF true 1 [⟨1, 2⟩] [d] = c) (h0 : c ≠ 0) (v lv : Value) (w : World) (hx : RdS w (fpL []) v 2 1 (vcs Dv.val [⟨1, 2⟩])) (hy : RdS w (fpL []) lv 2 1 (vcs Dv.val [d])) (hw : OK w (fpL []) [] w) :
    Fn Try.prog 8 [.agg (Rs.mk gid 1 v).cells.toArray, lv] [] w IsSl (fun y => .tuple #[.agg Rs.zero.cells.toArray, .int .i64 c]) (fun y => []) := by
  have h := with_any (Rs.mk gid 1 v) (rg_ok 1 (by omega) v) [⟨1, 2⟩] [d] lv k1_ok (fun x hx => by rw [List.mem_singleton.1 hx]; exact hd) (by simp) w hx hy hw
  simp only [outRs, hc, if_neg h0] at h
  refine Calls.mono h ?_
  rintro e w' ⟨x, a, b, d⟩
  exact ⟨x, a.sl, b, OK.drop (A := [_]) d⟩
theorem without_bad (c : Int) (d : Dv) (hd : d.ok) (hc : codeF false 1 [⟨1, 2⟩] [d] = c) (h0 : c ≠ 0) (v lv : Value) (w : World) (hx : RdS w (fpL []) v 2 1 (vcs Dv.val [⟨1, 2⟩])) (hy : RdS w (fpL []) lv 2 1 (vcs Dv.val [d])) (hw : OK w (fpL []) [] w) :
    Fn Try.prog 9 [.agg (Rs.mk gid 1 v).cells.toArray, lv] [] w IsSl (fun y => .tuple #[.agg Rs.zero.cells.toArray, .int .i64 c]) (fun y => []) := by
  have h := without_any (Rs.mk gid 1 v) (rg_ok 1 (by omega) v) [⟨1, 2⟩] [d] lv k1_ok (fun x hx => by rw [List.mem_singleton.1 hx]; exact hd) (by simp) w hx hy hw
  simp only [outRs, hc, if_neg h0] at h
  refine Calls.mono h ?_
  rintro e w' ⟨x, a, b, d⟩
  exact ⟨x, a.sl, b, OK.drop (A := [_]) d⟩
theorem rs18 {g : List Int} {e : Int} {v : Value} (hg : g.length = 16) : ((Rs.mk g e v).cells.drop 0).take 18 = (Rs.mk g e v).cells := by
  rw [List.drop_zero, List.take_of_length_le (by rw [Rs.len18 hg]; omega)]

set_option maxRecDepth 100000 in
theorem works_any (w : World) (hw : OK w (fpL []) [] w) : Fn Try.prog 27 [] [] w (fun _ : Unit => True) (fun _ => .bool true) (fun _ => []) := by
  refine enterF Try.func27 rfl Try.ntmps27 rfl hw ?_
  refine WC.seq ?_
  refine WC.region ?_
  refine WL.y (Yl.assign rfl) rfl ?_ -- t0
  refine WL.nil ?_
  refine WC.seq ?_
  refine WC.region ?_
  refine WL.y (Yl.build rfl (cs := ints .u8 gid) (fun _ => by kernel_rfl)) rfl ?_ -- t6
  refine WL.callC (xs := [_, _]) (cap := []) rfl rfl en28 (by repeat (first | exact TakeL.nil | (apply TakeL.cons; · repeat (first | exact Take1.head | apply Take1.tail)))) (fun w hw => mkdev_any 1 2 w hw.left.here) rfl ?_ -- t7 hailer/hailerlaw23.dev
  rintro ⟨⟩ -
  refine WL.callC (xs := [.tmp 6, .tmp 7]) (cap := []) rfl rfl en13 (by repeat (first | exact TakeL.nil | (apply TakeL.cons; · repeat (first | exact Take1.head | apply Take1.tail)))) (fun w hw => new_kn w hw.left.here) rfl ?_ -- t8 hailer/roster.New
  intro y8 hy8
  refine WL.y (Yl.move rfl) rfl ?_ -- t5
  refine WL.y (Yl.extract rfl rfl) rfl ?_ -- t9
  refine WL.y (Yl.extract rfl rfl) rfl ?_ -- t10
  refine WL.to (To.alloc (cs := Rs.zero.cells) zr27 rfl) rfl ?_ -- t1
  intro b1
  refine WL.sto (Sto.agg sz27 rfl rfl (by repeat (first | exact Take1.head | apply Take1.tail)) (Rs.one (sliceOne hy8)) rfl (by rfl) (Rs.put (r := Rs.zero) rfl)) (fun _ h => nomatch h) ?_ -- st 1
  refine WL.y (Yl.assign rfl) rfl ?_ -- t2
  refine WL.nil ?_
  refine WC.midE (α := Nat × Value) (fun z => [(3, .pointer (some ⟨z.1, 0, none⟩)), (4, .int .i64 0)]) (fun z => [blkR b1 27 (Rs.mk gid 1 y8).cells, blkR z.1 27 (Rs.mk gid 2 z.2).cells, ownR z.2 31 2 3 (vcs Dv.val kS)]) (fun z => IsSl z.2) ?_ ?_
  · refine WC.drawAny (Hs := [blkR b1 27 (Rs.mk gid 1 y8).cells]) mixed (by kernel_rfl) ⟨_, (by repeat (first | exact TakeL.nil | (apply TakeL.cons; · repeat (first | exact Take1.head | apply Take1.tail))))⟩ ?_
    refine WD.take 0 rfl (by kernel_rfl) (by kernel_rfl) (by kernel_rfl) rfl rfl (Yl.loadN ag27 rfl (by repeat (first | exact Take1.head | apply Take1.tail)) rfl (rs18 rfl)) rfl ?_ -- t12
    refine WD.two 1 8 (by kernel_rfl) ?_ ?_
    · refine WO.callC (xs := [_, _]) (cap := []) rfl .no rfl rfl en28 (by repeat (first | exact TakeL.nil | (apply TakeL.cons; · repeat (first | exact Take1.head | apply Take1.tail)))) (fun w hw => mkdev_any 0 3 w hw.left.here) rfl (fun _ => ⟨_, (by repeat (first | exact TakeL.nil | (apply TakeL.cons; · repeat (first | exact Take1.head | apply Take1.tail))))⟩) ?_ -- t13 hailer/hailerlaw23.dev
      rintro ⟨⟩ -
      refine WD.two 2 8 (by kernel_rfl) ?_ ?_
      · refine WO.callC (xs := [_, _]) (cap := []) rfl .no rfl rfl en28 (by repeat (first | exact TakeL.nil | (apply TakeL.cons; · repeat (first | exact Take1.head | apply Take1.tail)))) (fun w hw => mkdev_any 1 0 w hw.left.here) rfl (fun _ => ⟨_, (by repeat (first | exact TakeL.nil | (apply TakeL.cons; · repeat (first | exact Take1.head | apply Take1.tail))))⟩) ?_ -- t14 hailer/hailerlaw23.dev
        rintro ⟨⟩ -
        refine WD.two 3 8 (by kernel_rfl) ?_ ?_
        · refine WO.to rfl rfl .no (To.buildSlice (vs := [(Dv.mk 0 3).val, (Dv.mk 1 0).val]) un25 zs31 rfl rfl (by intro u hu; simp at hu; rcases hu with rfl | rfl <;> rfl) (by decide) (by decide)) rfl (fun _ => ⟨_, (by repeat (first | exact TakeL.nil | (apply TakeL.cons; · repeat (first | exact Take1.head | apply Take1.tail))))⟩) ?_ -- t15
          intro b15
          refine WD.two 4 8 (by kernel_rfl) ?_ ?_
          · refine WO.callC (xs := [.tmp 12, .tmp 15]) (cap := []) rfl .no rfl rfl en8 (by repeat (first | exact TakeL.nil | (apply TakeL.cons; · repeat (first | exact Take1.head | apply Take1.tail)))) (fun w hw => with_kn y8 _ w (hw.src (A := []) RdOf.own (by repeat (first | exact Take1.head | apply Take1.tail))) (hw.src (A := []) (rdDvs (xs := [⟨0, 3⟩, ⟨1, 0⟩]) rfl (by unfold maxLen; omega)) (by repeat (first | exact Take1.head | apply Take1.tail))) hw.left.here) rfl (fun _ => ⟨_, (by repeat (first | exact TakeL.nil | (apply TakeL.cons; · repeat (first | exact Take1.head | apply Take1.tail))))⟩) ?_ -- t16 hailer/roster.With
            intro y16 hy16
            refine WD.take 5 rfl (by kernel_rfl) (by kernel_rfl) (by kernel_rfl) rfl rfl (Yl.move rfl) rfl ?_ -- t11
            refine WD.take 6 rfl (by kernel_rfl) (by kernel_rfl) (by kernel_rfl) rfl rfl (Yl.extract rfl rfl) rfl ?_ -- t17
            refine WD.take 7 rfl (by kernel_rfl) (by kernel_rfl) (by kernel_rfl) rfl rfl (Yl.extract rfl rfl) rfl ?_ -- t18
            refine WD.one 8 (by kernel_rfl) ?_
            refine WO.to rfl rfl .no (To.alloc (cs := Rs.zero.cells) zr27 rfl) rfl (fun _ => ⟨_, (by repeat (first | exact TakeL.nil | (apply TakeL.cons; · repeat (first | exact Take1.head | apply Take1.tail))))⟩) ?_ -- t3
            intro b3
            refine WD.one 9 (by kernel_rfl) ?_
            refine WO.sto rfl rfl .no (Sto.agg sz27 rfl rfl (by repeat (first | exact Take1.head | apply Take1.tail)) (Rs.one (sliceOne hy16)) rfl (by rfl) (Rs.put (r := Rs.zero) rfl)) ⟨_, (by repeat (first | exact TakeL.nil | (apply TakeL.cons; · repeat (first | exact Take1.head | apply Take1.tail))))⟩ ?_ -- st 2
            refine WD.take 10 rfl (by kernel_rfl) (by kernel_rfl) (by kernel_rfl) rfl rfl (Yl.assign rfl) rfl ?_ -- t4
            refine WD.done (by kernel_rfl) ?_
            exact ⟨rfl, (b3, y16), hy16, (by repeat (first | exact Sub.nil | refine Sub.cons rfl ?_)), (by repeat (first | exact Sub.nil | refine Sub.cons rfl ?_)), _, (by repeat (first | exact TakeL.nil | (apply TakeL.cons; · repeat (first | exact Take1.head | apply Take1.tail))))⟩
          · refine WO.to rfl rfl .no (To.alloc (cs := Rs.zero.cells) zr27 rfl) rfl (fun _ => ⟨_, (by repeat (first | exact TakeL.nil | (apply TakeL.cons; · repeat (first | exact Take1.head | apply Take1.tail))))⟩) ?_ -- t3
            intro b3
            refine WD.one 4 (by kernel_rfl) ?_
            refine WO.callC (xs := [.tmp 12, .tmp 15]) (cap := []) rfl .no rfl rfl en8 (by repeat (first | exact TakeL.nil | (apply TakeL.cons; · repeat (first | exact Take1.head | apply Take1.tail)))) (fun w hw => with_kn y8 _ w (hw.src (A := []) RdOf.own (by repeat (first | exact Take1.head | apply Take1.tail))) (hw.src (A := []) (rdDvs (xs := [⟨0, 3⟩, ⟨1, 0⟩]) rfl (by unfold maxLen; omega)) (by repeat (first | exact Take1.head | apply Take1.tail))) hw.left.here) rfl (fun _ => ⟨_, (by repeat (first | exact TakeL.nil | (apply TakeL.cons; · repeat (first | exact Take1.head | apply Take1.tail))))⟩) ?_ -- t16 hailer/roster.With
            intro y16 hy16
            refine WD.take 5 rfl (by kernel_rfl) (by kernel_rfl) (by kernel_rfl) rfl rfl (Yl.move rfl) rfl ?_ -- t11
            refine WD.take 6 rfl (by kernel_rfl) (by kernel_rfl) (by kernel_rfl) rfl rfl (Yl.extract rfl rfl) rfl ?_ -- t17
            refine WD.take 7 rfl (by kernel_rfl) (by kernel_rfl) (by kernel_rfl) rfl rfl (Yl.extract rfl rfl) rfl ?_ -- t18
            refine WD.one 9 (by kernel_rfl) ?_
            refine WO.sto rfl rfl .no (Sto.agg sz27 rfl rfl (by repeat (first | exact Take1.head | apply Take1.tail)) (Rs.one (sliceOne hy16)) rfl (by rfl) (Rs.put (r := Rs.zero) rfl)) ⟨_, (by repeat (first | exact TakeL.nil | (apply TakeL.cons; · repeat (first | exact Take1.head | apply Take1.tail))))⟩ ?_ -- st 2
            refine WD.take 10 rfl (by kernel_rfl) (by kernel_rfl) (by kernel_rfl) rfl rfl (Yl.assign rfl) rfl ?_ -- t4
            refine WD.done (by kernel_rfl) ?_
            exact ⟨rfl, (b3, y16), hy16, (by repeat (first | exact Sub.nil | refine Sub.cons rfl ?_)), (by repeat (first | exact Sub.nil | refine Sub.cons rfl ?_)), _, (by repeat (first | exact TakeL.nil | (apply TakeL.cons; · repeat (first | exact Take1.head | apply Take1.tail))))⟩
        · refine WO.to rfl rfl .no (To.alloc (cs := Rs.zero.cells) zr27 rfl) rfl (fun _ => ⟨_, (by repeat (first | exact TakeL.nil | (apply TakeL.cons; · repeat (first | exact Take1.head | apply Take1.tail))))⟩) ?_ -- t3
          intro b3
          refine WD.one 3 (by kernel_rfl) ?_
          refine WO.to rfl rfl .no (To.buildSlice (vs := [(Dv.mk 0 3).val, (Dv.mk 1 0).val]) un25 zs31 rfl rfl (by intro u hu; simp at hu; rcases hu with rfl | rfl <;> rfl) (by decide) (by decide)) rfl (fun _ => ⟨_, (by repeat (first | exact TakeL.nil | (apply TakeL.cons; · repeat (first | exact Take1.head | apply Take1.tail))))⟩) ?_ -- t15
          intro b15
          refine WD.one 4 (by kernel_rfl) ?_
          refine WO.callC (xs := [.tmp 12, .tmp 15]) (cap := []) rfl .no rfl rfl en8 (by repeat (first | exact TakeL.nil | (apply TakeL.cons; · repeat (first | exact Take1.head | apply Take1.tail)))) (fun w hw => with_kn y8 _ w (hw.src (A := []) RdOf.own (by repeat (first | exact Take1.head | apply Take1.tail))) (hw.src (A := []) (rdDvs (xs := [⟨0, 3⟩, ⟨1, 0⟩]) rfl (by unfold maxLen; omega)) (by repeat (first | exact Take1.head | apply Take1.tail))) hw.left.here) rfl (fun _ => ⟨_, (by repeat (first | exact TakeL.nil | (apply TakeL.cons; · repeat (first | exact Take1.head | apply Take1.tail))))⟩) ?_ -- t16 hailer/roster.With
          intro y16 hy16
          refine WD.take 5 rfl (by kernel_rfl) (by kernel_rfl) (by kernel_rfl) rfl rfl (Yl.move rfl) rfl ?_ -- t11
          refine WD.take 6 rfl (by kernel_rfl) (by kernel_rfl) (by kernel_rfl) rfl rfl (Yl.extract rfl rfl) rfl ?_ -- t17
          refine WD.take 7 rfl (by kernel_rfl) (by kernel_rfl) (by kernel_rfl) rfl rfl (Yl.extract rfl rfl) rfl ?_ -- t18
          refine WD.one 9 (by kernel_rfl) ?_
          refine WO.sto rfl rfl .no (Sto.agg sz27 rfl rfl (by repeat (first | exact Take1.head | apply Take1.tail)) (Rs.one (sliceOne hy16)) rfl (by rfl) (Rs.put (r := Rs.zero) rfl)) ⟨_, (by repeat (first | exact TakeL.nil | (apply TakeL.cons; · repeat (first | exact Take1.head | apply Take1.tail))))⟩ ?_ -- st 2
          refine WD.take 10 rfl (by kernel_rfl) (by kernel_rfl) (by kernel_rfl) rfl rfl (Yl.assign rfl) rfl ?_ -- t4
          refine WD.done (by kernel_rfl) ?_
          exact ⟨rfl, (b3, y16), hy16, (by repeat (first | exact Sub.nil | refine Sub.cons rfl ?_)), (by repeat (first | exact Sub.nil | refine Sub.cons rfl ?_)), _, (by repeat (first | exact TakeL.nil | (apply TakeL.cons; · repeat (first | exact Take1.head | apply Take1.tail))))⟩
      · refine WO.to rfl rfl .no (To.alloc (cs := Rs.zero.cells) zr27 rfl) rfl (fun _ => ⟨_, (by repeat (first | exact TakeL.nil | (apply TakeL.cons; · repeat (first | exact Take1.head | apply Take1.tail))))⟩) ?_ -- t3
        intro b3
        refine WD.one 2 (by kernel_rfl) ?_
        refine WO.callC (xs := [_, _]) (cap := []) rfl .no rfl rfl en28 (by repeat (first | exact TakeL.nil | (apply TakeL.cons; · repeat (first | exact Take1.head | apply Take1.tail)))) (fun w hw => mkdev_any 1 0 w hw.left.here) rfl (fun _ => ⟨_, (by repeat (first | exact TakeL.nil | (apply TakeL.cons; · repeat (first | exact Take1.head | apply Take1.tail))))⟩) ?_ -- t14 hailer/hailerlaw23.dev
        rintro ⟨⟩ -
        refine WD.one 3 (by kernel_rfl) ?_
        refine WO.to rfl rfl .no (To.buildSlice (vs := [(Dv.mk 0 3).val, (Dv.mk 1 0).val]) un25 zs31 rfl rfl (by intro u hu; simp at hu; rcases hu with rfl | rfl <;> rfl) (by decide) (by decide)) rfl (fun _ => ⟨_, (by repeat (first | exact TakeL.nil | (apply TakeL.cons; · repeat (first | exact Take1.head | apply Take1.tail))))⟩) ?_ -- t15
        intro b15
        refine WD.one 4 (by kernel_rfl) ?_
        refine WO.callC (xs := [.tmp 12, .tmp 15]) (cap := []) rfl .no rfl rfl en8 (by repeat (first | exact TakeL.nil | (apply TakeL.cons; · repeat (first | exact Take1.head | apply Take1.tail)))) (fun w hw => with_kn y8 _ w (hw.src (A := []) RdOf.own (by repeat (first | exact Take1.head | apply Take1.tail))) (hw.src (A := []) (rdDvs (xs := [⟨0, 3⟩, ⟨1, 0⟩]) rfl (by unfold maxLen; omega)) (by repeat (first | exact Take1.head | apply Take1.tail))) hw.left.here) rfl (fun _ => ⟨_, (by repeat (first | exact TakeL.nil | (apply TakeL.cons; · repeat (first | exact Take1.head | apply Take1.tail))))⟩) ?_ -- t16 hailer/roster.With
        intro y16 hy16
        refine WD.take 5 rfl (by kernel_rfl) (by kernel_rfl) (by kernel_rfl) rfl rfl (Yl.move rfl) rfl ?_ -- t11
        refine WD.take 6 rfl (by kernel_rfl) (by kernel_rfl) (by kernel_rfl) rfl rfl (Yl.extract rfl rfl) rfl ?_ -- t17
        refine WD.take 7 rfl (by kernel_rfl) (by kernel_rfl) (by kernel_rfl) rfl rfl (Yl.extract rfl rfl) rfl ?_ -- t18
        refine WD.one 9 (by kernel_rfl) ?_
        refine WO.sto rfl rfl .no (Sto.agg sz27 rfl rfl (by repeat (first | exact Take1.head | apply Take1.tail)) (Rs.one (sliceOne hy16)) rfl (by rfl) (Rs.put (r := Rs.zero) rfl)) ⟨_, (by repeat (first | exact TakeL.nil | (apply TakeL.cons; · repeat (first | exact Take1.head | apply Take1.tail))))⟩ ?_ -- st 2
        refine WD.take 10 rfl (by kernel_rfl) (by kernel_rfl) (by kernel_rfl) rfl rfl (Yl.assign rfl) rfl ?_ -- t4
        refine WD.done (by kernel_rfl) ?_
        exact ⟨rfl, (b3, y16), hy16, (by repeat (first | exact Sub.nil | refine Sub.cons rfl ?_)), (by repeat (first | exact Sub.nil | refine Sub.cons rfl ?_)), _, (by repeat (first | exact TakeL.nil | (apply TakeL.cons; · repeat (first | exact Take1.head | apply Take1.tail))))⟩
    · refine WO.to rfl rfl .no (To.alloc (cs := Rs.zero.cells) zr27 rfl) rfl (fun _ => ⟨_, (by repeat (first | exact TakeL.nil | (apply TakeL.cons; · repeat (first | exact Take1.head | apply Take1.tail))))⟩) ?_ -- t3
      intro b3
      refine WD.one 1 (by kernel_rfl) ?_
      refine WO.callC (xs := [_, _]) (cap := []) rfl .no rfl rfl en28 (by repeat (first | exact TakeL.nil | (apply TakeL.cons; · repeat (first | exact Take1.head | apply Take1.tail)))) (fun w hw => mkdev_any 0 3 w hw.left.here) rfl (fun _ => ⟨_, (by repeat (first | exact TakeL.nil | (apply TakeL.cons; · repeat (first | exact Take1.head | apply Take1.tail))))⟩) ?_ -- t13 hailer/hailerlaw23.dev
      rintro ⟨⟩ -
      refine WD.one 2 (by kernel_rfl) ?_
      refine WO.callC (xs := [_, _]) (cap := []) rfl .no rfl rfl en28 (by repeat (first | exact TakeL.nil | (apply TakeL.cons; · repeat (first | exact Take1.head | apply Take1.tail)))) (fun w hw => mkdev_any 1 0 w hw.left.here) rfl (fun _ => ⟨_, (by repeat (first | exact TakeL.nil | (apply TakeL.cons; · repeat (first | exact Take1.head | apply Take1.tail))))⟩) ?_ -- t14 hailer/hailerlaw23.dev
      rintro ⟨⟩ -
      refine WD.one 3 (by kernel_rfl) ?_
      refine WO.to rfl rfl .no (To.buildSlice (vs := [(Dv.mk 0 3).val, (Dv.mk 1 0).val]) un25 zs31 rfl rfl (by intro u hu; simp at hu; rcases hu with rfl | rfl <;> rfl) (by decide) (by decide)) rfl (fun _ => ⟨_, (by repeat (first | exact TakeL.nil | (apply TakeL.cons; · repeat (first | exact Take1.head | apply Take1.tail))))⟩) ?_ -- t15
      intro b15
      refine WD.one 4 (by kernel_rfl) ?_
      refine WO.callC (xs := [.tmp 12, .tmp 15]) (cap := []) rfl .no rfl rfl en8 (by repeat (first | exact TakeL.nil | (apply TakeL.cons; · repeat (first | exact Take1.head | apply Take1.tail)))) (fun w hw => with_kn y8 _ w (hw.src (A := []) RdOf.own (by repeat (first | exact Take1.head | apply Take1.tail))) (hw.src (A := []) (rdDvs (xs := [⟨0, 3⟩, ⟨1, 0⟩]) rfl (by unfold maxLen; omega)) (by repeat (first | exact Take1.head | apply Take1.tail))) hw.left.here) rfl (fun _ => ⟨_, (by repeat (first | exact TakeL.nil | (apply TakeL.cons; · repeat (first | exact Take1.head | apply Take1.tail))))⟩) ?_ -- t16 hailer/roster.With
      intro y16 hy16
      refine WD.take 5 rfl (by kernel_rfl) (by kernel_rfl) (by kernel_rfl) rfl rfl (Yl.move rfl) rfl ?_ -- t11
      refine WD.take 6 rfl (by kernel_rfl) (by kernel_rfl) (by kernel_rfl) rfl rfl (Yl.extract rfl rfl) rfl ?_ -- t17
      refine WD.take 7 rfl (by kernel_rfl) (by kernel_rfl) (by kernel_rfl) rfl rfl (Yl.extract rfl rfl) rfl ?_ -- t18
      refine WD.one 9 (by kernel_rfl) ?_
      refine WO.sto rfl rfl .no (Sto.agg sz27 rfl rfl (by repeat (first | exact Take1.head | apply Take1.tail)) (Rs.one (sliceOne hy16)) rfl (by rfl) (Rs.put (r := Rs.zero) rfl)) ⟨_, (by repeat (first | exact TakeL.nil | (apply TakeL.cons; · repeat (first | exact Take1.head | apply Take1.tail))))⟩ ?_ -- st 2
      refine WD.take 10 rfl (by kernel_rfl) (by kernel_rfl) (by kernel_rfl) rfl rfl (Yl.assign rfl) rfl ?_ -- t4
      refine WD.done (by kernel_rfl) ?_
      exact ⟨rfl, (b3, y16), hy16, (by repeat (first | exact Sub.nil | refine Sub.cons rfl ?_)), (by repeat (first | exact Sub.nil | refine Sub.cons rfl ?_)), _, (by repeat (first | exact TakeL.nil | (apply TakeL.cons; · repeat (first | exact Take1.head | apply Take1.tail))))⟩
  · rintro ⟨b3, y16⟩ hy16
    dsimp only [List.cons_append, List.nil_append]
    refine WC.seq ?_
    refine WC.drawAny (Hs := [blkR b1 27 (Rs.mk gid 1 y8).cells, blkR b3 27 (Rs.mk gid 2 y16).cells]) mixed (by kernel_rfl) ⟨_, (by repeat (first | exact TakeL.nil | (apply TakeL.cons; · repeat (first | exact Take1.head | apply Take1.tail))))⟩ ?_
    refine WD.take 0 rfl (by kernel_rfl) (by kernel_rfl) (by kernel_rfl) rfl rfl (Yl.move rfl) rfl ?_ -- t19
    refine WD.take 1 rfl (by kernel_rfl) (by kernel_rfl) (by kernel_rfl) rfl rfl (Yl.eql rfl rfl) rfl ?_ -- t20
    refine WD.know (t := 20) (b' := true) rfl (by first | rfl | (simp; done) | (simp; omega)) ?_
    refine WD.take 2 rfl (by kernel_rfl) (by kernel_rfl) (by kernel_rfl) rfl rfl (Yl.move rfl) rfl ?_ -- t21
    refine WD.takeOn 3 rfl (by kernel_rfl) (by kernel_rfl) (by kernel_rfl) rfl rfl rfl rfl (Yl.field fo27_1 rfl) rfl ?_ -- t22
    refine WD.takeOn 4 rfl (by kernel_rfl) (by kernel_rfl) (by kernel_rfl) rfl rfl rfl rfl (Yl.load on24 rfl (by repeat (first | exact Take1.head | apply Take1.tail)) (by rfl)) rfl ?_ -- t23
    refine WD.takeOn 5 rfl (by kernel_rfl) (by kernel_rfl) (by kernel_rfl) rfl rfl rfl rfl (Yl.eql rfl rfl) rfl ?_ -- t24
    refine WD.know (t := 24) (b' := true) rfl (by first | rfl | (simp; done) | (simp; omega)) ?_
    refine WD.take 6 rfl (by kernel_rfl) (by kernel_rfl) (by kernel_rfl) rfl rfl (Yl.pickT rfl rfl) rfl ?_ -- t25
    refine WD.take 7 rfl (by kernel_rfl) (by kernel_rfl) (by kernel_rfl) rfl rfl (Yl.move rfl) rfl ?_ -- t26
    refine WD.takeOn 8 rfl (by kernel_rfl) (by kernel_rfl) (by kernel_rfl) rfl rfl rfl rfl (Yl.move rfl) rfl ?_ -- t27
    refine WD.takeOn 9 rfl (by kernel_rfl) (by kernel_rfl) (by kernel_rfl) rfl rfl rfl rfl (Yl.eql rfl rfl) rfl ?_ -- t28
    refine WD.know (t := 28) (b' := true) rfl (by first | rfl | (simp; done) | (simp; omega)) ?_
    refine WD.take 10 rfl (by kernel_rfl) (by kernel_rfl) (by kernel_rfl) rfl rfl (Yl.pickT rfl rfl) rfl ?_ -- t29
    refine WD.take 11 rfl (by kernel_rfl) (by kernel_rfl) (by kernel_rfl) rfl rfl (Yl.move rfl) rfl ?_ -- t30
    refine WD.takeOn 12 rfl (by kernel_rfl) (by kernel_rfl) (by kernel_rfl) rfl rfl rfl rfl (Yl.loadN ag27 rfl (by repeat (first | exact Take1.head | apply Take1.tail)) rfl (rs18 rfl)) rfl ?_ -- t31
    refine WD.takeOn 13 rfl (by kernel_rfl) (by kernel_rfl) (by kernel_rfl) rfl rfl rfl rfl (Yl.build rfl (cs := ints .u8 gid) (fun _ => by kernel_rfl)) rfl ?_ -- t32
    refine WD.one 14 (by kernel_rfl) ?_
    refine WO.callC (xs := [_, _]) (cap := []) rfl (.on rfl rfl) rfl rfl en28 (by repeat (first | exact TakeL.nil | (apply TakeL.cons; · repeat (first | exact Take1.head | apply Take1.tail)))) (fun w hw => mkdev_any 0 3 w hw.left.here) rfl (fun _ => ⟨_, (by repeat (first | exact TakeL.nil | (apply TakeL.cons; · repeat (first | exact Take1.head | apply Take1.tail))))⟩) ?_ -- t33 hailer/hailerlaw23.dev
    rintro ⟨⟩ -
    refine WD.one 15 (by kernel_rfl) ?_
    refine WO.callC (xs := [_, _]) (cap := []) rfl (.on rfl rfl) rfl rfl en28 (by repeat (first | exact TakeL.nil | (apply TakeL.cons; · repeat (first | exact Take1.head | apply Take1.tail)))) (fun w hw => mkdev_any 1 0 w hw.left.here) rfl (fun _ => ⟨_, (by repeat (first | exact TakeL.nil | (apply TakeL.cons; · repeat (first | exact Take1.head | apply Take1.tail))))⟩) ?_ -- t34 hailer/hailerlaw23.dev
    rintro ⟨⟩ -
    refine WD.one 16 (by kernel_rfl) ?_
    refine WO.callC (xs := [_, _]) (cap := []) rfl (.on rfl rfl) rfl rfl en28 (by repeat (first | exact TakeL.nil | (apply TakeL.cons; · repeat (first | exact Take1.head | apply Take1.tail)))) (fun w hw => mkdev_any 1 2 w hw.left.here) rfl (fun _ => ⟨_, (by repeat (first | exact TakeL.nil | (apply TakeL.cons; · repeat (first | exact Take1.head | apply Take1.tail))))⟩) ?_ -- t35 hailer/hailerlaw23.dev
    rintro ⟨⟩ -
    refine WD.one 17 (by kernel_rfl) ?_
    refine WO.to rfl rfl (.on rfl rfl) (To.buildSlice (vs := [(Dv.mk 0 3).val, (Dv.mk 1 0).val, (Dv.mk 1 2).val]) un25 zs31 rfl rfl (by intro u hu; simp at hu; rcases hu with rfl | rfl | rfl <;> rfl) (by decide) (by decide)) rfl (fun _ => ⟨_, (by repeat (first | exact TakeL.nil | (apply TakeL.cons; · repeat (first | exact Take1.head | apply Take1.tail))))⟩) ?_ -- t36
    intro b36
    refine WD.takeOn 18 rfl (by kernel_rfl) (by kernel_rfl) (by kernel_rfl) rfl rfl rfl rfl (Yl.build rfl (cs := (Rs.mk gid 2 (.slice (some ⟨b36, 0, none⟩) 3 3)).cells) (build_ro gid_len _ _ ⟨_, _, _, rfl⟩)) rfl ?_ -- t37
    refine WD.one 19 (by kernel_rfl) ?_
    refine WO.callC (xs := [.tmp 31, .tmp 37]) (cap := []) rfl (.on rfl rfl) rfl rfl en11 (by repeat (first | exact TakeL.nil | (apply TakeL.cons; · repeat (first | exact Take1.head | apply Take1.tail)))) (fun w hw => same_any (Rs.mk gid 2 y16) (Rs.mk gid 2 (.slice (some ⟨b36, 0, none⟩) 3 3)) kS kS (rg_ok 2 (by omega) _) (rg_ok 2 (by omega) _) (by decide) kS_ok kS_ok w (hw.src (A := []) RdOf.own (by repeat (first | exact Take1.head | apply Take1.tail))) (hw.src (A := []) (rdDvs (xs := kS) rfl (by unfold maxLen; omega)) (by repeat (first | exact Take1.head | apply Take1.tail))) hw.left.here) rfl (fun _ => ⟨_, (by repeat (first | exact TakeL.nil | (apply TakeL.cons; · repeat (first | exact Take1.head | apply Take1.tail))))⟩) ?_ -- t38 hailer/hailerref23.Same
    rintro ⟨⟩ -
    refine WD.know (t := 38) (b' := true) rfl (by first | rfl | (simp; done) | (simp; omega)) ?_
    refine WD.take 20 rfl (by kernel_rfl) (by kernel_rfl) (by kernel_rfl) rfl rfl (Yl.pickT rfl rfl) rfl ?_ -- t39
    refine WD.take 21 rfl (by kernel_rfl) (by kernel_rfl) (by kernel_rfl) rfl rfl (Yl.assign rfl) rfl ?_ -- t0
    refine WD.done (by kernel_rfl) ?_
    refine WC.ret ?_
    repeat (first | (with_reducible refine peelT ?_) | (with_reducible refine peelB ?_) | (with_reducible refine peelTX ?_) | (with_reducible refine peelBX ?_) | (with_reducible refine peelBN ?_) | (with_reducible refine peelBO rfl ?_))
    exact ret1 (.inr rfl) Try.results27 rfl fun w' h => ⟨(), trivial, rfl, h.sub (by repeat (first | exact TakeL.nil | (apply TakeL.cons; · repeat (first | exact Take1.head | apply Take1.tail))))⟩
end Go.Proofs.Ytfdnnlcfolgegaa
