/- Rosters: the laws' own walks: known. -/
import Derived.Test.YtfdnnlcfolgegaaRosI
namespace Go.Proofs.Ytfdnnlcfolgegaa
open Go Go.RowKit

theorem fol_kn (v u : Value) : folF (Rs.mk gid 1 v) (Rs.mk gid 2 u) [⟨1, 2⟩] kS = true := by unfold folF; dsimp only; rfl
theorem fol_kn2 (v u : Value) : folF (Rs.mk gid 2 v) (Rs.mk gid 1 u) kS [⟨1, 2⟩] = false := by unfold folF; dsimp only; rfl
theorem new_bad (w : World) (hw : OK w (fpL []) [] w) : Fn Try.prog 13 [.agg (ints .u8 (List.replicate 16 0)).toArray, (Dv.mk 0 4).val] [] w IsSl (fun y => .tuple #[.agg Rs.zero.cells.toArray, .int .i64 2]) (fun y => [ownR y 31 2 0 (vcs Dv.val [])]) :=
  new_any (List.replicate 16 0) rfl ⟨0, 4⟩ w hw
theorem dev1 {b T : Nat} {d : Dv} : RdOf (blkR b T (flat [d.val])) (.slice (some ⟨b, 0, none⟩) 1 1) 2 1 (vcs Dv.val [d]) := rdDvs (xs := [d]) rfl (by unfold maxLen; omega)

set_option maxRecDepth 100000 in
theorem known_any (w : World) (hw : OK w (fpL []) [] w) : Fn Try.prog 6 [] [] w (fun _ : Unit => True) (fun _ => .bool true) (fun _ => []) := by
  refine enterF Try.func6 rfl Try.ntmps6 rfl hw ?_
  refine WC.seq ?_
  refine WC.region ?_
  refine WL.y (Yl.assign rfl) rfl ?_ -- t0
  refine WL.nil ?_
  refine WC.seq ?_
  refine WC.seq ?_
  refine WC.region ?_
  refine WL.callC (xs := []) (cap := []) rfl rfl en27 (by repeat (first | exact TakeL.nil | (apply TakeL.cons; · repeat (first | exact Take1.head | apply Take1.tail)))) (fun w hw => works_any w hw.left.here) rfl ?_ -- t17 hailer/hailerlaw23.works
  rintro ⟨⟩ -
  refine WL.y (Yl.not rfl) rfl ?_ -- t18
  refine WL.know (t := 18) (b' := false) rfl (by first | rfl | (simp; done) | (simp; omega)) ?_
  refine WL.nil ?_
  refine WC.condF rfl (by first | rfl | (simp; done) | (simp; omega)) ?_
  refine WC.skip ?_
  refine WC.seq ?_
  refine WC.region ?_
  refine WL.y (Yl.build rfl (cs := ints .u8 gid) (fun _ => by kernel_rfl)) rfl ?_ -- t20
  refine WL.callC (xs := [_, _]) (cap := []) rfl rfl en28 (by repeat (first | exact TakeL.nil | (apply TakeL.cons; · repeat (first | exact Take1.head | apply Take1.tail)))) (fun w hw => mkdev_any 1 2 w hw.left.here) rfl ?_ -- t21 hailer/hailerlaw23.dev
  rintro ⟨⟩ -
  refine WL.callC (xs := [.tmp 20, .tmp 21]) (cap := []) rfl rfl en13 (by repeat (first | exact TakeL.nil | (apply TakeL.cons; · repeat (first | exact Take1.head | apply Take1.tail)))) (fun w hw => new_kn w hw.left.here) rfl ?_ -- t22 hailer/roster.New
  intro y22 hy22
  refine WL.y (Yl.move rfl) rfl ?_ -- t19
  refine WL.y (Yl.extract rfl rfl) rfl ?_ -- t23
  refine WL.y (Yl.extract rfl rfl) rfl ?_ -- t24
  refine WL.to (To.alloc (cs := Rs.zero.cells) zr27 rfl) rfl ?_ -- t1
  intro b1
  refine WL.sto (Sto.agg sz27 rfl rfl (by repeat (first | exact Take1.head | apply Take1.tail)) (Rs.one (sliceOne hy22)) rfl (by rfl) (Rs.put (r := Rs.zero) rfl)) (fun _ h => nomatch h) ?_ -- st 1
  refine WL.y (Yl.assign rfl) rfl ?_ -- t2
  refine WL.nil ?_
  refine WC.midE (α := Nat × Value) (fun z => [(3, .pointer (some ⟨z.1, 0, none⟩)), (4, .int .i64 0)]) (fun z => [blkR b1 27 (Rs.mk gid 1 y22).cells, blkR z.1 27 (Rs.mk gid 2 z.2).cells, ownR y22 31 2 1 (vcs Dv.val [⟨1, 2⟩]), ownR z.2 31 2 3 (vcs Dv.val kS)]) (fun z => IsSl z.2) ?_ ?_
  · refine WC.drawAny (Hs := [blkR b1 27 (Rs.mk gid 1 y22).cells]) mixed (by kernel_rfl) ⟨_, (by repeat (first | exact TakeL.nil | (apply TakeL.cons; · repeat (first | exact Take1.head | apply Take1.tail))))⟩ ?_
    refine WD.take 0 rfl (by kernel_rfl) (by kernel_rfl) (by kernel_rfl) rfl rfl (Yl.loadN ag27 rfl (by repeat (first | exact Take1.head | apply Take1.tail)) rfl (rs18 rfl)) rfl ?_ -- t26
    refine WD.two 1 8 (by kernel_rfl) ?_ ?_
    · refine WO.callC (xs := [_, _]) (cap := []) rfl .no rfl rfl en28 (by repeat (first | exact TakeL.nil | (apply TakeL.cons; · repeat (first | exact Take1.head | apply Take1.tail)))) (fun w hw => mkdev_any 0 3 w hw.left.here) rfl (fun _ => ⟨_, (by repeat (first | exact TakeL.nil | (apply TakeL.cons; · repeat (first | exact Take1.head | apply Take1.tail))))⟩) ?_ -- t27 hailer/hailerlaw23.dev
      rintro ⟨⟩ -
      refine WD.two 2 8 (by kernel_rfl) ?_ ?_
      · refine WO.callC (xs := [_, _]) (cap := []) rfl .no rfl rfl en28 (by repeat (first | exact TakeL.nil | (apply TakeL.cons; · repeat (first | exact Take1.head | apply Take1.tail)))) (fun w hw => mkdev_any 1 0 w hw.left.here) rfl (fun _ => ⟨_, (by repeat (first | exact TakeL.nil | (apply TakeL.cons; · repeat (first | exact Take1.head | apply Take1.tail))))⟩) ?_ -- t28 hailer/hailerlaw23.dev
        rintro ⟨⟩ -
        refine WD.two 3 8 (by kernel_rfl) ?_ ?_
        · refine WO.to rfl rfl .no (To.buildSlice (vs := [(Dv.mk 0 3).val, (Dv.mk 1 0).val]) un25 zs31 rfl rfl (by intro u hu; simp at hu; rcases hu with rfl | rfl <;> rfl) (by decide) (by decide)) rfl (fun _ => ⟨_, (by repeat (first | exact TakeL.nil | (apply TakeL.cons; · repeat (first | exact Take1.head | apply Take1.tail))))⟩) ?_ -- t29
          intro b29
          refine WD.two 4 8 (by kernel_rfl) ?_ ?_
          · refine WO.callC (xs := [.tmp 26, .tmp 29]) (cap := []) rfl .no rfl rfl en8 (by repeat (first | exact TakeL.nil | (apply TakeL.cons; · repeat (first | exact Take1.head | apply Take1.tail)))) (fun w hw => with_kn y22 _ w (hw.src (A := []) RdOf.own (by repeat (first | exact Take1.head | apply Take1.tail))) (hw.src (A := []) (rdDvs (xs := [⟨0, 3⟩, ⟨1, 0⟩]) rfl (by unfold maxLen; omega)) (by repeat (first | exact Take1.head | apply Take1.tail))) hw.left.here) rfl (fun _ => ⟨_, (by repeat (first | exact TakeL.nil | (apply TakeL.cons; · repeat (first | exact Take1.head | apply Take1.tail))))⟩) ?_ -- t30 hailer/roster.With
            intro y30 hy30
            refine WD.take 5 rfl (by kernel_rfl) (by kernel_rfl) (by kernel_rfl) rfl rfl (Yl.move rfl) rfl ?_ -- t25
            refine WD.take 6 rfl (by kernel_rfl) (by kernel_rfl) (by kernel_rfl) rfl rfl (Yl.extract rfl rfl) rfl ?_ -- t31
            refine WD.take 7 rfl (by kernel_rfl) (by kernel_rfl) (by kernel_rfl) rfl rfl (Yl.extract rfl rfl) rfl ?_ -- t32
            refine WD.one 8 (by kernel_rfl) ?_
            refine WO.to rfl rfl .no (To.alloc (cs := Rs.zero.cells) zr27 rfl) rfl (fun _ => ⟨_, (by repeat (first | exact TakeL.nil | (apply TakeL.cons; · repeat (first | exact Take1.head | apply Take1.tail))))⟩) ?_ -- t3
            intro b3
            refine WD.one 9 (by kernel_rfl) ?_
            refine WO.sto rfl rfl .no (Sto.agg sz27 rfl rfl (by repeat (first | exact Take1.head | apply Take1.tail)) (Rs.one (sliceOne hy30)) rfl (by rfl) (Rs.put (r := Rs.zero) rfl)) ⟨_, (by repeat (first | exact TakeL.nil | (apply TakeL.cons; · repeat (first | exact Take1.head | apply Take1.tail))))⟩ ?_ -- st 2
            refine WD.take 10 rfl (by kernel_rfl) (by kernel_rfl) (by kernel_rfl) rfl rfl (Yl.assign rfl) rfl ?_ -- t4
            refine WD.done (by kernel_rfl) ?_
            exact ⟨rfl, (b3, y30), hy30, (by repeat (first | exact Sub.nil | refine Sub.cons rfl ?_)), (by repeat (first | exact Sub.nil | refine Sub.cons rfl ?_)), _, (by repeat (first | exact TakeL.nil | (apply TakeL.cons; · repeat (first | exact Take1.head | apply Take1.tail))))⟩
          · refine WO.to rfl rfl .no (To.alloc (cs := Rs.zero.cells) zr27 rfl) rfl (fun _ => ⟨_, (by repeat (first | exact TakeL.nil | (apply TakeL.cons; · repeat (first | exact Take1.head | apply Take1.tail))))⟩) ?_ -- t3
            intro b3
            refine WD.one 4 (by kernel_rfl) ?_
            refine WO.callC (xs := [.tmp 26, .tmp 29]) (cap := []) rfl .no rfl rfl en8 (by repeat (first | exact TakeL.nil | (apply TakeL.cons; · repeat (first | exact Take1.head | apply Take1.tail)))) (fun w hw => with_kn y22 _ w (hw.src (A := []) RdOf.own (by repeat (first | exact Take1.head | apply Take1.tail))) (hw.src (A := []) (rdDvs (xs := [⟨0, 3⟩, ⟨1, 0⟩]) rfl (by unfold maxLen; omega)) (by repeat (first | exact Take1.head | apply Take1.tail))) hw.left.here) rfl (fun _ => ⟨_, (by repeat (first | exact TakeL.nil | (apply TakeL.cons; · repeat (first | exact Take1.head | apply Take1.tail))))⟩) ?_ -- t30 hailer/roster.With
            intro y30 hy30
            refine WD.take 5 rfl (by kernel_rfl) (by kernel_rfl) (by kernel_rfl) rfl rfl (Yl.move rfl) rfl ?_ -- t25
            refine WD.take 6 rfl (by kernel_rfl) (by kernel_rfl) (by kernel_rfl) rfl rfl (Yl.extract rfl rfl) rfl ?_ -- t31
            refine WD.take 7 rfl (by kernel_rfl) (by kernel_rfl) (by kernel_rfl) rfl rfl (Yl.extract rfl rfl) rfl ?_ -- t32
            refine WD.one 9 (by kernel_rfl) ?_
            refine WO.sto rfl rfl .no (Sto.agg sz27 rfl rfl (by repeat (first | exact Take1.head | apply Take1.tail)) (Rs.one (sliceOne hy30)) rfl (by rfl) (Rs.put (r := Rs.zero) rfl)) ⟨_, (by repeat (first | exact TakeL.nil | (apply TakeL.cons; · repeat (first | exact Take1.head | apply Take1.tail))))⟩ ?_ -- st 2
            refine WD.take 10 rfl (by kernel_rfl) (by kernel_rfl) (by kernel_rfl) rfl rfl (Yl.assign rfl) rfl ?_ -- t4
            refine WD.done (by kernel_rfl) ?_
            exact ⟨rfl, (b3, y30), hy30, (by repeat (first | exact Sub.nil | refine Sub.cons rfl ?_)), (by repeat (first | exact Sub.nil | refine Sub.cons rfl ?_)), _, (by repeat (first | exact TakeL.nil | (apply TakeL.cons; · repeat (first | exact Take1.head | apply Take1.tail))))⟩
        · refine WO.to rfl rfl .no (To.alloc (cs := Rs.zero.cells) zr27 rfl) rfl (fun _ => ⟨_, (by repeat (first | exact TakeL.nil | (apply TakeL.cons; · repeat (first | exact Take1.head | apply Take1.tail))))⟩) ?_ -- t3
          intro b3
          refine WD.one 3 (by kernel_rfl) ?_
          refine WO.to rfl rfl .no (To.buildSlice (vs := [(Dv.mk 0 3).val, (Dv.mk 1 0).val]) un25 zs31 rfl rfl (by intro u hu; simp at hu; rcases hu with rfl | rfl <;> rfl) (by decide) (by decide)) rfl (fun _ => ⟨_, (by repeat (first | exact TakeL.nil | (apply TakeL.cons; · repeat (first | exact Take1.head | apply Take1.tail))))⟩) ?_ -- t29
          intro b29
          refine WD.one 4 (by kernel_rfl) ?_
          refine WO.callC (xs := [.tmp 26, .tmp 29]) (cap := []) rfl .no rfl rfl en8 (by repeat (first | exact TakeL.nil | (apply TakeL.cons; · repeat (first | exact Take1.head | apply Take1.tail)))) (fun w hw => with_kn y22 _ w (hw.src (A := []) RdOf.own (by repeat (first | exact Take1.head | apply Take1.tail))) (hw.src (A := []) (rdDvs (xs := [⟨0, 3⟩, ⟨1, 0⟩]) rfl (by unfold maxLen; omega)) (by repeat (first | exact Take1.head | apply Take1.tail))) hw.left.here) rfl (fun _ => ⟨_, (by repeat (first | exact TakeL.nil | (apply TakeL.cons; · repeat (first | exact Take1.head | apply Take1.tail))))⟩) ?_ -- t30 hailer/roster.With
          intro y30 hy30
          refine WD.take 5 rfl (by kernel_rfl) (by kernel_rfl) (by kernel_rfl) rfl rfl (Yl.move rfl) rfl ?_ -- t25
          refine WD.take 6 rfl (by kernel_rfl) (by kernel_rfl) (by kernel_rfl) rfl rfl (Yl.extract rfl rfl) rfl ?_ -- t31
          refine WD.take 7 rfl (by kernel_rfl) (by kernel_rfl) (by kernel_rfl) rfl rfl (Yl.extract rfl rfl) rfl ?_ -- t32
          refine WD.one 9 (by kernel_rfl) ?_
          refine WO.sto rfl rfl .no (Sto.agg sz27 rfl rfl (by repeat (first | exact Take1.head | apply Take1.tail)) (Rs.one (sliceOne hy30)) rfl (by rfl) (Rs.put (r := Rs.zero) rfl)) ⟨_, (by repeat (first | exact TakeL.nil | (apply TakeL.cons; · repeat (first | exact Take1.head | apply Take1.tail))))⟩ ?_ -- st 2
          refine WD.take 10 rfl (by kernel_rfl) (by kernel_rfl) (by kernel_rfl) rfl rfl (Yl.assign rfl) rfl ?_ -- t4
          refine WD.done (by kernel_rfl) ?_
          exact ⟨rfl, (b3, y30), hy30, (by repeat (first | exact Sub.nil | refine Sub.cons rfl ?_)), (by repeat (first | exact Sub.nil | refine Sub.cons rfl ?_)), _, (by repeat (first | exact TakeL.nil | (apply TakeL.cons; · repeat (first | exact Take1.head | apply Take1.tail))))⟩
      · refine WO.to rfl rfl .no (To.alloc (cs := Rs.zero.cells) zr27 rfl) rfl (fun _ => ⟨_, (by repeat (first | exact TakeL.nil | (apply TakeL.cons; · repeat (first | exact Take1.head | apply Take1.tail))))⟩) ?_ -- t3
        intro b3
        refine WD.one 2 (by kernel_rfl) ?_
        refine WO.callC (xs := [_, _]) (cap := []) rfl .no rfl rfl en28 (by repeat (first | exact TakeL.nil | (apply TakeL.cons; · repeat (first | exact Take1.head | apply Take1.tail)))) (fun w hw => mkdev_any 1 0 w hw.left.here) rfl (fun _ => ⟨_, (by repeat (first | exact TakeL.nil | (apply TakeL.cons; · repeat (first | exact Take1.head | apply Take1.tail))))⟩) ?_ -- t28 hailer/hailerlaw23.dev
        rintro ⟨⟩ -
        refine WD.one 3 (by kernel_rfl) ?_
        refine WO.to rfl rfl .no (To.buildSlice (vs := [(Dv.mk 0 3).val, (Dv.mk 1 0).val]) un25 zs31 rfl rfl (by intro u hu; simp at hu; rcases hu with rfl | rfl <;> rfl) (by decide) (by decide)) rfl (fun _ => ⟨_, (by repeat (first | exact TakeL.nil | (apply TakeL.cons; · repeat (first | exact Take1.head | apply Take1.tail))))⟩) ?_ -- t29
        intro b29
        refine WD.one 4 (by kernel_rfl) ?_
        refine WO.callC (xs := [.tmp 26, .tmp 29]) (cap := []) rfl .no rfl rfl en8 (by repeat (first | exact TakeL.nil | (apply TakeL.cons; · repeat (first | exact Take1.head | apply Take1.tail)))) (fun w hw => with_kn y22 _ w (hw.src (A := []) RdOf.own (by repeat (first | exact Take1.head | apply Take1.tail))) (hw.src (A := []) (rdDvs (xs := [⟨0, 3⟩, ⟨1, 0⟩]) rfl (by unfold maxLen; omega)) (by repeat (first | exact Take1.head | apply Take1.tail))) hw.left.here) rfl (fun _ => ⟨_, (by repeat (first | exact TakeL.nil | (apply TakeL.cons; · repeat (first | exact Take1.head | apply Take1.tail))))⟩) ?_ -- t30 hailer/roster.With
        intro y30 hy30
        refine WD.take 5 rfl (by kernel_rfl) (by kernel_rfl) (by kernel_rfl) rfl rfl (Yl.move rfl) rfl ?_ -- t25
        refine WD.take 6 rfl (by kernel_rfl) (by kernel_rfl) (by kernel_rfl) rfl rfl (Yl.extract rfl rfl) rfl ?_ -- t31
        refine WD.take 7 rfl (by kernel_rfl) (by kernel_rfl) (by kernel_rfl) rfl rfl (Yl.extract rfl rfl) rfl ?_ -- t32
        refine WD.one 9 (by kernel_rfl) ?_
        refine WO.sto rfl rfl .no (Sto.agg sz27 rfl rfl (by repeat (first | exact Take1.head | apply Take1.tail)) (Rs.one (sliceOne hy30)) rfl (by rfl) (Rs.put (r := Rs.zero) rfl)) ⟨_, (by repeat (first | exact TakeL.nil | (apply TakeL.cons; · repeat (first | exact Take1.head | apply Take1.tail))))⟩ ?_ -- st 2
        refine WD.take 10 rfl (by kernel_rfl) (by kernel_rfl) (by kernel_rfl) rfl rfl (Yl.assign rfl) rfl ?_ -- t4
        refine WD.done (by kernel_rfl) ?_
        exact ⟨rfl, (b3, y30), hy30, (by repeat (first | exact Sub.nil | refine Sub.cons rfl ?_)), (by repeat (first | exact Sub.nil | refine Sub.cons rfl ?_)), _, (by repeat (first | exact TakeL.nil | (apply TakeL.cons; · repeat (first | exact Take1.head | apply Take1.tail))))⟩
    · refine WO.to rfl rfl .no (To.alloc (cs := Rs.zero.cells) zr27 rfl) rfl (fun _ => ⟨_, (by repeat (first | exact TakeL.nil | (apply TakeL.cons; · repeat (first | exact Take1.head | apply Take1.tail))))⟩) ?_ -- t3
      intro b3
      refine WD.one 1 (by kernel_rfl) ?_
      refine WO.callC (xs := [_, _]) (cap := []) rfl .no rfl rfl en28 (by repeat (first | exact TakeL.nil | (apply TakeL.cons; · repeat (first | exact Take1.head | apply Take1.tail)))) (fun w hw => mkdev_any 0 3 w hw.left.here) rfl (fun _ => ⟨_, (by repeat (first | exact TakeL.nil | (apply TakeL.cons; · repeat (first | exact Take1.head | apply Take1.tail))))⟩) ?_ -- t27 hailer/hailerlaw23.dev
      rintro ⟨⟩ -
      refine WD.one 2 (by kernel_rfl) ?_
      refine WO.callC (xs := [_, _]) (cap := []) rfl .no rfl rfl en28 (by repeat (first | exact TakeL.nil | (apply TakeL.cons; · repeat (first | exact Take1.head | apply Take1.tail)))) (fun w hw => mkdev_any 1 0 w hw.left.here) rfl (fun _ => ⟨_, (by repeat (first | exact TakeL.nil | (apply TakeL.cons; · repeat (first | exact Take1.head | apply Take1.tail))))⟩) ?_ -- t28 hailer/hailerlaw23.dev
      rintro ⟨⟩ -
      refine WD.one 3 (by kernel_rfl) ?_
      refine WO.to rfl rfl .no (To.buildSlice (vs := [(Dv.mk 0 3).val, (Dv.mk 1 0).val]) un25 zs31 rfl rfl (by intro u hu; simp at hu; rcases hu with rfl | rfl <;> rfl) (by decide) (by decide)) rfl (fun _ => ⟨_, (by repeat (first | exact TakeL.nil | (apply TakeL.cons; · repeat (first | exact Take1.head | apply Take1.tail))))⟩) ?_ -- t29
      intro b29
      refine WD.one 4 (by kernel_rfl) ?_
      refine WO.callC (xs := [.tmp 26, .tmp 29]) (cap := []) rfl .no rfl rfl en8 (by repeat (first | exact TakeL.nil | (apply TakeL.cons; · repeat (first | exact Take1.head | apply Take1.tail)))) (fun w hw => with_kn y22 _ w (hw.src (A := []) RdOf.own (by repeat (first | exact Take1.head | apply Take1.tail))) (hw.src (A := []) (rdDvs (xs := [⟨0, 3⟩, ⟨1, 0⟩]) rfl (by unfold maxLen; omega)) (by repeat (first | exact Take1.head | apply Take1.tail))) hw.left.here) rfl (fun _ => ⟨_, (by repeat (first | exact TakeL.nil | (apply TakeL.cons; · repeat (first | exact Take1.head | apply Take1.tail))))⟩) ?_ -- t30 hailer/roster.With
      intro y30 hy30
      refine WD.take 5 rfl (by kernel_rfl) (by kernel_rfl) (by kernel_rfl) rfl rfl (Yl.move rfl) rfl ?_ -- t25
      refine WD.take 6 rfl (by kernel_rfl) (by kernel_rfl) (by kernel_rfl) rfl rfl (Yl.extract rfl rfl) rfl ?_ -- t31
      refine WD.take 7 rfl (by kernel_rfl) (by kernel_rfl) (by kernel_rfl) rfl rfl (Yl.extract rfl rfl) rfl ?_ -- t32
      refine WD.one 9 (by kernel_rfl) ?_
      refine WO.sto rfl rfl .no (Sto.agg sz27 rfl rfl (by repeat (first | exact Take1.head | apply Take1.tail)) (Rs.one (sliceOne hy30)) rfl (by rfl) (Rs.put (r := Rs.zero) rfl)) ⟨_, (by repeat (first | exact TakeL.nil | (apply TakeL.cons; · repeat (first | exact Take1.head | apply Take1.tail))))⟩ ?_ -- st 2
      refine WD.take 10 rfl (by kernel_rfl) (by kernel_rfl) (by kernel_rfl) rfl rfl (Yl.assign rfl) rfl ?_ -- t4
      refine WD.done (by kernel_rfl) ?_
      exact ⟨rfl, (b3, y30), hy30, (by repeat (first | exact Sub.nil | refine Sub.cons rfl ?_)), (by repeat (first | exact Sub.nil | refine Sub.cons rfl ?_)), _, (by repeat (first | exact TakeL.nil | (apply TakeL.cons; · repeat (first | exact Take1.head | apply Take1.tail))))⟩
  · rintro ⟨b3, y30⟩ hy30
    dsimp only [List.cons_append, List.nil_append]
    refine WC.view (fun w h => h.readOnly (v := y22) (by repeat (first | exact Take1.head | apply Take1.tail))) ?_
    refine WC.view (fun w h => h.readOnly (v := y30) (by repeat (first | exact Take1.head | apply Take1.tail))) ?_
    refine WC.seq ?_
    refine WC.region ?_
    refine WL.y (Yl.loadN ag27 rfl (by repeat (first | exact Take1.head | apply Take1.tail)) rfl (rs18 rfl)) rfl ?_ -- t34
    refine WL.callC (xs := [.tmp 34]) (cap := []) rfl rfl en17 (by repeat (first | exact TakeL.nil | (apply TakeL.cons; · repeat (first | exact Take1.head | apply Take1.tail)))) (fun w hw => head_any (Rs.mk gid 2 y30) kS rfl (by decide) w (hw.src (A := []) RdOf.rd' (by repeat (first | exact Take1.head | apply Take1.tail))) hw.left.here) rfl ?_ -- t35 hailer/roster.Head
    rintro ⟨⟩ -
    refine WL.y (Yl.move rfl) rfl ?_ -- t33
    refine WL.y (Yl.extract rfl rfl) rfl ?_ -- t36
    refine WL.y (Yl.extract rfl rfl) rfl ?_ -- t37
    refine WL.to (To.alloc (cs := d0.cells) zr31 rfl) rfl ?_ -- t5
    intro b5
    refine WL.sto (Sto.agg sz31 rfl rfl (by repeat (first | exact Take1.head | apply Take1.tail)) (Dv.ones (hdF kS)) rfl (by rfl) (show _ = (hdF kS).cells from rfl)) (fun _ h => nomatch h) ?_ -- st 3
    refine WL.y (Yl.assign rfl) rfl ?_ -- t6
    refine WL.nil ?_
    refine WC.midK [(8, .int .i64 6)] [blkR b1 27 (Rs.mk gid 1 y22).cells, blkR b3 27 (Rs.mk gid 2 y30).cells, rdR y22 2 1 (vcs Dv.val [⟨1, 2⟩]), rdR y30 2 3 (vcs Dv.val kS), blkR b5 31 (hdF kS).cells] ?_ ?_
    · refine WC.drawAny (Hs := [blkR b1 27 (Rs.mk gid 1 y22).cells]) mixed (by kernel_rfl) ⟨_, (by repeat (first | exact TakeL.nil | (apply TakeL.cons; · repeat (first | exact Take1.head | apply Take1.tail))))⟩ ?_
      refine WD.take 0 rfl (by kernel_rfl) (by kernel_rfl) (by kernel_rfl) rfl rfl (Yl.loadN ag27 rfl (by repeat (first | exact Take1.head | apply Take1.tail)) rfl (rs18 rfl)) rfl ?_ -- t39
      refine WD.two 1 7 (by kernel_rfl) ?_ ?_
      · refine WO.callC (xs := [_, _]) (cap := []) rfl .no rfl rfl en28 (by repeat (first | exact TakeL.nil | (apply TakeL.cons; · repeat (first | exact Take1.head | apply Take1.tail)))) (fun w hw => mkdev_any 1 2 w hw.left.here) rfl (fun _ => ⟨_, (by repeat (first | exact TakeL.nil | (apply TakeL.cons; · repeat (first | exact Take1.head | apply Take1.tail))))⟩) ?_ -- t40 hailer/hailerlaw23.dev
        rintro ⟨⟩ -
        refine WD.two 2 7 (by kernel_rfl) ?_ ?_
        · refine WO.to rfl rfl .no (To.buildSlice (vs := [(Dv.mk 1 2).val]) un25 zs31 rfl rfl (by intro u hu; simp at hu; subst hu; rfl) (by decide) (by decide)) rfl (fun _ => ⟨_, (by repeat (first | exact TakeL.nil | (apply TakeL.cons; · repeat (first | exact Take1.head | apply Take1.tail))))⟩) ?_ -- t41
          intro b41
          refine WD.two 3 7 (by kernel_rfl) ?_ ?_
          · refine WO.callC (xs := [.tmp 39, .tmp 41]) (cap := []) rfl .no rfl rfl en8 (by repeat (first | exact TakeL.nil | (apply TakeL.cons; · repeat (first | exact Take1.head | apply Take1.tail)))) (fun w hw => with_bad 6 ⟨1, 2⟩ (dok (by decide)) (by decide) (by decide) y22 _ w (hw.src (A := []) RdOf.rd' (by repeat (first | exact Take1.head | apply Take1.tail))) (hw.src (A := []) dev1 (by repeat (first | exact Take1.head | apply Take1.tail))) hw.left.here) rfl (fun _ => ⟨_, (by repeat (first | exact TakeL.nil | (apply TakeL.cons; · repeat (first | exact Take1.head | apply Take1.tail))))⟩) ?_ -- t42 hailer/roster.With
            rintro y42 -
            refine WD.take 4 rfl (by kernel_rfl) (by kernel_rfl) (by kernel_rfl) rfl rfl (Yl.move rfl) rfl ?_ -- t38
            refine WD.take 5 rfl (by kernel_rfl) (by kernel_rfl) (by kernel_rfl) rfl rfl (Yl.extract rfl rfl) rfl ?_ -- t43
            refine WD.take 6 rfl (by kernel_rfl) (by kernel_rfl) (by kernel_rfl) rfl rfl (Yl.extract rfl rfl) rfl ?_ -- t44
            refine WD.one 7 (by kernel_rfl) ?_
            refine WO.to rfl rfl .no (To.alloc (cs := Rs.zero.cells) zr27 rfl) rfl (fun _ => ⟨_, (by repeat (first | exact TakeL.nil | (apply TakeL.cons; · repeat (first | exact Take1.head | apply Take1.tail))))⟩) ?_ -- t7
            intro b7
            refine WD.one 8 (by kernel_rfl) ?_
            refine WO.sto rfl rfl .no (Sto.agg sz27 rfl rfl (by repeat (first | exact Take1.head | apply Take1.tail)) (Rs.one rfl) rfl (by rfl) (Rs.put (r := Rs.zero) (q := Rs.zero) rfl)) ⟨_, (by repeat (first | exact TakeL.nil | (apply TakeL.cons; · repeat (first | exact Take1.head | apply Take1.tail))))⟩ ?_ -- st 4
            refine WD.take 9 rfl (by kernel_rfl) (by kernel_rfl) (by kernel_rfl) rfl rfl (Yl.assign rfl) rfl ?_ -- t8
            refine WD.done (by kernel_rfl) ?_
            exact ⟨rfl, (by repeat (first | exact Sub.nil | refine Sub.cons rfl ?_)), (by repeat (first | exact Sub.nil | refine Sub.cons rfl ?_)), _, (by repeat (first | exact TakeL.nil | (apply TakeL.cons; · repeat (first | exact Take1.head | apply Take1.tail))))⟩
          · refine WO.to rfl rfl .no (To.alloc (cs := Rs.zero.cells) zr27 rfl) rfl (fun _ => ⟨_, (by repeat (first | exact TakeL.nil | (apply TakeL.cons; · repeat (first | exact Take1.head | apply Take1.tail))))⟩) ?_ -- t7
            intro b7
            refine WD.one 3 (by kernel_rfl) ?_
            refine WO.callC (xs := [.tmp 39, .tmp 41]) (cap := []) rfl .no rfl rfl en8 (by repeat (first | exact TakeL.nil | (apply TakeL.cons; · repeat (first | exact Take1.head | apply Take1.tail)))) (fun w hw => with_bad 6 ⟨1, 2⟩ (dok (by decide)) (by decide) (by decide) y22 _ w (hw.src (A := []) RdOf.rd' (by repeat (first | exact Take1.head | apply Take1.tail))) (hw.src (A := []) dev1 (by repeat (first | exact Take1.head | apply Take1.tail))) hw.left.here) rfl (fun _ => ⟨_, (by repeat (first | exact TakeL.nil | (apply TakeL.cons; · repeat (first | exact Take1.head | apply Take1.tail))))⟩) ?_ -- t42 hailer/roster.With
            rintro y42 -
            refine WD.take 4 rfl (by kernel_rfl) (by kernel_rfl) (by kernel_rfl) rfl rfl (Yl.move rfl) rfl ?_ -- t38
            refine WD.take 5 rfl (by kernel_rfl) (by kernel_rfl) (by kernel_rfl) rfl rfl (Yl.extract rfl rfl) rfl ?_ -- t43
            refine WD.take 6 rfl (by kernel_rfl) (by kernel_rfl) (by kernel_rfl) rfl rfl (Yl.extract rfl rfl) rfl ?_ -- t44
            refine WD.one 8 (by kernel_rfl) ?_
            refine WO.sto rfl rfl .no (Sto.agg sz27 rfl rfl (by repeat (first | exact Take1.head | apply Take1.tail)) (Rs.one rfl) rfl (by rfl) (Rs.put (r := Rs.zero) (q := Rs.zero) rfl)) ⟨_, (by repeat (first | exact TakeL.nil | (apply TakeL.cons; · repeat (first | exact Take1.head | apply Take1.tail))))⟩ ?_ -- st 4
            refine WD.take 9 rfl (by kernel_rfl) (by kernel_rfl) (by kernel_rfl) rfl rfl (Yl.assign rfl) rfl ?_ -- t8
            refine WD.done (by kernel_rfl) ?_
            exact ⟨rfl, (by repeat (first | exact Sub.nil | refine Sub.cons rfl ?_)), (by repeat (first | exact Sub.nil | refine Sub.cons rfl ?_)), _, (by repeat (first | exact TakeL.nil | (apply TakeL.cons; · repeat (first | exact Take1.head | apply Take1.tail))))⟩
        · refine WO.to rfl rfl .no (To.alloc (cs := Rs.zero.cells) zr27 rfl) rfl (fun _ => ⟨_, (by repeat (first | exact TakeL.nil | (apply TakeL.cons; · repeat (first | exact Take1.head | apply Take1.tail))))⟩) ?_ -- t7
          intro b7
          refine WD.one 2 (by kernel_rfl) ?_
          refine WO.to rfl rfl .no (To.buildSlice (vs := [(Dv.mk 1 2).val]) un25 zs31 rfl rfl (by intro u hu; simp at hu; subst hu; rfl) (by decide) (by decide)) rfl (fun _ => ⟨_, (by repeat (first | exact TakeL.nil | (apply TakeL.cons; · repeat (first | exact Take1.head | apply Take1.tail))))⟩) ?_ -- t41
          intro b41
          refine WD.one 3 (by kernel_rfl) ?_
          refine WO.callC (xs := [.tmp 39, .tmp 41]) (cap := []) rfl .no rfl rfl en8 (by repeat (first | exact TakeL.nil | (apply TakeL.cons; · repeat (first | exact Take1.head | apply Take1.tail)))) (fun w hw => with_bad 6 ⟨1, 2⟩ (dok (by decide)) (by decide) (by decide) y22 _ w (hw.src (A := []) RdOf.rd' (by repeat (first | exact Take1.head | apply Take1.tail))) (hw.src (A := []) dev1 (by repeat (first | exact Take1.head | apply Take1.tail))) hw.left.here) rfl (fun _ => ⟨_, (by repeat (first | exact TakeL.nil | (apply TakeL.cons; · repeat (first | exact Take1.head | apply Take1.tail))))⟩) ?_ -- t42 hailer/roster.With
          rintro y42 -
          refine WD.take 4 rfl (by kernel_rfl) (by kernel_rfl) (by kernel_rfl) rfl rfl (Yl.move rfl) rfl ?_ -- t38
          refine WD.take 5 rfl (by kernel_rfl) (by kernel_rfl) (by kernel_rfl) rfl rfl (Yl.extract rfl rfl) rfl ?_ -- t43
          refine WD.take 6 rfl (by kernel_rfl) (by kernel_rfl) (by kernel_rfl) rfl rfl (Yl.extract rfl rfl) rfl ?_ -- t44
          refine WD.one 8 (by kernel_rfl) ?_
          refine WO.sto rfl rfl .no (Sto.agg sz27 rfl rfl (by repeat (first | exact Take1.head | apply Take1.tail)) (Rs.one rfl) rfl (by rfl) (Rs.put (r := Rs.zero) (q := Rs.zero) rfl)) ⟨_, (by repeat (first | exact TakeL.nil | (apply TakeL.cons; · repeat (first | exact Take1.head | apply Take1.tail))))⟩ ?_ -- st 4
          refine WD.take 9 rfl (by kernel_rfl) (by kernel_rfl) (by kernel_rfl) rfl rfl (Yl.assign rfl) rfl ?_ -- t8
          refine WD.done (by kernel_rfl) ?_
          exact ⟨rfl, (by repeat (first | exact Sub.nil | refine Sub.cons rfl ?_)), (by repeat (first | exact Sub.nil | refine Sub.cons rfl ?_)), _, (by repeat (first | exact TakeL.nil | (apply TakeL.cons; · repeat (first | exact Take1.head | apply Take1.tail))))⟩
      · refine WO.to rfl rfl .no (To.alloc (cs := Rs.zero.cells) zr27 rfl) rfl (fun _ => ⟨_, (by repeat (first | exact TakeL.nil | (apply TakeL.cons; · repeat (first | exact Take1.head | apply Take1.tail))))⟩) ?_ -- t7
        intro b7
        refine WD.one 1 (by kernel_rfl) ?_
        refine WO.callC (xs := [_, _]) (cap := []) rfl .no rfl rfl en28 (by repeat (first | exact TakeL.nil | (apply TakeL.cons; · repeat (first | exact Take1.head | apply Take1.tail)))) (fun w hw => mkdev_any 1 2 w hw.left.here) rfl (fun _ => ⟨_, (by repeat (first | exact TakeL.nil | (apply TakeL.cons; · repeat (first | exact Take1.head | apply Take1.tail))))⟩) ?_ -- t40 hailer/hailerlaw23.dev
        rintro ⟨⟩ -
        refine WD.one 2 (by kernel_rfl) ?_
        refine WO.to rfl rfl .no (To.buildSlice (vs := [(Dv.mk 1 2).val]) un25 zs31 rfl rfl (by intro u hu; simp at hu; subst hu; rfl) (by decide) (by decide)) rfl (fun _ => ⟨_, (by repeat (first | exact TakeL.nil | (apply TakeL.cons; · repeat (first | exact Take1.head | apply Take1.tail))))⟩) ?_ -- t41
        intro b41
        refine WD.one 3 (by kernel_rfl) ?_
        refine WO.callC (xs := [.tmp 39, .tmp 41]) (cap := []) rfl .no rfl rfl en8 (by repeat (first | exact TakeL.nil | (apply TakeL.cons; · repeat (first | exact Take1.head | apply Take1.tail)))) (fun w hw => with_bad 6 ⟨1, 2⟩ (dok (by decide)) (by decide) (by decide) y22 _ w (hw.src (A := []) RdOf.rd' (by repeat (first | exact Take1.head | apply Take1.tail))) (hw.src (A := []) dev1 (by repeat (first | exact Take1.head | apply Take1.tail))) hw.left.here) rfl (fun _ => ⟨_, (by repeat (first | exact TakeL.nil | (apply TakeL.cons; · repeat (first | exact Take1.head | apply Take1.tail))))⟩) ?_ -- t42 hailer/roster.With
        rintro y42 -
        refine WD.take 4 rfl (by kernel_rfl) (by kernel_rfl) (by kernel_rfl) rfl rfl (Yl.move rfl) rfl ?_ -- t38
        refine WD.take 5 rfl (by kernel_rfl) (by kernel_rfl) (by kernel_rfl) rfl rfl (Yl.extract rfl rfl) rfl ?_ -- t43
        refine WD.take 6 rfl (by kernel_rfl) (by kernel_rfl) (by kernel_rfl) rfl rfl (Yl.extract rfl rfl) rfl ?_ -- t44
        refine WD.one 8 (by kernel_rfl) ?_
        refine WO.sto rfl rfl .no (Sto.agg sz27 rfl rfl (by repeat (first | exact Take1.head | apply Take1.tail)) (Rs.one rfl) rfl (by rfl) (Rs.put (r := Rs.zero) (q := Rs.zero) rfl)) ⟨_, (by repeat (first | exact TakeL.nil | (apply TakeL.cons; · repeat (first | exact Take1.head | apply Take1.tail))))⟩ ?_ -- st 4
        refine WD.take 9 rfl (by kernel_rfl) (by kernel_rfl) (by kernel_rfl) rfl rfl (Yl.assign rfl) rfl ?_ -- t8
        refine WD.done (by kernel_rfl) ?_
        exact ⟨rfl, (by repeat (first | exact Sub.nil | refine Sub.cons rfl ?_)), (by repeat (first | exact Sub.nil | refine Sub.cons rfl ?_)), _, (by repeat (first | exact TakeL.nil | (apply TakeL.cons; · repeat (first | exact Take1.head | apply Take1.tail))))⟩
    · refine WC.midK [(10, .int .i64 4)] [blkR b1 27 (Rs.mk gid 1 y22).cells, blkR b3 27 (Rs.mk gid 2 y30).cells, rdR y22 2 1 (vcs Dv.val [⟨1, 2⟩]), rdR y30 2 3 (vcs Dv.val kS), blkR b5 31 (hdF kS).cells] ?_ ?_
      · refine WC.drawAny (Hs := [blkR b1 27 (Rs.mk gid 1 y22).cells]) mixed (by kernel_rfl) ⟨_, (by repeat (first | exact TakeL.nil | (apply TakeL.cons; · repeat (first | exact Take1.head | apply Take1.tail))))⟩ ?_
        refine WD.take 0 rfl (by kernel_rfl) (by kernel_rfl) (by kernel_rfl) rfl rfl (Yl.loadN ag27 rfl (by repeat (first | exact Take1.head | apply Take1.tail)) rfl (rs18 rfl)) rfl ?_ -- t46
        refine WD.two 1 7 (by kernel_rfl) ?_ ?_
        · refine WO.callC (xs := [_, _]) (cap := []) rfl .no rfl rfl en28 (by repeat (first | exact TakeL.nil | (apply TakeL.cons; · repeat (first | exact Take1.head | apply Take1.tail)))) (fun w hw => mkdev_any 0 0 w hw.left.here) rfl (fun _ => ⟨_, (by repeat (first | exact TakeL.nil | (apply TakeL.cons; · repeat (first | exact Take1.head | apply Take1.tail))))⟩) ?_ -- t47 hailer/hailerlaw23.dev
          rintro ⟨⟩ -
          refine WD.two 2 7 (by kernel_rfl) ?_ ?_
          · refine WO.to rfl rfl .no (To.buildSlice (vs := [(Dv.mk 0 0).val]) un25 zs31 rfl rfl (by intro u hu; simp at hu; subst hu; rfl) (by decide) (by decide)) rfl (fun _ => ⟨_, (by repeat (first | exact TakeL.nil | (apply TakeL.cons; · repeat (first | exact Take1.head | apply Take1.tail))))⟩) ?_ -- t48
            intro b48
            refine WD.two 3 7 (by kernel_rfl) ?_ ?_
            · refine WO.callC (xs := [.tmp 46, .tmp 48]) (cap := []) rfl .no rfl rfl en9 (by repeat (first | exact TakeL.nil | (apply TakeL.cons; · repeat (first | exact Take1.head | apply Take1.tail)))) (fun w hw => without_bad 4 ⟨0, 0⟩ (dok (by decide)) (by decide) (by decide) y22 _ w (hw.src (A := []) RdOf.rd' (by repeat (first | exact Take1.head | apply Take1.tail))) (hw.src (A := []) dev1 (by repeat (first | exact Take1.head | apply Take1.tail))) hw.left.here) rfl (fun _ => ⟨_, (by repeat (first | exact TakeL.nil | (apply TakeL.cons; · repeat (first | exact Take1.head | apply Take1.tail))))⟩) ?_ -- t49 hailer/roster.Without
              rintro y49 -
              refine WD.take 4 rfl (by kernel_rfl) (by kernel_rfl) (by kernel_rfl) rfl rfl (Yl.move rfl) rfl ?_ -- t45
              refine WD.take 5 rfl (by kernel_rfl) (by kernel_rfl) (by kernel_rfl) rfl rfl (Yl.extract rfl rfl) rfl ?_ -- t50
              refine WD.take 6 rfl (by kernel_rfl) (by kernel_rfl) (by kernel_rfl) rfl rfl (Yl.extract rfl rfl) rfl ?_ -- t51
              refine WD.one 7 (by kernel_rfl) ?_
              refine WO.to rfl rfl .no (To.alloc (cs := Rs.zero.cells) zr27 rfl) rfl (fun _ => ⟨_, (by repeat (first | exact TakeL.nil | (apply TakeL.cons; · repeat (first | exact Take1.head | apply Take1.tail))))⟩) ?_ -- t9
              intro b9
              refine WD.one 8 (by kernel_rfl) ?_
              refine WO.sto rfl rfl .no (Sto.agg sz27 rfl rfl (by repeat (first | exact Take1.head | apply Take1.tail)) (Rs.one rfl) rfl (by rfl) (Rs.put (r := Rs.zero) (q := Rs.zero) rfl)) ⟨_, (by repeat (first | exact TakeL.nil | (apply TakeL.cons; · repeat (first | exact Take1.head | apply Take1.tail))))⟩ ?_ -- st 5
              refine WD.take 9 rfl (by kernel_rfl) (by kernel_rfl) (by kernel_rfl) rfl rfl (Yl.assign rfl) rfl ?_ -- t10
              refine WD.done (by kernel_rfl) ?_
              exact ⟨rfl, (by repeat (first | exact Sub.nil | refine Sub.cons rfl ?_)), (by repeat (first | exact Sub.nil | refine Sub.cons rfl ?_)), _, (by repeat (first | exact TakeL.nil | (apply TakeL.cons; · repeat (first | exact Take1.head | apply Take1.tail))))⟩
            · refine WO.to rfl rfl .no (To.alloc (cs := Rs.zero.cells) zr27 rfl) rfl (fun _ => ⟨_, (by repeat (first | exact TakeL.nil | (apply TakeL.cons; · repeat (first | exact Take1.head | apply Take1.tail))))⟩) ?_ -- t9
              intro b9
              refine WD.one 3 (by kernel_rfl) ?_
              refine WO.callC (xs := [.tmp 46, .tmp 48]) (cap := []) rfl .no rfl rfl en9 (by repeat (first | exact TakeL.nil | (apply TakeL.cons; · repeat (first | exact Take1.head | apply Take1.tail)))) (fun w hw => without_bad 4 ⟨0, 0⟩ (dok (by decide)) (by decide) (by decide) y22 _ w (hw.src (A := []) RdOf.rd' (by repeat (first | exact Take1.head | apply Take1.tail))) (hw.src (A := []) dev1 (by repeat (first | exact Take1.head | apply Take1.tail))) hw.left.here) rfl (fun _ => ⟨_, (by repeat (first | exact TakeL.nil | (apply TakeL.cons; · repeat (first | exact Take1.head | apply Take1.tail))))⟩) ?_ -- t49 hailer/roster.Without
              rintro y49 -
              refine WD.take 4 rfl (by kernel_rfl) (by kernel_rfl) (by kernel_rfl) rfl rfl (Yl.move rfl) rfl ?_ -- t45
              refine WD.take 5 rfl (by kernel_rfl) (by kernel_rfl) (by kernel_rfl) rfl rfl (Yl.extract rfl rfl) rfl ?_ -- t50
              refine WD.take 6 rfl (by kernel_rfl) (by kernel_rfl) (by kernel_rfl) rfl rfl (Yl.extract rfl rfl) rfl ?_ -- t51
              refine WD.one 8 (by kernel_rfl) ?_
              refine WO.sto rfl rfl .no (Sto.agg sz27 rfl rfl (by repeat (first | exact Take1.head | apply Take1.tail)) (Rs.one rfl) rfl (by rfl) (Rs.put (r := Rs.zero) (q := Rs.zero) rfl)) ⟨_, (by repeat (first | exact TakeL.nil | (apply TakeL.cons; · repeat (first | exact Take1.head | apply Take1.tail))))⟩ ?_ -- st 5
              refine WD.take 9 rfl (by kernel_rfl) (by kernel_rfl) (by kernel_rfl) rfl rfl (Yl.assign rfl) rfl ?_ -- t10
              refine WD.done (by kernel_rfl) ?_
              exact ⟨rfl, (by repeat (first | exact Sub.nil | refine Sub.cons rfl ?_)), (by repeat (first | exact Sub.nil | refine Sub.cons rfl ?_)), _, (by repeat (first | exact TakeL.nil | (apply TakeL.cons; · repeat (first | exact Take1.head | apply Take1.tail))))⟩
          · refine WO.to rfl rfl .no (To.alloc (cs := Rs.zero.cells) zr27 rfl) rfl (fun _ => ⟨_, (by repeat (first | exact TakeL.nil | (apply TakeL.cons; · repeat (first | exact Take1.head | apply Take1.tail))))⟩) ?_ -- t9
            intro b9
            refine WD.one 2 (by kernel_rfl) ?_
            refine WO.to rfl rfl .no (To.buildSlice (vs := [(Dv.mk 0 0).val]) un25 zs31 rfl rfl (by intro u hu; simp at hu; subst hu; rfl) (by decide) (by decide)) rfl (fun _ => ⟨_, (by repeat (first | exact TakeL.nil | (apply TakeL.cons; · repeat (first | exact Take1.head | apply Take1.tail))))⟩) ?_ -- t48
            intro b48
            refine WD.one 3 (by kernel_rfl) ?_
            refine WO.callC (xs := [.tmp 46, .tmp 48]) (cap := []) rfl .no rfl rfl en9 (by repeat (first | exact TakeL.nil | (apply TakeL.cons; · repeat (first | exact Take1.head | apply Take1.tail)))) (fun w hw => without_bad 4 ⟨0, 0⟩ (dok (by decide)) (by decide) (by decide) y22 _ w (hw.src (A := []) RdOf.rd' (by repeat (first | exact Take1.head | apply Take1.tail))) (hw.src (A := []) dev1 (by repeat (first | exact Take1.head | apply Take1.tail))) hw.left.here) rfl (fun _ => ⟨_, (by repeat (first | exact TakeL.nil | (apply TakeL.cons; · repeat (first | exact Take1.head | apply Take1.tail))))⟩) ?_ -- t49 hailer/roster.Without
            rintro y49 -
            refine WD.take 4 rfl (by kernel_rfl) (by kernel_rfl) (by kernel_rfl) rfl rfl (Yl.move rfl) rfl ?_ -- t45
            refine WD.take 5 rfl (by kernel_rfl) (by kernel_rfl) (by kernel_rfl) rfl rfl (Yl.extract rfl rfl) rfl ?_ -- t50
            refine WD.take 6 rfl (by kernel_rfl) (by kernel_rfl) (by kernel_rfl) rfl rfl (Yl.extract rfl rfl) rfl ?_ -- t51
            refine WD.one 8 (by kernel_rfl) ?_
            refine WO.sto rfl rfl .no (Sto.agg sz27 rfl rfl (by repeat (first | exact Take1.head | apply Take1.tail)) (Rs.one rfl) rfl (by rfl) (Rs.put (r := Rs.zero) (q := Rs.zero) rfl)) ⟨_, (by repeat (first | exact TakeL.nil | (apply TakeL.cons; · repeat (first | exact Take1.head | apply Take1.tail))))⟩ ?_ -- st 5
            refine WD.take 9 rfl (by kernel_rfl) (by kernel_rfl) (by kernel_rfl) rfl rfl (Yl.assign rfl) rfl ?_ -- t10
            refine WD.done (by kernel_rfl) ?_
            exact ⟨rfl, (by repeat (first | exact Sub.nil | refine Sub.cons rfl ?_)), (by repeat (first | exact Sub.nil | refine Sub.cons rfl ?_)), _, (by repeat (first | exact TakeL.nil | (apply TakeL.cons; · repeat (first | exact Take1.head | apply Take1.tail))))⟩
        · refine WO.to rfl rfl .no (To.alloc (cs := Rs.zero.cells) zr27 rfl) rfl (fun _ => ⟨_, (by repeat (first | exact TakeL.nil | (apply TakeL.cons; · repeat (first | exact Take1.head | apply Take1.tail))))⟩) ?_ -- t9
          intro b9
          refine WD.one 1 (by kernel_rfl) ?_
          refine WO.callC (xs := [_, _]) (cap := []) rfl .no rfl rfl en28 (by repeat (first | exact TakeL.nil | (apply TakeL.cons; · repeat (first | exact Take1.head | apply Take1.tail)))) (fun w hw => mkdev_any 0 0 w hw.left.here) rfl (fun _ => ⟨_, (by repeat (first | exact TakeL.nil | (apply TakeL.cons; · repeat (first | exact Take1.head | apply Take1.tail))))⟩) ?_ -- t47 hailer/hailerlaw23.dev
          rintro ⟨⟩ -
          refine WD.one 2 (by kernel_rfl) ?_
          refine WO.to rfl rfl .no (To.buildSlice (vs := [(Dv.mk 0 0).val]) un25 zs31 rfl rfl (by intro u hu; simp at hu; subst hu; rfl) (by decide) (by decide)) rfl (fun _ => ⟨_, (by repeat (first | exact TakeL.nil | (apply TakeL.cons; · repeat (first | exact Take1.head | apply Take1.tail))))⟩) ?_ -- t48
          intro b48
          refine WD.one 3 (by kernel_rfl) ?_
          refine WO.callC (xs := [.tmp 46, .tmp 48]) (cap := []) rfl .no rfl rfl en9 (by repeat (first | exact TakeL.nil | (apply TakeL.cons; · repeat (first | exact Take1.head | apply Take1.tail)))) (fun w hw => without_bad 4 ⟨0, 0⟩ (dok (by decide)) (by decide) (by decide) y22 _ w (hw.src (A := []) RdOf.rd' (by repeat (first | exact Take1.head | apply Take1.tail))) (hw.src (A := []) dev1 (by repeat (first | exact Take1.head | apply Take1.tail))) hw.left.here) rfl (fun _ => ⟨_, (by repeat (first | exact TakeL.nil | (apply TakeL.cons; · repeat (first | exact Take1.head | apply Take1.tail))))⟩) ?_ -- t49 hailer/roster.Without
          rintro y49 -
          refine WD.take 4 rfl (by kernel_rfl) (by kernel_rfl) (by kernel_rfl) rfl rfl (Yl.move rfl) rfl ?_ -- t45
          refine WD.take 5 rfl (by kernel_rfl) (by kernel_rfl) (by kernel_rfl) rfl rfl (Yl.extract rfl rfl) rfl ?_ -- t50
          refine WD.take 6 rfl (by kernel_rfl) (by kernel_rfl) (by kernel_rfl) rfl rfl (Yl.extract rfl rfl) rfl ?_ -- t51
          refine WD.one 8 (by kernel_rfl) ?_
          refine WO.sto rfl rfl .no (Sto.agg sz27 rfl rfl (by repeat (first | exact Take1.head | apply Take1.tail)) (Rs.one rfl) rfl (by rfl) (Rs.put (r := Rs.zero) (q := Rs.zero) rfl)) ⟨_, (by repeat (first | exact TakeL.nil | (apply TakeL.cons; · repeat (first | exact Take1.head | apply Take1.tail))))⟩ ?_ -- st 5
          refine WD.take 9 rfl (by kernel_rfl) (by kernel_rfl) (by kernel_rfl) rfl rfl (Yl.assign rfl) rfl ?_ -- t10
          refine WD.done (by kernel_rfl) ?_
          exact ⟨rfl, (by repeat (first | exact Sub.nil | refine Sub.cons rfl ?_)), (by repeat (first | exact Sub.nil | refine Sub.cons rfl ?_)), _, (by repeat (first | exact TakeL.nil | (apply TakeL.cons; · repeat (first | exact Take1.head | apply Take1.tail))))⟩
      · refine WC.midK [(12, .int .i64 2)] [blkR b1 27 (Rs.mk gid 1 y22).cells, blkR b3 27 (Rs.mk gid 2 y30).cells, rdR y22 2 1 (vcs Dv.val [⟨1, 2⟩]), rdR y30 2 3 (vcs Dv.val kS), blkR b5 31 (hdF kS).cells] ?_ ?_
        · refine WC.drawAny (Hs := [blkR b1 27 (Rs.mk gid 1 y22).cells]) mixed (by kernel_rfl) ⟨_, (by repeat (first | exact TakeL.nil | (apply TakeL.cons; · repeat (first | exact Take1.head | apply Take1.tail))))⟩ ?_
          refine WD.take 0 rfl (by kernel_rfl) (by kernel_rfl) (by kernel_rfl) rfl rfl (Yl.loadN ag27 rfl (by repeat (first | exact Take1.head | apply Take1.tail)) rfl (rs18 rfl)) rfl ?_ -- t53
          refine WD.two 1 7 (by kernel_rfl) ?_ ?_
          · refine WO.callC (xs := [_, _]) (cap := []) rfl .no rfl rfl en28 (by repeat (first | exact TakeL.nil | (apply TakeL.cons; · repeat (first | exact Take1.head | apply Take1.tail)))) (fun w hw => mkdev_any 8 0 w hw.left.here) rfl (fun _ => ⟨_, (by repeat (first | exact TakeL.nil | (apply TakeL.cons; · repeat (first | exact Take1.head | apply Take1.tail))))⟩) ?_ -- t54 hailer/hailerlaw23.dev
            rintro ⟨⟩ -
            refine WD.two 2 7 (by kernel_rfl) ?_ ?_
            · refine WO.to rfl rfl .no (To.buildSlice (vs := [(Dv.mk 8 0).val]) un25 zs31 rfl rfl (by intro u hu; simp at hu; subst hu; rfl) (by decide) (by decide)) rfl (fun _ => ⟨_, (by repeat (first | exact TakeL.nil | (apply TakeL.cons; · repeat (first | exact Take1.head | apply Take1.tail))))⟩) ?_ -- t55
              intro b55
              refine WD.two 3 7 (by kernel_rfl) ?_ ?_
              · refine WO.callC (xs := [.tmp 53, .tmp 55]) (cap := []) rfl .no rfl rfl en8 (by repeat (first | exact TakeL.nil | (apply TakeL.cons; · repeat (first | exact Take1.head | apply Take1.tail)))) (fun w hw => with_bad 2 ⟨8, 0⟩ (dok (by decide)) (by decide) (by decide) y22 _ w (hw.src (A := []) RdOf.rd' (by repeat (first | exact Take1.head | apply Take1.tail))) (hw.src (A := []) dev1 (by repeat (first | exact Take1.head | apply Take1.tail))) hw.left.here) rfl (fun _ => ⟨_, (by repeat (first | exact TakeL.nil | (apply TakeL.cons; · repeat (first | exact Take1.head | apply Take1.tail))))⟩) ?_ -- t56 hailer/roster.With
                rintro y56 -
                refine WD.take 4 rfl (by kernel_rfl) (by kernel_rfl) (by kernel_rfl) rfl rfl (Yl.move rfl) rfl ?_ -- t52
                refine WD.take 5 rfl (by kernel_rfl) (by kernel_rfl) (by kernel_rfl) rfl rfl (Yl.extract rfl rfl) rfl ?_ -- t57
                refine WD.take 6 rfl (by kernel_rfl) (by kernel_rfl) (by kernel_rfl) rfl rfl (Yl.extract rfl rfl) rfl ?_ -- t58
                refine WD.one 7 (by kernel_rfl) ?_
                refine WO.to rfl rfl .no (To.alloc (cs := Rs.zero.cells) zr27 rfl) rfl (fun _ => ⟨_, (by repeat (first | exact TakeL.nil | (apply TakeL.cons; · repeat (first | exact Take1.head | apply Take1.tail))))⟩) ?_ -- t11
                intro b11
                refine WD.one 8 (by kernel_rfl) ?_
                refine WO.sto rfl rfl .no (Sto.agg sz27 rfl rfl (by repeat (first | exact Take1.head | apply Take1.tail)) (Rs.one rfl) rfl (by rfl) (Rs.put (r := Rs.zero) (q := Rs.zero) rfl)) ⟨_, (by repeat (first | exact TakeL.nil | (apply TakeL.cons; · repeat (first | exact Take1.head | apply Take1.tail))))⟩ ?_ -- st 6
                refine WD.take 9 rfl (by kernel_rfl) (by kernel_rfl) (by kernel_rfl) rfl rfl (Yl.assign rfl) rfl ?_ -- t12
                refine WD.done (by kernel_rfl) ?_
                exact ⟨rfl, (by repeat (first | exact Sub.nil | refine Sub.cons rfl ?_)), (by repeat (first | exact Sub.nil | refine Sub.cons rfl ?_)), _, (by repeat (first | exact TakeL.nil | (apply TakeL.cons; · repeat (first | exact Take1.head | apply Take1.tail))))⟩
              · refine WO.to rfl rfl .no (To.alloc (cs := Rs.zero.cells) zr27 rfl) rfl (fun _ => ⟨_, (by repeat (first | exact TakeL.nil | (apply TakeL.cons; · repeat (first | exact Take1.head | apply Take1.tail))))⟩) ?_ -- t11
                intro b11
                refine WD.one 3 (by kernel_rfl) ?_
                refine WO.callC (xs := [.tmp 53, .tmp 55]) (cap := []) rfl .no rfl rfl en8 (by repeat (first | exact TakeL.nil | (apply TakeL.cons; · repeat (first | exact Take1.head | apply Take1.tail)))) (fun w hw => with_bad 2 ⟨8, 0⟩ (dok (by decide)) (by decide) (by decide) y22 _ w (hw.src (A := []) RdOf.rd' (by repeat (first | exact Take1.head | apply Take1.tail))) (hw.src (A := []) dev1 (by repeat (first | exact Take1.head | apply Take1.tail))) hw.left.here) rfl (fun _ => ⟨_, (by repeat (first | exact TakeL.nil | (apply TakeL.cons; · repeat (first | exact Take1.head | apply Take1.tail))))⟩) ?_ -- t56 hailer/roster.With
                rintro y56 -
                refine WD.take 4 rfl (by kernel_rfl) (by kernel_rfl) (by kernel_rfl) rfl rfl (Yl.move rfl) rfl ?_ -- t52
                refine WD.take 5 rfl (by kernel_rfl) (by kernel_rfl) (by kernel_rfl) rfl rfl (Yl.extract rfl rfl) rfl ?_ -- t57
                refine WD.take 6 rfl (by kernel_rfl) (by kernel_rfl) (by kernel_rfl) rfl rfl (Yl.extract rfl rfl) rfl ?_ -- t58
                refine WD.one 8 (by kernel_rfl) ?_
                refine WO.sto rfl rfl .no (Sto.agg sz27 rfl rfl (by repeat (first | exact Take1.head | apply Take1.tail)) (Rs.one rfl) rfl (by rfl) (Rs.put (r := Rs.zero) (q := Rs.zero) rfl)) ⟨_, (by repeat (first | exact TakeL.nil | (apply TakeL.cons; · repeat (first | exact Take1.head | apply Take1.tail))))⟩ ?_ -- st 6
                refine WD.take 9 rfl (by kernel_rfl) (by kernel_rfl) (by kernel_rfl) rfl rfl (Yl.assign rfl) rfl ?_ -- t12
                refine WD.done (by kernel_rfl) ?_
                exact ⟨rfl, (by repeat (first | exact Sub.nil | refine Sub.cons rfl ?_)), (by repeat (first | exact Sub.nil | refine Sub.cons rfl ?_)), _, (by repeat (first | exact TakeL.nil | (apply TakeL.cons; · repeat (first | exact Take1.head | apply Take1.tail))))⟩
            · refine WO.to rfl rfl .no (To.alloc (cs := Rs.zero.cells) zr27 rfl) rfl (fun _ => ⟨_, (by repeat (first | exact TakeL.nil | (apply TakeL.cons; · repeat (first | exact Take1.head | apply Take1.tail))))⟩) ?_ -- t11
              intro b11
              refine WD.one 2 (by kernel_rfl) ?_
              refine WO.to rfl rfl .no (To.buildSlice (vs := [(Dv.mk 8 0).val]) un25 zs31 rfl rfl (by intro u hu; simp at hu; subst hu; rfl) (by decide) (by decide)) rfl (fun _ => ⟨_, (by repeat (first | exact TakeL.nil | (apply TakeL.cons; · repeat (first | exact Take1.head | apply Take1.tail))))⟩) ?_ -- t55
              intro b55
              refine WD.one 3 (by kernel_rfl) ?_
              refine WO.callC (xs := [.tmp 53, .tmp 55]) (cap := []) rfl .no rfl rfl en8 (by repeat (first | exact TakeL.nil | (apply TakeL.cons; · repeat (first | exact Take1.head | apply Take1.tail)))) (fun w hw => with_bad 2 ⟨8, 0⟩ (dok (by decide)) (by decide) (by decide) y22 _ w (hw.src (A := []) RdOf.rd' (by repeat (first | exact Take1.head | apply Take1.tail))) (hw.src (A := []) dev1 (by repeat (first | exact Take1.head | apply Take1.tail))) hw.left.here) rfl (fun _ => ⟨_, (by repeat (first | exact TakeL.nil | (apply TakeL.cons; · repeat (first | exact Take1.head | apply Take1.tail))))⟩) ?_ -- t56 hailer/roster.With
              rintro y56 -
              refine WD.take 4 rfl (by kernel_rfl) (by kernel_rfl) (by kernel_rfl) rfl rfl (Yl.move rfl) rfl ?_ -- t52
              refine WD.take 5 rfl (by kernel_rfl) (by kernel_rfl) (by kernel_rfl) rfl rfl (Yl.extract rfl rfl) rfl ?_ -- t57
              refine WD.take 6 rfl (by kernel_rfl) (by kernel_rfl) (by kernel_rfl) rfl rfl (Yl.extract rfl rfl) rfl ?_ -- t58
              refine WD.one 8 (by kernel_rfl) ?_
              refine WO.sto rfl rfl .no (Sto.agg sz27 rfl rfl (by repeat (first | exact Take1.head | apply Take1.tail)) (Rs.one rfl) rfl (by rfl) (Rs.put (r := Rs.zero) (q := Rs.zero) rfl)) ⟨_, (by repeat (first | exact TakeL.nil | (apply TakeL.cons; · repeat (first | exact Take1.head | apply Take1.tail))))⟩ ?_ -- st 6
              refine WD.take 9 rfl (by kernel_rfl) (by kernel_rfl) (by kernel_rfl) rfl rfl (Yl.assign rfl) rfl ?_ -- t12
              refine WD.done (by kernel_rfl) ?_
              exact ⟨rfl, (by repeat (first | exact Sub.nil | refine Sub.cons rfl ?_)), (by repeat (first | exact Sub.nil | refine Sub.cons rfl ?_)), _, (by repeat (first | exact TakeL.nil | (apply TakeL.cons; · repeat (first | exact Take1.head | apply Take1.tail))))⟩
          · refine WO.to rfl rfl .no (To.alloc (cs := Rs.zero.cells) zr27 rfl) rfl (fun _ => ⟨_, (by repeat (first | exact TakeL.nil | (apply TakeL.cons; · repeat (first | exact Take1.head | apply Take1.tail))))⟩) ?_ -- t11
            intro b11
            refine WD.one 1 (by kernel_rfl) ?_
            refine WO.callC (xs := [_, _]) (cap := []) rfl .no rfl rfl en28 (by repeat (first | exact TakeL.nil | (apply TakeL.cons; · repeat (first | exact Take1.head | apply Take1.tail)))) (fun w hw => mkdev_any 8 0 w hw.left.here) rfl (fun _ => ⟨_, (by repeat (first | exact TakeL.nil | (apply TakeL.cons; · repeat (first | exact Take1.head | apply Take1.tail))))⟩) ?_ -- t54 hailer/hailerlaw23.dev
            rintro ⟨⟩ -
            refine WD.one 2 (by kernel_rfl) ?_
            refine WO.to rfl rfl .no (To.buildSlice (vs := [(Dv.mk 8 0).val]) un25 zs31 rfl rfl (by intro u hu; simp at hu; subst hu; rfl) (by decide) (by decide)) rfl (fun _ => ⟨_, (by repeat (first | exact TakeL.nil | (apply TakeL.cons; · repeat (first | exact Take1.head | apply Take1.tail))))⟩) ?_ -- t55
            intro b55
            refine WD.one 3 (by kernel_rfl) ?_
            refine WO.callC (xs := [.tmp 53, .tmp 55]) (cap := []) rfl .no rfl rfl en8 (by repeat (first | exact TakeL.nil | (apply TakeL.cons; · repeat (first | exact Take1.head | apply Take1.tail)))) (fun w hw => with_bad 2 ⟨8, 0⟩ (dok (by decide)) (by decide) (by decide) y22 _ w (hw.src (A := []) RdOf.rd' (by repeat (first | exact Take1.head | apply Take1.tail))) (hw.src (A := []) dev1 (by repeat (first | exact Take1.head | apply Take1.tail))) hw.left.here) rfl (fun _ => ⟨_, (by repeat (first | exact TakeL.nil | (apply TakeL.cons; · repeat (first | exact Take1.head | apply Take1.tail))))⟩) ?_ -- t56 hailer/roster.With
            rintro y56 -
            refine WD.take 4 rfl (by kernel_rfl) (by kernel_rfl) (by kernel_rfl) rfl rfl (Yl.move rfl) rfl ?_ -- t52
            refine WD.take 5 rfl (by kernel_rfl) (by kernel_rfl) (by kernel_rfl) rfl rfl (Yl.extract rfl rfl) rfl ?_ -- t57
            refine WD.take 6 rfl (by kernel_rfl) (by kernel_rfl) (by kernel_rfl) rfl rfl (Yl.extract rfl rfl) rfl ?_ -- t58
            refine WD.one 8 (by kernel_rfl) ?_
            refine WO.sto rfl rfl .no (Sto.agg sz27 rfl rfl (by repeat (first | exact Take1.head | apply Take1.tail)) (Rs.one rfl) rfl (by rfl) (Rs.put (r := Rs.zero) (q := Rs.zero) rfl)) ⟨_, (by repeat (first | exact TakeL.nil | (apply TakeL.cons; · repeat (first | exact Take1.head | apply Take1.tail))))⟩ ?_ -- st 6
            refine WD.take 9 rfl (by kernel_rfl) (by kernel_rfl) (by kernel_rfl) rfl rfl (Yl.assign rfl) rfl ?_ -- t12
            refine WD.done (by kernel_rfl) ?_
            exact ⟨rfl, (by repeat (first | exact Sub.nil | refine Sub.cons rfl ?_)), (by repeat (first | exact Sub.nil | refine Sub.cons rfl ?_)), _, (by repeat (first | exact TakeL.nil | (apply TakeL.cons; · repeat (first | exact Take1.head | apply Take1.tail))))⟩
        · refine WC.seq ?_
          refine WC.region ?_
          refine WL.y (Yl.build rfl (cs := ints .u8 (List.replicate 16 0)) (fun _ => by kernel_rfl)) rfl ?_ -- t60
          refine WL.callC (xs := [_, _]) (cap := []) rfl rfl en28 (by repeat (first | exact TakeL.nil | (apply TakeL.cons; · repeat (first | exact Take1.head | apply Take1.tail)))) (fun w hw => mkdev_any 0 4 w hw.left.here) rfl ?_ -- t61 hailer/hailerlaw23.dev
          rintro ⟨⟩ -
          refine WL.callC (xs := [.tmp 60, .tmp 61]) (cap := []) rfl rfl en13 (by repeat (first | exact TakeL.nil | (apply TakeL.cons; · repeat (first | exact Take1.head | apply Take1.tail)))) (fun w hw => new_bad w hw.left.here) rfl ?_ -- t62 hailer/roster.New
          intro y62 hy62
          refine WL.y (Yl.move rfl) rfl ?_ -- t59
          refine WL.y (Yl.extract rfl rfl) rfl ?_ -- t63
          refine WL.y (Yl.extract rfl rfl) rfl ?_ -- t64
          refine WL.to (To.alloc (cs := Rs.zero.cells) zr27 rfl) rfl ?_ -- t13
          intro b13
          refine WL.sto (Sto.agg sz27 rfl rfl (by repeat (first | exact Take1.head | apply Take1.tail)) (Rs.one rfl) rfl (by rfl) (Rs.put (r := Rs.zero) (q := Rs.zero) rfl)) (fun _ h => nomatch h) ?_ -- st 7
          refine WL.y (Yl.assign rfl) rfl ?_ -- t14
          refine WL.nil ?_
          refine WC.seq ?_
          refine WC.region ?_
          refine WL.y (Yl.build rfl (cs := Rs.zero.cells) (fun _ => by kernel_rfl)) rfl ?_ -- t66
          refine WL.callC (xs := [.tmp 66]) (cap := []) rfl rfl en17 (by repeat (first | exact TakeL.nil | (apply TakeL.cons; · repeat (first | exact Take1.head | apply Take1.tail)))) (fun w hw => head_any Rs.zero [] rfl (by decide) w (fun w' _ => Rd.nil w' 2) hw.left.here) rfl ?_ -- t67 hailer/roster.Head
          rintro ⟨⟩ -
          refine WL.y (Yl.move rfl) rfl ?_ -- t65
          refine WL.y (Yl.extract rfl rfl) rfl ?_ -- t68
          refine WL.y (Yl.extract rfl rfl) rfl ?_ -- t69
          refine WL.to (To.alloc (cs := d0.cells) zr31 rfl) rfl ?_ -- t15
          intro b15
          refine WL.sto (Sto.agg sz31 rfl rfl (by repeat (first | exact Take1.head | apply Take1.tail)) (Dv.ones d0) rfl (by rfl) (show _ = d0.cells from rfl)) (fun _ h => nomatch h) ?_ -- st 8
          refine WL.y (Yl.assign rfl) rfl ?_ -- t16
          refine WL.nil ?_
          refine WC.seq ?_
          refine WC.drawAny (Hs := [blkR b1 27 (Rs.mk gid 1 y22).cells, blkR b3 27 (Rs.mk gid 2 y30).cells, blkR b5 31 (hdF kS).cells]) mixed (by kernel_rfl) ⟨_, (by repeat (first | exact TakeL.nil | (apply TakeL.cons; · repeat (first | exact Take1.head | apply Take1.tail))))⟩ ?_
          refine WD.take 0 rfl (by kernel_rfl) (by kernel_rfl) (by kernel_rfl) rfl rfl (Yl.loadN ag31 rfl (by repeat (first | exact Take1.head | apply Take1.tail)) (by rfl) (by rfl)) rfl ?_ -- t70
          refine WD.one 1 (by kernel_rfl) ?_
          refine WO.callC (xs := [_, _]) (cap := []) rfl .no rfl rfl en28 (by repeat (first | exact TakeL.nil | (apply TakeL.cons; · repeat (first | exact Take1.head | apply Take1.tail)))) (fun w hw => mkdev_any 0 3 w hw.left.here) rfl (fun _ => ⟨_, (by repeat (first | exact TakeL.nil | (apply TakeL.cons; · repeat (first | exact Take1.head | apply Take1.tail))))⟩) ?_ -- t71 hailer/hailerlaw23.dev
          rintro ⟨⟩ -
          refine WD.take 2 rfl (by kernel_rfl) (by kernel_rfl) (by kernel_rfl) rfl rfl (Yl.eqA (xs := (hdF kS).cells) (ys := (Dv.mk 0 3).cells) flatD rfl rfl (Dv.fits (dok (by decide))) (Dv.fits (dok (by decide)))) rfl ?_
          refine WD.know (t := 72) (b' := true) rfl (by rw [Dv.eqV]; rfl) ?_
          refine WD.take 3 rfl (by kernel_rfl) (by kernel_rfl) (by kernel_rfl) rfl rfl (Yl.move rfl) rfl ?_ -- t73
          refine WD.takeOn 4 rfl (by kernel_rfl) (by kernel_rfl) (by kernel_rfl) rfl rfl rfl rfl (Yl.move rfl) rfl ?_ -- t74
          refine WD.take 5 rfl (by kernel_rfl) (by kernel_rfl) (by kernel_rfl) rfl rfl (Yl.pickT rfl rfl) rfl ?_ -- t75
          refine WD.know (t := 75) (b' := true) rfl (by first | rfl | (simp; done) | (simp; omega)) ?_
          refine WD.take 6 rfl (by kernel_rfl) (by kernel_rfl) (by kernel_rfl) rfl rfl (Yl.move rfl) rfl ?_ -- t76
          refine WD.takeOn 7 rfl (by kernel_rfl) (by kernel_rfl) (by kernel_rfl) rfl rfl rfl rfl (Yl.move rfl) rfl ?_ -- t77
          refine WD.takeOn 8 rfl (by kernel_rfl) (by kernel_rfl) (by kernel_rfl) rfl rfl rfl rfl (Yl.eql rfl rfl) rfl ?_ -- t78
          refine WD.know (t := 78) (b' := true) rfl (by first | rfl | (simp; done) | (simp; omega)) ?_
          refine WD.take 9 rfl (by kernel_rfl) (by kernel_rfl) (by kernel_rfl) rfl rfl (Yl.pickT rfl rfl) rfl ?_ -- t79
          refine WD.take 10 rfl (by kernel_rfl) (by kernel_rfl) (by kernel_rfl) rfl rfl (Yl.move rfl) rfl ?_ -- t80
          refine WD.takeOn 11 rfl (by kernel_rfl) (by kernel_rfl) (by kernel_rfl) rfl rfl rfl rfl (Yl.move rfl) rfl ?_ -- t81
          refine WD.takeOn 12 rfl (by kernel_rfl) (by kernel_rfl) (by kernel_rfl) rfl rfl rfl rfl (Yl.eql rfl rfl) rfl ?_ -- t82
          refine WD.know (t := 82) (b' := true) rfl (by first | rfl | (simp; done) | (simp; omega)) ?_
          refine WD.take 13 rfl (by kernel_rfl) (by kernel_rfl) (by kernel_rfl) rfl rfl (Yl.pickT rfl rfl) rfl ?_ -- t83
          refine WD.take 14 rfl (by kernel_rfl) (by kernel_rfl) (by kernel_rfl) rfl rfl (Yl.move rfl) rfl ?_ -- t84
          refine WD.takeOn 15 rfl (by kernel_rfl) (by kernel_rfl) (by kernel_rfl) rfl rfl rfl rfl (Yl.move rfl) rfl ?_ -- t85
          refine WD.takeOn 16 rfl (by kernel_rfl) (by kernel_rfl) (by kernel_rfl) rfl rfl rfl rfl (Yl.eql rfl rfl) rfl ?_ -- t86
          refine WD.know (t := 86) (b' := true) rfl (by first | rfl | (simp; done) | (simp; omega)) ?_
          refine WD.take 17 rfl (by kernel_rfl) (by kernel_rfl) (by kernel_rfl) rfl rfl (Yl.pickT rfl rfl) rfl ?_ -- t87
          refine WD.take 18 rfl (by kernel_rfl) (by kernel_rfl) (by kernel_rfl) rfl rfl (Yl.move rfl) rfl ?_ -- t88
          refine WD.takeOn 19 rfl (by kernel_rfl) (by kernel_rfl) (by kernel_rfl) rfl rfl rfl rfl (Yl.move rfl) rfl ?_ -- t89
          refine WD.takeOn 20 rfl (by kernel_rfl) (by kernel_rfl) (by kernel_rfl) rfl rfl rfl rfl (Yl.eql rfl rfl) rfl ?_ -- t90
          refine WD.know (t := 90) (b' := true) rfl (by first | rfl | (simp; done) | (simp; omega)) ?_
          refine WD.take 21 rfl (by kernel_rfl) (by kernel_rfl) (by kernel_rfl) rfl rfl (Yl.pickT rfl rfl) rfl ?_ -- t91
          refine WD.take 22 rfl (by kernel_rfl) (by kernel_rfl) (by kernel_rfl) rfl rfl (Yl.move rfl) rfl ?_ -- t92
          refine WD.takeOn 23 rfl (by kernel_rfl) (by kernel_rfl) (by kernel_rfl) rfl rfl rfl rfl (Yl.move rfl) rfl ?_ -- t93
          refine WD.takeOn 24 rfl (by kernel_rfl) (by kernel_rfl) (by kernel_rfl) rfl rfl rfl rfl (Yl.not rfl) rfl ?_ -- t94
          refine WD.know (t := 94) (b' := true) rfl (by first | rfl | (simp; done) | (simp; omega)) ?_
          refine WD.take 25 rfl (by kernel_rfl) (by kernel_rfl) (by kernel_rfl) rfl rfl (Yl.pickT rfl rfl) rfl ?_ -- t95
          refine WD.take 26 rfl (by kernel_rfl) (by kernel_rfl) (by kernel_rfl) rfl rfl (Yl.move rfl) rfl ?_ -- t96
          refine WD.takeOn 27 rfl (by kernel_rfl) (by kernel_rfl) (by kernel_rfl) rfl rfl rfl rfl (Yl.loadN ag27 rfl (by repeat (first | exact Take1.head | apply Take1.tail)) rfl (rs18 rfl)) rfl ?_ -- t97
          refine WD.takeOn 28 rfl (by kernel_rfl) (by kernel_rfl) (by kernel_rfl) rfl rfl rfl rfl (Yl.loadN ag27 rfl (by repeat (first | exact Take1.head | apply Take1.tail)) rfl (rs18 rfl)) rfl ?_ -- t98
          refine WD.one 29 (by kernel_rfl) ?_
          refine WO.callC (xs := [.tmp 97, .tmp 98]) (cap := []) rfl (.on rfl rfl) rfl rfl en14 (by repeat (first | exact TakeL.nil | (apply TakeL.cons; · repeat (first | exact Take1.head | apply Take1.tail)))) (fun w hw => follows_any (Rs.mk gid 1 y22) (Rs.mk gid 2 y30) [⟨1, 2⟩] kS (rg_ok 1 (by omega) _) (rg_ok 2 (by omega) _) k1_ok kS_ok (by decide) (by decide) w hw.left.here) rfl (fun _ => ⟨_, (by repeat (first | exact TakeL.nil | (apply TakeL.cons; · repeat (first | exact Take1.head | apply Take1.tail))))⟩) ?_ -- t99 hailer/roster.Follows
          rintro ⟨⟩ -
          refine WD.know (t := 99) (b' := true) rfl (fol_kn _ _) ?_
          refine WD.take 30 rfl (by kernel_rfl) (by kernel_rfl) (by kernel_rfl) rfl rfl (Yl.pickT rfl rfl) rfl ?_ -- t100
          refine WD.take 31 rfl (by kernel_rfl) (by kernel_rfl) (by kernel_rfl) rfl rfl (Yl.move rfl) rfl ?_ -- t101
          refine WD.takeOn 32 rfl (by kernel_rfl) (by kernel_rfl) (by kernel_rfl) rfl rfl rfl rfl (Yl.loadN ag27 rfl (by repeat (first | exact Take1.head | apply Take1.tail)) rfl (rs18 rfl)) rfl ?_ -- t102
          refine WD.takeOn 33 rfl (by kernel_rfl) (by kernel_rfl) (by kernel_rfl) rfl rfl rfl rfl (Yl.loadN ag27 rfl (by repeat (first | exact Take1.head | apply Take1.tail)) rfl (rs18 rfl)) rfl ?_ -- t103
          refine WD.one 34 (by kernel_rfl) ?_
          refine WO.callC (xs := [.tmp 102, .tmp 103]) (cap := []) rfl (.on rfl rfl) rfl rfl en14 (by repeat (first | exact TakeL.nil | (apply TakeL.cons; · repeat (first | exact Take1.head | apply Take1.tail)))) (fun w hw => follows_any (Rs.mk gid 2 y30) (Rs.mk gid 1 y22) kS [⟨1, 2⟩] (rg_ok 2 (by omega) _) (rg_ok 1 (by omega) _) kS_ok k1_ok (by decide) (by decide) w hw.left.here) rfl (fun _ => ⟨_, (by repeat (first | exact TakeL.nil | (apply TakeL.cons; · repeat (first | exact Take1.head | apply Take1.tail))))⟩) ?_ -- t104 hailer/roster.Follows
          rintro ⟨⟩ -
          refine WD.know (t := 104) (b' := false) rfl (fol_kn2 _ _) ?_
          refine WD.takeOn 35 rfl (by kernel_rfl) (by kernel_rfl) (by kernel_rfl) rfl rfl rfl rfl (Yl.not rfl) rfl ?_ -- t105
          refine WD.take 36 rfl (by kernel_rfl) (by kernel_rfl) (by kernel_rfl) rfl rfl (Yl.pickT rfl rfl) rfl ?_ -- t106
          refine WD.take 37 rfl (by kernel_rfl) (by kernel_rfl) (by kernel_rfl) rfl rfl (Yl.move rfl) rfl ?_ -- t107
          refine WD.one 38 (by kernel_rfl) ?_
          refine WO.callC (xs := [_, _]) (cap := []) rfl (.on rfl rfl) rfl rfl en28 (by repeat (first | exact TakeL.nil | (apply TakeL.cons; · repeat (first | exact Take1.head | apply Take1.tail)))) (fun w hw => mkdev_any 2 3 w hw.left.here) rfl (fun _ => ⟨_, (by repeat (first | exact TakeL.nil | (apply TakeL.cons; · repeat (first | exact Take1.head | apply Take1.tail))))⟩) ?_ -- t108 hailer/hailerlaw23.dev
          rintro ⟨⟩ -
          refine WD.one 39 (by kernel_rfl) ?_
          refine WO.callC (xs := [.tmp 108]) (cap := []) rfl (.on rfl rfl) rfl rfl en25 (by repeat (first | exact TakeL.nil | (apply TakeL.cons; · repeat (first | exact Take1.head | apply Take1.tail)))) (fun w hw => place_any ⟨2, 3⟩ (dok (by decide)) w hw.left.here) rfl (fun _ => ⟨_, (by repeat (first | exact TakeL.nil | (apply TakeL.cons; · repeat (first | exact Take1.head | apply Take1.tail))))⟩) ?_ -- t109 hailer/roster.Place
          rintro ⟨⟩ -
          refine WD.takeOn 40 rfl (by kernel_rfl) (by kernel_rfl) (by kernel_rfl) rfl rfl rfl rfl (Yl.eql rfl rfl) rfl ?_ -- t110
          refine WD.know (t := 110) (b' := true) rfl (by decide) ?_
          refine WD.take 41 rfl (by kernel_rfl) (by kernel_rfl) (by kernel_rfl) rfl rfl (Yl.pickT rfl rfl) rfl ?_ -- t111
          refine WD.take 42 rfl (by kernel_rfl) (by kernel_rfl) (by kernel_rfl) rfl rfl (Yl.assign rfl) rfl ?_ -- t0
          refine WD.done (by kernel_rfl) ?_
          refine WC.ret ?_
          repeat (first | (with_reducible refine peelT ?_) | (with_reducible refine peelB ?_) | (with_reducible refine peelTX ?_) | (with_reducible refine peelBX ?_) | (with_reducible refine peelBN ?_) | (with_reducible refine peelBO rfl ?_))
          exact ret1 (.inr rfl) Try.results6 rfl fun w' h => ⟨(), trivial, rfl, h.sub (by repeat (first | exact TakeL.nil | (apply TakeL.cons; · repeat (first | exact Take1.head | apply Take1.tail))))⟩
end Go.Proofs.Ytfdnnlcfolgegaa
