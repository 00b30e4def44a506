/- Sums gathered, of keys of uint64: the walk. -/
import Derived.Test.YtbgimajbehodnaaGreatDoorRepGV
import Derived.Test.YtbgimajbehodnaaGreatDoorLibEl
namespace Go.Proofs.YtbgimajbehodnaaGreatDoor
open Go Go.RowKit
theorem vtSV : VT Tryz.prog 37 15 (fun s : Sm => s.oc.length = 8) smV := .agg (cel := Sm.cells) (by kernel_rfl) (by kernel_rfl) (by decide) (fun _ => rfl) (fun r h => Sm.cells_len h) (fun r => Sm.ones r)
def smRV (x y : Option Addr × Nat) (l : List (Int × Sm)) : List Res := [ownR (.slice x.1 l.length x.2) 34 1 l.length (ints .u64 (l.map (·.1))), ownR (.slice y.1 l.length y.2) 37 15 l.length (vcs smV (l.map (·.2)))]
set_option maxRecDepth 100000 in
set_option maxHeartbeats 1600000 in
theorem sumsV_any (gf : Nat) (lb : List Value) (own : Nat → Prop) (ps : List (Int × Sm)) (hok : ∀ p ∈ ps, p.2.oc.length = 8) (hl : ps.length ≤ 1000000) (eg : ∀ args w, (callFunc gf args).run Tryz.prog w = .ok (.enter gf args) w) (most : Nat) (h1 : 1 ≤ most) (w : World) (hw : OK w (fpL [itR Tryz.prog gf lb own (ysB .u64 ps)]) [itR Tryz.prog gf lb own (ysB .u64 ps)] w) :
    Fn Tryz.prog 17 [.func (.func gf) #[] lb.toArray, .int .i64 (most : Int)] [itR Tryz.prog gf lb own (ysB .u64 ps)] w (fun _ : (Option Addr × Nat) × (Option Addr × Nat) => True) (fun y => .tuple #[.slice y.1.1 (ps.take most).length y.1.2, .slice y.2.1 (ps.take most).length y.2.2]) (fun y => smRV y.1 y.2 (ps.take most)) := by
  refine enterM Tryz.func17 rfl Tryz.ntmps17 rfl hw ?_
  refine WC.seq ?_
  refine WC.region ?_
  refine WL.to (To.box (cs := [.int .i64 (most : Int)]) rfl rfl) rfl ?_
  intro b3
  refine WL.to (To.alloc (cs := [.slice none 0 0]) zr48 rfl) rfl ?_
  intro b4
  refine WL.to (To.alloc (cs := [.slice none 0 0]) zr49 rfl) rfl ?_
  intro b5
  refine WL.nil ?_
  refine WC.seq ?_
  refine WC.seq ?_
  refine WC.region ?_
  refine WL.y (Yl.move rfl) rfl ?_
  refine WL.nil ?_
  refine WC.block ?_
  refine WC.view (fun w h => h.addNil 34 1) ?_
  refine WC.view (fun w h => h.addNil 37 15) ?_
  refine WC.range (α := (Option Addr × Nat) × (Option Addr × Nat)) (lb := lb) (xs := ysB .u64 ps) (fun i s => [blkR b3 3 [.int .i64 (most : Int)], blkR b4 48 [.slice s.1.1 (ps.take i).length s.1.2], blkR b5 49 [.slice s.2.1 (ps.take i).length s.2.2], ownR (.slice s.1.1 (ps.take i).length s.1.2) 34 1 (ps.take i).length (ints .u64 ((ps.take i).map (·.1))), ownR (.slice s.2.1 (ps.take i).length s.2.2) 37 15 (ps.take i).length (vcs smV ((ps.take i).map (·.2)))]) (fun i _ => i < most) ((none, 0), (none, 0)) rfl eg ysB_size rfl (by repeat constructor) (by omega) (by repeat' constructor) ?_ ?_
  · rintro l2 i y ⟨⟨ao, ca⟩, ⟨ao2, ca2⟩⟩ hx him W
    dsimp only at him ⊢
    obtain ⟨⟨k, s⟩, hx0, rfl⟩ := ysB_at hx
    have hil := (List.getElem?_eq_some_iff.1 hx0).1
    have hso := hok _ (List.mem_of_getElem? hx0)
    dsimp only at hso
    have hnx : ps.take (i + 1) = ps.take i ++ [(k, s)] := (take_snoc _ _ _ hx0).symm
    have htl : (ps.take i).length = i := by rw [List.length_take]; omega
    have hs15 := Sm.cells_len hso
    show WC _ _ _ ((10, .agg s.cells.toArray) :: (9, .int .u64 k) :: _) _ _
    refine WC.seq ?_
    refine WC.region ?_
    refine WL.y (Yl.assign rfl) rfl ?_
    refine WL.nil ?_
    refine WC.region ?_
    refine WL.to (To.alloc (cs := Sm.zero.cells) zr37 rfl) rfl ?_
    intro b7
    refine WL.sto (Sto.agg sz37 rfl rfl (by repeat constructor) (Sm.ones _) hs15 (by rfl) (putAll rfl)) (fun _ h => nomatch h) ?_
    refine WL.nil ?_
    repeat (with_reducible (first | refine peelT ?_ | refine peelB ?_ | refine peelTX ?_ | refine peelBX ?_ | refine peelBN ?_ | refine peelBO rfl ?_))
    refine fun W2 => ?_
    refine WC.block ?_
    refine WC.midX (α := (Option Addr × Nat) × (Option Addr × Nat)) (fun _ => [(3, .pointer (some ⟨b3, 0, none⟩)), (4, .pointer (some ⟨b4, 0, none⟩)), (5, .pointer (some ⟨b5, 0, none⟩))]) (fun x => [blkR b3 3 [.int .i64 (most : Int)], blkR b4 48 [.slice x.1.1 (ps.take (i + 1)).length x.1.2], blkR b5 49 [.slice x.2.1 (ps.take (i + 1)).length x.2.2], ownR (.slice x.1.1 (ps.take (i + 1)).length x.1.2) 34 1 (ps.take (i + 1)).length (ints .u64 ((ps.take (i + 1)).map (·.1))), ownR (.slice x.2.1 (ps.take (i + 1)).length x.2.2) 37 15 (ps.take (i + 1)).length (vcs smV ((ps.take (i + 1)).map (·.2)))]) (fun _ => True) ?_ ?_
    · refine WC.drawLast 9 (Hs := [blkR b5 49 [.slice ao2 (ps.take i).length ca2], blkR b7 37 s.cells]) rfl rfl mixed (by kernel_rfl) ⟨_, (by repeat' constructor)⟩ ?_
      try dsimp only [List.dropLast]
      refine WD.tk 1 rfl (by kernel_rfl) rfl rfl (Yl.move rfl) rfl ?_
      refine WD.tk 4 rfl (by kernel_rfl) rfl rfl (Yl.load on49 rfl (by repeat constructor) (by rfl)) rfl ?_
      refine WD.tk 5 rfl (by kernel_rfl) rfl rfl (Yl.loadN ag37 rfl (by repeat constructor) (leBl (by rw [hs15]; omega)) (Sm.call hso)) rfl ?_
      refine WD.three 0 2 6 (by kernel_rfl) ?_ ?_ ?_
      · refine WO.y rfl rfl .no (Yl.load on48 rfl (by repeat constructor) (by rfl)) rfl ?_
        refine WD.two 2 6 (by kernel_rfl) ?_ ?_
        · refine WO.to rfl rfl .no (To.buildSlice (vs := [.int .u64 k]) un48 zs34 rfl rfl (by simp [Value.cells]) (by decide) (by decide)) rfl (fun _ => ⟨_, (by repeat' constructor)⟩) ?_
          intro b13
          refine WD.two 3 6 (by kernel_rfl) ?_ ?_
          · refine WO.to rfl rfl .no (To.append sl48 rfl rfl (by repeat constructor) (Reads.of (RdOf.blk (off := 0) (n := 1) (cap := 1) (size := 1) (cs := flat [.int .u64 k]) (cs' := ints .u64 [k]) (Nat.le_refl _) (by unfold maxLen; omega) (by simp [flat, Value.cells]) (by simp [flat, Value.cells, ints])) (by repeat constructor)) (ints_one _ _) (show (ps.take i).length + 1 = (ps.take (i + 1)).length by rw [hnx]; simp) (show ints .u64 ((ps.take i).map (·.1)) ++ ints .u64 [k] = ints .u64 ((ps.take (i + 1)).map (·.1)) by rw [hnx]; simp [ints]) (by rw [hnx]; simp; unfold maxLen; omega) (by rw [hnx]; simp; omega)) rfl (fun _ => ⟨_, (by repeat' constructor)⟩) ?_
            rintro ⟨⟨ao14, c14⟩, hc14⟩
            dsimp only at hc14 ⊢
            refine WD.one 6 (by kernel_rfl) ?_
            refine WO.to rfl rfl .no (To.buildSlice (vs := [.agg s.cells.toArray]) un49 zs37 rfl rfl (by simp [Value.cells, hs15]) (by decide) (by decide)) rfl (fun _ => ⟨_, (by repeat' constructor)⟩) ?_
            intro b17
            refine WD.one 7 (by kernel_rfl) ?_
            refine WO.to rfl rfl .no (To.append sl49 rfl rfl (by repeat constructor) (Reads.of (RdOf.blk (off := 0) (n := 1) (cap := 1) (size := 15) (cs := flat [.agg s.cells.toArray]) (cs' := s.cells) (Nat.le_refl _) (by unfold maxLen; omega) (by simp [flat, Value.cells, hs15]) (by rw [flat1]; exact Sm.call hso)) (by repeat constructor)) (Sm.ones _) (show (ps.take i).length + 1 = (ps.take (i + 1)).length by rw [hnx]; simp) (show vcs smV ((ps.take i).map (·.2)) ++ s.cells = vcs smV ((ps.take (i + 1)).map (·.2)) by rw [hnx, List.map_append, vcs_app]; congr 1; simp [vcs, flat, smV, Value.cells]) (by rw [hnx]; simp; unfold maxLen; omega) (by rw [hnx]; simp; omega)) rfl (fun _ => ⟨_, (by repeat' constructor)⟩) ?_
            rintro ⟨⟨ao18, c18⟩, hc18⟩
            dsimp only at hc18 ⊢
            refine WD.one 8 (by kernel_rfl) ?_
            refine WO.sto rfl rfl .no (Sto.one sz48 rfl rfl (by repeat constructor) rfl (by rfl) (by rfl)) ⟨_, (by repeat' constructor)⟩ ?_
            refine WD.done (by kernel_rfl) ?_
            refine ⟨_, (Sto.one sz49 rfl rfl (by repeat constructor) rfl (by rfl) (by rfl)), ?_⟩
            exact ⟨rfl, ((ao14, c14), (ao18, c18)), trivial, (by repeat' constructor), _, (by repeat' constructor)⟩
          · refine WO.to rfl rfl .no (To.buildSlice (vs := [.agg s.cells.toArray]) un49 zs37 rfl rfl (by simp [Value.cells, hs15]) (by decide) (by decide)) rfl (fun _ => ⟨_, (by repeat' constructor)⟩) ?_
            intro b17
            refine WD.one 3 (by kernel_rfl) ?_
            refine WO.to rfl rfl .no (To.append sl48 rfl rfl (by repeat constructor) (Reads.of (RdOf.blk (off := 0) (n := 1) (cap := 1) (size := 1) (cs := flat [.int .u64 k]) (cs' := ints .u64 [k]) (Nat.le_refl _) (by unfold maxLen; omega) (by simp [flat, Value.cells]) (by simp [flat, Value.cells, ints])) (by repeat constructor)) (ints_one _ _) (show (ps.take i).length + 1 = (ps.take (i + 1)).length by rw [hnx]; simp) (show ints .u64 ((ps.take i).map (·.1)) ++ ints .u64 [k] = ints .u64 ((ps.take (i + 1)).map (·.1)) by rw [hnx]; simp [ints]) (by rw [hnx]; simp; unfold maxLen; omega) (by rw [hnx]; simp; omega)) rfl (fun _ => ⟨_, (by repeat' constructor)⟩) ?_
            rintro ⟨⟨ao14, c14⟩, hc14⟩
            dsimp only at hc14 ⊢
            refine WD.one 7 (by kernel_rfl) ?_
            refine WO.to rfl rfl .no (To.append sl49 rfl rfl (by repeat constructor) (Reads.of (RdOf.blk (off := 0) (n := 1) (cap := 1) (size := 15) (cs := flat [.agg s.cells.toArray]) (cs' := s.cells) (Nat.le_refl _) (by unfold maxLen; omega) (by simp [flat, Value.cells, hs15]) (by rw [flat1]; exact Sm.call hso)) (by repeat constructor)) (Sm.ones _) (show (ps.take i).length + 1 = (ps.take (i + 1)).length by rw [hnx]; simp) (show vcs smV ((ps.take i).map (·.2)) ++ s.cells = vcs smV ((ps.take (i + 1)).map (·.2)) by rw [hnx, List.map_append, vcs_app]; congr 1; simp [vcs, flat, smV, Value.cells]) (by rw [hnx]; simp; unfold maxLen; omega) (by rw [hnx]; simp; omega)) rfl (fun _ => ⟨_, (by repeat' constructor)⟩) ?_
            rintro ⟨⟨ao18, c18⟩, hc18⟩
            dsimp only at hc18 ⊢
            refine WD.one 8 (by kernel_rfl) ?_
            refine WO.sto rfl rfl .no (Sto.one sz48 rfl rfl (by repeat constructor) rfl (by rfl) (by rfl)) ⟨_, (by repeat' constructor)⟩ ?_
            refine WD.done (by kernel_rfl) ?_
            refine ⟨_, (Sto.one sz49 rfl rfl (by repeat constructor) rfl (by rfl) (by rfl)), ?_⟩
            exact ⟨rfl, ((ao14, c14), (ao18, c18)), trivial, (by repeat' constructor), _, (by repeat' constructor)⟩
        · refine WO.to rfl rfl .no (To.buildSlice (vs := [.agg s.cells.toArray]) un49 zs37 rfl rfl (by simp [Value.cells, hs15]) (by decide) (by decide)) rfl (fun _ => ⟨_, (by repeat' constructor)⟩) ?_
          intro b17
          refine WD.one 2 (by kernel_rfl) ?_
          refine WO.to rfl rfl .no (To.buildSlice (vs := [.int .u64 k]) un48 zs34 rfl rfl (by simp [Value.cells]) (by decide) (by decide)) rfl (fun _ => ⟨_, (by repeat' constructor)⟩) ?_
          intro b13
          refine WD.one 3 (by kernel_rfl) ?_
          refine WO.to rfl rfl .no (To.append sl48 rfl rfl (by repeat constructor) (Reads.of (RdOf.blk (off := 0) (n := 1) (cap := 1) (size := 1) (cs := flat [.int .u64 k]) (cs' := ints .u64 [k]) (Nat.le_refl _) (by unfold maxLen; omega) (by simp [flat, Value.cells]) (by simp [flat, Value.cells, ints])) (by repeat constructor)) (ints_one _ _) (show (ps.take i).length + 1 = (ps.take (i + 1)).length by rw [hnx]; simp) (show ints .u64 ((ps.take i).map (·.1)) ++ ints .u64 [k] = ints .u64 ((ps.take (i + 1)).map (·.1)) by rw [hnx]; simp [ints]) (by rw [hnx]; simp; unfold maxLen; omega) (by rw [hnx]; simp; omega)) rfl (fun _ => ⟨_, (by repeat' constructor)⟩) ?_
          rintro ⟨⟨ao14, c14⟩, hc14⟩
          dsimp only at hc14 ⊢
          refine WD.one 7 (by kernel_rfl) ?_
          refine WO.to rfl rfl .no (To.append sl49 rfl rfl (by repeat constructor) (Reads.of (RdOf.blk (off := 0) (n := 1) (cap := 1) (size := 15) (cs := flat [.agg s.cells.toArray]) (cs' := s.cells) (Nat.le_refl _) (by unfold maxLen; omega) (by simp [flat, Value.cells, hs15]) (by rw [flat1]; exact Sm.call hso)) (by repeat constructor)) (Sm.ones _) (show (ps.take i).length + 1 = (ps.take (i + 1)).length by rw [hnx]; simp) (show vcs smV ((ps.take i).map (·.2)) ++ s.cells = vcs smV ((ps.take (i + 1)).map (·.2)) by rw [hnx, List.map_append, vcs_app]; congr 1; simp [vcs, flat, smV, Value.cells]) (by rw [hnx]; simp; unfold maxLen; omega) (by rw [hnx]; simp; omega)) rfl (fun _ => ⟨_, (by repeat' constructor)⟩) ?_
          rintro ⟨⟨ao18, c18⟩, hc18⟩
          dsimp only at hc18 ⊢
          refine WD.one 8 (by kernel_rfl) ?_
          refine WO.sto rfl rfl .no (Sto.one sz48 rfl rfl (by repeat constructor) rfl (by rfl) (by rfl)) ⟨_, (by repeat' constructor)⟩ ?_
          refine WD.done (by kernel_rfl) ?_
          refine ⟨_, (Sto.one sz49 rfl rfl (by repeat constructor) rfl (by rfl) (by rfl)), ?_⟩
          exact ⟨rfl, ((ao14, c14), (ao18, c18)), trivial, (by repeat' constructor), _, (by repeat' constructor)⟩
      · refine WO.to rfl rfl .no (To.buildSlice (vs := [.int .u64 k]) un48 zs34 rfl rfl (by simp [Value.cells]) (by decide) (by decide)) rfl (fun _ => ⟨_, (by repeat' constructor)⟩) ?_
        intro b13
        refine WD.two 0 6 (by kernel_rfl) ?_ ?_
        · refine WO.y rfl rfl .no (Yl.load on48 rfl (by repeat constructor) (by rfl)) rfl ?_
          refine WD.two 3 6 (by kernel_rfl) ?_ ?_
          · refine WO.to rfl rfl .no (To.append sl48 rfl rfl (by repeat constructor) (Reads.of (RdOf.blk (off := 0) (n := 1) (cap := 1) (size := 1) (cs := flat [.int .u64 k]) (cs' := ints .u64 [k]) (Nat.le_refl _) (by unfold maxLen; omega) (by simp [flat, Value.cells]) (by simp [flat, Value.cells, ints])) (by repeat constructor)) (ints_one _ _) (show (ps.take i).length + 1 = (ps.take (i + 1)).length by rw [hnx]; simp) (show ints .u64 ((ps.take i).map (·.1)) ++ ints .u64 [k] = ints .u64 ((ps.take (i + 1)).map (·.1)) by rw [hnx]; simp [ints]) (by rw [hnx]; simp; unfold maxLen; omega) (by rw [hnx]; simp; omega)) rfl (fun _ => ⟨_, (by repeat' constructor)⟩) ?_
            rintro ⟨⟨ao14, c14⟩, hc14⟩
            dsimp only at hc14 ⊢
            refine WD.one 6 (by kernel_rfl) ?_
            refine WO.to rfl rfl .no (To.buildSlice (vs := [.agg s.cells.toArray]) un49 zs37 rfl rfl (by simp [Value.cells, hs15]) (by decide) (by decide)) rfl (fun _ => ⟨_, (by repeat' constructor)⟩) ?_
            intro b17
            refine WD.one 7 (by kernel_rfl) ?_
            refine WO.to rfl rfl .no (To.append sl49 rfl rfl (by repeat constructor) (Reads.of (RdOf.blk (off := 0) (n := 1) (cap := 1) (size := 15) (cs := flat [.agg s.cells.toArray]) (cs' := s.cells) (Nat.le_refl _) (by unfold maxLen; omega) (by simp [flat, Value.cells, hs15]) (by rw [flat1]; exact Sm.call hso)) (by repeat constructor)) (Sm.ones _) (show (ps.take i).length + 1 = (ps.take (i + 1)).length by rw [hnx]; simp) (show vcs smV ((ps.take i).map (·.2)) ++ s.cells = vcs smV ((ps.take (i + 1)).map (·.2)) by rw [hnx, List.map_append, vcs_app]; congr 1; simp [vcs, flat, smV, Value.cells]) (by rw [hnx]; simp; unfold maxLen; omega) (by rw [hnx]; simp; omega)) rfl (fun _ => ⟨_, (by repeat' constructor)⟩) ?_
            rintro ⟨⟨ao18, c18⟩, hc18⟩
            dsimp only at hc18 ⊢
            refine WD.one 8 (by kernel_rfl) ?_
            refine WO.sto rfl rfl .no (Sto.one sz48 rfl rfl (by repeat constructor) rfl (by rfl) (by rfl)) ⟨_, (by repeat' constructor)⟩ ?_
            refine WD.done (by kernel_rfl) ?_
            refine ⟨_, (Sto.one sz49 rfl rfl (by repeat constructor) rfl (by rfl) (by rfl)), ?_⟩
            exact ⟨rfl, ((ao14, c14), (ao18, c18)), trivial, (by repeat' constructor), _, (by repeat' constructor)⟩
          · refine WO.to rfl rfl .no (To.buildSlice (vs := [.agg s.cells.toArray]) un49 zs37 rfl rfl (by simp [Value.cells, hs15]) (by decide) (by decide)) rfl (fun _ => ⟨_, (by repeat' constructor)⟩) ?_
            intro b17
            refine WD.one 3 (by kernel_rfl) ?_
            refine WO.to rfl rfl .no (To.append sl48 rfl rfl (by repeat constructor) (Reads.of (RdOf.blk (off := 0) (n := 1) (cap := 1) (size := 1) (cs := flat [.int .u64 k]) (cs' := ints .u64 [k]) (Nat.le_refl _) (by unfold maxLen; omega) (by simp [flat, Value.cells]) (by simp [flat, Value.cells, ints])) (by repeat constructor)) (ints_one _ _) (show (ps.take i).length + 1 = (ps.take (i + 1)).length by rw [hnx]; simp) (show ints .u64 ((ps.take i).map (·.1)) ++ ints .u64 [k] = ints .u64 ((ps.take (i + 1)).map (·.1)) by rw [hnx]; simp [ints]) (by rw [hnx]; simp; unfold maxLen; omega) (by rw [hnx]; simp; omega)) rfl (fun _ => ⟨_, (by repeat' constructor)⟩) ?_
            rintro ⟨⟨ao14, c14⟩, hc14⟩
            dsimp only at hc14 ⊢
            refine WD.one 7 (by kernel_rfl) ?_
            refine WO.to rfl rfl .no (To.append sl49 rfl rfl (by repeat constructor) (Reads.of (RdOf.blk (off := 0) (n := 1) (cap := 1) (size := 15) (cs := flat [.agg s.cells.toArray]) (cs' := s.cells) (Nat.le_refl _) (by unfold maxLen; omega) (by simp [flat, Value.cells, hs15]) (by rw [flat1]; exact Sm.call hso)) (by repeat constructor)) (Sm.ones _) (show (ps.take i).length + 1 = (ps.take (i + 1)).length by rw [hnx]; simp) (show vcs smV ((ps.take i).map (·.2)) ++ s.cells = vcs smV ((ps.take (i + 1)).map (·.2)) by rw [hnx, List.map_append, vcs_app]; congr 1; simp [vcs, flat, smV, Value.cells]) (by rw [hnx]; simp; unfold maxLen; omega) (by rw [hnx]; simp; omega)) rfl (fun _ => ⟨_, (by repeat' constructor)⟩) ?_
            rintro ⟨⟨ao18, c18⟩, hc18⟩
            dsimp only at hc18 ⊢
            refine WD.one 8 (by kernel_rfl) ?_
            refine WO.sto rfl rfl .no (Sto.one sz48 rfl rfl (by repeat constructor) rfl (by rfl) (by rfl)) ⟨_, (by repeat' constructor)⟩ ?_
            refine WD.done (by kernel_rfl) ?_
            refine ⟨_, (Sto.one sz49 rfl rfl (by repeat constructor) rfl (by rfl) (by rfl)), ?_⟩
            exact ⟨rfl, ((ao14, c14), (ao18, c18)), trivial, (by repeat' constructor), _, (by repeat' constructor)⟩
        · refine WO.to rfl rfl .no (To.buildSlice (vs := [.agg s.cells.toArray]) un49 zs37 rfl rfl (by simp [Value.cells, hs15]) (by decide) (by decide)) rfl (fun _ => ⟨_, (by repeat' constructor)⟩) ?_
          intro b17
          refine WD.one 0 (by kernel_rfl) ?_
          refine WO.y rfl rfl .no (Yl.load on48 rfl (by repeat constructor) (by rfl)) rfl ?_
          refine WD.one 3 (by kernel_rfl) ?_
          refine WO.to rfl rfl .no (To.append sl48 rfl rfl (by repeat constructor) (Reads.of (RdOf.blk (off := 0) (n := 1) (cap := 1) (size := 1) (cs := flat [.int .u64 k]) (cs' := ints .u64 [k]) (Nat.le_refl _) (by unfold maxLen; omega) (by simp [flat, Value.cells]) (by simp [flat, Value.cells, ints])) (by repeat constructor)) (ints_one _ _) (show (ps.take i).length + 1 = (ps.take (i + 1)).length by rw [hnx]; simp) (show ints .u64 ((ps.take i).map (·.1)) ++ ints .u64 [k] = ints .u64 ((ps.take (i + 1)).map (·.1)) by rw [hnx]; simp [ints]) (by rw [hnx]; simp; unfold maxLen; omega) (by rw [hnx]; simp; omega)) rfl (fun _ => ⟨_, (by repeat' constructor)⟩) ?_
          rintro ⟨⟨ao14, c14⟩, hc14⟩
          dsimp only at hc14 ⊢
          refine WD.one 7 (by kernel_rfl) ?_
          refine WO.to rfl rfl .no (To.append sl49 rfl rfl (by repeat constructor) (Reads.of (RdOf.blk (off := 0) (n := 1) (cap := 1) (size := 15) (cs := flat [.agg s.cells.toArray]) (cs' := s.cells) (Nat.le_refl _) (by unfold maxLen; omega) (by simp [flat, Value.cells, hs15]) (by rw [flat1]; exact Sm.call hso)) (by repeat constructor)) (Sm.ones _) (show (ps.take i).length + 1 = (ps.take (i + 1)).length by rw [hnx]; simp) (show vcs smV ((ps.take i).map (·.2)) ++ s.cells = vcs smV ((ps.take (i + 1)).map (·.2)) by rw [hnx, List.map_append, vcs_app]; congr 1; simp [vcs, flat, smV, Value.cells]) (by rw [hnx]; simp; unfold maxLen; omega) (by rw [hnx]; simp; omega)) rfl (fun _ => ⟨_, (by repeat' constructor)⟩) ?_
          rintro ⟨⟨ao18, c18⟩, hc18⟩
          dsimp only at hc18 ⊢
          refine WD.one 8 (by kernel_rfl) ?_
          refine WO.sto rfl rfl .no (Sto.one sz48 rfl rfl (by repeat constructor) rfl (by rfl) (by rfl)) ⟨_, (by repeat' constructor)⟩ ?_
          refine WD.done (by kernel_rfl) ?_
          refine ⟨_, (Sto.one sz49 rfl rfl (by repeat constructor) rfl (by rfl) (by rfl)), ?_⟩
          exact ⟨rfl, ((ao14, c14), (ao18, c18)), trivial, (by repeat' constructor), _, (by repeat' constructor)⟩
      · refine WO.to rfl rfl .no (To.buildSlice (vs := [.agg s.cells.toArray]) un49 zs37 rfl rfl (by simp [Value.cells, hs15]) (by decide) (by decide)) rfl (fun _ => ⟨_, (by repeat' constructor)⟩) ?_
        intro b17
        refine WD.two 0 2 (by kernel_rfl) ?_ ?_
        · refine WO.y rfl rfl .no (Yl.load on48 rfl (by repeat constructor) (by rfl)) rfl ?_
          refine WD.one 2 (by kernel_rfl) ?_
          refine WO.to rfl rfl .no (To.buildSlice (vs := [.int .u64 k]) un48 zs34 rfl rfl (by simp [Value.cells]) (by decide) (by decide)) rfl (fun _ => ⟨_, (by repeat' constructor)⟩) ?_
          intro b13
          refine WD.one 3 (by kernel_rfl) ?_
          refine WO.to rfl rfl .no (To.append sl48 rfl rfl (by repeat constructor) (Reads.of (RdOf.blk (off := 0) (n := 1) (cap := 1) (size := 1) (cs := flat [.int .u64 k]) (cs' := ints .u64 [k]) (Nat.le_refl _) (by unfold maxLen; omega) (by simp [flat, Value.cells]) (by simp [flat, Value.cells, ints])) (by repeat constructor)) (ints_one _ _) (show (ps.take i).length + 1 = (ps.take (i + 1)).length by rw [hnx]; simp) (show ints .u64 ((ps.take i).map (·.1)) ++ ints .u64 [k] = ints .u64 ((ps.take (i + 1)).map (·.1)) by rw [hnx]; simp [ints]) (by rw [hnx]; simp; unfold maxLen; omega) (by rw [hnx]; simp; omega)) rfl (fun _ => ⟨_, (by repeat' constructor)⟩) ?_
          rintro ⟨⟨ao14, c14⟩, hc14⟩
          dsimp only at hc14 ⊢
          refine WD.one 7 (by kernel_rfl) ?_
          refine WO.to rfl rfl .no (To.append sl49 rfl rfl (by repeat constructor) (Reads.of (RdOf.blk (off := 0) (n := 1) (cap := 1) (size := 15) (cs := flat [.agg s.cells.toArray]) (cs' := s.cells) (Nat.le_refl _) (by unfold maxLen; omega) (by simp [flat, Value.cells, hs15]) (by rw [flat1]; exact Sm.call hso)) (by repeat constructor)) (Sm.ones _) (show (ps.take i).length + 1 = (ps.take (i + 1)).length by rw [hnx]; simp) (show vcs smV ((ps.take i).map (·.2)) ++ s.cells = vcs smV ((ps.take (i + 1)).map (·.2)) by rw [hnx, List.map_append, vcs_app]; congr 1; simp [vcs, flat, smV, Value.cells]) (by rw [hnx]; simp; unfold maxLen; omega) (by rw [hnx]; simp; omega)) rfl (fun _ => ⟨_, (by repeat' constructor)⟩) ?_
          rintro ⟨⟨ao18, c18⟩, hc18⟩
          dsimp only at hc18 ⊢
          refine WD.one 8 (by kernel_rfl) ?_
          refine WO.sto rfl rfl .no (Sto.one sz48 rfl rfl (by repeat constructor) rfl (by rfl) (by rfl)) ⟨_, (by repeat' constructor)⟩ ?_
          refine WD.done (by kernel_rfl) ?_
          refine ⟨_, (Sto.one sz49 rfl rfl (by repeat constructor) rfl (by rfl) (by rfl)), ?_⟩
          exact ⟨rfl, ((ao14, c14), (ao18, c18)), trivial, (by repeat' constructor), _, (by repeat' constructor)⟩
        · refine WO.to rfl rfl .no (To.buildSlice (vs := [.int .u64 k]) un48 zs34 rfl rfl (by simp [Value.cells]) (by decide) (by decide)) rfl (fun _ => ⟨_, (by repeat' constructor)⟩) ?_
          intro b13
          refine WD.one 0 (by kernel_rfl) ?_
          refine WO.y rfl rfl .no (Yl.load on48 rfl (by repeat constructor) (by rfl)) rfl ?_
          refine WD.one 3 (by kernel_rfl) ?_
          refine WO.to rfl rfl .no (To.append sl48 rfl rfl (by repeat constructor) (Reads.of (RdOf.blk (off := 0) (n := 1) (cap := 1) (size := 1) (cs := flat [.int .u64 k]) (cs' := ints .u64 [k]) (Nat.le_refl _) (by unfold maxLen; omega) (by simp [flat, Value.cells]) (by simp [flat, Value.cells, ints])) (by repeat constructor)) (ints_one _ _) (show (ps.take i).length + 1 = (ps.take (i + 1)).length by rw [hnx]; simp) (show ints .u64 ((ps.take i).map (·.1)) ++ ints .u64 [k] = ints .u64 ((ps.take (i + 1)).map (·.1)) by rw [hnx]; simp [ints]) (by rw [hnx]; simp; unfold maxLen; omega) (by rw [hnx]; simp; omega)) rfl (fun _ => ⟨_, (by repeat' constructor)⟩) ?_
          rintro ⟨⟨ao14, c14⟩, hc14⟩
          dsimp only at hc14 ⊢
          refine WD.one 7 (by kernel_rfl) ?_
          refine WO.to rfl rfl .no (To.append sl49 rfl rfl (by repeat constructor) (Reads.of (RdOf.blk (off := 0) (n := 1) (cap := 1) (size := 15) (cs := flat [.agg s.cells.toArray]) (cs' := s.cells) (Nat.le_refl _) (by unfold maxLen; omega) (by simp [flat, Value.cells, hs15]) (by rw [flat1]; exact Sm.call hso)) (by repeat constructor)) (Sm.ones _) (show (ps.take i).length + 1 = (ps.take (i + 1)).length by rw [hnx]; simp) (show vcs smV ((ps.take i).map (·.2)) ++ s.cells = vcs smV ((ps.take (i + 1)).map (·.2)) by rw [hnx, List.map_append, vcs_app]; congr 1; simp [vcs, flat, smV, Value.cells]) (by rw [hnx]; simp; unfold maxLen; omega) (by rw [hnx]; simp; omega)) rfl (fun _ => ⟨_, (by repeat' constructor)⟩) ?_
          rintro ⟨⟨ao18, c18⟩, hc18⟩
          dsimp only at hc18 ⊢
          refine WD.one 8 (by kernel_rfl) ?_
          refine WO.sto rfl rfl .no (Sto.one sz48 rfl rfl (by repeat constructor) rfl (by rfl) (by rfl)) ⟨_, (by repeat' constructor)⟩ ?_
          refine WD.done (by kernel_rfl) ?_
          refine ⟨_, (Sto.one sz49 rfl rfl (by repeat constructor) rfl (by rfl) (by rfl)), ?_⟩
          exact ⟨rfl, ((ao14, c14), (ao18, c18)), trivial, (by repeat' constructor), _, (by repeat' constructor)⟩
    · rintro ⟨⟨ao14, c14⟩, ⟨ao18, c18⟩⟩ -
      dsimp only
      refine WC.seq ?_
      refine WC.region ?_
      refine WL.y (Yl.load on49 rfl (by repeat constructor) (by rfl)) rfl ?_
      refine WL.y (Yl.len un49 rfl) rfl ?_
      refine WL.y (Yl.load on3 rfl (by repeat constructor) (by rfl)) rfl ?_
      refine WL.y (Yl.geq rfl rfl) rfl ?_
      refine WL.nil ?_
      refine WC.condD rfl (fun g22 => ?_) (fun g22 => ?_)
      · refine WC.exit ?_
        repeat (with_reducible (first | refine peelT ?_ | refine peelB ?_ | refine peelTX ?_ | refine peelBX ?_ | refine peelBN ?_ | refine peelBO rfl ?_))
        have hm : most = i + 1 := by
          have h0 : (ps.take (i + 1)).length = i + 1 := by rw [hnx, List.length_append, htl]; rfl
          have := g22
          omega
        rw [show ps.take (i + 1) = ps.take most by rw [hm]]
        refine ⟨[blkR b3 3 [.int .i64 (most : Int)], blkR b4 48 [.slice ((ao14, c14), (ao18, c18)).1.1 (ps.take most).length ((ao14, c14), (ao18, c18)).1.2], blkR b5 49 [.slice ((ao14, c14), (ao18, c18)).2.1 (ps.take most).length ((ao14, c14), (ao18, c18)).2.2], ownR (.slice ((ao14, c14), (ao18, c18)).1.1 (ps.take most).length ((ao14, c14), (ao18, c18)).1.2) 34 1 (ps.take most).length (ints .u64 ((ps.take most).map (·.1))), ownR (.slice ((ao14, c14), (ao18, c18)).2.1 (ps.take most).length ((ao14, c14), (ao18, c18)).2.2) 37 15 (ps.take most).length (vcs smV ((ps.take most).map (·.2)))], _, (by repeat' constructor), fun D => ?_⟩
        dsimp only [List.cons_append, List.nil_append]
        refine WC.seq ?_
        refine WC.drawLast 3 (Hs := [blkR b5 49 [.slice ao18 (ps.take most).length c18]]) rfl rfl mixed (by kernel_rfl) ⟨_, (by repeat' constructor)⟩ ?_
        try dsimp only [List.dropLast]
        refine WD.tk 1 rfl (by kernel_rfl) rfl rfl (Yl.load on49 rfl (by repeat constructor) (by rfl)) rfl ?_
        refine WD.one 0 (by kernel_rfl) ?_
        refine WO.y rfl rfl .no (Yl.load on48 rfl (by repeat constructor) (by rfl)) rfl ?_
        refine WD.one 2 (by kernel_rfl) ?_
        refine WO.sto rfl rfl .no (Sto.one sz48 rfl rfl (by repeat constructor) rfl (by rfl) (by rfl)) ⟨_, (by repeat' constructor)⟩ ?_
        refine WD.done (by kernel_rfl) ?_
        refine ⟨_, (Sto.one sz49 rfl rfl (by repeat constructor) rfl (by rfl) (by rfl)), ?_⟩
        refine WC.ret ?_
        repeat (with_reducible (first | refine peelT ?_ | refine peelB ?_ | refine peelTX ?_ | refine peelBX ?_ | refine peelBN ?_ | refine peelBO rfl ?_))
        refine retM.of (.cons (by repeat constructor) .nil) ?_
        exact retVV (.inr rfl) Tryz.results17 on48 on49 rfl rfl (by repeat constructor) (by repeat constructor) fun w' h => ⟨((ao14, c14), (ao18, c18)), trivial, rfl, OK.sub h (by unfold smRV; exact (by repeat' constructor))⟩
      · refine WC.skip ?_
        repeat (with_reducible (first | refine peelT ?_ | refine peelB ?_ | refine peelTX ?_ | refine peelBX ?_ | refine peelBN ?_ | refine peelBO rfl ?_))
        have hm : i + 1 < most := by
          have h0 : (ps.take (i + 1)).length = i + 1 := by rw [hnx, List.length_append, htl]; rfl
          have := g22
          omega
        exact ⟨[blkR b3 3 [.int .i64 (most : Int)], blkR b4 48 [.slice ((ao14, c14), (ao18, c18)).1.1 (ps.take (i + 1)).length ((ao14, c14), (ao18, c18)).1.2], blkR b5 49 [.slice ((ao14, c14), (ao18, c18)).2.1 (ps.take (i + 1)).length ((ao14, c14), (ao18, c18)).2.2], ownR (.slice ((ao14, c14), (ao18, c18)).1.1 (ps.take (i + 1)).length ((ao14, c14), (ao18, c18)).1.2) 34 1 (ps.take (i + 1)).length (ints .u64 ((ps.take (i + 1)).map (·.1))), ownR (.slice ((ao14, c14), (ao18, c18)).2.1 (ps.take (i + 1)).length ((ao14, c14), (ao18, c18)).2.2) 37 15 (ps.take (i + 1)).length (vcs smV ((ps.take (i + 1)).map (·.2)))], _, (by repeat' constructor), ((ao14, c14), (ao18, c18)), hm, rfl⟩
  · rintro ⟨⟨ao14, c14⟩, ⟨ao18, c18⟩⟩ D hlt
    rw [ysB_len] at hlt
    rw [ysB_len, List.take_length]
    have hps : ps.take most = ps := List.take_of_length_le (by omega)
    rw [hps]
    dsimp only [List.cons_append, List.nil_append]
    refine WC.seq ?_
    refine WC.drawLast 3 (Hs := [blkR b5 49 [.slice ao18 ps.length c18]]) rfl rfl mixed (by kernel_rfl) ⟨_, (by repeat' constructor)⟩ ?_
    try dsimp only [List.dropLast]
    refine WD.tk 1 rfl (by kernel_rfl) rfl rfl (Yl.load on49 rfl (by repeat constructor) (by rfl)) rfl ?_
    refine WD.one 0 (by kernel_rfl) ?_
    refine WO.y rfl rfl .no (Yl.load on48 rfl (by repeat constructor) (by rfl)) rfl ?_
    refine WD.one 2 (by kernel_rfl) ?_
    refine WO.sto rfl rfl .no (Sto.one sz48 rfl rfl (by repeat constructor) rfl (by rfl) (by rfl)) ⟨_, (by repeat' constructor)⟩ ?_
    refine WD.done (by kernel_rfl) ?_
    refine ⟨_, (Sto.one sz49 rfl rfl (by repeat constructor) rfl (by rfl) (by rfl)), ?_⟩
    refine WC.ret ?_
    repeat (with_reducible (first | refine peelT ?_ | refine peelB ?_ | refine peelTX ?_ | refine peelBX ?_ | refine peelBN ?_ | refine peelBO rfl ?_))
    refine retM.of (.cons (by repeat constructor) .nil) ?_
    exact retVV (.inr rfl) Tryz.results17 on48 on49 rfl rfl (by repeat constructor) (by repeat constructor) fun w' h => ⟨((ao14, c14), (ao18, c18)), trivial, rfl, OK.sub h (by unfold smRV; exact (by repeat' constructor))⟩
end Go.Proofs.YtbgimajbehodnaaGreatDoor
