/- Sorting rows of uint64: the partition by a pivot: the walk. -/
import Derived.Test.YtbgimajbehodnaaGreatDoorSoDV
namespace Go.Proofs.YtbgimajbehodnaaGreatDoor
open Go Go.RowKit Go.Sort

set_option maxHeartbeats 3200000 in
set_option maxRecDepth 100000 in
theorem parV_any (v : Value) (n : Nat) (D : Array Int) (a b pv : Nat) (hD : D.size = n) (hn : n ≤ 1099511627776) (hap : a ≤ pv) (hpb : pv < b) (hb : b ≤ n) (w : World) (hw : OK w (fpL [ownR v 34 1 n (ints .u64 D.toList)]) [ownR v 34 1 n (ints .u64 D.toList)] w) :
    Fn Tryz.prog 140 [v, .int .i64 (a : Int), .int .i64 (b : Int), .int .i64 (pv : Int)] [ownR v 34 1 n (ints .u64 D.toList)] w (fun _ : Unit => True) (fun _ => .tuple #[.int .i64 ((partition ltInt D a b pv).1 : Int), .bool (partition ltInt D a b pv).2.1]) (fun _ => [ownR v 34 1 n (ints .u64 (partition ltInt D a b pv).2.2.toList)]) := by
  have hF := sl_form (hw.get (r := ownR v 34 1 n (ints .u64 D.toList)) .head)
  have hsz := swp_size D a pv
  have hP : partition ltInt D a b pv = partition ltInt D a b pv := rfl
  conv at hP => rhs; unfold partition
  dsimp only at hP
  obtain ⟨P, hPe⟩ : ∃ P, partition ltInt D a b pv = P := ⟨_, rfl⟩
  rw [hPe] at hP ⊢
  obtain ⟨B, hB⟩ : ∃ B, swp D a pv = B := ⟨_, rfl⟩
  rw [hB] at hP hsz
  have hBn : B.size = n := by omega
  have hgu0 := scanUp_ge (fun x => ltInt x B[a]!) B (b - 1) (a + 1)
  have hgd0 := scanDown_le (fun x => !ltInt x B[a]!) B (scanUp (fun x => ltInt x B[a]!) B (b - 1) (a + 1)) (b - 1)
  obtain ⟨I0, hI0⟩ : ∃ I, scanUp (fun x => ltInt x B[a]!) B (b - 1) (a + 1) = I := ⟨_, rfl⟩
  rw [hI0] at hP hgu0 hgd0
  obtain ⟨J0, hJ0⟩ : ∃ J, scanDown (fun x => !ltInt x B[a]!) B I0 (b - 1) = J := ⟨_, rfl⟩
  rw [hJ0] at hP hgd0
  refine enterF Tryz.func140 rfl Tryz.ntmps140 rfl hw ?_
  refine WC.seq ?_
  refine WC.region ?_
  refine WL.y (Yl.assign rfl) rfl ?_
  refine WL.y (Yl.assign rfl) rfl ?_
  refine WL.nil ?_
  refine WC.seq ?_
  refine WC.drawAny (Hs := []) mixed (by kernel_rfl) ⟨_, (by repeat' constructor)⟩ ?_
  refine WD.tk 0 rfl (by kernel_rfl) rfl rfl (Yl.move rfl) rfl ?_
  refine WD.tk 1 rfl (by kernel_rfl) rfl rfl (Yl.move rfl) rfl ?_
  refine WD.tk 2 rfl (by kernel_rfl) rfl rfl (Yl.move rfl) rfl ?_
  refine WD.tk 3 rfl (by kernel_rfl) rfl rfl (Yl.move rfl) rfl ?_
  refine WD.tk 4 rfl (by kernel_rfl) rfl rfl (Yl.move rfl) rfl ?_
  refine WD.tk 5 rfl (by kernel_rfl) rfl rfl (Yl.move rfl) rfl ?_
  refine WD.tk 6 rfl (by kernel_rfl) rfl rfl (Yl.indexF un48 sz34 rfl rfl hF rfl (by omega)) rfl ?_
  refine WD.tk 8 rfl (by kernel_rfl) rfl rfl (Yl.move rfl) rfl ?_
  refine WD.tk 9 rfl (by kernel_rfl) rfl rfl (Yl.move rfl) rfl ?_
  refine WD.tk 10 rfl (by kernel_rfl) rfl rfl (Yl.indexF un48 sz34 rfl rfl hF rfl (by omega)) rfl ?_
  refine WD.two 7 11 (by kernel_rfl) ?_ ?_
  · refine WO.y rfl rfl .no (Yl.loadE on34 rfl (Reads.own (by repeat constructor)) (so_getV (by omega))) rfl ?_
    refine WD.one 11 (by kernel_rfl) ?_
    refine WO.y rfl rfl .no (Yl.loadE on34 rfl (Reads.own (by repeat constructor)) (so_getV (by omega))) rfl ?_
    refine WD.tk 12 rfl (by kernel_rfl) rfl rfl (Yl.indexF un48 sz34 rfl rfl hF rfl (by omega)) rfl ?_
    refine WD.one 13 (by kernel_rfl) ?_
    refine WO.sto rfl rfl .no (Sto.elem (j := a) sz34 rfl rfl (by repeat constructor) rfl (by omega) rfl) ⟨_, (by repeat' constructor)⟩ ?_
    refine WD.tk 14 rfl (by kernel_rfl) rfl rfl (Yl.indexF un48 sz34 rfl rfl hF rfl (by omega)) rfl ?_
    refine WD.one 15 (by kernel_rfl) ?_
    refine WO.sto rfl rfl .no (Sto.elem (j := pv) (cs' := ints .u64 (swp D (a) (pv)).toList) sz34 rfl rfl (by repeat constructor) rfl (by omega) (so_swpV D (a) (pv))) ⟨_, (by repeat' constructor)⟩ ?_
    refine WD.done (by kernel_rfl) ?_
    refine WC.seq ?_
    rw [hB]
    refine WC.region ?_
    refine WL.y (Yl.move rfl) rfl ?_
    refine WL.y (Yl.add rfl rfl (IntWalk.i64_in _ (by omega))) rfl ?_
    refine WL.y (Yl.move rfl) rfl ?_
    refine WL.y (Yl.sub rfl rfl (IntWalk.i64_in _ (by omega))) rfl ?_
    refine WL.say (t := 29) (v' := .int .i64 ((b - 1 : Nat) : Int)) rfl (by (refine congrArg _ ?_; omega)) ?_
    refine WL.y (Yl.assign rfl) rfl ?_
    refine WL.y (Yl.assign rfl) rfl ?_
    refine WL.nil ?_
    refine WC.seq ?_
    refine WC.block ?_
    refine WC.loop (α := Nat) (fun p => [(0, v), (1, .int .i64 (a : Int)), (10, .int .i64 (p : Int)), (11, .int .i64 ((b - 1 : Nat) : Int))]) (fun _ => [ownR v 34 1 n (ints .u64 B.toList)]) (fun p => (a < p ∧ p ≤ n) ∧ scanUp (fun x => ltInt x B[a]!) B (b - 1) p = I0) (fun p => n + 1 - p) (a + 1) ⟨⟨Nat.lt_succ_self _, by omega⟩, hI0⟩ ⟨(by repeat' constructor), _, (by repeat' constructor)⟩ ?_
    rintro p ⟨⟨hap', hpn⟩, hpI⟩
    refine WC.seq ?_
    refine WC.midX (α := Unit) (fun _ => [(0, v), (1, .int .i64 (a : Int)), (10, .int .i64 (p : Int)), (11, .int .i64 ((b - 1 : Nat) : Int)), (43, .bool (decide ((p : Int) ≤ ((b - 1 : Nat) : Int)) && ltInt B[p]! B[a]!))]) (fun _ => [ownR v 34 1 n (ints .u64 B.toList)]) (fun _ => True) ?_ ?_
    · refine WC.drawAny (Hs := [ownR v 34 1 n (ints .u64 B.toList)]) mixed (by kernel_rfl) ⟨_, (by repeat' constructor)⟩ ?_
      refine WD.tk 0 rfl (by kernel_rfl) rfl rfl (Yl.move rfl) rfl ?_
      refine WD.tk 1 rfl (by kernel_rfl) rfl rfl (Yl.move rfl) rfl ?_
      refine WD.tk 2 rfl (by kernel_rfl) rfl rfl (Yl.leq rfl rfl) rfl ?_
      refine WD.tk 3 rfl (by kernel_rfl) rfl rfl (Yl.move rfl) rfl ?_
      refine WD.both (t := 33) rfl (fun g33 => ?_) (fun g33 => ?_)
      · have hpj : p ≤ b - 1 := by have := of_decide_eq_true g33; omega
        refine WD.takeOn 4 rfl (by kernel_rfl) (by kernel_rfl) (by kernel_rfl) rfl rfl rfl rfl (Yl.move rfl) rfl ?_
        refine WD.takeOn 5 rfl (by kernel_rfl) (by kernel_rfl) (by kernel_rfl) rfl rfl rfl rfl (Yl.move rfl) rfl ?_
        refine WD.takeOn 6 rfl (by kernel_rfl) (by kernel_rfl) (by kernel_rfl) rfl rfl rfl rfl (Yl.indexF un48 sz34 rfl rfl hF rfl (by omega)) rfl ?_
        refine WD.takeOn 7 rfl (by kernel_rfl) (by kernel_rfl) (by kernel_rfl) rfl rfl rfl rfl (Yl.loadE on34 rfl (Reads.own (by repeat constructor)) (so_getV (by omega))) rfl ?_
        refine WD.takeOn 8 rfl (by kernel_rfl) (by kernel_rfl) (by kernel_rfl) rfl rfl rfl rfl (Yl.move rfl) rfl ?_
        refine WD.takeOn 9 rfl (by kernel_rfl) (by kernel_rfl) (by kernel_rfl) rfl rfl rfl rfl (Yl.move rfl) rfl ?_
        refine WD.takeOn 10 rfl (by kernel_rfl) (by kernel_rfl) (by kernel_rfl) rfl rfl rfl rfl (Yl.indexF un48 sz34 rfl rfl hF rfl (by omega)) rfl ?_
        refine WD.takeOn 11 rfl (by kernel_rfl) (by kernel_rfl) (by kernel_rfl) rfl rfl rfl rfl (Yl.loadE on34 rfl (Reads.own (by repeat constructor)) (so_getV (by omega))) rfl ?_
        refine WD.one 12 (by kernel_rfl) ?_
        refine WO.callC (xs := [.tmp 37, .tmp 41]) (cap := []) rfl (.on rfl rfl) rfl rfl en138 (by repeat' constructor) (fun w hw => lessV_any _ _ w hw.left.here) rfl (fun _ => ⟨_, (by repeat' constructor)⟩) ?_
        rintro ⟨⟩ -
        refine WD.tk 13 rfl (by kernel_rfl) rfl rfl (Yl.pickT rfl rfl) rfl ?_
        refine WD.say (t := 43) (v' := .bool (decide ((p : Int) ≤ ((b - 1 : Nat) : Int)) && ltInt B[p]! B[a]!)) rfl (by (rw [g33]; rfl)) ?_
        refine WD.done (by kernel_rfl) ?_
        exact ⟨rfl, (), trivial, (by repeat' constructor), _, (by repeat' constructor)⟩
      · refine WD.takeOff 4 rfl (by kernel_rfl) (by kernel_rfl) (by kernel_rfl) rfl rfl rfl rfl rfl rfl ?_
        refine WD.takeOff 5 rfl (by kernel_rfl) (by kernel_rfl) (by kernel_rfl) rfl rfl rfl rfl rfl rfl ?_
        refine WD.takeOff 6 rfl (by kernel_rfl) (by kernel_rfl) (by kernel_rfl) rfl rfl rfl rfl rfl rfl ?_
        refine WD.takeOff 7 rfl (by kernel_rfl) (by kernel_rfl) (by kernel_rfl) rfl rfl rfl rfl rfl rfl ?_
        refine WD.takeOff 8 rfl (by kernel_rfl) (by kernel_rfl) (by kernel_rfl) rfl rfl rfl rfl rfl rfl ?_
        refine WD.takeOff 9 rfl (by kernel_rfl) (by kernel_rfl) (by kernel_rfl) rfl rfl rfl rfl rfl rfl ?_
        refine WD.takeOff 10 rfl (by kernel_rfl) (by kernel_rfl) (by kernel_rfl) rfl rfl rfl rfl rfl rfl ?_
        refine WD.takeOff 11 rfl (by kernel_rfl) (by kernel_rfl) (by kernel_rfl) rfl rfl rfl rfl rfl rfl ?_
        refine WD.one 12 (by kernel_rfl) ?_
        refine WO.off rfl rfl rfl rfl rfl rfl rfl ?_
        refine WD.tk 13 rfl (by kernel_rfl) rfl rfl (Yl.pickF rfl rfl) rfl ?_
        refine WD.say (t := 43) (v' := .bool (decide ((p : Int) ≤ ((b - 1 : Nat) : Int)) && ltInt B[p]! B[a]!)) rfl (by (rw [g33]; rfl)) ?_
        refine WD.done (by kernel_rfl) ?_
        exact ⟨rfl, (), trivial, (by repeat' constructor), _, (by repeat' constructor)⟩
    · rintro ⟨⟩ -
      refine WC.cond rfl (fun g43 => ?_) (fun g43 => ?_)
      · refine WC.skip ?_
        refine WC.block ?_
        have hpj := and_le g43
        refine WC.region ?_
        refine WL.y (Yl.move rfl) rfl ?_
        refine WL.y (Yl.add rfl rfl (IntWalk.i64_in _ (by omega))) rfl ?_
        refine WL.y (Yl.assign rfl) rfl ?_
        refine WL.nil ?_
        exact ⟨rfl, p + 1, ⟨by omega, by rw [← up_go g43]; exact hpI⟩, by omega, (by repeat' constructor), _, (by repeat' constructor)⟩
      · refine WC.exit ?_
        refine WC.seq ?_
        refine WC.block ?_
        have hpe : p = I0 := by rw [← hpI]; exact (up_stop g43).symm
        subst hpe
        refine WC.loop (α := Nat) (fun q => [(0, v), (1, .int .i64 (a : Int)), (10, .int .i64 (p : Int)), (11, .int .i64 (q : Int))]) (fun _ => [ownR v 34 1 n (ints .u64 B.toList)]) (fun q => q < n ∧ scanDown (fun x => !ltInt x B[a]!) B p q = J0) (fun q => q) (b - 1) ⟨by omega, hJ0⟩ ⟨(by repeat' constructor), _, (by repeat' constructor)⟩ ?_
        rintro q ⟨hqn, hqJ⟩
        refine WC.seq ?_
        refine WC.midX (α := Unit) (fun _ => [(0, v), (1, .int .i64 (a : Int)), (10, .int .i64 (p : Int)), (11, .int .i64 (q : Int)), (60, .bool (decide ((p : Int) ≤ (q : Int)) && !ltInt B[q]! B[a]!))]) (fun _ => [ownR v 34 1 n (ints .u64 B.toList)]) (fun _ => True) ?_ ?_
        · refine WC.drawAny (Hs := [ownR v 34 1 n (ints .u64 B.toList)]) mixed (by kernel_rfl) ⟨_, (by repeat' constructor)⟩ ?_
          refine WD.tk 0 rfl (by kernel_rfl) rfl rfl (Yl.move rfl) rfl ?_
          refine WD.tk 1 rfl (by kernel_rfl) rfl rfl (Yl.move rfl) rfl ?_
          refine WD.tk 2 rfl (by kernel_rfl) rfl rfl (Yl.leq rfl rfl) rfl ?_
          refine WD.tk 3 rfl (by kernel_rfl) rfl rfl (Yl.move rfl) rfl ?_
          refine WD.both (t := 49) rfl (fun g49 => ?_) (fun g49 => ?_)
          · refine WD.takeOn 4 rfl (by kernel_rfl) (by kernel_rfl) (by kernel_rfl) rfl rfl rfl rfl (Yl.move rfl) rfl ?_
            refine WD.takeOn 5 rfl (by kernel_rfl) (by kernel_rfl) (by kernel_rfl) rfl rfl rfl rfl (Yl.move rfl) rfl ?_
            refine WD.takeOn 6 rfl (by kernel_rfl) (by kernel_rfl) (by kernel_rfl) rfl rfl rfl rfl (Yl.indexF un48 sz34 rfl rfl hF rfl (by omega)) rfl ?_
            refine WD.takeOn 7 rfl (by kernel_rfl) (by kernel_rfl) (by kernel_rfl) rfl rfl rfl rfl (Yl.loadE on34 rfl (Reads.own (by repeat constructor)) (so_getV (by omega))) rfl ?_
            refine WD.takeOn 8 rfl (by kernel_rfl) (by kernel_rfl) (by kernel_rfl) rfl rfl rfl rfl (Yl.move rfl) rfl ?_
            refine WD.takeOn 9 rfl (by kernel_rfl) (by kernel_rfl) (by kernel_rfl) rfl rfl rfl rfl (Yl.move rfl) rfl ?_
            refine WD.takeOn 10 rfl (by kernel_rfl) (by kernel_rfl) (by kernel_rfl) rfl rfl rfl rfl (Yl.indexF un48 sz34 rfl rfl hF rfl (by omega)) rfl ?_
            refine WD.takeOn 11 rfl (by kernel_rfl) (by kernel_rfl) (by kernel_rfl) rfl rfl rfl rfl (Yl.loadE on34 rfl (Reads.own (by repeat constructor)) (so_getV (by omega))) rfl ?_
            refine WD.one 12 (by kernel_rfl) ?_
            refine WO.callC (xs := [.tmp 53, .tmp 57]) (cap := []) rfl (.on rfl rfl) rfl rfl en138 (by repeat' constructor) (fun w hw => lessV_any _ _ w hw.left.here) rfl (fun _ => ⟨_, (by repeat' constructor)⟩) ?_
            rintro ⟨⟩ -
            refine WD.takeOn 13 rfl (by kernel_rfl) (by kernel_rfl) (by kernel_rfl) rfl rfl rfl rfl (Yl.not rfl) rfl ?_
            refine WD.tk 14 rfl (by kernel_rfl) rfl rfl (Yl.pickT rfl rfl) rfl ?_
            refine WD.say (t := 60) (v' := .bool (decide ((p : Int) ≤ (q : Int)) && !ltInt B[q]! B[a]!)) rfl (by (rw [g49]; rfl)) ?_
            refine WD.done (by kernel_rfl) ?_
            exact ⟨rfl, (), trivial, (by repeat' constructor), _, (by repeat' constructor)⟩
          · refine WD.takeOff 4 rfl (by kernel_rfl) (by kernel_rfl) (by kernel_rfl) rfl rfl rfl rfl rfl rfl ?_
            refine WD.takeOff 5 rfl (by kernel_rfl) (by kernel_rfl) (by kernel_rfl) rfl rfl rfl rfl rfl rfl ?_
            refine WD.takeOff 6 rfl (by kernel_rfl) (by kernel_rfl) (by kernel_rfl) rfl rfl rfl rfl rfl rfl ?_
            refine WD.takeOff 7 rfl (by kernel_rfl) (by kernel_rfl) (by kernel_rfl) rfl rfl rfl rfl rfl rfl ?_
            refine WD.takeOff 8 rfl (by kernel_rfl) (by kernel_rfl) (by kernel_rfl) rfl rfl rfl rfl rfl rfl ?_
            refine WD.takeOff 9 rfl (by kernel_rfl) (by kernel_rfl) (by kernel_rfl) rfl rfl rfl rfl rfl rfl ?_
            refine WD.takeOff 10 rfl (by kernel_rfl) (by kernel_rfl) (by kernel_rfl) rfl rfl rfl rfl rfl rfl ?_
            refine WD.takeOff 11 rfl (by kernel_rfl) (by kernel_rfl) (by kernel_rfl) rfl rfl rfl rfl rfl rfl ?_
            refine WD.one 12 (by kernel_rfl) ?_
            refine WO.off rfl rfl rfl rfl rfl rfl rfl ?_
            refine WD.takeOff 13 rfl (by kernel_rfl) (by kernel_rfl) (by kernel_rfl) rfl rfl rfl rfl rfl rfl ?_
            refine WD.tk 14 rfl (by kernel_rfl) rfl rfl (Yl.pickF rfl rfl) rfl ?_
            refine WD.say (t := 60) (v' := .bool (decide ((p : Int) ≤ (q : Int)) && !ltInt B[q]! B[a]!)) rfl (by (rw [g49]; rfl)) ?_
            refine WD.done (by kernel_rfl) ?_
            exact ⟨rfl, (), trivial, (by repeat' constructor), _, (by repeat' constructor)⟩
        · rintro ⟨⟩ -
          refine WC.cond rfl (fun g60 => ?_) (fun g60 => ?_)
          · refine WC.skip ?_
            refine WC.block ?_
            have hpq := and_le g60
            refine WC.region ?_
            refine WL.y (Yl.move rfl) rfl ?_
            refine WL.y (Yl.sub rfl rfl (IntWalk.i64_in _ (by omega))) rfl ?_
            refine WL.say (t := 62) (v' := .int .i64 ((q - 1 : Nat) : Int)) rfl (by (refine congrArg _ ?_; omega)) ?_
            refine WL.y (Yl.assign rfl) rfl ?_
            refine WL.nil ?_
            exact ⟨rfl, q - 1, ⟨by omega, by rw [← down_go (by omega) g60]; exact hqJ⟩, by omega, (by repeat' constructor), _, (by repeat' constructor)⟩
          · refine WC.exit ?_
            refine WC.seq ?_
            refine WC.seq ?_
            have hqe : q = J0 := by rw [← hqJ]; exact (down_stop (by omega) g60).symm
            subst hqe
            refine WC.region ?_
            refine WL.y (Yl.move rfl) rfl ?_
            refine WL.y (Yl.move rfl) rfl ?_
            refine WL.y (Yl.gtr rfl rfl) rfl ?_
            refine WL.nil ?_
            refine WC.condD rfl (fun g65 => ?_) (fun g65 => ?_)
            · refine WC.seq ?_
              have hpq : p > q := by omega
              rw [if_pos hpq] at hP
              subst hP
              dsimp only
              refine WC.drawAny (Hs := []) mixed (by kernel_rfl) ⟨_, (by repeat' constructor)⟩ ?_
              refine WD.tk 0 rfl (by kernel_rfl) rfl rfl (Yl.move rfl) rfl ?_
              refine WD.tk 1 rfl (by kernel_rfl) rfl rfl (Yl.move rfl) rfl ?_
              refine WD.tk 2 rfl (by kernel_rfl) rfl rfl (Yl.move rfl) rfl ?_
              refine WD.tk 3 rfl (by kernel_rfl) rfl rfl (Yl.move rfl) rfl ?_
              refine WD.tk 4 rfl (by kernel_rfl) rfl rfl (Yl.move rfl) rfl ?_
              refine WD.tk 5 rfl (by kernel_rfl) rfl rfl (Yl.move rfl) rfl ?_
              refine WD.tk 6 rfl (by kernel_rfl) rfl rfl (Yl.indexF un48 sz34 rfl rfl hF rfl (by omega)) rfl ?_
              refine WD.tk 8 rfl (by kernel_rfl) rfl rfl (Yl.move rfl) rfl ?_
              refine WD.tk 9 rfl (by kernel_rfl) rfl rfl (Yl.move rfl) rfl ?_
              refine WD.tk 10 rfl (by kernel_rfl) rfl rfl (Yl.indexF un48 sz34 rfl rfl hF rfl (by omega)) rfl ?_
              refine WD.two 7 11 (by kernel_rfl) ?_ ?_
              · refine WO.y rfl rfl .no (Yl.loadE on34 rfl (Reads.own (by repeat constructor)) (so_getV (by omega))) rfl ?_
                refine WD.one 11 (by kernel_rfl) ?_
                refine WO.y rfl rfl .no (Yl.loadE on34 rfl (Reads.own (by repeat constructor)) (so_getV (by omega))) rfl ?_
                refine WD.tk 12 rfl (by kernel_rfl) rfl rfl (Yl.indexF un48 sz34 rfl rfl hF rfl (by omega)) rfl ?_
                refine WD.one 13 (by kernel_rfl) ?_
                refine WO.sto rfl rfl .no (Sto.elem (j := q) sz34 rfl rfl (by repeat constructor) rfl (by omega) rfl) ⟨_, (by repeat' constructor)⟩ ?_
                refine WD.tk 14 rfl (by kernel_rfl) rfl rfl (Yl.indexF un48 sz34 rfl rfl hF rfl (by omega)) rfl ?_
                refine WD.one 15 (by kernel_rfl) ?_
                refine WO.sto rfl rfl .no (Sto.elem (j := a) (cs' := ints .u64 (swp B (q) (a)).toList) sz34 rfl rfl (by repeat constructor) rfl (by omega) (so_swpV B (q) (a))) ⟨_, (by repeat' constructor)⟩ ?_
                refine WD.done (by kernel_rfl) ?_
                refine WC.seq ?_
                refine WC.region ?_
                refine WL.y (Yl.move rfl) rfl ?_
                refine WL.y (Yl.assign rfl) rfl ?_
                refine WL.y (Yl.assign rfl) rfl ?_
                refine WL.nil ?_
                refine WC.ret ?_
                repeat (with_reducible (first | refine peelT ?_ | refine peelB ?_ | refine peelTX ?_ | refine peelBX ?_ | refine peelBN ?_ | refine peelBO rfl ?_))
                exact ret2 (.inr rfl) Tryz.results140 rfl rfl fun w' h => ⟨(), trivial, rfl, h.sub (by repeat' constructor)⟩
              · refine WO.y rfl rfl .no (Yl.loadE on34 rfl (Reads.own (by repeat constructor)) (so_getV (by omega))) rfl ?_
                refine WD.one 7 (by kernel_rfl) ?_
                refine WO.y rfl rfl .no (Yl.loadE on34 rfl (Reads.own (by repeat constructor)) (so_getV (by omega))) rfl ?_
                refine WD.tk 12 rfl (by kernel_rfl) rfl rfl (Yl.indexF un48 sz34 rfl rfl hF rfl (by omega)) rfl ?_
                refine WD.one 13 (by kernel_rfl) ?_
                refine WO.sto rfl rfl .no (Sto.elem (j := q) sz34 rfl rfl (by repeat constructor) rfl (by omega) rfl) ⟨_, (by repeat' constructor)⟩ ?_
                refine WD.tk 14 rfl (by kernel_rfl) rfl rfl (Yl.indexF un48 sz34 rfl rfl hF rfl (by omega)) rfl ?_
                refine WD.one 15 (by kernel_rfl) ?_
                refine WO.sto rfl rfl .no (Sto.elem (j := a) (cs' := ints .u64 (swp B (q) (a)).toList) sz34 rfl rfl (by repeat constructor) rfl (by omega) (so_swpV B (q) (a))) ⟨_, (by repeat' constructor)⟩ ?_
                refine WD.done (by kernel_rfl) ?_
                refine WC.seq ?_
                refine WC.region ?_
                refine WL.y (Yl.move rfl) rfl ?_
                refine WL.y (Yl.assign rfl) rfl ?_
                refine WL.y (Yl.assign rfl) rfl ?_
                refine WL.nil ?_
                refine WC.ret ?_
                repeat (with_reducible (first | refine peelT ?_ | refine peelB ?_ | refine peelTX ?_ | refine peelBX ?_ | refine peelBN ?_ | refine peelBO rfl ?_))
                exact ret2 (.inr rfl) Tryz.results140 rfl rfl fun w' h => ⟨(), trivial, rfl, h.sub (by repeat' constructor)⟩
            · refine WC.skip ?_
              refine WC.seq ?_
              have hpq : ¬ p > q := by omega
              rw [if_neg hpq] at hP
              subst hP
              dsimp only
              have hsz2 := swp_size B p q
              refine WC.drawAny (Hs := []) mixed (by kernel_rfl) ⟨_, (by repeat' constructor)⟩ ?_
              refine WD.tk 0 rfl (by kernel_rfl) rfl rfl (Yl.move rfl) rfl ?_
              refine WD.tk 1 rfl (by kernel_rfl) rfl rfl (Yl.move rfl) rfl ?_
              refine WD.tk 2 rfl (by kernel_rfl) rfl rfl (Yl.move rfl) rfl ?_
              refine WD.tk 3 rfl (by kernel_rfl) rfl rfl (Yl.move rfl) rfl ?_
              refine WD.tk 4 rfl (by kernel_rfl) rfl rfl (Yl.move rfl) rfl ?_
              refine WD.tk 5 rfl (by kernel_rfl) rfl rfl (Yl.move rfl) rfl ?_
              refine WD.tk 6 rfl (by kernel_rfl) rfl rfl (Yl.indexF un48 sz34 rfl rfl hF rfl (by omega)) rfl ?_
              refine WD.tk 8 rfl (by kernel_rfl) rfl rfl (Yl.move rfl) rfl ?_
              refine WD.tk 9 rfl (by kernel_rfl) rfl rfl (Yl.move rfl) rfl ?_
              refine WD.tk 10 rfl (by kernel_rfl) rfl rfl (Yl.indexF un48 sz34 rfl rfl hF rfl (by omega)) rfl ?_
              refine WD.two 7 11 (by kernel_rfl) ?_ ?_
              · refine WO.y rfl rfl .no (Yl.loadE on34 rfl (Reads.own (by repeat constructor)) (so_getV (by omega))) rfl ?_
                refine WD.one 11 (by kernel_rfl) ?_
                refine WO.y rfl rfl .no (Yl.loadE on34 rfl (Reads.own (by repeat constructor)) (so_getV (by omega))) rfl ?_
                refine WD.tk 12 rfl (by kernel_rfl) rfl rfl (Yl.indexF un48 sz34 rfl rfl hF rfl (by omega)) rfl ?_
                refine WD.one 13 (by kernel_rfl) ?_
                refine WO.sto rfl rfl .no (Sto.elem (j := p) sz34 rfl rfl (by repeat constructor) rfl (by omega) rfl) ⟨_, (by repeat' constructor)⟩ ?_
                refine WD.tk 14 rfl (by kernel_rfl) rfl rfl (Yl.indexF un48 sz34 rfl rfl hF rfl (by omega)) rfl ?_
                refine WD.one 15 (by kernel_rfl) ?_
                refine WO.sto rfl rfl .no (Sto.elem (j := q) (cs' := ints .u64 (swp B (p) (q)).toList) sz34 rfl rfl (by repeat constructor) rfl (by omega) (so_swpV B (p) (q))) ⟨_, (by repeat' constructor)⟩ ?_
                refine WD.done (by kernel_rfl) ?_
                refine WC.seq ?_
                refine WC.region ?_
                refine WL.y (Yl.move rfl) rfl ?_
                refine WL.y (Yl.add rfl rfl (IntWalk.i64_in _ (by omega))) rfl ?_
                refine WL.y (Yl.assign rfl) rfl ?_
                refine WL.nil ?_
                refine WC.seq ?_
                refine WC.region ?_
                refine WL.y (Yl.move rfl) rfl ?_
                refine WL.y (Yl.sub rfl rfl (IntWalk.i64_in _ (by omega))) rfl ?_
                refine WL.say (t := 98) (v' := .int .i64 ((q - 1 : Nat) : Int)) rfl (by (refine congrArg _ ?_; omega)) ?_
                refine WL.y (Yl.assign rfl) rfl ?_
                refine WL.nil ?_
                refine WC.seq ?_
                refine WC.block ?_
                obtain ⟨T, hT⟩ : ∃ T, partLoop ltInt a (p + 1) (q - 1) (swp B p q) = T := ⟨_, rfl⟩
                rw [hT]
                refine WC.loop (α := Nat × Nat × Array Int) (fun z => [(0, v), (1, .int .i64 (a : Int)), (10, .int .i64 (z.1 : Int)), (11, .int .i64 (z.2.1 : Int))]) (fun z => [ownR v 34 1 n (ints .u64 z.2.2.toList)]) (fun z => (a < z.1 ∧ z.1 ≤ n) ∧ z.2.1 < n ∧ z.2.2.size = n ∧ partLoop ltInt a z.1 z.2.1 z.2.2 = T) (fun z => z.2.1 + 1 - z.1) (p + 1, q - 1, swp B p q) ⟨by dsimp only; omega, by dsimp only; omega, by dsimp only; omega, hT⟩ ⟨(by repeat' constructor), _, (by repeat' constructor)⟩ ?_
                rintro ⟨i, j, G⟩ ⟨⟨hai, hin⟩, hjn, hG, hTG⟩
                dsimp only at hai hin hjn hG hTG ⊢
                have hgu := scanUp_ge (fun x => ltInt x G[a]!) G j i
                have hgd := scanDown_le (fun x => !ltInt x G[a]!) G (scanUp (fun x => ltInt x G[a]!) G j i) j
                rw [partLoop_eq] at hTG
                obtain ⟨I, hI⟩ : ∃ I, scanUp (fun x => ltInt x G[a]!) G j i = I := ⟨_, rfl⟩
                rw [hI] at hgu hgd hTG
                obtain ⟨J, hJ⟩ : ∃ J, scanDown (fun x => !ltInt x G[a]!) G I j = J := ⟨_, rfl⟩
                rw [hJ] at hgd hTG
                refine WC.block ?_
                refine WC.seq ?_
                refine WC.block ?_
                refine WC.loop (α := Nat) (fun y => [(0, v), (1, .int .i64 (a : Int)), (10, .int .i64 (y : Int)), (11, .int .i64 (j : Int))]) (fun _ => [ownR v 34 1 n (ints .u64 G.toList)]) (fun y => (a < y ∧ y ≤ n) ∧ scanUp (fun x => ltInt x G[a]!) G j y = I) (fun y => n + 1 - y) i ⟨⟨hai, hin⟩, hI⟩ ⟨(by repeat' constructor), _, (by repeat' constructor)⟩ ?_
                rintro y ⟨⟨hay, hyn⟩, hyI⟩
                refine WC.seq ?_
                refine WC.midX (α := Unit) (fun _ => [(0, v), (1, .int .i64 (a : Int)), (10, .int .i64 (y : Int)), (11, .int .i64 (j : Int)), (112, .bool (decide ((y : Int) ≤ (j : Int)) && ltInt G[y]! G[a]!))]) (fun _ => [ownR v 34 1 n (ints .u64 G.toList)]) (fun _ => True) ?_ ?_
                · refine WC.drawAny (Hs := [ownR v 34 1 n (ints .u64 G.toList)]) mixed (by kernel_rfl) ⟨_, (by repeat' constructor)⟩ ?_
                  refine WD.tk 0 rfl (by kernel_rfl) rfl rfl (Yl.move rfl) rfl ?_
                  refine WD.tk 1 rfl (by kernel_rfl) rfl rfl (Yl.move rfl) rfl ?_
                  refine WD.tk 2 rfl (by kernel_rfl) rfl rfl (Yl.leq rfl rfl) rfl ?_
                  refine WD.tk 3 rfl (by kernel_rfl) rfl rfl (Yl.move rfl) rfl ?_
                  refine WD.both (t := 102) rfl (fun g102 => ?_) (fun g102 => ?_)
                  · have hyj : y ≤ j := by have := of_decide_eq_true g102; omega
                    refine WD.takeOn 4 rfl (by kernel_rfl) (by kernel_rfl) (by kernel_rfl) rfl rfl rfl rfl (Yl.move rfl) rfl ?_
                    refine WD.takeOn 5 rfl (by kernel_rfl) (by kernel_rfl) (by kernel_rfl) rfl rfl rfl rfl (Yl.move rfl) rfl ?_
                    refine WD.takeOn 6 rfl (by kernel_rfl) (by kernel_rfl) (by kernel_rfl) rfl rfl rfl rfl (Yl.indexF un48 sz34 rfl rfl hF rfl (by omega)) rfl ?_
                    refine WD.takeOn 7 rfl (by kernel_rfl) (by kernel_rfl) (by kernel_rfl) rfl rfl rfl rfl (Yl.loadE on34 rfl (Reads.own (by repeat constructor)) (so_getV (by omega))) rfl ?_
                    refine WD.takeOn 8 rfl (by kernel_rfl) (by kernel_rfl) (by kernel_rfl) rfl rfl rfl rfl (Yl.move rfl) rfl ?_
                    refine WD.takeOn 9 rfl (by kernel_rfl) (by kernel_rfl) (by kernel_rfl) rfl rfl rfl rfl (Yl.move rfl) rfl ?_
                    refine WD.takeOn 10 rfl (by kernel_rfl) (by kernel_rfl) (by kernel_rfl) rfl rfl rfl rfl (Yl.indexF un48 sz34 rfl rfl hF rfl (by omega)) rfl ?_
                    refine WD.takeOn 11 rfl (by kernel_rfl) (by kernel_rfl) (by kernel_rfl) rfl rfl rfl rfl (Yl.loadE on34 rfl (Reads.own (by repeat constructor)) (so_getV (by omega))) rfl ?_
                    refine WD.one 12 (by kernel_rfl) ?_
                    refine WO.callC (xs := [.tmp 106, .tmp 110]) (cap := []) rfl (.on rfl rfl) rfl rfl en138 (by repeat' constructor) (fun w hw => lessV_any _ _ w hw.left.here) rfl (fun _ => ⟨_, (by repeat' constructor)⟩) ?_
                    rintro ⟨⟩ -
                    refine WD.tk 13 rfl (by kernel_rfl) rfl rfl (Yl.pickT rfl rfl) rfl ?_
                    refine WD.say (t := 112) (v' := .bool (decide ((y : Int) ≤ (j : Int)) && ltInt G[y]! G[a]!)) rfl (by (rw [g102]; rfl)) ?_
                    refine WD.done (by kernel_rfl) ?_
                    exact ⟨rfl, (), trivial, (by repeat' constructor), _, (by repeat' constructor)⟩
                  · refine WD.takeOff 4 rfl (by kernel_rfl) (by kernel_rfl) (by kernel_rfl) rfl rfl rfl rfl rfl rfl ?_
                    refine WD.takeOff 5 rfl (by kernel_rfl) (by kernel_rfl) (by kernel_rfl) rfl rfl rfl rfl rfl rfl ?_
                    refine WD.takeOff 6 rfl (by kernel_rfl) (by kernel_rfl) (by kernel_rfl) rfl rfl rfl rfl rfl rfl ?_
                    refine WD.takeOff 7 rfl (by kernel_rfl) (by kernel_rfl) (by kernel_rfl) rfl rfl rfl rfl rfl rfl ?_
                    refine WD.takeOff 8 rfl (by kernel_rfl) (by kernel_rfl) (by kernel_rfl) rfl rfl rfl rfl rfl rfl ?_
                    refine WD.takeOff 9 rfl (by kernel_rfl) (by kernel_rfl) (by kernel_rfl) rfl rfl rfl rfl rfl rfl ?_
                    refine WD.takeOff 10 rfl (by kernel_rfl) (by kernel_rfl) (by kernel_rfl) rfl rfl rfl rfl rfl rfl ?_
                    refine WD.takeOff 11 rfl (by kernel_rfl) (by kernel_rfl) (by kernel_rfl) rfl rfl rfl rfl rfl rfl ?_
                    refine WD.one 12 (by kernel_rfl) ?_
                    refine WO.off rfl rfl rfl rfl rfl rfl rfl ?_
                    refine WD.tk 13 rfl (by kernel_rfl) rfl rfl (Yl.pickF rfl rfl) rfl ?_
                    refine WD.say (t := 112) (v' := .bool (decide ((y : Int) ≤ (j : Int)) && ltInt G[y]! G[a]!)) rfl (by (rw [g102]; rfl)) ?_
                    refine WD.done (by kernel_rfl) ?_
                    exact ⟨rfl, (), trivial, (by repeat' constructor), _, (by repeat' constructor)⟩
                · rintro ⟨⟩ -
                  refine WC.cond rfl (fun g112 => ?_) (fun g112 => ?_)
                  · refine WC.skip ?_
                    refine WC.block ?_
                    have hyj := and_le g112
                    refine WC.region ?_
                    refine WL.y (Yl.move rfl) rfl ?_
                    refine WL.y (Yl.add rfl rfl (IntWalk.i64_in _ (by omega))) rfl ?_
                    refine WL.y (Yl.assign rfl) rfl ?_
                    refine WL.nil ?_
                    exact ⟨rfl, y + 1, ⟨by omega, by rw [← up_go g112]; exact hyI⟩, by omega, (by repeat' constructor), _, (by repeat' constructor)⟩
                  · refine WC.exit ?_
                    refine WC.seq ?_
                    refine WC.block ?_
                    have hye : y = I := by rw [← hyI]; exact (up_stop g112).symm
                    subst hye
                    refine WC.loop (α := Nat) (fun z => [(0, v), (1, .int .i64 (a : Int)), (10, .int .i64 (y : Int)), (11, .int .i64 (z : Int))]) (fun _ => [ownR v 34 1 n (ints .u64 G.toList)]) (fun z => z < n ∧ scanDown (fun x => !ltInt x G[a]!) G y z = J) (fun z => z) j ⟨hjn, hJ⟩ ⟨(by repeat' constructor), _, (by repeat' constructor)⟩ ?_
                    rintro z ⟨hzn, hzJ⟩
                    refine WC.seq ?_
                    refine WC.midX (α := Unit) (fun _ => [(0, v), (1, .int .i64 (a : Int)), (10, .int .i64 (y : Int)), (11, .int .i64 (z : Int)), (129, .bool (decide ((y : Int) ≤ (z : Int)) && !ltInt G[z]! G[a]!))]) (fun _ => [ownR v 34 1 n (ints .u64 G.toList)]) (fun _ => True) ?_ ?_
                    · refine WC.drawAny (Hs := [ownR v 34 1 n (ints .u64 G.toList)]) mixed (by kernel_rfl) ⟨_, (by repeat' constructor)⟩ ?_
                      refine WD.tk 0 rfl (by kernel_rfl) rfl rfl (Yl.move rfl) rfl ?_
                      refine WD.tk 1 rfl (by kernel_rfl) rfl rfl (Yl.move rfl) rfl ?_
                      refine WD.tk 2 rfl (by kernel_rfl) rfl rfl (Yl.leq rfl rfl) rfl ?_
                      refine WD.tk 3 rfl (by kernel_rfl) rfl rfl (Yl.move rfl) rfl ?_
                      refine WD.both (t := 118) rfl (fun g118 => ?_) (fun g118 => ?_)
                      · refine WD.takeOn 4 rfl (by kernel_rfl) (by kernel_rfl) (by kernel_rfl) rfl rfl rfl rfl (Yl.move rfl) rfl ?_
                        refine WD.takeOn 5 rfl (by kernel_rfl) (by kernel_rfl) (by kernel_rfl) rfl rfl rfl rfl (Yl.move rfl) rfl ?_
                        refine WD.takeOn 6 rfl (by kernel_rfl) (by kernel_rfl) (by kernel_rfl) rfl rfl rfl rfl (Yl.indexF un48 sz34 rfl rfl hF rfl (by omega)) rfl ?_
                        refine WD.takeOn 7 rfl (by kernel_rfl) (by kernel_rfl) (by kernel_rfl) rfl rfl rfl rfl (Yl.loadE on34 rfl (Reads.own (by repeat constructor)) (so_getV (by omega))) rfl ?_
                        refine WD.takeOn 8 rfl (by kernel_rfl) (by kernel_rfl) (by kernel_rfl) rfl rfl rfl rfl (Yl.move rfl) rfl ?_
                        refine WD.takeOn 9 rfl (by kernel_rfl) (by kernel_rfl) (by kernel_rfl) rfl rfl rfl rfl (Yl.move rfl) rfl ?_
                        refine WD.takeOn 10 rfl (by kernel_rfl) (by kernel_rfl) (by kernel_rfl) rfl rfl rfl rfl (Yl.indexF un48 sz34 rfl rfl hF rfl (by omega)) rfl ?_
                        refine WD.takeOn 11 rfl (by kernel_rfl) (by kernel_rfl) (by kernel_rfl) rfl rfl rfl rfl (Yl.loadE on34 rfl (Reads.own (by repeat constructor)) (so_getV (by omega))) rfl ?_
                        refine WD.one 12 (by kernel_rfl) ?_
                        refine WO.callC (xs := [.tmp 122, .tmp 126]) (cap := []) rfl (.on rfl rfl) rfl rfl en138 (by repeat' constructor) (fun w hw => lessV_any _ _ w hw.left.here) rfl (fun _ => ⟨_, (by repeat' constructor)⟩) ?_
                        rintro ⟨⟩ -
                        refine WD.takeOn 13 rfl (by kernel_rfl) (by kernel_rfl) (by kernel_rfl) rfl rfl rfl rfl (Yl.not rfl) rfl ?_
                        refine WD.tk 14 rfl (by kernel_rfl) rfl rfl (Yl.pickT rfl rfl) rfl ?_
                        refine WD.say (t := 129) (v' := .bool (decide ((y : Int) ≤ (z : Int)) && !ltInt G[z]! G[a]!)) rfl (by (rw [g118]; rfl)) ?_
                        refine WD.done (by kernel_rfl) ?_
                        exact ⟨rfl, (), trivial, (by repeat' constructor), _, (by repeat' constructor)⟩
                      · refine WD.takeOff 4 rfl (by kernel_rfl) (by kernel_rfl) (by kernel_rfl) rfl rfl rfl rfl rfl rfl ?_
                        refine WD.takeOff 5 rfl (by kernel_rfl) (by kernel_rfl) (by kernel_rfl) rfl rfl rfl rfl rfl rfl ?_
                        refine WD.takeOff 6 rfl (by kernel_rfl) (by kernel_rfl) (by kernel_rfl) rfl rfl rfl rfl rfl rfl ?_
                        refine WD.takeOff 7 rfl (by kernel_rfl) (by kernel_rfl) (by kernel_rfl) rfl rfl rfl rfl rfl rfl ?_
                        refine WD.takeOff 8 rfl (by kernel_rfl) (by kernel_rfl) (by kernel_rfl) rfl rfl rfl rfl rfl rfl ?_
                        refine WD.takeOff 9 rfl (by kernel_rfl) (by kernel_rfl) (by kernel_rfl) rfl rfl rfl rfl rfl rfl ?_
                        refine WD.takeOff 10 rfl (by kernel_rfl) (by kernel_rfl) (by kernel_rfl) rfl rfl rfl rfl rfl rfl ?_
                        refine WD.takeOff 11 rfl (by kernel_rfl) (by kernel_rfl) (by kernel_rfl) rfl rfl rfl rfl rfl rfl ?_
                        refine WD.one 12 (by kernel_rfl) ?_
                        refine WO.off rfl rfl rfl rfl rfl rfl rfl ?_
                        refine WD.takeOff 13 rfl (by kernel_rfl) (by kernel_rfl) (by kernel_rfl) rfl rfl rfl rfl rfl rfl ?_
                        refine WD.tk 14 rfl (by kernel_rfl) rfl rfl (Yl.pickF rfl rfl) rfl ?_
                        refine WD.say (t := 129) (v' := .bool (decide ((y : Int) ≤ (z : Int)) && !ltInt G[z]! G[a]!)) rfl (by (rw [g118]; rfl)) ?_
                        refine WD.done (by kernel_rfl) ?_
                        exact ⟨rfl, (), trivial, (by repeat' constructor), _, (by repeat' constructor)⟩
                    · rintro ⟨⟩ -
                      refine WC.cond rfl (fun g129 => ?_) (fun g129 => ?_)
                      · refine WC.skip ?_
                        refine WC.block ?_
                        have hyz := and_le g129
                        refine WC.region ?_
                        refine WL.y (Yl.move rfl) rfl ?_
                        refine WL.y (Yl.sub rfl rfl (IntWalk.i64_in _ (by omega))) rfl ?_
                        refine WL.say (t := 131) (v' := .int .i64 ((z - 1 : Nat) : Int)) rfl (by (refine congrArg _ ?_; omega)) ?_
                        refine WL.y (Yl.assign rfl) rfl ?_
                        refine WL.nil ?_
                        exact ⟨rfl, z - 1, ⟨by omega, by rw [← down_go (by omega) g129]; exact hzJ⟩, by omega, (by repeat' constructor), _, (by repeat' constructor)⟩
                      · refine WC.exit ?_
                        refine WC.seq ?_
                        refine WC.seq ?_
                        have hze : z = J := by rw [← hzJ]; exact (down_stop (by omega) g129).symm
                        subst hze
                        refine WC.region ?_
                        refine WL.y (Yl.move rfl) rfl ?_
                        refine WL.y (Yl.move rfl) rfl ?_
                        refine WL.y (Yl.gtr rfl rfl) rfl ?_
                        refine WL.nil ?_
                        refine WC.condD rfl (fun g134 => ?_) (fun g134 => ?_)
                        · refine WC.exit ?_
                          refine WC.seq ?_
                          have hyz : y > z := by omega
                          rw [if_pos hyz] at hTG
                          subst hTG
                          dsimp only
                          refine WC.drawAny (Hs := []) mixed (by kernel_rfl) ⟨_, (by repeat' constructor)⟩ ?_
                          refine WD.tk 0 rfl (by kernel_rfl) rfl rfl (Yl.move rfl) rfl ?_
                          refine WD.tk 1 rfl (by kernel_rfl) rfl rfl (Yl.move rfl) rfl ?_
                          refine WD.tk 2 rfl (by kernel_rfl) rfl rfl (Yl.move rfl) rfl ?_
                          refine WD.tk 3 rfl (by kernel_rfl) rfl rfl (Yl.move rfl) rfl ?_
                          refine WD.tk 4 rfl (by kernel_rfl) rfl rfl (Yl.move rfl) rfl ?_
                          refine WD.tk 5 rfl (by kernel_rfl) rfl rfl (Yl.move rfl) rfl ?_
                          refine WD.tk 6 rfl (by kernel_rfl) rfl rfl (Yl.indexF un48 sz34 rfl rfl hF rfl (by omega)) rfl ?_
                          refine WD.tk 8 rfl (by kernel_rfl) rfl rfl (Yl.move rfl) rfl ?_
                          refine WD.tk 9 rfl (by kernel_rfl) rfl rfl (Yl.move rfl) rfl ?_
                          refine WD.tk 10 rfl (by kernel_rfl) rfl rfl (Yl.indexF un48 sz34 rfl rfl hF rfl (by omega)) rfl ?_
                          refine WD.two 7 11 (by kernel_rfl) ?_ ?_
                          · refine WO.y rfl rfl .no (Yl.loadE on34 rfl (Reads.own (by repeat constructor)) (so_getV (by omega))) rfl ?_
                            refine WD.one 11 (by kernel_rfl) ?_
                            refine WO.y rfl rfl .no (Yl.loadE on34 rfl (Reads.own (by repeat constructor)) (so_getV (by omega))) rfl ?_
                            refine WD.tk 12 rfl (by kernel_rfl) rfl rfl (Yl.indexF un48 sz34 rfl rfl hF rfl (by omega)) rfl ?_
                            refine WD.one 13 (by kernel_rfl) ?_
                            refine WO.sto rfl rfl .no (Sto.elem (j := z) sz34 rfl rfl (by repeat constructor) rfl (by omega) rfl) ⟨_, (by repeat' constructor)⟩ ?_
                            refine WD.tk 14 rfl (by kernel_rfl) rfl rfl (Yl.indexF un48 sz34 rfl rfl hF rfl (by omega)) rfl ?_
                            refine WD.one 15 (by kernel_rfl) ?_
                            refine WO.sto rfl rfl .no (Sto.elem (j := a) (cs' := ints .u64 (swp G (z) (a)).toList) sz34 rfl rfl (by repeat constructor) rfl (by omega) (so_swpV G (z) (a))) ⟨_, (by repeat' constructor)⟩ ?_
                            refine WD.done (by kernel_rfl) ?_
                            refine WC.seq ?_
                            refine WC.region ?_
                            refine WL.y (Yl.move rfl) rfl ?_
                            refine WL.y (Yl.assign rfl) rfl ?_
                            refine WL.y (Yl.assign rfl) rfl ?_
                            refine WL.nil ?_
                            refine WC.ret ?_
                            repeat (with_reducible (first | refine peelT ?_ | refine peelB ?_ | refine peelTX ?_ | refine peelBX ?_ | refine peelBN ?_ | refine peelBO rfl ?_))
                            exact ret2 (.inr rfl) Tryz.results140 rfl rfl fun w' h => ⟨(), trivial, rfl, h.sub (by repeat' constructor)⟩
                          · refine WO.y rfl rfl .no (Yl.loadE on34 rfl (Reads.own (by repeat constructor)) (so_getV (by omega))) rfl ?_
                            refine WD.one 7 (by kernel_rfl) ?_
                            refine WO.y rfl rfl .no (Yl.loadE on34 rfl (Reads.own (by repeat constructor)) (so_getV (by omega))) rfl ?_
                            refine WD.tk 12 rfl (by kernel_rfl) rfl rfl (Yl.indexF un48 sz34 rfl rfl hF rfl (by omega)) rfl ?_
                            refine WD.one 13 (by kernel_rfl) ?_
                            refine WO.sto rfl rfl .no (Sto.elem (j := z) sz34 rfl rfl (by repeat constructor) rfl (by omega) rfl) ⟨_, (by repeat' constructor)⟩ ?_
                            refine WD.tk 14 rfl (by kernel_rfl) rfl rfl (Yl.indexF un48 sz34 rfl rfl hF rfl (by omega)) rfl ?_
                            refine WD.one 15 (by kernel_rfl) ?_
                            refine WO.sto rfl rfl .no (Sto.elem (j := a) (cs' := ints .u64 (swp G (z) (a)).toList) sz34 rfl rfl (by repeat constructor) rfl (by omega) (so_swpV G (z) (a))) ⟨_, (by repeat' constructor)⟩ ?_
                            refine WD.done (by kernel_rfl) ?_
                            refine WC.seq ?_
                            refine WC.region ?_
                            refine WL.y (Yl.move rfl) rfl ?_
                            refine WL.y (Yl.assign rfl) rfl ?_
                            refine WL.y (Yl.assign rfl) rfl ?_
                            refine WL.nil ?_
                            refine WC.ret ?_
                            repeat (with_reducible (first | refine peelT ?_ | refine peelB ?_ | refine peelTX ?_ | refine peelBX ?_ | refine peelBN ?_ | refine peelBO rfl ?_))
                            exact ret2 (.inr rfl) Tryz.results140 rfl rfl fun w' h => ⟨(), trivial, rfl, h.sub (by repeat' constructor)⟩
                        · refine WC.skip ?_
                          refine WC.seq ?_
                          have hyz : ¬ y > z := by omega
                          rw [if_neg hyz] at hTG
                          refine WC.drawAny (Hs := []) mixed (by kernel_rfl) ⟨_, (by repeat' constructor)⟩ ?_
                          refine WD.tk 0 rfl (by kernel_rfl) rfl rfl (Yl.move rfl) rfl ?_
                          refine WD.tk 1 rfl (by kernel_rfl) rfl rfl (Yl.move rfl) rfl ?_
                          refine WD.tk 2 rfl (by kernel_rfl) rfl rfl (Yl.move rfl) rfl ?_
                          refine WD.tk 3 rfl (by kernel_rfl) rfl rfl (Yl.move rfl) rfl ?_
                          refine WD.tk 4 rfl (by kernel_rfl) rfl rfl (Yl.move rfl) rfl ?_
                          refine WD.tk 5 rfl (by kernel_rfl) rfl rfl (Yl.move rfl) rfl ?_
                          refine WD.tk 6 rfl (by kernel_rfl) rfl rfl (Yl.indexF un48 sz34 rfl rfl hF rfl (by omega)) rfl ?_
                          refine WD.tk 8 rfl (by kernel_rfl) rfl rfl (Yl.move rfl) rfl ?_
                          refine WD.tk 9 rfl (by kernel_rfl) rfl rfl (Yl.move rfl) rfl ?_
                          refine WD.tk 10 rfl (by kernel_rfl) rfl rfl (Yl.indexF un48 sz34 rfl rfl hF rfl (by omega)) rfl ?_
                          refine WD.two 7 11 (by kernel_rfl) ?_ ?_
                          · refine WO.y rfl rfl .no (Yl.loadE on34 rfl (Reads.own (by repeat constructor)) (so_getV (by omega))) rfl ?_
                            refine WD.one 11 (by kernel_rfl) ?_
                            refine WO.y rfl rfl .no (Yl.loadE on34 rfl (Reads.own (by repeat constructor)) (so_getV (by omega))) rfl ?_
                            refine WD.tk 12 rfl (by kernel_rfl) rfl rfl (Yl.indexF un48 sz34 rfl rfl hF rfl (by omega)) rfl ?_
                            refine WD.one 13 (by kernel_rfl) ?_
                            refine WO.sto rfl rfl .no (Sto.elem (j := y) sz34 rfl rfl (by repeat constructor) rfl (by omega) rfl) ⟨_, (by repeat' constructor)⟩ ?_
                            refine WD.tk 14 rfl (by kernel_rfl) rfl rfl (Yl.indexF un48 sz34 rfl rfl hF rfl (by omega)) rfl ?_
                            refine WD.one 15 (by kernel_rfl) ?_
                            refine WO.sto rfl rfl .no (Sto.elem (j := z) (cs' := ints .u64 (swp G (y) (z)).toList) sz34 rfl rfl (by repeat constructor) rfl (by omega) (so_swpV G (y) (z))) ⟨_, (by repeat' constructor)⟩ ?_
                            refine WD.done (by kernel_rfl) ?_
                            refine WC.seq ?_
                            refine WC.region ?_
                            refine WL.y (Yl.move rfl) rfl ?_
                            refine WL.y (Yl.add rfl rfl (IntWalk.i64_in _ (by omega))) rfl ?_
                            refine WL.y (Yl.assign rfl) rfl ?_
                            refine WL.nil ?_
                            refine WC.region ?_
                            refine WL.y (Yl.move rfl) rfl ?_
                            refine WL.y (Yl.sub rfl rfl (IntWalk.i64_in _ (by omega))) rfl ?_
                            refine WL.say (t := 152) (v' := .int .i64 ((z - 1 : Nat) : Int)) rfl (by (refine congrArg _ ?_; omega)) ?_
                            refine WL.y (Yl.assign rfl) rfl ?_
                            refine WL.nil ?_
                            exact ⟨rfl, (y + 1, z - 1, swp G y z), ⟨by dsimp only; omega, by dsimp only; omega, by dsimp only; rw [swp_size]; exact hG, hTG⟩, by dsimp only; omega, (by repeat' constructor), _, (by repeat' constructor)⟩
                          · refine WO.y rfl rfl .no (Yl.loadE on34 rfl (Reads.own (by repeat constructor)) (so_getV (by omega))) rfl ?_
                            refine WD.one 7 (by kernel_rfl) ?_
                            refine WO.y rfl rfl .no (Yl.loadE on34 rfl (Reads.own (by repeat constructor)) (so_getV (by omega))) rfl ?_
                            refine WD.tk 12 rfl (by kernel_rfl) rfl rfl (Yl.indexF un48 sz34 rfl rfl hF rfl (by omega)) rfl ?_
                            refine WD.one 13 (by kernel_rfl) ?_
                            refine WO.sto rfl rfl .no (Sto.elem (j := y) sz34 rfl rfl (by repeat constructor) rfl (by omega) rfl) ⟨_, (by repeat' constructor)⟩ ?_
                            refine WD.tk 14 rfl (by kernel_rfl) rfl rfl (Yl.indexF un48 sz34 rfl rfl hF rfl (by omega)) rfl ?_
                            refine WD.one 15 (by kernel_rfl) ?_
                            refine WO.sto rfl rfl .no (Sto.elem (j := z) (cs' := ints .u64 (swp G (y) (z)).toList) sz34 rfl rfl (by repeat constructor) rfl (by omega) (so_swpV G (y) (z))) ⟨_, (by repeat' constructor)⟩ ?_
                            refine WD.done (by kernel_rfl) ?_
                            refine WC.seq ?_
                            refine WC.region ?_
                            refine WL.y (Yl.move rfl) rfl ?_
                            refine WL.y (Yl.add rfl rfl (IntWalk.i64_in _ (by omega))) rfl ?_
                            refine WL.y (Yl.assign rfl) rfl ?_
                            refine WL.nil ?_
                            refine WC.region ?_
                            refine WL.y (Yl.move rfl) rfl ?_
                            refine WL.y (Yl.sub rfl rfl (IntWalk.i64_in _ (by omega))) rfl ?_
                            refine WL.say (t := 152) (v' := .int .i64 ((z - 1 : Nat) : Int)) rfl (by (refine congrArg _ ?_; omega)) ?_
                            refine WL.y (Yl.assign rfl) rfl ?_
                            refine WL.nil ?_
                            exact ⟨rfl, (y + 1, z - 1, swp G y z), ⟨by dsimp only; omega, by dsimp only; omega, by dsimp only; rw [swp_size]; exact hG, hTG⟩, by dsimp only; omega, (by repeat' constructor), _, (by repeat' constructor)⟩
              · refine WO.y rfl rfl .no (Yl.loadE on34 rfl (Reads.own (by repeat constructor)) (so_getV (by omega))) rfl ?_
                refine WD.one 7 (by kernel_rfl) ?_
                refine WO.y rfl rfl .no (Yl.loadE on34 rfl (Reads.own (by repeat constructor)) (so_getV (by omega))) rfl ?_
                refine WD.tk 12 rfl (by kernel_rfl) rfl rfl (Yl.indexF un48 sz34 rfl rfl hF rfl (by omega)) rfl ?_
                refine WD.one 13 (by kernel_rfl) ?_
                refine WO.sto rfl rfl .no (Sto.elem (j := p) sz34 rfl rfl (by repeat constructor) rfl (by omega) rfl) ⟨_, (by repeat' constructor)⟩ ?_
                refine WD.tk 14 rfl (by kernel_rfl) rfl rfl (Yl.indexF un48 sz34 rfl rfl hF rfl (by omega)) rfl ?_
                refine WD.one 15 (by kernel_rfl) ?_
                refine WO.sto rfl rfl .no (Sto.elem (j := q) (cs' := ints .u64 (swp B (p) (q)).toList) sz34 rfl rfl (by repeat constructor) rfl (by omega) (so_swpV B (p) (q))) ⟨_, (by repeat' constructor)⟩ ?_
                refine WD.done (by kernel_rfl) ?_
                refine WC.seq ?_
                refine WC.region ?_
                refine WL.y (Yl.move rfl) rfl ?_
                refine WL.y (Yl.add rfl rfl (IntWalk.i64_in _ (by omega))) rfl ?_
                refine WL.y (Yl.assign rfl) rfl ?_
                refine WL.nil ?_
                refine WC.seq ?_
                refine WC.region ?_
                refine WL.y (Yl.move rfl) rfl ?_
                refine WL.y (Yl.sub rfl rfl (IntWalk.i64_in _ (by omega))) rfl ?_
                refine WL.say (t := 98) (v' := .int .i64 ((q - 1 : Nat) : Int)) rfl (by (refine congrArg _ ?_; omega)) ?_
                refine WL.y (Yl.assign rfl) rfl ?_
                refine WL.nil ?_
                refine WC.seq ?_
                refine WC.block ?_
                obtain ⟨T, hT⟩ : ∃ T, partLoop ltInt a (p + 1) (q - 1) (swp B p q) = T := ⟨_, rfl⟩
                rw [hT]
                refine WC.loop (α := Nat × Nat × Array Int) (fun z => [(0, v), (1, .int .i64 (a : Int)), (10, .int .i64 (z.1 : Int)), (11, .int .i64 (z.2.1 : Int))]) (fun z => [ownR v 34 1 n (ints .u64 z.2.2.toList)]) (fun z => (a < z.1 ∧ z.1 ≤ n) ∧ z.2.1 < n ∧ z.2.2.size = n ∧ partLoop ltInt a z.1 z.2.1 z.2.2 = T) (fun z => z.2.1 + 1 - z.1) (p + 1, q - 1, swp B p q) ⟨by dsimp only; omega, by dsimp only; omega, by dsimp only; omega, hT⟩ ⟨(by repeat' constructor), _, (by repeat' constructor)⟩ ?_
                rintro ⟨i, j, G⟩ ⟨⟨hai, hin⟩, hjn, hG, hTG⟩
                dsimp only at hai hin hjn hG hTG ⊢
                have hgu := scanUp_ge (fun x => ltInt x G[a]!) G j i
                have hgd := scanDown_le (fun x => !ltInt x G[a]!) G (scanUp (fun x => ltInt x G[a]!) G j i) j
                rw [partLoop_eq] at hTG
                obtain ⟨I, hI⟩ : ∃ I, scanUp (fun x => ltInt x G[a]!) G j i = I := ⟨_, rfl⟩
                rw [hI] at hgu hgd hTG
                obtain ⟨J, hJ⟩ : ∃ J, scanDown (fun x => !ltInt x G[a]!) G I j = J := ⟨_, rfl⟩
                rw [hJ] at hgd hTG
                refine WC.block ?_
                refine WC.seq ?_
                refine WC.block ?_
                refine WC.loop (α := Nat) (fun y => [(0, v), (1, .int .i64 (a : Int)), (10, .int .i64 (y : Int)), (11, .int .i64 (j : Int))]) (fun _ => [ownR v 34 1 n (ints .u64 G.toList)]) (fun y => (a < y ∧ y ≤ n) ∧ scanUp (fun x => ltInt x G[a]!) G j y = I) (fun y => n + 1 - y) i ⟨⟨hai, hin⟩, hI⟩ ⟨(by repeat' constructor), _, (by repeat' constructor)⟩ ?_
                rintro y ⟨⟨hay, hyn⟩, hyI⟩
                refine WC.seq ?_
                refine WC.midX (α := Unit) (fun _ => [(0, v), (1, .int .i64 (a : Int)), (10, .int .i64 (y : Int)), (11, .int .i64 (j : Int)), (112, .bool (decide ((y : Int) ≤ (j : Int)) && ltInt G[y]! G[a]!))]) (fun _ => [ownR v 34 1 n (ints .u64 G.toList)]) (fun _ => True) ?_ ?_
                · refine WC.drawAny (Hs := [ownR v 34 1 n (ints .u64 G.toList)]) mixed (by kernel_rfl) ⟨_, (by repeat' constructor)⟩ ?_
                  refine WD.tk 0 rfl (by kernel_rfl) rfl rfl (Yl.move rfl) rfl ?_
                  refine WD.tk 1 rfl (by kernel_rfl) rfl rfl (Yl.move rfl) rfl ?_
                  refine WD.tk 2 rfl (by kernel_rfl) rfl rfl (Yl.leq rfl rfl) rfl ?_
                  refine WD.tk 3 rfl (by kernel_rfl) rfl rfl (Yl.move rfl) rfl ?_
                  refine WD.both (t := 102) rfl (fun g102 => ?_) (fun g102 => ?_)
                  · have hyj : y ≤ j := by have := of_decide_eq_true g102; omega
                    refine WD.takeOn 4 rfl (by kernel_rfl) (by kernel_rfl) (by kernel_rfl) rfl rfl rfl rfl (Yl.move rfl) rfl ?_
                    refine WD.takeOn 5 rfl (by kernel_rfl) (by kernel_rfl) (by kernel_rfl) rfl rfl rfl rfl (Yl.move rfl) rfl ?_
                    refine WD.takeOn 6 rfl (by kernel_rfl) (by kernel_rfl) (by kernel_rfl) rfl rfl rfl rfl (Yl.indexF un48 sz34 rfl rfl hF rfl (by omega)) rfl ?_
                    refine WD.takeOn 7 rfl (by kernel_rfl) (by kernel_rfl) (by kernel_rfl) rfl rfl rfl rfl (Yl.loadE on34 rfl (Reads.own (by repeat constructor)) (so_getV (by omega))) rfl ?_
                    refine WD.takeOn 8 rfl (by kernel_rfl) (by kernel_rfl) (by kernel_rfl) rfl rfl rfl rfl (Yl.move rfl) rfl ?_
                    refine WD.takeOn 9 rfl (by kernel_rfl) (by kernel_rfl) (by kernel_rfl) rfl rfl rfl rfl (Yl.move rfl) rfl ?_
                    refine WD.takeOn 10 rfl (by kernel_rfl) (by kernel_rfl) (by kernel_rfl) rfl rfl rfl rfl (Yl.indexF un48 sz34 rfl rfl hF rfl (by omega)) rfl ?_
                    refine WD.takeOn 11 rfl (by kernel_rfl) (by kernel_rfl) (by kernel_rfl) rfl rfl rfl rfl (Yl.loadE on34 rfl (Reads.own (by repeat constructor)) (so_getV (by omega))) rfl ?_
                    refine WD.one 12 (by kernel_rfl) ?_
                    refine WO.callC (xs := [.tmp 106, .tmp 110]) (cap := []) rfl (.on rfl rfl) rfl rfl en138 (by repeat' constructor) (fun w hw => lessV_any _ _ w hw.left.here) rfl (fun _ => ⟨_, (by repeat' constructor)⟩) ?_
                    rintro ⟨⟩ -
                    refine WD.tk 13 rfl (by kernel_rfl) rfl rfl (Yl.pickT rfl rfl) rfl ?_
                    refine WD.say (t := 112) (v' := .bool (decide ((y : Int) ≤ (j : Int)) && ltInt G[y]! G[a]!)) rfl (by (rw [g102]; rfl)) ?_
                    refine WD.done (by kernel_rfl) ?_
                    exact ⟨rfl, (), trivial, (by repeat' constructor), _, (by repeat' constructor)⟩
                  · refine WD.takeOff 4 rfl (by kernel_rfl) (by kernel_rfl) (by kernel_rfl) rfl rfl rfl rfl rfl rfl ?_
                    refine WD.takeOff 5 rfl (by kernel_rfl) (by kernel_rfl) (by kernel_rfl) rfl rfl rfl rfl rfl rfl ?_
                    refine WD.takeOff 6 rfl (by kernel_rfl) (by kernel_rfl) (by kernel_rfl) rfl rfl rfl rfl rfl rfl ?_
                    refine WD.takeOff 7 rfl (by kernel_rfl) (by kernel_rfl) (by kernel_rfl) rfl rfl rfl rfl rfl rfl ?_
                    refine WD.takeOff 8 rfl (by kernel_rfl) (by kernel_rfl) (by kernel_rfl) rfl rfl rfl rfl rfl rfl ?_
                    refine WD.takeOff 9 rfl (by kernel_rfl) (by kernel_rfl) (by kernel_rfl) rfl rfl rfl rfl rfl rfl ?_
                    refine WD.takeOff 10 rfl (by kernel_rfl) (by kernel_rfl) (by kernel_rfl) rfl rfl rfl rfl rfl rfl ?_
                    refine WD.takeOff 11 rfl (by kernel_rfl) (by kernel_rfl) (by kernel_rfl) rfl rfl rfl rfl rfl rfl ?_
                    refine WD.one 12 (by kernel_rfl) ?_
                    refine WO.off rfl rfl rfl rfl rfl rfl rfl ?_
                    refine WD.tk 13 rfl (by kernel_rfl) rfl rfl (Yl.pickF rfl rfl) rfl ?_
                    refine WD.say (t := 112) (v' := .bool (decide ((y : Int) ≤ (j : Int)) && ltInt G[y]! G[a]!)) rfl (by (rw [g102]; rfl)) ?_
                    refine WD.done (by kernel_rfl) ?_
                    exact ⟨rfl, (), trivial, (by repeat' constructor), _, (by repeat' constructor)⟩
                · rintro ⟨⟩ -
                  refine WC.cond rfl (fun g112 => ?_) (fun g112 => ?_)
                  · refine WC.skip ?_
                    refine WC.block ?_
                    have hyj := and_le g112
                    refine WC.region ?_
                    refine WL.y (Yl.move rfl) rfl ?_
                    refine WL.y (Yl.add rfl rfl (IntWalk.i64_in _ (by omega))) rfl ?_
                    refine WL.y (Yl.assign rfl) rfl ?_
                    refine WL.nil ?_
                    exact ⟨rfl, y + 1, ⟨by omega, by rw [← up_go g112]; exact hyI⟩, by omega, (by repeat' constructor), _, (by repeat' constructor)⟩
                  · refine WC.exit ?_
                    refine WC.seq ?_
                    refine WC.block ?_
                    have hye : y = I := by rw [← hyI]; exact (up_stop g112).symm
                    subst hye
                    refine WC.loop (α := Nat) (fun z => [(0, v), (1, .int .i64 (a : Int)), (10, .int .i64 (y : Int)), (11, .int .i64 (z : Int))]) (fun _ => [ownR v 34 1 n (ints .u64 G.toList)]) (fun z => z < n ∧ scanDown (fun x => !ltInt x G[a]!) G y z = J) (fun z => z) j ⟨hjn, hJ⟩ ⟨(by repeat' constructor), _, (by repeat' constructor)⟩ ?_
                    rintro z ⟨hzn, hzJ⟩
                    refine WC.seq ?_
                    refine WC.midX (α := Unit) (fun _ => [(0, v), (1, .int .i64 (a : Int)), (10, .int .i64 (y : Int)), (11, .int .i64 (z : Int)), (129, .bool (decide ((y : Int) ≤ (z : Int)) && !ltInt G[z]! G[a]!))]) (fun _ => [ownR v 34 1 n (ints .u64 G.toList)]) (fun _ => True) ?_ ?_
                    · refine WC.drawAny (Hs := [ownR v 34 1 n (ints .u64 G.toList)]) mixed (by kernel_rfl) ⟨_, (by repeat' constructor)⟩ ?_
                      refine WD.tk 0 rfl (by kernel_rfl) rfl rfl (Yl.move rfl) rfl ?_
                      refine WD.tk 1 rfl (by kernel_rfl) rfl rfl (Yl.move rfl) rfl ?_
                      refine WD.tk 2 rfl (by kernel_rfl) rfl rfl (Yl.leq rfl rfl) rfl ?_
                      refine WD.tk 3 rfl (by kernel_rfl) rfl rfl (Yl.move rfl) rfl ?_
                      refine WD.both (t := 118) rfl (fun g118 => ?_) (fun g118 => ?_)
                      · refine WD.takeOn 4 rfl (by kernel_rfl) (by kernel_rfl) (by kernel_rfl) rfl rfl rfl rfl (Yl.move rfl) rfl ?_
                        refine WD.takeOn 5 rfl (by kernel_rfl) (by kernel_rfl) (by kernel_rfl) rfl rfl rfl rfl (Yl.move rfl) rfl ?_
                        refine WD.takeOn 6 rfl (by kernel_rfl) (by kernel_rfl) (by kernel_rfl) rfl rfl rfl rfl (Yl.indexF un48 sz34 rfl rfl hF rfl (by omega)) rfl ?_
                        refine WD.takeOn 7 rfl (by kernel_rfl) (by kernel_rfl) (by kernel_rfl) rfl rfl rfl rfl (Yl.loadE on34 rfl (Reads.own (by repeat constructor)) (so_getV (by omega))) rfl ?_
                        refine WD.takeOn 8 rfl (by kernel_rfl) (by kernel_rfl) (by kernel_rfl) rfl rfl rfl rfl (Yl.move rfl) rfl ?_
                        refine WD.takeOn 9 rfl (by kernel_rfl) (by kernel_rfl) (by kernel_rfl) rfl rfl rfl rfl (Yl.move rfl) rfl ?_
                        refine WD.takeOn 10 rfl (by kernel_rfl) (by kernel_rfl) (by kernel_rfl) rfl rfl rfl rfl (Yl.indexF un48 sz34 rfl rfl hF rfl (by omega)) rfl ?_
                        refine WD.takeOn 11 rfl (by kernel_rfl) (by kernel_rfl) (by kernel_rfl) rfl rfl rfl rfl (Yl.loadE on34 rfl (Reads.own (by repeat constructor)) (so_getV (by omega))) rfl ?_
                        refine WD.one 12 (by kernel_rfl) ?_
                        refine WO.callC (xs := [.tmp 122, .tmp 126]) (cap := []) rfl (.on rfl rfl) rfl rfl en138 (by repeat' constructor) (fun w hw => lessV_any _ _ w hw.left.here) rfl (fun _ => ⟨_, (by repeat' constructor)⟩) ?_
                        rintro ⟨⟩ -
                        refine WD.takeOn 13 rfl (by kernel_rfl) (by kernel_rfl) (by kernel_rfl) rfl rfl rfl rfl (Yl.not rfl) rfl ?_
                        refine WD.tk 14 rfl (by kernel_rfl) rfl rfl (Yl.pickT rfl rfl) rfl ?_
                        refine WD.say (t := 129) (v' := .bool (decide ((y : Int) ≤ (z : Int)) && !ltInt G[z]! G[a]!)) rfl (by (rw [g118]; rfl)) ?_
                        refine WD.done (by kernel_rfl) ?_
                        exact ⟨rfl, (), trivial, (by repeat' constructor), _, (by repeat' constructor)⟩
                      · refine WD.takeOff 4 rfl (by kernel_rfl) (by kernel_rfl) (by kernel_rfl) rfl rfl rfl rfl rfl rfl ?_
                        refine WD.takeOff 5 rfl (by kernel_rfl) (by kernel_rfl) (by kernel_rfl) rfl rfl rfl rfl rfl rfl ?_
                        refine WD.takeOff 6 rfl (by kernel_rfl) (by kernel_rfl) (by kernel_rfl) rfl rfl rfl rfl rfl rfl ?_
                        refine WD.takeOff 7 rfl (by kernel_rfl) (by kernel_rfl) (by kernel_rfl) rfl rfl rfl rfl rfl rfl ?_
                        refine WD.takeOff 8 rfl (by kernel_rfl) (by kernel_rfl) (by kernel_rfl) rfl rfl rfl rfl rfl rfl ?_
                        refine WD.takeOff 9 rfl (by kernel_rfl) (by kernel_rfl) (by kernel_rfl) rfl rfl rfl rfl rfl rfl ?_
                        refine WD.takeOff 10 rfl (by kernel_rfl) (by kernel_rfl) (by kernel_rfl) rfl rfl rfl rfl rfl rfl ?_
                        refine WD.takeOff 11 rfl (by kernel_rfl) (by kernel_rfl) (by kernel_rfl) rfl rfl rfl rfl rfl rfl ?_
                        refine WD.one 12 (by kernel_rfl) ?_
                        refine WO.off rfl rfl rfl rfl rfl rfl rfl ?_
                        refine WD.takeOff 13 rfl (by kernel_rfl) (by kernel_rfl) (by kernel_rfl) rfl rfl rfl rfl rfl rfl ?_
                        refine WD.tk 14 rfl (by kernel_rfl) rfl rfl (Yl.pickF rfl rfl) rfl ?_
                        refine WD.say (t := 129) (v' := .bool (decide ((y : Int) ≤ (z : Int)) && !ltInt G[z]! G[a]!)) rfl (by (rw [g118]; rfl)) ?_
                        refine WD.done (by kernel_rfl) ?_
                        exact ⟨rfl, (), trivial, (by repeat' constructor), _, (by repeat' constructor)⟩
                    · rintro ⟨⟩ -
                      refine WC.cond rfl (fun g129 => ?_) (fun g129 => ?_)
                      · refine WC.skip ?_
                        refine WC.block ?_
                        have hyz := and_le g129
                        refine WC.region ?_
                        refine WL.y (Yl.move rfl) rfl ?_
                        refine WL.y (Yl.sub rfl rfl (IntWalk.i64_in _ (by omega))) rfl ?_
                        refine WL.say (t := 131) (v' := .int .i64 ((z - 1 : Nat) : Int)) rfl (by (refine congrArg _ ?_; omega)) ?_
                        refine WL.y (Yl.assign rfl) rfl ?_
                        refine WL.nil ?_
                        exact ⟨rfl, z - 1, ⟨by omega, by rw [← down_go (by omega) g129]; exact hzJ⟩, by omega, (by repeat' constructor), _, (by repeat' constructor)⟩
                      · refine WC.exit ?_
                        refine WC.seq ?_
                        refine WC.seq ?_
                        have hze : z = J := by rw [← hzJ]; exact (down_stop (by omega) g129).symm
                        subst hze
                        refine WC.region ?_
                        refine WL.y (Yl.move rfl) rfl ?_
                        refine WL.y (Yl.move rfl) rfl ?_
                        refine WL.y (Yl.gtr rfl rfl) rfl ?_
                        refine WL.nil ?_
                        refine WC.condD rfl (fun g134 => ?_) (fun g134 => ?_)
                        · refine WC.exit ?_
                          refine WC.seq ?_
                          have hyz : y > z := by omega
                          rw [if_pos hyz] at hTG
                          subst hTG
                          dsimp only
                          refine WC.drawAny (Hs := []) mixed (by kernel_rfl) ⟨_, (by repeat' constructor)⟩ ?_
                          refine WD.tk 0 rfl (by kernel_rfl) rfl rfl (Yl.move rfl) rfl ?_
                          refine WD.tk 1 rfl (by kernel_rfl) rfl rfl (Yl.move rfl) rfl ?_
                          refine WD.tk 2 rfl (by kernel_rfl) rfl rfl (Yl.move rfl) rfl ?_
                          refine WD.tk 3 rfl (by kernel_rfl) rfl rfl (Yl.move rfl) rfl ?_
                          refine WD.tk 4 rfl (by kernel_rfl) rfl rfl (Yl.move rfl) rfl ?_
                          refine WD.tk 5 rfl (by kernel_rfl) rfl rfl (Yl.move rfl) rfl ?_
                          refine WD.tk 6 rfl (by kernel_rfl) rfl rfl (Yl.indexF un48 sz34 rfl rfl hF rfl (by omega)) rfl ?_
                          refine WD.tk 8 rfl (by kernel_rfl) rfl rfl (Yl.move rfl) rfl ?_
                          refine WD.tk 9 rfl (by kernel_rfl) rfl rfl (Yl.move rfl) rfl ?_
                          refine WD.tk 10 rfl (by kernel_rfl) rfl rfl (Yl.indexF un48 sz34 rfl rfl hF rfl (by omega)) rfl ?_
                          refine WD.two 7 11 (by kernel_rfl) ?_ ?_
                          · refine WO.y rfl rfl .no (Yl.loadE on34 rfl (Reads.own (by repeat constructor)) (so_getV (by omega))) rfl ?_
                            refine WD.one 11 (by kernel_rfl) ?_
                            refine WO.y rfl rfl .no (Yl.loadE on34 rfl (Reads.own (by repeat constructor)) (so_getV (by omega))) rfl ?_
                            refine WD.tk 12 rfl (by kernel_rfl) rfl rfl (Yl.indexF un48 sz34 rfl rfl hF rfl (by omega)) rfl ?_
                            refine WD.one 13 (by kernel_rfl) ?_
                            refine WO.sto rfl rfl .no (Sto.elem (j := z) sz34 rfl rfl (by repeat constructor) rfl (by omega) rfl) ⟨_, (by repeat' constructor)⟩ ?_
                            refine WD.tk 14 rfl (by kernel_rfl) rfl rfl (Yl.indexF un48 sz34 rfl rfl hF rfl (by omega)) rfl ?_
                            refine WD.one 15 (by kernel_rfl) ?_
                            refine WO.sto rfl rfl .no (Sto.elem (j := a) (cs' := ints .u64 (swp G (z) (a)).toList) sz34 rfl rfl (by repeat constructor) rfl (by omega) (so_swpV G (z) (a))) ⟨_, (by repeat' constructor)⟩ ?_
                            refine WD.done (by kernel_rfl) ?_
                            refine WC.seq ?_
                            refine WC.region ?_
                            refine WL.y (Yl.move rfl) rfl ?_
                            refine WL.y (Yl.assign rfl) rfl ?_
                            refine WL.y (Yl.assign rfl) rfl ?_
                            refine WL.nil ?_
                            refine WC.ret ?_
                            repeat (with_reducible (first | refine peelT ?_ | refine peelB ?_ | refine peelTX ?_ | refine peelBX ?_ | refine peelBN ?_ | refine peelBO rfl ?_))
                            exact ret2 (.inr rfl) Tryz.results140 rfl rfl fun w' h => ⟨(), trivial, rfl, h.sub (by repeat' constructor)⟩
                          · refine WO.y rfl rfl .no (Yl.loadE on34 rfl (Reads.own (by repeat constructor)) (so_getV (by omega))) rfl ?_
                            refine WD.one 7 (by kernel_rfl) ?_
                            refine WO.y rfl rfl .no (Yl.loadE on34 rfl (Reads.own (by repeat constructor)) (so_getV (by omega))) rfl ?_
                            refine WD.tk 12 rfl (by kernel_rfl) rfl rfl (Yl.indexF un48 sz34 rfl rfl hF rfl (by omega)) rfl ?_
                            refine WD.one 13 (by kernel_rfl) ?_
                            refine WO.sto rfl rfl .no (Sto.elem (j := z) sz34 rfl rfl (by repeat constructor) rfl (by omega) rfl) ⟨_, (by repeat' constructor)⟩ ?_
                            refine WD.tk 14 rfl (by kernel_rfl) rfl rfl (Yl.indexF un48 sz34 rfl rfl hF rfl (by omega)) rfl ?_
                            refine WD.one 15 (by kernel_rfl) ?_
                            refine WO.sto rfl rfl .no (Sto.elem (j := a) (cs' := ints .u64 (swp G (z) (a)).toList) sz34 rfl rfl (by repeat constructor) rfl (by omega) (so_swpV G (z) (a))) ⟨_, (by repeat' constructor)⟩ ?_
                            refine WD.done (by kernel_rfl) ?_
                            refine WC.seq ?_
                            refine WC.region ?_
                            refine WL.y (Yl.move rfl) rfl ?_
                            refine WL.y (Yl.assign rfl) rfl ?_
                            refine WL.y (Yl.assign rfl) rfl ?_
                            refine WL.nil ?_
                            refine WC.ret ?_
                            repeat (with_reducible (first | refine peelT ?_ | refine peelB ?_ | refine peelTX ?_ | refine peelBX ?_ | refine peelBN ?_ | refine peelBO rfl ?_))
                            exact ret2 (.inr rfl) Tryz.results140 rfl rfl fun w' h => ⟨(), trivial, rfl, h.sub (by repeat' constructor)⟩
                        · refine WC.skip ?_
                          refine WC.seq ?_
                          have hyz : ¬ y > z := by omega
                          rw [if_neg hyz] at hTG
                          refine WC.drawAny (Hs := []) mixed (by kernel_rfl) ⟨_, (by repeat' constructor)⟩ ?_
                          refine WD.tk 0 rfl (by kernel_rfl) rfl rfl (Yl.move rfl) rfl ?_
                          refine WD.tk 1 rfl (by kernel_rfl) rfl rfl (Yl.move rfl) rfl ?_
                          refine WD.tk 2 rfl (by kernel_rfl) rfl rfl (Yl.move rfl) rfl ?_
                          refine WD.tk 3 rfl (by kernel_rfl) rfl rfl (Yl.move rfl) rfl ?_
                          refine WD.tk 4 rfl (by kernel_rfl) rfl rfl (Yl.move rfl) rfl ?_
                          refine WD.tk 5 rfl (by kernel_rfl) rfl rfl (Yl.move rfl) rfl ?_
                          refine WD.tk 6 rfl (by kernel_rfl) rfl rfl (Yl.indexF un48 sz34 rfl rfl hF rfl (by omega)) rfl ?_
                          refine WD.tk 8 rfl (by kernel_rfl) rfl rfl (Yl.move rfl) rfl ?_
                          refine WD.tk 9 rfl (by kernel_rfl) rfl rfl (Yl.move rfl) rfl ?_
                          refine WD.tk 10 rfl (by kernel_rfl) rfl rfl (Yl.indexF un48 sz34 rfl rfl hF rfl (by omega)) rfl ?_
                          refine WD.two 7 11 (by kernel_rfl) ?_ ?_
                          · refine WO.y rfl rfl .no (Yl.loadE on34 rfl (Reads.own (by repeat constructor)) (so_getV (by omega))) rfl ?_
                            refine WD.one 11 (by kernel_rfl) ?_
                            refine WO.y rfl rfl .no (Yl.loadE on34 rfl (Reads.own (by repeat constructor)) (so_getV (by omega))) rfl ?_
                            refine WD.tk 12 rfl (by kernel_rfl) rfl rfl (Yl.indexF un48 sz34 rfl rfl hF rfl (by omega)) rfl ?_
                            refine WD.one 13 (by kernel_rfl) ?_
                            refine WO.sto rfl rfl .no (Sto.elem (j := y) sz34 rfl rfl (by repeat constructor) rfl (by omega) rfl) ⟨_, (by repeat' constructor)⟩ ?_
                            refine WD.tk 14 rfl (by kernel_rfl) rfl rfl (Yl.indexF un48 sz34 rfl rfl hF rfl (by omega)) rfl ?_
                            refine WD.one 15 (by kernel_rfl) ?_
                            refine WO.sto rfl rfl .no (Sto.elem (j := z) (cs' := ints .u64 (swp G (y) (z)).toList) sz34 rfl rfl (by repeat constructor) rfl (by omega) (so_swpV G (y) (z))) ⟨_, (by repeat' constructor)⟩ ?_
                            refine WD.done (by kernel_rfl) ?_
                            refine WC.seq ?_
                            refine WC.region ?_
                            refine WL.y (Yl.move rfl) rfl ?_
                            refine WL.y (Yl.add rfl rfl (IntWalk.i64_in _ (by omega))) rfl ?_
                            refine WL.y (Yl.assign rfl) rfl ?_
                            refine WL.nil ?_
                            refine WC.region ?_
                            refine WL.y (Yl.move rfl) rfl ?_
                            refine WL.y (Yl.sub rfl rfl (IntWalk.i64_in _ (by omega))) rfl ?_
                            refine WL.say (t := 152) (v' := .int .i64 ((z - 1 : Nat) : Int)) rfl (by (refine congrArg _ ?_; omega)) ?_
                            refine WL.y (Yl.assign rfl) rfl ?_
                            refine WL.nil ?_
                            exact ⟨rfl, (y + 1, z - 1, swp G y z), ⟨by dsimp only; omega, by dsimp only; omega, by dsimp only; rw [swp_size]; exact hG, hTG⟩, by dsimp only; omega, (by repeat' constructor), _, (by repeat' constructor)⟩
                          · refine WO.y rfl rfl .no (Yl.loadE on34 rfl (Reads.own (by repeat constructor)) (so_getV (by omega))) rfl ?_
                            refine WD.one 7 (by kernel_rfl) ?_
                            refine WO.y rfl rfl .no (Yl.loadE on34 rfl (Reads.own (by repeat constructor)) (so_getV (by omega))) rfl ?_
                            refine WD.tk 12 rfl (by kernel_rfl) rfl rfl (Yl.indexF un48 sz34 rfl rfl hF rfl (by omega)) rfl ?_
                            refine WD.one 13 (by kernel_rfl) ?_
                            refine WO.sto rfl rfl .no (Sto.elem (j := y) sz34 rfl rfl (by repeat constructor) rfl (by omega) rfl) ⟨_, (by repeat' constructor)⟩ ?_
                            refine WD.tk 14 rfl (by kernel_rfl) rfl rfl (Yl.indexF un48 sz34 rfl rfl hF rfl (by omega)) rfl ?_
                            refine WD.one 15 (by kernel_rfl) ?_
                            refine WO.sto rfl rfl .no (Sto.elem (j := z) (cs' := ints .u64 (swp G (y) (z)).toList) sz34 rfl rfl (by repeat constructor) rfl (by omega) (so_swpV G (y) (z))) ⟨_, (by repeat' constructor)⟩ ?_
                            refine WD.done (by kernel_rfl) ?_
                            refine WC.seq ?_
                            refine WC.region ?_
                            refine WL.y (Yl.move rfl) rfl ?_
                            refine WL.y (Yl.add rfl rfl (IntWalk.i64_in _ (by omega))) rfl ?_
                            refine WL.y (Yl.assign rfl) rfl ?_
                            refine WL.nil ?_
                            refine WC.region ?_
                            refine WL.y (Yl.move rfl) rfl ?_
                            refine WL.y (Yl.sub rfl rfl (IntWalk.i64_in _ (by omega))) rfl ?_
                            refine WL.say (t := 152) (v' := .int .i64 ((z - 1 : Nat) : Int)) rfl (by (refine congrArg _ ?_; omega)) ?_
                            refine WL.y (Yl.assign rfl) rfl ?_
                            refine WL.nil ?_
                            exact ⟨rfl, (y + 1, z - 1, swp G y z), ⟨by dsimp only; omega, by dsimp only; omega, by dsimp only; rw [swp_size]; exact hG, hTG⟩, by dsimp only; omega, (by repeat' constructor), _, (by repeat' constructor)⟩
  · refine WO.y rfl rfl .no (Yl.loadE on34 rfl (Reads.own (by repeat constructor)) (so_getV (by omega))) rfl ?_
    refine WD.one 7 (by kernel_rfl) ?_
    refine WO.y rfl rfl .no (Yl.loadE on34 rfl (Reads.own (by repeat constructor)) (so_getV (by omega))) rfl ?_
    refine WD.tk 12 rfl (by kernel_rfl) rfl rfl (Yl.indexF un48 sz34 rfl rfl hF rfl (by omega)) rfl ?_
    refine WD.one 13 (by kernel_rfl) ?_
    refine WO.sto rfl rfl .no (Sto.elem (j := a) sz34 rfl rfl (by repeat constructor) rfl (by omega) rfl) ⟨_, (by repeat' constructor)⟩ ?_
    refine WD.tk 14 rfl (by kernel_rfl) rfl rfl (Yl.indexF un48 sz34 rfl rfl hF rfl (by omega)) rfl ?_
    refine WD.one 15 (by kernel_rfl) ?_
    refine WO.sto rfl rfl .no (Sto.elem (j := pv) (cs' := ints .u64 (swp D (a) (pv)).toList) sz34 rfl rfl (by repeat constructor) rfl (by omega) (so_swpV D (a) (pv))) ⟨_, (by repeat' constructor)⟩ ?_
    refine WD.done (by kernel_rfl) ?_
    refine WC.seq ?_
    rw [hB]
    refine WC.region ?_
    refine WL.y (Yl.move rfl) rfl ?_
    refine WL.y (Yl.add rfl rfl (IntWalk.i64_in _ (by omega))) rfl ?_
    refine WL.y (Yl.move rfl) rfl ?_
    refine WL.y (Yl.sub rfl rfl (IntWalk.i64_in _ (by omega))) rfl ?_
    refine WL.say (t := 29) (v' := .int .i64 ((b - 1 : Nat) : Int)) rfl (by (refine congrArg _ ?_; omega)) ?_
    refine WL.y (Yl.assign rfl) rfl ?_
    refine WL.y (Yl.assign rfl) rfl ?_
    refine WL.nil ?_
    refine WC.seq ?_
    refine WC.block ?_
    refine WC.loop (α := Nat) (fun p => [(0, v), (1, .int .i64 (a : Int)), (10, .int .i64 (p : Int)), (11, .int .i64 ((b - 1 : Nat) : Int))]) (fun _ => [ownR v 34 1 n (ints .u64 B.toList)]) (fun p => (a < p ∧ p ≤ n) ∧ scanUp (fun x => ltInt x B[a]!) B (b - 1) p = I0) (fun p => n + 1 - p) (a + 1) ⟨⟨Nat.lt_succ_self _, by omega⟩, hI0⟩ ⟨(by repeat' constructor), _, (by repeat' constructor)⟩ ?_
    rintro p ⟨⟨hap', hpn⟩, hpI⟩
    refine WC.seq ?_
    refine WC.midX (α := Unit) (fun _ => [(0, v), (1, .int .i64 (a : Int)), (10, .int .i64 (p : Int)), (11, .int .i64 ((b - 1 : Nat) : Int)), (43, .bool (decide ((p : Int) ≤ ((b - 1 : Nat) : Int)) && ltInt B[p]! B[a]!))]) (fun _ => [ownR v 34 1 n (ints .u64 B.toList)]) (fun _ => True) ?_ ?_
    · refine WC.drawAny (Hs := [ownR v 34 1 n (ints .u64 B.toList)]) mixed (by kernel_rfl) ⟨_, (by repeat' constructor)⟩ ?_
      refine WD.tk 0 rfl (by kernel_rfl) rfl rfl (Yl.move rfl) rfl ?_
      refine WD.tk 1 rfl (by kernel_rfl) rfl rfl (Yl.move rfl) rfl ?_
      refine WD.tk 2 rfl (by kernel_rfl) rfl rfl (Yl.leq rfl rfl) rfl ?_
      refine WD.tk 3 rfl (by kernel_rfl) rfl rfl (Yl.move rfl) rfl ?_
      refine WD.both (t := 33) rfl (fun g33 => ?_) (fun g33 => ?_)
      · have hpj : p ≤ b - 1 := by have := of_decide_eq_true g33; omega
        refine WD.takeOn 4 rfl (by kernel_rfl) (by kernel_rfl) (by kernel_rfl) rfl rfl rfl rfl (Yl.move rfl) rfl ?_
        refine WD.takeOn 5 rfl (by kernel_rfl) (by kernel_rfl) (by kernel_rfl) rfl rfl rfl rfl (Yl.move rfl) rfl ?_
        refine WD.takeOn 6 rfl (by kernel_rfl) (by kernel_rfl) (by kernel_rfl) rfl rfl rfl rfl (Yl.indexF un48 sz34 rfl rfl hF rfl (by omega)) rfl ?_
        refine WD.takeOn 7 rfl (by kernel_rfl) (by kernel_rfl) (by kernel_rfl) rfl rfl rfl rfl (Yl.loadE on34 rfl (Reads.own (by repeat constructor)) (so_getV (by omega))) rfl ?_
        refine WD.takeOn 8 rfl (by kernel_rfl) (by kernel_rfl) (by kernel_rfl) rfl rfl rfl rfl (Yl.move rfl) rfl ?_
        refine WD.takeOn 9 rfl (by kernel_rfl) (by kernel_rfl) (by kernel_rfl) rfl rfl rfl rfl (Yl.move rfl) rfl ?_
        refine WD.takeOn 10 rfl (by kernel_rfl) (by kernel_rfl) (by kernel_rfl) rfl rfl rfl rfl (Yl.indexF un48 sz34 rfl rfl hF rfl (by omega)) rfl ?_
        refine WD.takeOn 11 rfl (by kernel_rfl) (by kernel_rfl) (by kernel_rfl) rfl rfl rfl rfl (Yl.loadE on34 rfl (Reads.own (by repeat constructor)) (so_getV (by omega))) rfl ?_
        refine WD.one 12 (by kernel_rfl) ?_
        refine WO.callC (xs := [.tmp 37, .tmp 41]) (cap := []) rfl (.on rfl rfl) rfl rfl en138 (by repeat' constructor) (fun w hw => lessV_any _ _ w hw.left.here) rfl (fun _ => ⟨_, (by repeat' constructor)⟩) ?_
        rintro ⟨⟩ -
        refine WD.tk 13 rfl (by kernel_rfl) rfl rfl (Yl.pickT rfl rfl) rfl ?_
        refine WD.say (t := 43) (v' := .bool (decide ((p : Int) ≤ ((b - 1 : Nat) : Int)) && ltInt B[p]! B[a]!)) rfl (by (rw [g33]; rfl)) ?_
        refine WD.done (by kernel_rfl) ?_
        exact ⟨rfl, (), trivial, (by repeat' constructor), _, (by repeat' constructor)⟩
      · refine WD.takeOff 4 rfl (by kernel_rfl) (by kernel_rfl) (by kernel_rfl) rfl rfl rfl rfl rfl rfl ?_
        refine WD.takeOff 5 rfl (by kernel_rfl) (by kernel_rfl) (by kernel_rfl) rfl rfl rfl rfl rfl rfl ?_
        refine WD.takeOff 6 rfl (by kernel_rfl) (by kernel_rfl) (by kernel_rfl) rfl rfl rfl rfl rfl rfl ?_
        refine WD.takeOff 7 rfl (by kernel_rfl) (by kernel_rfl) (by kernel_rfl) rfl rfl rfl rfl rfl rfl ?_
        refine WD.takeOff 8 rfl (by kernel_rfl) (by kernel_rfl) (by kernel_rfl) rfl rfl rfl rfl rfl rfl ?_
        refine WD.takeOff 9 rfl (by kernel_rfl) (by kernel_rfl) (by kernel_rfl) rfl rfl rfl rfl rfl rfl ?_
        refine WD.takeOff 10 rfl (by kernel_rfl) (by kernel_rfl) (by kernel_rfl) rfl rfl rfl rfl rfl rfl ?_
        refine WD.takeOff 11 rfl (by kernel_rfl) (by kernel_rfl) (by kernel_rfl) rfl rfl rfl rfl rfl rfl ?_
        refine WD.one 12 (by kernel_rfl) ?_
        refine WO.off rfl rfl rfl rfl rfl rfl rfl ?_
        refine WD.tk 13 rfl (by kernel_rfl) rfl rfl (Yl.pickF rfl rfl) rfl ?_
        refine WD.say (t := 43) (v' := .bool (decide ((p : Int) ≤ ((b - 1 : Nat) : Int)) && ltInt B[p]! B[a]!)) rfl (by (rw [g33]; rfl)) ?_
        refine WD.done (by kernel_rfl) ?_
        exact ⟨rfl, (), trivial, (by repeat' constructor), _, (by repeat' constructor)⟩
    · rintro ⟨⟩ -
      refine WC.cond rfl (fun g43 => ?_) (fun g43 => ?_)
      · refine WC.skip ?_
        refine WC.block ?_
        have hpj := and_le g43
        refine WC.region ?_
        refine WL.y (Yl.move rfl) rfl ?_
        refine WL.y (Yl.add rfl rfl (IntWalk.i64_in _ (by omega))) rfl ?_
        refine WL.y (Yl.assign rfl) rfl ?_
        refine WL.nil ?_
        exact ⟨rfl, p + 1, ⟨by omega, by rw [← up_go g43]; exact hpI⟩, by omega, (by repeat' constructor), _, (by repeat' constructor)⟩
      · refine WC.exit ?_
        refine WC.seq ?_
        refine WC.block ?_
        have hpe : p = I0 := by rw [← hpI]; exact (up_stop g43).symm
        subst hpe
        refine WC.loop (α := Nat) (fun q => [(0, v), (1, .int .i64 (a : Int)), (10, .int .i64 (p : Int)), (11, .int .i64 (q : Int))]) (fun _ => [ownR v 34 1 n (ints .u64 B.toList)]) (fun q => q < n ∧ scanDown (fun x => !ltInt x B[a]!) B p q = J0) (fun q => q) (b - 1) ⟨by omega, hJ0⟩ ⟨(by repeat' constructor), _, (by repeat' constructor)⟩ ?_
        rintro q ⟨hqn, hqJ⟩
        refine WC.seq ?_
        refine WC.midX (α := Unit) (fun _ => [(0, v), (1, .int .i64 (a : Int)), (10, .int .i64 (p : Int)), (11, .int .i64 (q : Int)), (60, .bool (decide ((p : Int) ≤ (q : Int)) && !ltInt B[q]! B[a]!))]) (fun _ => [ownR v 34 1 n (ints .u64 B.toList)]) (fun _ => True) ?_ ?_
        · refine WC.drawAny (Hs := [ownR v 34 1 n (ints .u64 B.toList)]) mixed (by kernel_rfl) ⟨_, (by repeat' constructor)⟩ ?_
          refine WD.tk 0 rfl (by kernel_rfl) rfl rfl (Yl.move rfl) rfl ?_
          refine WD.tk 1 rfl (by kernel_rfl) rfl rfl (Yl.move rfl) rfl ?_
          refine WD.tk 2 rfl (by kernel_rfl) rfl rfl (Yl.leq rfl rfl) rfl ?_
          refine WD.tk 3 rfl (by kernel_rfl) rfl rfl (Yl.move rfl) rfl ?_
          refine WD.both (t := 49) rfl (fun g49 => ?_) (fun g49 => ?_)
          · refine WD.takeOn 4 rfl (by kernel_rfl) (by kernel_rfl) (by kernel_rfl) rfl rfl rfl rfl (Yl.move rfl) rfl ?_
            refine WD.takeOn 5 rfl (by kernel_rfl) (by kernel_rfl) (by kernel_rfl) rfl rfl rfl rfl (Yl.move rfl) rfl ?_
            refine WD.takeOn 6 rfl (by kernel_rfl) (by kernel_rfl) (by kernel_rfl) rfl rfl rfl rfl (Yl.indexF un48 sz34 rfl rfl hF rfl (by omega)) rfl ?_
            refine WD.takeOn 7 rfl (by kernel_rfl) (by kernel_rfl) (by kernel_rfl) rfl rfl rfl rfl (Yl.loadE on34 rfl (Reads.own (by repeat constructor)) (so_getV (by omega))) rfl ?_
            refine WD.takeOn 8 rfl (by kernel_rfl) (by kernel_rfl) (by kernel_rfl) rfl rfl rfl rfl (Yl.move rfl) rfl ?_
            refine WD.takeOn 9 rfl (by kernel_rfl) (by kernel_rfl) (by kernel_rfl) rfl rfl rfl rfl (Yl.move rfl) rfl ?_
            refine WD.takeOn 10 rfl (by kernel_rfl) (by kernel_rfl) (by kernel_rfl) rfl rfl rfl rfl (Yl.indexF un48 sz34 rfl rfl hF rfl (by omega)) rfl ?_
            refine WD.takeOn 11 rfl (by kernel_rfl) (by kernel_rfl) (by kernel_rfl) rfl rfl rfl rfl (Yl.loadE on34 rfl (Reads.own (by repeat constructor)) (so_getV (by omega))) rfl ?_
            refine WD.one 12 (by kernel_rfl) ?_
            refine WO.callC (xs := [.tmp 53, .tmp 57]) (cap := []) rfl (.on rfl rfl) rfl rfl en138 (by repeat' constructor) (fun w hw => lessV_any _ _ w hw.left.here) rfl (fun _ => ⟨_, (by repeat' constructor)⟩) ?_
            rintro ⟨⟩ -
            refine WD.takeOn 13 rfl (by kernel_rfl) (by kernel_rfl) (by kernel_rfl) rfl rfl rfl rfl (Yl.not rfl) rfl ?_
            refine WD.tk 14 rfl (by kernel_rfl) rfl rfl (Yl.pickT rfl rfl) rfl ?_
            refine WD.say (t := 60) (v' := .bool (decide ((p : Int) ≤ (q : Int)) && !ltInt B[q]! B[a]!)) rfl (by (rw [g49]; rfl)) ?_
            refine WD.done (by kernel_rfl) ?_
            exact ⟨rfl, (), trivial, (by repeat' constructor), _, (by repeat' constructor)⟩
          · refine WD.takeOff 4 rfl (by kernel_rfl) (by kernel_rfl) (by kernel_rfl) rfl rfl rfl rfl rfl rfl ?_
            refine WD.takeOff 5 rfl (by kernel_rfl) (by kernel_rfl) (by kernel_rfl) rfl rfl rfl rfl rfl rfl ?_
            refine WD.takeOff 6 rfl (by kernel_rfl) (by kernel_rfl) (by kernel_rfl) rfl rfl rfl rfl rfl rfl ?_
            refine WD.takeOff 7 rfl (by kernel_rfl) (by kernel_rfl) (by kernel_rfl) rfl rfl rfl rfl rfl rfl ?_
            refine WD.takeOff 8 rfl (by kernel_rfl) (by kernel_rfl) (by kernel_rfl) rfl rfl rfl rfl rfl rfl ?_
            refine WD.takeOff 9 rfl (by kernel_rfl) (by kernel_rfl) (by kernel_rfl) rfl rfl rfl rfl rfl rfl ?_
            refine WD.takeOff 10 rfl (by kernel_rfl) (by kernel_rfl) (by kernel_rfl) rfl rfl rfl rfl rfl rfl ?_
            refine WD.takeOff 11 rfl (by kernel_rfl) (by kernel_rfl) (by kernel_rfl) rfl rfl rfl rfl rfl rfl ?_
            refine WD.one 12 (by kernel_rfl) ?_
            refine WO.off rfl rfl rfl rfl rfl rfl rfl ?_
            refine WD.takeOff 13 rfl (by kernel_rfl) (by kernel_rfl) (by kernel_rfl) rfl rfl rfl rfl rfl rfl ?_
            refine WD.tk 14 rfl (by kernel_rfl) rfl rfl (Yl.pickF rfl rfl) rfl ?_
            refine WD.say (t := 60) (v' := .bool (decide ((p : Int) ≤ (q : Int)) && !ltInt B[q]! B[a]!)) rfl (by (rw [g49]; rfl)) ?_
            refine WD.done (by kernel_rfl) ?_
            exact ⟨rfl, (), trivial, (by repeat' constructor), _, (by repeat' constructor)⟩
        · rintro ⟨⟩ -
          refine WC.cond rfl (fun g60 => ?_) (fun g60 => ?_)
          · refine WC.skip ?_
            refine WC.block ?_
            have hpq := and_le g60
            refine WC.region ?_
            refine WL.y (Yl.move rfl) rfl ?_
            refine WL.y (Yl.sub rfl rfl (IntWalk.i64_in _ (by omega))) rfl ?_
            refine WL.say (t := 62) (v' := .int .i64 ((q - 1 : Nat) : Int)) rfl (by (refine congrArg _ ?_; omega)) ?_
            refine WL.y (Yl.assign rfl) rfl ?_
            refine WL.nil ?_
            exact ⟨rfl, q - 1, ⟨by omega, by rw [← down_go (by omega) g60]; exact hqJ⟩, by omega, (by repeat' constructor), _, (by repeat' constructor)⟩
          · refine WC.exit ?_
            refine WC.seq ?_
            refine WC.seq ?_
            have hqe : q = J0 := by rw [← hqJ]; exact (down_stop (by omega) g60).symm
            subst hqe
            refine WC.region ?_
            refine WL.y (Yl.move rfl) rfl ?_
            refine WL.y (Yl.move rfl) rfl ?_
            refine WL.y (Yl.gtr rfl rfl) rfl ?_
            refine WL.nil ?_
            refine WC.condD rfl (fun g65 => ?_) (fun g65 => ?_)
            · refine WC.seq ?_
              have hpq : p > q := by omega
              rw [if_pos hpq] at hP
              subst hP
              dsimp only
              refine WC.drawAny (Hs := []) mixed (by kernel_rfl) ⟨_, (by repeat' constructor)⟩ ?_
              refine WD.tk 0 rfl (by kernel_rfl) rfl rfl (Yl.move rfl) rfl ?_
              refine WD.tk 1 rfl (by kernel_rfl) rfl rfl (Yl.move rfl) rfl ?_
              refine WD.tk 2 rfl (by kernel_rfl) rfl rfl (Yl.move rfl) rfl ?_
              refine WD.tk 3 rfl (by kernel_rfl) rfl rfl (Yl.move rfl) rfl ?_
              refine WD.tk 4 rfl (by kernel_rfl) rfl rfl (Yl.move rfl) rfl ?_
              refine WD.tk 5 rfl (by kernel_rfl) rfl rfl (Yl.move rfl) rfl ?_
              refine WD.tk 6 rfl (by kernel_rfl) rfl rfl (Yl.indexF un48 sz34 rfl rfl hF rfl (by omega)) rfl ?_
              refine WD.tk 8 rfl (by kernel_rfl) rfl rfl (Yl.move rfl) rfl ?_
              refine WD.tk 9 rfl (by kernel_rfl) rfl rfl (Yl.move rfl) rfl ?_
              refine WD.tk 10 rfl (by kernel_rfl) rfl rfl (Yl.indexF un48 sz34 rfl rfl hF rfl (by omega)) rfl ?_
              refine WD.two 7 11 (by kernel_rfl) ?_ ?_
              · refine WO.y rfl rfl .no (Yl.loadE on34 rfl (Reads.own (by repeat constructor)) (so_getV (by omega))) rfl ?_
                refine WD.one 11 (by kernel_rfl) ?_
                refine WO.y rfl rfl .no (Yl.loadE on34 rfl (Reads.own (by repeat constructor)) (so_getV (by omega))) rfl ?_
                refine WD.tk 12 rfl (by kernel_rfl) rfl rfl (Yl.indexF un48 sz34 rfl rfl hF rfl (by omega)) rfl ?_
                refine WD.one 13 (by kernel_rfl) ?_
                refine WO.sto rfl rfl .no (Sto.elem (j := q) sz34 rfl rfl (by repeat constructor) rfl (by omega) rfl) ⟨_, (by repeat' constructor)⟩ ?_
                refine WD.tk 14 rfl (by kernel_rfl) rfl rfl (Yl.indexF un48 sz34 rfl rfl hF rfl (by omega)) rfl ?_
                refine WD.one 15 (by kernel_rfl) ?_
                refine WO.sto rfl rfl .no (Sto.elem (j := a) (cs' := ints .u64 (swp B (q) (a)).toList) sz34 rfl rfl (by repeat constructor) rfl (by omega) (so_swpV B (q) (a))) ⟨_, (by repeat' constructor)⟩ ?_
                refine WD.done (by kernel_rfl) ?_
                refine WC.seq ?_
                refine WC.region ?_
                refine WL.y (Yl.move rfl) rfl ?_
                refine WL.y (Yl.assign rfl) rfl ?_
                refine WL.y (Yl.assign rfl) rfl ?_
                refine WL.nil ?_
                refine WC.ret ?_
                repeat (with_reducible (first | refine peelT ?_ | refine peelB ?_ | refine peelTX ?_ | refine peelBX ?_ | refine peelBN ?_ | refine peelBO rfl ?_))
                exact ret2 (.inr rfl) Tryz.results140 rfl rfl fun w' h => ⟨(), trivial, rfl, h.sub (by repeat' constructor)⟩
              · refine WO.y rfl rfl .no (Yl.loadE on34 rfl (Reads.own (by repeat constructor)) (so_getV (by omega))) rfl ?_
                refine WD.one 7 (by kernel_rfl) ?_
                refine WO.y rfl rfl .no (Yl.loadE on34 rfl (Reads.own (by repeat constructor)) (so_getV (by omega))) rfl ?_
                refine WD.tk 12 rfl (by kernel_rfl) rfl rfl (Yl.indexF un48 sz34 rfl rfl hF rfl (by omega)) rfl ?_
                refine WD.one 13 (by kernel_rfl) ?_
                refine WO.sto rfl rfl .no (Sto.elem (j := q) sz34 rfl rfl (by repeat constructor) rfl (by omega) rfl) ⟨_, (by repeat' constructor)⟩ ?_
                refine WD.tk 14 rfl (by kernel_rfl) rfl rfl (Yl.indexF un48 sz34 rfl rfl hF rfl (by omega)) rfl ?_
                refine WD.one 15 (by kernel_rfl) ?_
                refine WO.sto rfl rfl .no (Sto.elem (j := a) (cs' := ints .u64 (swp B (q) (a)).toList) sz34 rfl rfl (by repeat constructor) rfl (by omega) (so_swpV B (q) (a))) ⟨_, (by repeat' constructor)⟩ ?_
                refine WD.done (by kernel_rfl) ?_
                refine WC.seq ?_
                refine WC.region ?_
                refine WL.y (Yl.move rfl) rfl ?_
                refine WL.y (Yl.assign rfl) rfl ?_
                refine WL.y (Yl.assign rfl) rfl ?_
                refine WL.nil ?_
                refine WC.ret ?_
                repeat (with_reducible (first | refine peelT ?_ | refine peelB ?_ | refine peelTX ?_ | refine peelBX ?_ | refine peelBN ?_ | refine peelBO rfl ?_))
                exact ret2 (.inr rfl) Tryz.results140 rfl rfl fun w' h => ⟨(), trivial, rfl, h.sub (by repeat' constructor)⟩
            · refine WC.skip ?_
              refine WC.seq ?_
              have hpq : ¬ p > q := by omega
              rw [if_neg hpq] at hP
              subst hP
              dsimp only
              have hsz2 := swp_size B p q
              refine WC.drawAny (Hs := []) mixed (by kernel_rfl) ⟨_, (by repeat' constructor)⟩ ?_
              refine WD.tk 0 rfl (by kernel_rfl) rfl rfl (Yl.move rfl) rfl ?_
              refine WD.tk 1 rfl (by kernel_rfl) rfl rfl (Yl.move rfl) rfl ?_
              refine WD.tk 2 rfl (by kernel_rfl) rfl rfl (Yl.move rfl) rfl ?_
              refine WD.tk 3 rfl (by kernel_rfl) rfl rfl (Yl.move rfl) rfl ?_
              refine WD.tk 4 rfl (by kernel_rfl) rfl rfl (Yl.move rfl) rfl ?_
              refine WD.tk 5 rfl (by kernel_rfl) rfl rfl (Yl.move rfl) rfl ?_
              refine WD.tk 6 rfl (by kernel_rfl) rfl rfl (Yl.indexF un48 sz34 rfl rfl hF rfl (by omega)) rfl ?_
              refine WD.tk 8 rfl (by kernel_rfl) rfl rfl (Yl.move rfl) rfl ?_
              refine WD.tk 9 rfl (by kernel_rfl) rfl rfl (Yl.move rfl) rfl ?_
              refine WD.tk 10 rfl (by kernel_rfl) rfl rfl (Yl.indexF un48 sz34 rfl rfl hF rfl (by omega)) rfl ?_
              refine WD.two 7 11 (by kernel_rfl) ?_ ?_
              · refine WO.y rfl rfl .no (Yl.loadE on34 rfl (Reads.own (by repeat constructor)) (so_getV (by omega))) rfl ?_
                refine WD.one 11 (by kernel_rfl) ?_
                refine WO.y rfl rfl .no (Yl.loadE on34 rfl (Reads.own (by repeat constructor)) (so_getV (by omega))) rfl ?_
                refine WD.tk 12 rfl (by kernel_rfl) rfl rfl (Yl.indexF un48 sz34 rfl rfl hF rfl (by omega)) rfl ?_
                refine WD.one 13 (by kernel_rfl) ?_
                refine WO.sto rfl rfl .no (Sto.elem (j := p) sz34 rfl rfl (by repeat constructor) rfl (by omega) rfl) ⟨_, (by repeat' constructor)⟩ ?_
                refine WD.tk 14 rfl (by kernel_rfl) rfl rfl (Yl.indexF un48 sz34 rfl rfl hF rfl (by omega)) rfl ?_
                refine WD.one 15 (by kernel_rfl) ?_
                refine WO.sto rfl rfl .no (Sto.elem (j := q) (cs' := ints .u64 (swp B (p) (q)).toList) sz34 rfl rfl (by repeat constructor) rfl (by omega) (so_swpV B (p) (q))) ⟨_, (by repeat' constructor)⟩ ?_
                refine WD.done (by kernel_rfl) ?_
                refine WC.seq ?_
                refine WC.region ?_
                refine WL.y (Yl.move rfl) rfl ?_
                refine WL.y (Yl.add rfl rfl (IntWalk.i64_in _ (by omega))) rfl ?_
                refine WL.y (Yl.assign rfl) rfl ?_
                refine WL.nil ?_
                refine WC.seq ?_
                refine WC.region ?_
                refine WL.y (Yl.move rfl) rfl ?_
                refine WL.y (Yl.sub rfl rfl (IntWalk.i64_in _ (by omega))) rfl ?_
                refine WL.say (t := 98) (v' := .int .i64 ((q - 1 : Nat) : Int)) rfl (by (refine congrArg _ ?_; omega)) ?_
                refine WL.y (Yl.assign rfl) rfl ?_
                refine WL.nil ?_
                refine WC.seq ?_
                refine WC.block ?_
                obtain ⟨T, hT⟩ : ∃ T, partLoop ltInt a (p + 1) (q - 1) (swp B p q) = T := ⟨_, rfl⟩
                rw [hT]
                refine WC.loop (α := Nat × Nat × Array Int) (fun z => [(0, v), (1, .int .i64 (a : Int)), (10, .int .i64 (z.1 : Int)), (11, .int .i64 (z.2.1 : Int))]) (fun z => [ownR v 34 1 n (ints .u64 z.2.2.toList)]) (fun z => (a < z.1 ∧ z.1 ≤ n) ∧ z.2.1 < n ∧ z.2.2.size = n ∧ partLoop ltInt a z.1 z.2.1 z.2.2 = T) (fun z => z.2.1 + 1 - z.1) (p + 1, q - 1, swp B p q) ⟨by dsimp only; omega, by dsimp only; omega, by dsimp only; omega, hT⟩ ⟨(by repeat' constructor), _, (by repeat' constructor)⟩ ?_
                rintro ⟨i, j, G⟩ ⟨⟨hai, hin⟩, hjn, hG, hTG⟩
                dsimp only at hai hin hjn hG hTG ⊢
                have hgu := scanUp_ge (fun x => ltInt x G[a]!) G j i
                have hgd := scanDown_le (fun x => !ltInt x G[a]!) G (scanUp (fun x => ltInt x G[a]!) G j i) j
                rw [partLoop_eq] at hTG
                obtain ⟨I, hI⟩ : ∃ I, scanUp (fun x => ltInt x G[a]!) G j i = I := ⟨_, rfl⟩
                rw [hI] at hgu hgd hTG
                obtain ⟨J, hJ⟩ : ∃ J, scanDown (fun x => !ltInt x G[a]!) G I j = J := ⟨_, rfl⟩
                rw [hJ] at hgd hTG
                refine WC.block ?_
                refine WC.seq ?_
                refine WC.block ?_
                refine WC.loop (α := Nat) (fun y => [(0, v), (1, .int .i64 (a : Int)), (10, .int .i64 (y : Int)), (11, .int .i64 (j : Int))]) (fun _ => [ownR v 34 1 n (ints .u64 G.toList)]) (fun y => (a < y ∧ y ≤ n) ∧ scanUp (fun x => ltInt x G[a]!) G j y = I) (fun y => n + 1 - y) i ⟨⟨hai, hin⟩, hI⟩ ⟨(by repeat' constructor), _, (by repeat' constructor)⟩ ?_
                rintro y ⟨⟨hay, hyn⟩, hyI⟩
                refine WC.seq ?_
                refine WC.midX (α := Unit) (fun _ => [(0, v), (1, .int .i64 (a : Int)), (10, .int .i64 (y : Int)), (11, .int .i64 (j : Int)), (112, .bool (decide ((y : Int) ≤ (j : Int)) && ltInt G[y]! G[a]!))]) (fun _ => [ownR v 34 1 n (ints .u64 G.toList)]) (fun _ => True) ?_ ?_
                · refine WC.drawAny (Hs := [ownR v 34 1 n (ints .u64 G.toList)]) mixed (by kernel_rfl) ⟨_, (by repeat' constructor)⟩ ?_
                  refine WD.tk 0 rfl (by kernel_rfl) rfl rfl (Yl.move rfl) rfl ?_
                  refine WD.tk 1 rfl (by kernel_rfl) rfl rfl (Yl.move rfl) rfl ?_
                  refine WD.tk 2 rfl (by kernel_rfl) rfl rfl (Yl.leq rfl rfl) rfl ?_
                  refine WD.tk 3 rfl (by kernel_rfl) rfl rfl (Yl.move rfl) rfl ?_
                  refine WD.both (t := 102) rfl (fun g102 => ?_) (fun g102 => ?_)
                  · have hyj : y ≤ j := by have := of_decide_eq_true g102; omega
                    refine WD.takeOn 4 rfl (by kernel_rfl) (by kernel_rfl) (by kernel_rfl) rfl rfl rfl rfl (Yl.move rfl) rfl ?_
                    refine WD.takeOn 5 rfl (by kernel_rfl) (by kernel_rfl) (by kernel_rfl) rfl rfl rfl rfl (Yl.move rfl) rfl ?_
                    refine WD.takeOn 6 rfl (by kernel_rfl) (by kernel_rfl) (by kernel_rfl) rfl rfl rfl rfl (Yl.indexF un48 sz34 rfl rfl hF rfl (by omega)) rfl ?_
                    refine WD.takeOn 7 rfl (by kernel_rfl) (by kernel_rfl) (by kernel_rfl) rfl rfl rfl rfl (Yl.loadE on34 rfl (Reads.own (by repeat constructor)) (so_getV (by omega))) rfl ?_
                    refine WD.takeOn 8 rfl (by kernel_rfl) (by kernel_rfl) (by kernel_rfl) rfl rfl rfl rfl (Yl.move rfl) rfl ?_
                    refine WD.takeOn 9 rfl (by kernel_rfl) (by kernel_rfl) (by kernel_rfl) rfl rfl rfl rfl (Yl.move rfl) rfl ?_
                    refine WD.takeOn 10 rfl (by kernel_rfl) (by kernel_rfl) (by kernel_rfl) rfl rfl rfl rfl (Yl.indexF un48 sz34 rfl rfl hF rfl (by omega)) rfl ?_
                    refine WD.takeOn 11 rfl (by kernel_rfl) (by kernel_rfl) (by kernel_rfl) rfl rfl rfl rfl (Yl.loadE on34 rfl (Reads.own (by repeat constructor)) (so_getV (by omega))) rfl ?_
                    refine WD.one 12 (by kernel_rfl) ?_
                    refine WO.callC (xs := [.tmp 106, .tmp 110]) (cap := []) rfl (.on rfl rfl) rfl rfl en138 (by repeat' constructor) (fun w hw => lessV_any _ _ w hw.left.here) rfl (fun _ => ⟨_, (by repeat' constructor)⟩) ?_
                    rintro ⟨⟩ -
                    refine WD.tk 13 rfl (by kernel_rfl) rfl rfl (Yl.pickT rfl rfl) rfl ?_
                    refine WD.say (t := 112) (v' := .bool (decide ((y : Int) ≤ (j : Int)) && ltInt G[y]! G[a]!)) rfl (by (rw [g102]; rfl)) ?_
                    refine WD.done (by kernel_rfl) ?_
                    exact ⟨rfl, (), trivial, (by repeat' constructor), _, (by repeat' constructor)⟩
                  · refine WD.takeOff 4 rfl (by kernel_rfl) (by kernel_rfl) (by kernel_rfl) rfl rfl rfl rfl rfl rfl ?_
                    refine WD.takeOff 5 rfl (by kernel_rfl) (by kernel_rfl) (by kernel_rfl) rfl rfl rfl rfl rfl rfl ?_
                    refine WD.takeOff 6 rfl (by kernel_rfl) (by kernel_rfl) (by kernel_rfl) rfl rfl rfl rfl rfl rfl ?_
                    refine WD.takeOff 7 rfl (by kernel_rfl) (by kernel_rfl) (by kernel_rfl) rfl rfl rfl rfl rfl rfl ?_
                    refine WD.takeOff 8 rfl (by kernel_rfl) (by kernel_rfl) (by kernel_rfl) rfl rfl rfl rfl rfl rfl ?_
                    refine WD.takeOff 9 rfl (by kernel_rfl) (by kernel_rfl) (by kernel_rfl) rfl rfl rfl rfl rfl rfl ?_
                    refine WD.takeOff 10 rfl (by kernel_rfl) (by kernel_rfl) (by kernel_rfl) rfl rfl rfl rfl rfl rfl ?_
                    refine WD.takeOff 11 rfl (by kernel_rfl) (by kernel_rfl) (by kernel_rfl) rfl rfl rfl rfl rfl rfl ?_
                    refine WD.one 12 (by kernel_rfl) ?_
                    refine WO.off rfl rfl rfl rfl rfl rfl rfl ?_
                    refine WD.tk 13 rfl (by kernel_rfl) rfl rfl (Yl.pickF rfl rfl) rfl ?_
                    refine WD.say (t := 112) (v' := .bool (decide ((y : Int) ≤ (j : Int)) && ltInt G[y]! G[a]!)) rfl (by (rw [g102]; rfl)) ?_
                    refine WD.done (by kernel_rfl) ?_
                    exact ⟨rfl, (), trivial, (by repeat' constructor), _, (by repeat' constructor)⟩
                · rintro ⟨⟩ -
                  refine WC.cond rfl (fun g112 => ?_) (fun g112 => ?_)
                  · refine WC.skip ?_
                    refine WC.block ?_
                    have hyj := and_le g112
                    refine WC.region ?_
                    refine WL.y (Yl.move rfl) rfl ?_
                    refine WL.y (Yl.add rfl rfl (IntWalk.i64_in _ (by omega))) rfl ?_
                    refine WL.y (Yl.assign rfl) rfl ?_
                    refine WL.nil ?_
                    exact ⟨rfl, y + 1, ⟨by omega, by rw [← up_go g112]; exact hyI⟩, by omega, (by repeat' constructor), _, (by repeat' constructor)⟩
                  · refine WC.exit ?_
                    refine WC.seq ?_
                    refine WC.block ?_
                    have hye : y = I := by rw [← hyI]; exact (up_stop g112).symm
                    subst hye
                    refine WC.loop (α := Nat) (fun z => [(0, v), (1, .int .i64 (a : Int)), (10, .int .i64 (y : Int)), (11, .int .i64 (z : Int))]) (fun _ => [ownR v 34 1 n (ints .u64 G.toList)]) (fun z => z < n ∧ scanDown (fun x => !ltInt x G[a]!) G y z = J) (fun z => z) j ⟨hjn, hJ⟩ ⟨(by repeat' constructor), _, (by repeat' constructor)⟩ ?_
                    rintro z ⟨hzn, hzJ⟩
                    refine WC.seq ?_
                    refine WC.midX (α := Unit) (fun _ => [(0, v), (1, .int .i64 (a : Int)), (10, .int .i64 (y : Int)), (11, .int .i64 (z : Int)), (129, .bool (decide ((y : Int) ≤ (z : Int)) && !ltInt G[z]! G[a]!))]) (fun _ => [ownR v 34 1 n (ints .u64 G.toList)]) (fun _ => True) ?_ ?_
                    · refine WC.drawAny (Hs := [ownR v 34 1 n (ints .u64 G.toList)]) mixed (by kernel_rfl) ⟨_, (by repeat' constructor)⟩ ?_
                      refine WD.tk 0 rfl (by kernel_rfl) rfl rfl (Yl.move rfl) rfl ?_
                      refine WD.tk 1 rfl (by kernel_rfl) rfl rfl (Yl.move rfl) rfl ?_
                      refine WD.tk 2 rfl (by kernel_rfl) rfl rfl (Yl.leq rfl rfl) rfl ?_
                      refine WD.tk 3 rfl (by kernel_rfl) rfl rfl (Yl.move rfl) rfl ?_
                      refine WD.both (t := 118) rfl (fun g118 => ?_) (fun g118 => ?_)
                      · refine WD.takeOn 4 rfl (by kernel_rfl) (by kernel_rfl) (by kernel_rfl) rfl rfl rfl rfl (Yl.move rfl) rfl ?_
                        refine WD.takeOn 5 rfl (by kernel_rfl) (by kernel_rfl) (by kernel_rfl) rfl rfl rfl rfl (Yl.move rfl) rfl ?_
                        refine WD.takeOn 6 rfl (by kernel_rfl) (by kernel_rfl) (by kernel_rfl) rfl rfl rfl rfl (Yl.indexF un48 sz34 rfl rfl hF rfl (by omega)) rfl ?_
                        refine WD.takeOn 7 rfl (by kernel_rfl) (by kernel_rfl) (by kernel_rfl) rfl rfl rfl rfl (Yl.loadE on34 rfl (Reads.own (by repeat constructor)) (so_getV (by omega))) rfl ?_
                        refine WD.takeOn 8 rfl (by kernel_rfl) (by kernel_rfl) (by kernel_rfl) rfl rfl rfl rfl (Yl.move rfl) rfl ?_
                        refine WD.takeOn 9 rfl (by kernel_rfl) (by kernel_rfl) (by kernel_rfl) rfl rfl rfl rfl (Yl.move rfl) rfl ?_
                        refine WD.takeOn 10 rfl (by kernel_rfl) (by kernel_rfl) (by kernel_rfl) rfl rfl rfl rfl (Yl.indexF un48 sz34 rfl rfl hF rfl (by omega)) rfl ?_
                        refine WD.takeOn 11 rfl (by kernel_rfl) (by kernel_rfl) (by kernel_rfl) rfl rfl rfl rfl (Yl.loadE on34 rfl (Reads.own (by repeat constructor)) (so_getV (by omega))) rfl ?_
                        refine WD.one 12 (by kernel_rfl) ?_
                        refine WO.callC (xs := [.tmp 122, .tmp 126]) (cap := []) rfl (.on rfl rfl) rfl rfl en138 (by repeat' constructor) (fun w hw => lessV_any _ _ w hw.left.here) rfl (fun _ => ⟨_, (by repeat' constructor)⟩) ?_
                        rintro ⟨⟩ -
                        refine WD.takeOn 13 rfl (by kernel_rfl) (by kernel_rfl) (by kernel_rfl) rfl rfl rfl rfl (Yl.not rfl) rfl ?_
                        refine WD.tk 14 rfl (by kernel_rfl) rfl rfl (Yl.pickT rfl rfl) rfl ?_
                        refine WD.say (t := 129) (v' := .bool (decide ((y : Int) ≤ (z : Int)) && !ltInt G[z]! G[a]!)) rfl (by (rw [g118]; rfl)) ?_
                        refine WD.done (by kernel_rfl) ?_
                        exact ⟨rfl, (), trivial, (by repeat' constructor), _, (by repeat' constructor)⟩
                      · refine WD.takeOff 4 rfl (by kernel_rfl) (by kernel_rfl) (by kernel_rfl) rfl rfl rfl rfl rfl rfl ?_
                        refine WD.takeOff 5 rfl (by kernel_rfl) (by kernel_rfl) (by kernel_rfl) rfl rfl rfl rfl rfl rfl ?_
                        refine WD.takeOff 6 rfl (by kernel_rfl) (by kernel_rfl) (by kernel_rfl) rfl rfl rfl rfl rfl rfl ?_
                        refine WD.takeOff 7 rfl (by kernel_rfl) (by kernel_rfl) (by kernel_rfl) rfl rfl rfl rfl rfl rfl ?_
                        refine WD.takeOff 8 rfl (by kernel_rfl) (by kernel_rfl) (by kernel_rfl) rfl rfl rfl rfl rfl rfl ?_
                        refine WD.takeOff 9 rfl (by kernel_rfl) (by kernel_rfl) (by kernel_rfl) rfl rfl rfl rfl rfl rfl ?_
                        refine WD.takeOff 10 rfl (by kernel_rfl) (by kernel_rfl) (by kernel_rfl) rfl rfl rfl rfl rfl rfl ?_
                        refine WD.takeOff 11 rfl (by kernel_rfl) (by kernel_rfl) (by kernel_rfl) rfl rfl rfl rfl rfl rfl ?_
                        refine WD.one 12 (by kernel_rfl) ?_
                        refine WO.off rfl rfl rfl rfl rfl rfl rfl ?_
                        refine WD.takeOff 13 rfl (by kernel_rfl) (by kernel_rfl) (by kernel_rfl) rfl rfl rfl rfl rfl rfl ?_
                        refine WD.tk 14 rfl (by kernel_rfl) rfl rfl (Yl.pickF rfl rfl) rfl ?_
                        refine WD.say (t := 129) (v' := .bool (decide ((y : Int) ≤ (z : Int)) && !ltInt G[z]! G[a]!)) rfl (by (rw [g118]; rfl)) ?_
                        refine WD.done (by kernel_rfl) ?_
                        exact ⟨rfl, (), trivial, (by repeat' constructor), _, (by repeat' constructor)⟩
                    · rintro ⟨⟩ -
                      refine WC.cond rfl (fun g129 => ?_) (fun g129 => ?_)
                      · refine WC.skip ?_
                        refine WC.block ?_
                        have hyz := and_le g129
                        refine WC.region ?_
                        refine WL.y (Yl.move rfl) rfl ?_
                        refine WL.y (Yl.sub rfl rfl (IntWalk.i64_in _ (by omega))) rfl ?_
                        refine WL.say (t := 131) (v' := .int .i64 ((z - 1 : Nat) : Int)) rfl (by (refine congrArg _ ?_; omega)) ?_
                        refine WL.y (Yl.assign rfl) rfl ?_
                        refine WL.nil ?_
                        exact ⟨rfl, z - 1, ⟨by omega, by rw [← down_go (by omega) g129]; exact hzJ⟩, by omega, (by repeat' constructor), _, (by repeat' constructor)⟩
                      · refine WC.exit ?_
                        refine WC.seq ?_
                        refine WC.seq ?_
                        have hze : z = J := by rw [← hzJ]; exact (down_stop (by omega) g129).symm
                        subst hze
                        refine WC.region ?_
                        refine WL.y (Yl.move rfl) rfl ?_
                        refine WL.y (Yl.move rfl) rfl ?_
                        refine WL.y (Yl.gtr rfl rfl) rfl ?_
                        refine WL.nil ?_
                        refine WC.condD rfl (fun g134 => ?_) (fun g134 => ?_)
                        · refine WC.exit ?_
                          refine WC.seq ?_
                          have hyz : y > z := by omega
                          rw [if_pos hyz] at hTG
                          subst hTG
                          dsimp only
                          refine WC.drawAny (Hs := []) mixed (by kernel_rfl) ⟨_, (by repeat' constructor)⟩ ?_
                          refine WD.tk 0 rfl (by kernel_rfl) rfl rfl (Yl.move rfl) rfl ?_
                          refine WD.tk 1 rfl (by kernel_rfl) rfl rfl (Yl.move rfl) rfl ?_
                          refine WD.tk 2 rfl (by kernel_rfl) rfl rfl (Yl.move rfl) rfl ?_
                          refine WD.tk 3 rfl (by kernel_rfl) rfl rfl (Yl.move rfl) rfl ?_
                          refine WD.tk 4 rfl (by kernel_rfl) rfl rfl (Yl.move rfl) rfl ?_
                          refine WD.tk 5 rfl (by kernel_rfl) rfl rfl (Yl.move rfl) rfl ?_
                          refine WD.tk 6 rfl (by kernel_rfl) rfl rfl (Yl.indexF un48 sz34 rfl rfl hF rfl (by omega)) rfl ?_
                          refine WD.tk 8 rfl (by kernel_rfl) rfl rfl (Yl.move rfl) rfl ?_
                          refine WD.tk 9 rfl (by kernel_rfl) rfl rfl (Yl.move rfl) rfl ?_
                          refine WD.tk 10 rfl (by kernel_rfl) rfl rfl (Yl.indexF un48 sz34 rfl rfl hF rfl (by omega)) rfl ?_
                          refine WD.two 7 11 (by kernel_rfl) ?_ ?_
                          · refine WO.y rfl rfl .no (Yl.loadE on34 rfl (Reads.own (by repeat constructor)) (so_getV (by omega))) rfl ?_
                            refine WD.one 11 (by kernel_rfl) ?_
                            refine WO.y rfl rfl .no (Yl.loadE on34 rfl (Reads.own (by repeat constructor)) (so_getV (by omega))) rfl ?_
                            refine WD.tk 12 rfl (by kernel_rfl) rfl rfl (Yl.indexF un48 sz34 rfl rfl hF rfl (by omega)) rfl ?_
                            refine WD.one 13 (by kernel_rfl) ?_
                            refine WO.sto rfl rfl .no (Sto.elem (j := z) sz34 rfl rfl (by repeat constructor) rfl (by omega) rfl) ⟨_, (by repeat' constructor)⟩ ?_
                            refine WD.tk 14 rfl (by kernel_rfl) rfl rfl (Yl.indexF un48 sz34 rfl rfl hF rfl (by omega)) rfl ?_
                            refine WD.one 15 (by kernel_rfl) ?_
                            refine WO.sto rfl rfl .no (Sto.elem (j := a) (cs' := ints .u64 (swp G (z) (a)).toList) sz34 rfl rfl (by repeat constructor) rfl (by omega) (so_swpV G (z) (a))) ⟨_, (by repeat' constructor)⟩ ?_
                            refine WD.done (by kernel_rfl) ?_
                            refine WC.seq ?_
                            refine WC.region ?_
                            refine WL.y (Yl.move rfl) rfl ?_
                            refine WL.y (Yl.assign rfl) rfl ?_
                            refine WL.y (Yl.assign rfl) rfl ?_
                            refine WL.nil ?_
                            refine WC.ret ?_
                            repeat (with_reducible (first | refine peelT ?_ | refine peelB ?_ | refine peelTX ?_ | refine peelBX ?_ | refine peelBN ?_ | refine peelBO rfl ?_))
                            exact ret2 (.inr rfl) Tryz.results140 rfl rfl fun w' h => ⟨(), trivial, rfl, h.sub (by repeat' constructor)⟩
                          · refine WO.y rfl rfl .no (Yl.loadE on34 rfl (Reads.own (by repeat constructor)) (so_getV (by omega))) rfl ?_
                            refine WD.one 7 (by kernel_rfl) ?_
                            refine WO.y rfl rfl .no (Yl.loadE on34 rfl (Reads.own (by repeat constructor)) (so_getV (by omega))) rfl ?_
                            refine WD.tk 12 rfl (by kernel_rfl) rfl rfl (Yl.indexF un48 sz34 rfl rfl hF rfl (by omega)) rfl ?_
                            refine WD.one 13 (by kernel_rfl) ?_
                            refine WO.sto rfl rfl .no (Sto.elem (j := z) sz34 rfl rfl (by repeat constructor) rfl (by omega) rfl) ⟨_, (by repeat' constructor)⟩ ?_
                            refine WD.tk 14 rfl (by kernel_rfl) rfl rfl (Yl.indexF un48 sz34 rfl rfl hF rfl (by omega)) rfl ?_
                            refine WD.one 15 (by kernel_rfl) ?_
                            refine WO.sto rfl rfl .no (Sto.elem (j := a) (cs' := ints .u64 (swp G (z) (a)).toList) sz34 rfl rfl (by repeat constructor) rfl (by omega) (so_swpV G (z) (a))) ⟨_, (by repeat' constructor)⟩ ?_
                            refine WD.done (by kernel_rfl) ?_
                            refine WC.seq ?_
                            refine WC.region ?_
                            refine WL.y (Yl.move rfl) rfl ?_
                            refine WL.y (Yl.assign rfl) rfl ?_
                            refine WL.y (Yl.assign rfl) rfl ?_
                            refine WL.nil ?_
                            refine WC.ret ?_
                            repeat (with_reducible (first | refine peelT ?_ | refine peelB ?_ | refine peelTX ?_ | refine peelBX ?_ | refine peelBN ?_ | refine peelBO rfl ?_))
                            exact ret2 (.inr rfl) Tryz.results140 rfl rfl fun w' h => ⟨(), trivial, rfl, h.sub (by repeat' constructor)⟩
                        · refine WC.skip ?_
                          refine WC.seq ?_
                          have hyz : ¬ y > z := by omega
                          rw [if_neg hyz] at hTG
                          refine WC.drawAny (Hs := []) mixed (by kernel_rfl) ⟨_, (by repeat' constructor)⟩ ?_
                          refine WD.tk 0 rfl (by kernel_rfl) rfl rfl (Yl.move rfl) rfl ?_
                          refine WD.tk 1 rfl (by kernel_rfl) rfl rfl (Yl.move rfl) rfl ?_
                          refine WD.tk 2 rfl (by kernel_rfl) rfl rfl (Yl.move rfl) rfl ?_
                          refine WD.tk 3 rfl (by kernel_rfl) rfl rfl (Yl.move rfl) rfl ?_
                          refine WD.tk 4 rfl (by kernel_rfl) rfl rfl (Yl.move rfl) rfl ?_
                          refine WD.tk 5 rfl (by kernel_rfl) rfl rfl (Yl.move rfl) rfl ?_
                          refine WD.tk 6 rfl (by kernel_rfl) rfl rfl (Yl.indexF un48 sz34 rfl rfl hF rfl (by omega)) rfl ?_
                          refine WD.tk 8 rfl (by kernel_rfl) rfl rfl (Yl.move rfl) rfl ?_
                          refine WD.tk 9 rfl (by kernel_rfl) rfl rfl (Yl.move rfl) rfl ?_
                          refine WD.tk 10 rfl (by kernel_rfl) rfl rfl (Yl.indexF un48 sz34 rfl rfl hF rfl (by omega)) rfl ?_
                          refine WD.two 7 11 (by kernel_rfl) ?_ ?_
                          · refine WO.y rfl rfl .no (Yl.loadE on34 rfl (Reads.own (by repeat constructor)) (so_getV (by omega))) rfl ?_
                            refine WD.one 11 (by kernel_rfl) ?_
                            refine WO.y rfl rfl .no (Yl.loadE on34 rfl (Reads.own (by repeat constructor)) (so_getV (by omega))) rfl ?_
                            refine WD.tk 12 rfl (by kernel_rfl) rfl rfl (Yl.indexF un48 sz34 rfl rfl hF rfl (by omega)) rfl ?_
                            refine WD.one 13 (by kernel_rfl) ?_
                            refine WO.sto rfl rfl .no (Sto.elem (j := y) sz34 rfl rfl (by repeat constructor) rfl (by omega) rfl) ⟨_, (by repeat' constructor)⟩ ?_
                            refine WD.tk 14 rfl (by kernel_rfl) rfl rfl (Yl.indexF un48 sz34 rfl rfl hF rfl (by omega)) rfl ?_
                            refine WD.one 15 (by kernel_rfl) ?_
                            refine WO.sto rfl rfl .no (Sto.elem (j := z) (cs' := ints .u64 (swp G (y) (z)).toList) sz34 rfl rfl (by repeat constructor) rfl (by omega) (so_swpV G (y) (z))) ⟨_, (by repeat' constructor)⟩ ?_
                            refine WD.done (by kernel_rfl) ?_
                            refine WC.seq ?_
                            refine WC.region ?_
                            refine WL.y (Yl.move rfl) rfl ?_
                            refine WL.y (Yl.add rfl rfl (IntWalk.i64_in _ (by omega))) rfl ?_
                            refine WL.y (Yl.assign rfl) rfl ?_
                            refine WL.nil ?_
                            refine WC.region ?_
                            refine WL.y (Yl.move rfl) rfl ?_
                            refine WL.y (Yl.sub rfl rfl (IntWalk.i64_in _ (by omega))) rfl ?_
                            refine WL.say (t := 152) (v' := .int .i64 ((z - 1 : Nat) : Int)) rfl (by (refine congrArg _ ?_; omega)) ?_
                            refine WL.y (Yl.assign rfl) rfl ?_
                            refine WL.nil ?_
                            exact ⟨rfl, (y + 1, z - 1, swp G y z), ⟨by dsimp only; omega, by dsimp only; omega, by dsimp only; rw [swp_size]; exact hG, hTG⟩, by dsimp only; omega, (by repeat' constructor), _, (by repeat' constructor)⟩
                          · refine WO.y rfl rfl .no (Yl.loadE on34 rfl (Reads.own (by repeat constructor)) (so_getV (by omega))) rfl ?_
                            refine WD.one 7 (by kernel_rfl) ?_
                            refine WO.y rfl rfl .no (Yl.loadE on34 rfl (Reads.own (by repeat constructor)) (so_getV (by omega))) rfl ?_
                            refine WD.tk 12 rfl (by kernel_rfl) rfl rfl (Yl.indexF un48 sz34 rfl rfl hF rfl (by omega)) rfl ?_
                            refine WD.one 13 (by kernel_rfl) ?_
                            refine WO.sto rfl rfl .no (Sto.elem (j := y) sz34 rfl rfl (by repeat constructor) rfl (by omega) rfl) ⟨_, (by repeat' constructor)⟩ ?_
                            refine WD.tk 14 rfl (by kernel_rfl) rfl rfl (Yl.indexF un48 sz34 rfl rfl hF rfl (by omega)) rfl ?_
                            refine WD.one 15 (by kernel_rfl) ?_
                            refine WO.sto rfl rfl .no (Sto.elem (j := z) (cs' := ints .u64 (swp G (y) (z)).toList) sz34 rfl rfl (by repeat constructor) rfl (by omega) (so_swpV G (y) (z))) ⟨_, (by repeat' constructor)⟩ ?_
                            refine WD.done (by kernel_rfl) ?_
                            refine WC.seq ?_
                            refine WC.region ?_
                            refine WL.y (Yl.move rfl) rfl ?_
                            refine WL.y (Yl.add rfl rfl (IntWalk.i64_in _ (by omega))) rfl ?_
                            refine WL.y (Yl.assign rfl) rfl ?_
                            refine WL.nil ?_
                            refine WC.region ?_
                            refine WL.y (Yl.move rfl) rfl ?_
                            refine WL.y (Yl.sub rfl rfl (IntWalk.i64_in _ (by omega))) rfl ?_
                            refine WL.say (t := 152) (v' := .int .i64 ((z - 1 : Nat) : Int)) rfl (by (refine congrArg _ ?_; omega)) ?_
                            refine WL.y (Yl.assign rfl) rfl ?_
                            refine WL.nil ?_
                            exact ⟨rfl, (y + 1, z - 1, swp G y z), ⟨by dsimp only; omega, by dsimp only; omega, by dsimp only; rw [swp_size]; exact hG, hTG⟩, by dsimp only; omega, (by repeat' constructor), _, (by repeat' constructor)⟩
              · refine WO.y rfl rfl .no (Yl.loadE on34 rfl (Reads.own (by repeat constructor)) (so_getV (by omega))) rfl ?_
                refine WD.one 7 (by kernel_rfl) ?_
                refine WO.y rfl rfl .no (Yl.loadE on34 rfl (Reads.own (by repeat constructor)) (so_getV (by omega))) rfl ?_
                refine WD.tk 12 rfl (by kernel_rfl) rfl rfl (Yl.indexF un48 sz34 rfl rfl hF rfl (by omega)) rfl ?_
                refine WD.one 13 (by kernel_rfl) ?_
                refine WO.sto rfl rfl .no (Sto.elem (j := p) sz34 rfl rfl (by repeat constructor) rfl (by omega) rfl) ⟨_, (by repeat' constructor)⟩ ?_
                refine WD.tk 14 rfl (by kernel_rfl) rfl rfl (Yl.indexF un48 sz34 rfl rfl hF rfl (by omega)) rfl ?_
                refine WD.one 15 (by kernel_rfl) ?_
                refine WO.sto rfl rfl .no (Sto.elem (j := q) (cs' := ints .u64 (swp B (p) (q)).toList) sz34 rfl rfl (by repeat constructor) rfl (by omega) (so_swpV B (p) (q))) ⟨_, (by repeat' constructor)⟩ ?_
                refine WD.done (by kernel_rfl) ?_
                refine WC.seq ?_
                refine WC.region ?_
                refine WL.y (Yl.move rfl) rfl ?_
                refine WL.y (Yl.add rfl rfl (IntWalk.i64_in _ (by omega))) rfl ?_
                refine WL.y (Yl.assign rfl) rfl ?_
                refine WL.nil ?_
                refine WC.seq ?_
                refine WC.region ?_
                refine WL.y (Yl.move rfl) rfl ?_
                refine WL.y (Yl.sub rfl rfl (IntWalk.i64_in _ (by omega))) rfl ?_
                refine WL.say (t := 98) (v' := .int .i64 ((q - 1 : Nat) : Int)) rfl (by (refine congrArg _ ?_; omega)) ?_
                refine WL.y (Yl.assign rfl) rfl ?_
                refine WL.nil ?_
                refine WC.seq ?_
                refine WC.block ?_
                obtain ⟨T, hT⟩ : ∃ T, partLoop ltInt a (p + 1) (q - 1) (swp B p q) = T := ⟨_, rfl⟩
                rw [hT]
                refine WC.loop (α := Nat × Nat × Array Int) (fun z => [(0, v), (1, .int .i64 (a : Int)), (10, .int .i64 (z.1 : Int)), (11, .int .i64 (z.2.1 : Int))]) (fun z => [ownR v 34 1 n (ints .u64 z.2.2.toList)]) (fun z => (a < z.1 ∧ z.1 ≤ n) ∧ z.2.1 < n ∧ z.2.2.size = n ∧ partLoop ltInt a z.1 z.2.1 z.2.2 = T) (fun z => z.2.1 + 1 - z.1) (p + 1, q - 1, swp B p q) ⟨by dsimp only; omega, by dsimp only; omega, by dsimp only; omega, hT⟩ ⟨(by repeat' constructor), _, (by repeat' constructor)⟩ ?_
                rintro ⟨i, j, G⟩ ⟨⟨hai, hin⟩, hjn, hG, hTG⟩
                dsimp only at hai hin hjn hG hTG ⊢
                have hgu := scanUp_ge (fun x => ltInt x G[a]!) G j i
                have hgd := scanDown_le (fun x => !ltInt x G[a]!) G (scanUp (fun x => ltInt x G[a]!) G j i) j
                rw [partLoop_eq] at hTG
                obtain ⟨I, hI⟩ : ∃ I, scanUp (fun x => ltInt x G[a]!) G j i = I := ⟨_, rfl⟩
                rw [hI] at hgu hgd hTG
                obtain ⟨J, hJ⟩ : ∃ J, scanDown (fun x => !ltInt x G[a]!) G I j = J := ⟨_, rfl⟩
                rw [hJ] at hgd hTG
                refine WC.block ?_
                refine WC.seq ?_
                refine WC.block ?_
                refine WC.loop (α := Nat) (fun y => [(0, v), (1, .int .i64 (a : Int)), (10, .int .i64 (y : Int)), (11, .int .i64 (j : Int))]) (fun _ => [ownR v 34 1 n (ints .u64 G.toList)]) (fun y => (a < y ∧ y ≤ n) ∧ scanUp (fun x => ltInt x G[a]!) G j y = I) (fun y => n + 1 - y) i ⟨⟨hai, hin⟩, hI⟩ ⟨(by repeat' constructor), _, (by repeat' constructor)⟩ ?_
                rintro y ⟨⟨hay, hyn⟩, hyI⟩
                refine WC.seq ?_
                refine WC.midX (α := Unit) (fun _ => [(0, v), (1, .int .i64 (a : Int)), (10, .int .i64 (y : Int)), (11, .int .i64 (j : Int)), (112, .bool (decide ((y : Int) ≤ (j : Int)) && ltInt G[y]! G[a]!))]) (fun _ => [ownR v 34 1 n (ints .u64 G.toList)]) (fun _ => True) ?_ ?_
                · refine WC.drawAny (Hs := [ownR v 34 1 n (ints .u64 G.toList)]) mixed (by kernel_rfl) ⟨_, (by repeat' constructor)⟩ ?_
                  refine WD.tk 0 rfl (by kernel_rfl) rfl rfl (Yl.move rfl) rfl ?_
                  refine WD.tk 1 rfl (by kernel_rfl) rfl rfl (Yl.move rfl) rfl ?_
                  refine WD.tk 2 rfl (by kernel_rfl) rfl rfl (Yl.leq rfl rfl) rfl ?_
                  refine WD.tk 3 rfl (by kernel_rfl) rfl rfl (Yl.move rfl) rfl ?_
                  refine WD.both (t := 102) rfl (fun g102 => ?_) (fun g102 => ?_)
                  · have hyj : y ≤ j := by have := of_decide_eq_true g102; omega
                    refine WD.takeOn 4 rfl (by kernel_rfl) (by kernel_rfl) (by kernel_rfl) rfl rfl rfl rfl (Yl.move rfl) rfl ?_
                    refine WD.takeOn 5 rfl (by kernel_rfl) (by kernel_rfl) (by kernel_rfl) rfl rfl rfl rfl (Yl.move rfl) rfl ?_
                    refine WD.takeOn 6 rfl (by kernel_rfl) (by kernel_rfl) (by kernel_rfl) rfl rfl rfl rfl (Yl.indexF un48 sz34 rfl rfl hF rfl (by omega)) rfl ?_
                    refine WD.takeOn 7 rfl (by kernel_rfl) (by kernel_rfl) (by kernel_rfl) rfl rfl rfl rfl (Yl.loadE on34 rfl (Reads.own (by repeat constructor)) (so_getV (by omega))) rfl ?_
                    refine WD.takeOn 8 rfl (by kernel_rfl) (by kernel_rfl) (by kernel_rfl) rfl rfl rfl rfl (Yl.move rfl) rfl ?_
                    refine WD.takeOn 9 rfl (by kernel_rfl) (by kernel_rfl) (by kernel_rfl) rfl rfl rfl rfl (Yl.move rfl) rfl ?_
                    refine WD.takeOn 10 rfl (by kernel_rfl) (by kernel_rfl) (by kernel_rfl) rfl rfl rfl rfl (Yl.indexF un48 sz34 rfl rfl hF rfl (by omega)) rfl ?_
                    refine WD.takeOn 11 rfl (by kernel_rfl) (by kernel_rfl) (by kernel_rfl) rfl rfl rfl rfl (Yl.loadE on34 rfl (Reads.own (by repeat constructor)) (so_getV (by omega))) rfl ?_
                    refine WD.one 12 (by kernel_rfl) ?_
                    refine WO.callC (xs := [.tmp 106, .tmp 110]) (cap := []) rfl (.on rfl rfl) rfl rfl en138 (by repeat' constructor) (fun w hw => lessV_any _ _ w hw.left.here) rfl (fun _ => ⟨_, (by repeat' constructor)⟩) ?_
                    rintro ⟨⟩ -
                    refine WD.tk 13 rfl (by kernel_rfl) rfl rfl (Yl.pickT rfl rfl) rfl ?_
                    refine WD.say (t := 112) (v' := .bool (decide ((y : Int) ≤ (j : Int)) && ltInt G[y]! G[a]!)) rfl (by (rw [g102]; rfl)) ?_
                    refine WD.done (by kernel_rfl) ?_
                    exact ⟨rfl, (), trivial, (by repeat' constructor), _, (by repeat' constructor)⟩
                  · refine WD.takeOff 4 rfl (by kernel_rfl) (by kernel_rfl) (by kernel_rfl) rfl rfl rfl rfl rfl rfl ?_
                    refine WD.takeOff 5 rfl (by kernel_rfl) (by kernel_rfl) (by kernel_rfl) rfl rfl rfl rfl rfl rfl ?_
                    refine WD.takeOff 6 rfl (by kernel_rfl) (by kernel_rfl) (by kernel_rfl) rfl rfl rfl rfl rfl rfl ?_
                    refine WD.takeOff 7 rfl (by kernel_rfl) (by kernel_rfl) (by kernel_rfl) rfl rfl rfl rfl rfl rfl ?_
                    refine WD.takeOff 8 rfl (by kernel_rfl) (by kernel_rfl) (by kernel_rfl) rfl rfl rfl rfl rfl rfl ?_
                    refine WD.takeOff 9 rfl (by kernel_rfl) (by kernel_rfl) (by kernel_rfl) rfl rfl rfl rfl rfl rfl ?_
                    refine WD.takeOff 10 rfl (by kernel_rfl) (by kernel_rfl) (by kernel_rfl) rfl rfl rfl rfl rfl rfl ?_
                    refine WD.takeOff 11 rfl (by kernel_rfl) (by kernel_rfl) (by kernel_rfl) rfl rfl rfl rfl rfl rfl ?_
                    refine WD.one 12 (by kernel_rfl) ?_
                    refine WO.off rfl rfl rfl rfl rfl rfl rfl ?_
                    refine WD.tk 13 rfl (by kernel_rfl) rfl rfl (Yl.pickF rfl rfl) rfl ?_
                    refine WD.say (t := 112) (v' := .bool (decide ((y : Int) ≤ (j : Int)) && ltInt G[y]! G[a]!)) rfl (by (rw [g102]; rfl)) ?_
                    refine WD.done (by kernel_rfl) ?_
                    exact ⟨rfl, (), trivial, (by repeat' constructor), _, (by repeat' constructor)⟩
                · rintro ⟨⟩ -
                  refine WC.cond rfl (fun g112 => ?_) (fun g112 => ?_)
                  · refine WC.skip ?_
                    refine WC.block ?_
                    have hyj := and_le g112
                    refine WC.region ?_
                    refine WL.y (Yl.move rfl) rfl ?_
                    refine WL.y (Yl.add rfl rfl (IntWalk.i64_in _ (by omega))) rfl ?_
                    refine WL.y (Yl.assign rfl) rfl ?_
                    refine WL.nil ?_
                    exact ⟨rfl, y + 1, ⟨by omega, by rw [← up_go g112]; exact hyI⟩, by omega, (by repeat' constructor), _, (by repeat' constructor)⟩
                  · refine WC.exit ?_
                    refine WC.seq ?_
                    refine WC.block ?_
                    have hye : y = I := by rw [← hyI]; exact (up_stop g112).symm
                    subst hye
                    refine WC.loop (α := Nat) (fun z => [(0, v), (1, .int .i64 (a : Int)), (10, .int .i64 (y : Int)), (11, .int .i64 (z : Int))]) (fun _ => [ownR v 34 1 n (ints .u64 G.toList)]) (fun z => z < n ∧ scanDown (fun x => !ltInt x G[a]!) G y z = J) (fun z => z) j ⟨hjn, hJ⟩ ⟨(by repeat' constructor), _, (by repeat' constructor)⟩ ?_
                    rintro z ⟨hzn, hzJ⟩
                    refine WC.seq ?_
                    refine WC.midX (α := Unit) (fun _ => [(0, v), (1, .int .i64 (a : Int)), (10, .int .i64 (y : Int)), (11, .int .i64 (z : Int)), (129, .bool (decide ((y : Int) ≤ (z : Int)) && !ltInt G[z]! G[a]!))]) (fun _ => [ownR v 34 1 n (ints .u64 G.toList)]) (fun _ => True) ?_ ?_
                    · refine WC.drawAny (Hs := [ownR v 34 1 n (ints .u64 G.toList)]) mixed (by kernel_rfl) ⟨_, (by repeat' constructor)⟩ ?_
                      refine WD.tk 0 rfl (by kernel_rfl) rfl rfl (Yl.move rfl) rfl ?_
                      refine WD.tk 1 rfl (by kernel_rfl) rfl rfl (Yl.move rfl) rfl ?_
                      refine WD.tk 2 rfl (by kernel_rfl) rfl rfl (Yl.leq rfl rfl) rfl ?_
                      refine WD.tk 3 rfl (by kernel_rfl) rfl rfl (Yl.move rfl) rfl ?_
                      refine WD.both (t := 118) rfl (fun g118 => ?_) (fun g118 => ?_)
                      · refine WD.takeOn 4 rfl (by kernel_rfl) (by kernel_rfl) (by kernel_rfl) rfl rfl rfl rfl (Yl.move rfl) rfl ?_
                        refine WD.takeOn 5 rfl (by kernel_rfl) (by kernel_rfl) (by kernel_rfl) rfl rfl rfl rfl (Yl.move rfl) rfl ?_
                        refine WD.takeOn 6 rfl (by kernel_rfl) (by kernel_rfl) (by kernel_rfl) rfl rfl rfl rfl (Yl.indexF un48 sz34 rfl rfl hF rfl (by omega)) rfl ?_
                        refine WD.takeOn 7 rfl (by kernel_rfl) (by kernel_rfl) (by kernel_rfl) rfl rfl rfl rfl (Yl.loadE on34 rfl (Reads.own (by repeat constructor)) (so_getV (by omega))) rfl ?_
                        refine WD.takeOn 8 rfl (by kernel_rfl) (by kernel_rfl) (by kernel_rfl) rfl rfl rfl rfl (Yl.move rfl) rfl ?_
                        refine WD.takeOn 9 rfl (by kernel_rfl) (by kernel_rfl) (by kernel_rfl) rfl rfl rfl rfl (Yl.move rfl) rfl ?_
                        refine WD.takeOn 10 rfl (by kernel_rfl) (by kernel_rfl) (by kernel_rfl) rfl rfl rfl rfl (Yl.indexF un48 sz34 rfl rfl hF rfl (by omega)) rfl ?_
                        refine WD.takeOn 11 rfl (by kernel_rfl) (by kernel_rfl) (by kernel_rfl) rfl rfl rfl rfl (Yl.loadE on34 rfl (Reads.own (by repeat constructor)) (so_getV (by omega))) rfl ?_
                        refine WD.one 12 (by kernel_rfl) ?_
                        refine WO.callC (xs := [.tmp 122, .tmp 126]) (cap := []) rfl (.on rfl rfl) rfl rfl en138 (by repeat' constructor) (fun w hw => lessV_any _ _ w hw.left.here) rfl (fun _ => ⟨_, (by repeat' constructor)⟩) ?_
                        rintro ⟨⟩ -
                        refine WD.takeOn 13 rfl (by kernel_rfl) (by kernel_rfl) (by kernel_rfl) rfl rfl rfl rfl (Yl.not rfl) rfl ?_
                        refine WD.tk 14 rfl (by kernel_rfl) rfl rfl (Yl.pickT rfl rfl) rfl ?_
                        refine WD.say (t := 129) (v' := .bool (decide ((y : Int) ≤ (z : Int)) && !ltInt G[z]! G[a]!)) rfl (by (rw [g118]; rfl)) ?_
                        refine WD.done (by kernel_rfl) ?_
                        exact ⟨rfl, (), trivial, (by repeat' constructor), _, (by repeat' constructor)⟩
                      · refine WD.takeOff 4 rfl (by kernel_rfl) (by kernel_rfl) (by kernel_rfl) rfl rfl rfl rfl rfl rfl ?_
                        refine WD.takeOff 5 rfl (by kernel_rfl) (by kernel_rfl) (by kernel_rfl) rfl rfl rfl rfl rfl rfl ?_
                        refine WD.takeOff 6 rfl (by kernel_rfl) (by kernel_rfl) (by kernel_rfl) rfl rfl rfl rfl rfl rfl ?_
                        refine WD.takeOff 7 rfl (by kernel_rfl) (by kernel_rfl) (by kernel_rfl) rfl rfl rfl rfl rfl rfl ?_
                        refine WD.takeOff 8 rfl (by kernel_rfl) (by kernel_rfl) (by kernel_rfl) rfl rfl rfl rfl rfl rfl ?_
                        refine WD.takeOff 9 rfl (by kernel_rfl) (by kernel_rfl) (by kernel_rfl) rfl rfl rfl rfl rfl rfl ?_
                        refine WD.takeOff 10 rfl (by kernel_rfl) (by kernel_rfl) (by kernel_rfl) rfl rfl rfl rfl rfl rfl ?_
                        refine WD.takeOff 11 rfl (by kernel_rfl) (by kernel_rfl) (by kernel_rfl) rfl rfl rfl rfl rfl rfl ?_
                        refine WD.one 12 (by kernel_rfl) ?_
                        refine WO.off rfl rfl rfl rfl rfl rfl rfl ?_
                        refine WD.takeOff 13 rfl (by kernel_rfl) (by kernel_rfl) (by kernel_rfl) rfl rfl rfl rfl rfl rfl ?_
                        refine WD.tk 14 rfl (by kernel_rfl) rfl rfl (Yl.pickF rfl rfl) rfl ?_
                        refine WD.say (t := 129) (v' := .bool (decide ((y : Int) ≤ (z : Int)) && !ltInt G[z]! G[a]!)) rfl (by (rw [g118]; rfl)) ?_
                        refine WD.done (by kernel_rfl) ?_
                        exact ⟨rfl, (), trivial, (by repeat' constructor), _, (by repeat' constructor)⟩
                    · rintro ⟨⟩ -
                      refine WC.cond rfl (fun g129 => ?_) (fun g129 => ?_)
                      · refine WC.skip ?_
                        refine WC.block ?_
                        have hyz := and_le g129
                        refine WC.region ?_
                        refine WL.y (Yl.move rfl) rfl ?_
                        refine WL.y (Yl.sub rfl rfl (IntWalk.i64_in _ (by omega))) rfl ?_
                        refine WL.say (t := 131) (v' := .int .i64 ((z - 1 : Nat) : Int)) rfl (by (refine congrArg _ ?_; omega)) ?_
                        refine WL.y (Yl.assign rfl) rfl ?_
                        refine WL.nil ?_
                        exact ⟨rfl, z - 1, ⟨by omega, by rw [← down_go (by omega) g129]; exact hzJ⟩, by omega, (by repeat' constructor), _, (by repeat' constructor)⟩
                      · refine WC.exit ?_
                        refine WC.seq ?_
                        refine WC.seq ?_
                        have hze : z = J := by rw [← hzJ]; exact (down_stop (by omega) g129).symm
                        subst hze
                        refine WC.region ?_
                        refine WL.y (Yl.move rfl) rfl ?_
                        refine WL.y (Yl.move rfl) rfl ?_
                        refine WL.y (Yl.gtr rfl rfl) rfl ?_
                        refine WL.nil ?_
                        refine WC.condD rfl (fun g134 => ?_) (fun g134 => ?_)
                        · refine WC.exit ?_
                          refine WC.seq ?_
                          have hyz : y > z := by omega
                          rw [if_pos hyz] at hTG
                          subst hTG
                          dsimp only
                          refine WC.drawAny (Hs := []) mixed (by kernel_rfl) ⟨_, (by repeat' constructor)⟩ ?_
                          refine WD.tk 0 rfl (by kernel_rfl) rfl rfl (Yl.move rfl) rfl ?_
                          refine WD.tk 1 rfl (by kernel_rfl) rfl rfl (Yl.move rfl) rfl ?_
                          refine WD.tk 2 rfl (by kernel_rfl) rfl rfl (Yl.move rfl) rfl ?_
                          refine WD.tk 3 rfl (by kernel_rfl) rfl rfl (Yl.move rfl) rfl ?_
                          refine WD.tk 4 rfl (by kernel_rfl) rfl rfl (Yl.move rfl) rfl ?_
                          refine WD.tk 5 rfl (by kernel_rfl) rfl rfl (Yl.move rfl) rfl ?_
                          refine WD.tk 6 rfl (by kernel_rfl) rfl rfl (Yl.indexF un48 sz34 rfl rfl hF rfl (by omega)) rfl ?_
                          refine WD.tk 8 rfl (by kernel_rfl) rfl rfl (Yl.move rfl) rfl ?_
                          refine WD.tk 9 rfl (by kernel_rfl) rfl rfl (Yl.move rfl) rfl ?_
                          refine WD.tk 10 rfl (by kernel_rfl) rfl rfl (Yl.indexF un48 sz34 rfl rfl hF rfl (by omega)) rfl ?_
                          refine WD.two 7 11 (by kernel_rfl) ?_ ?_
                          · refine WO.y rfl rfl .no (Yl.loadE on34 rfl (Reads.own (by repeat constructor)) (so_getV (by omega))) rfl ?_
                            refine WD.one 11 (by kernel_rfl) ?_
                            refine WO.y rfl rfl .no (Yl.loadE on34 rfl (Reads.own (by repeat constructor)) (so_getV (by omega))) rfl ?_
                            refine WD.tk 12 rfl (by kernel_rfl) rfl rfl (Yl.indexF un48 sz34 rfl rfl hF rfl (by omega)) rfl ?_
                            refine WD.one 13 (by kernel_rfl) ?_
                            refine WO.sto rfl rfl .no (Sto.elem (j := z) sz34 rfl rfl (by repeat constructor) rfl (by omega) rfl) ⟨_, (by repeat' constructor)⟩ ?_
                            refine WD.tk 14 rfl (by kernel_rfl) rfl rfl (Yl.indexF un48 sz34 rfl rfl hF rfl (by omega)) rfl ?_
                            refine WD.one 15 (by kernel_rfl) ?_
                            refine WO.sto rfl rfl .no (Sto.elem (j := a) (cs' := ints .u64 (swp G (z) (a)).toList) sz34 rfl rfl (by repeat constructor) rfl (by omega) (so_swpV G (z) (a))) ⟨_, (by repeat' constructor)⟩ ?_
                            refine WD.done (by kernel_rfl) ?_
                            refine WC.seq ?_
                            refine WC.region ?_
                            refine WL.y (Yl.move rfl) rfl ?_
                            refine WL.y (Yl.assign rfl) rfl ?_
                            refine WL.y (Yl.assign rfl) rfl ?_
                            refine WL.nil ?_
                            refine WC.ret ?_
                            repeat (with_reducible (first | refine peelT ?_ | refine peelB ?_ | refine peelTX ?_ | refine peelBX ?_ | refine peelBN ?_ | refine peelBO rfl ?_))
                            exact ret2 (.inr rfl) Tryz.results140 rfl rfl fun w' h => ⟨(), trivial, rfl, h.sub (by repeat' constructor)⟩
                          · refine WO.y rfl rfl .no (Yl.loadE on34 rfl (Reads.own (by repeat constructor)) (so_getV (by omega))) rfl ?_
                            refine WD.one 7 (by kernel_rfl) ?_
                            refine WO.y rfl rfl .no (Yl.loadE on34 rfl (Reads.own (by repeat constructor)) (so_getV (by omega))) rfl ?_
                            refine WD.tk 12 rfl (by kernel_rfl) rfl rfl (Yl.indexF un48 sz34 rfl rfl hF rfl (by omega)) rfl ?_
                            refine WD.one 13 (by kernel_rfl) ?_
                            refine WO.sto rfl rfl .no (Sto.elem (j := z) sz34 rfl rfl (by repeat constructor) rfl (by omega) rfl) ⟨_, (by repeat' constructor)⟩ ?_
                            refine WD.tk 14 rfl (by kernel_rfl) rfl rfl (Yl.indexF un48 sz34 rfl rfl hF rfl (by omega)) rfl ?_
                            refine WD.one 15 (by kernel_rfl) ?_
                            refine WO.sto rfl rfl .no (Sto.elem (j := a) (cs' := ints .u64 (swp G (z) (a)).toList) sz34 rfl rfl (by repeat constructor) rfl (by omega) (so_swpV G (z) (a))) ⟨_, (by repeat' constructor)⟩ ?_
                            refine WD.done (by kernel_rfl) ?_
                            refine WC.seq ?_
                            refine WC.region ?_
                            refine WL.y (Yl.move rfl) rfl ?_
                            refine WL.y (Yl.assign rfl) rfl ?_
                            refine WL.y (Yl.assign rfl) rfl ?_
                            refine WL.nil ?_
                            refine WC.ret ?_
                            repeat (with_reducible (first | refine peelT ?_ | refine peelB ?_ | refine peelTX ?_ | refine peelBX ?_ | refine peelBN ?_ | refine peelBO rfl ?_))
                            exact ret2 (.inr rfl) Tryz.results140 rfl rfl fun w' h => ⟨(), trivial, rfl, h.sub (by repeat' constructor)⟩
                        · refine WC.skip ?_
                          refine WC.seq ?_
                          have hyz : ¬ y > z := by omega
                          rw [if_neg hyz] at hTG
                          refine WC.drawAny (Hs := []) mixed (by kernel_rfl) ⟨_, (by repeat' constructor)⟩ ?_
                          refine WD.tk 0 rfl (by kernel_rfl) rfl rfl (Yl.move rfl) rfl ?_
                          refine WD.tk 1 rfl (by kernel_rfl) rfl rfl (Yl.move rfl) rfl ?_
                          refine WD.tk 2 rfl (by kernel_rfl) rfl rfl (Yl.move rfl) rfl ?_
                          refine WD.tk 3 rfl (by kernel_rfl) rfl rfl (Yl.move rfl) rfl ?_
                          refine WD.tk 4 rfl (by kernel_rfl) rfl rfl (Yl.move rfl) rfl ?_
                          refine WD.tk 5 rfl (by kernel_rfl) rfl rfl (Yl.move rfl) rfl ?_
                          refine WD.tk 6 rfl (by kernel_rfl) rfl rfl (Yl.indexF un48 sz34 rfl rfl hF rfl (by omega)) rfl ?_
                          refine WD.tk 8 rfl (by kernel_rfl) rfl rfl (Yl.move rfl) rfl ?_
                          refine WD.tk 9 rfl (by kernel_rfl) rfl rfl (Yl.move rfl) rfl ?_
                          refine WD.tk 10 rfl (by kernel_rfl) rfl rfl (Yl.indexF un48 sz34 rfl rfl hF rfl (by omega)) rfl ?_
                          refine WD.two 7 11 (by kernel_rfl) ?_ ?_
                          · refine WO.y rfl rfl .no (Yl.loadE on34 rfl (Reads.own (by repeat constructor)) (so_getV (by omega))) rfl ?_
                            refine WD.one 11 (by kernel_rfl) ?_
                            refine WO.y rfl rfl .no (Yl.loadE on34 rfl (Reads.own (by repeat constructor)) (so_getV (by omega))) rfl ?_
                            refine WD.tk 12 rfl (by kernel_rfl) rfl rfl (Yl.indexF un48 sz34 rfl rfl hF rfl (by omega)) rfl ?_
                            refine WD.one 13 (by kernel_rfl) ?_
                            refine WO.sto rfl rfl .no (Sto.elem (j := y) sz34 rfl rfl (by repeat constructor) rfl (by omega) rfl) ⟨_, (by repeat' constructor)⟩ ?_
                            refine WD.tk 14 rfl (by kernel_rfl) rfl rfl (Yl.indexF un48 sz34 rfl rfl hF rfl (by omega)) rfl ?_
                            refine WD.one 15 (by kernel_rfl) ?_
                            refine WO.sto rfl rfl .no (Sto.elem (j := z) (cs' := ints .u64 (swp G (y) (z)).toList) sz34 rfl rfl (by repeat constructor) rfl (by omega) (so_swpV G (y) (z))) ⟨_, (by repeat' constructor)⟩ ?_
                            refine WD.done (by kernel_rfl) ?_
                            refine WC.seq ?_
                            refine WC.region ?_
                            refine WL.y (Yl.move rfl) rfl ?_
                            refine WL.y (Yl.add rfl rfl (IntWalk.i64_in _ (by omega))) rfl ?_
                            refine WL.y (Yl.assign rfl) rfl ?_
                            refine WL.nil ?_
                            refine WC.region ?_
                            refine WL.y (Yl.move rfl) rfl ?_
                            refine WL.y (Yl.sub rfl rfl (IntWalk.i64_in _ (by omega))) rfl ?_
                            refine WL.say (t := 152) (v' := .int .i64 ((z - 1 : Nat) : Int)) rfl (by (refine congrArg _ ?_; omega)) ?_
                            refine WL.y (Yl.assign rfl) rfl ?_
                            refine WL.nil ?_
                            exact ⟨rfl, (y + 1, z - 1, swp G y z), ⟨by dsimp only; omega, by dsimp only; omega, by dsimp only; rw [swp_size]; exact hG, hTG⟩, by dsimp only; omega, (by repeat' constructor), _, (by repeat' constructor)⟩
                          · refine WO.y rfl rfl .no (Yl.loadE on34 rfl (Reads.own (by repeat constructor)) (so_getV (by omega))) rfl ?_
                            refine WD.one 7 (by kernel_rfl) ?_
                            refine WO.y rfl rfl .no (Yl.loadE on34 rfl (Reads.own (by repeat constructor)) (so_getV (by omega))) rfl ?_
                            refine WD.tk 12 rfl (by kernel_rfl) rfl rfl (Yl.indexF un48 sz34 rfl rfl hF rfl (by omega)) rfl ?_
                            refine WD.one 13 (by kernel_rfl) ?_
                            refine WO.sto rfl rfl .no (Sto.elem (j := y) sz34 rfl rfl (by repeat constructor) rfl (by omega) rfl) ⟨_, (by repeat' constructor)⟩ ?_
                            refine WD.tk 14 rfl (by kernel_rfl) rfl rfl (Yl.indexF un48 sz34 rfl rfl hF rfl (by omega)) rfl ?_
                            refine WD.one 15 (by kernel_rfl) ?_
                            refine WO.sto rfl rfl .no (Sto.elem (j := z) (cs' := ints .u64 (swp G (y) (z)).toList) sz34 rfl rfl (by repeat constructor) rfl (by omega) (so_swpV G (y) (z))) ⟨_, (by repeat' constructor)⟩ ?_
                            refine WD.done (by kernel_rfl) ?_
                            refine WC.seq ?_
                            refine WC.region ?_
                            refine WL.y (Yl.move rfl) rfl ?_
                            refine WL.y (Yl.add rfl rfl (IntWalk.i64_in _ (by omega))) rfl ?_
                            refine WL.y (Yl.assign rfl) rfl ?_
                            refine WL.nil ?_
                            refine WC.region ?_
                            refine WL.y (Yl.move rfl) rfl ?_
                            refine WL.y (Yl.sub rfl rfl (IntWalk.i64_in _ (by omega))) rfl ?_
                            refine WL.say (t := 152) (v' := .int .i64 ((z - 1 : Nat) : Int)) rfl (by (refine congrArg _ ?_; omega)) ?_
                            refine WL.y (Yl.assign rfl) rfl ?_
                            refine WL.nil ?_
                            exact ⟨rfl, (y + 1, z - 1, swp G y z), ⟨by dsimp only; omega, by dsimp only; omega, by dsimp only; rw [swp_size]; exact hG, hTG⟩, by dsimp only; omega, (by repeat' constructor), _, (by repeat' constructor)⟩
end Go.Proofs.YtbgimajbehodnaaGreatDoor
