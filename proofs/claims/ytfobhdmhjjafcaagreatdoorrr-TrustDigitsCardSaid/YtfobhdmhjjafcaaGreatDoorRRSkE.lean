/- Sorting keys: the partition by a pivot: the walk. -/
import Derived.Test.YtfobhdmhjjafcaaGreatDoorRRSkD
namespace Go.Proofs.YtfobhdmhjjafcaaGreatDoorRR
open Go Go.RowKit Go.Sort

set_option maxHeartbeats 3200000 in
set_option maxRecDepth 100000 in
theorem parK_any (v : Value) (n : Nat) (D : Array Ky) (a b pv : Nat) (hD : D.size = n) (hn : n ≤ 1099511627776) (hap : a ≤ pv) (hpb : pv < b) (hb : b ≤ n) (w : World) (hw : OK w (fpL [rwK v n (D.toList)]) [rwK v n (D.toList)] w) :
    Fn Tryz.prog 104 [v, .int .i64 (a : Int), .int .i64 (b : Int), .int .i64 (pv : Int), .func (.func 60) #[] #[]] [rwK v n (D.toList)] w (fun _ : Unit => True) (fun _ => .tuple #[.int .i64 ((partition ltK D a b pv).1 : Int), .bool (partition ltK D a b pv).2.1]) (fun _ => [rwK v n ((partition ltK D a b pv).2.2.toList)]) := by
  have hF := sl_form (hw.get (r := rwK v n (D.toList)) .head)
  have hsz := swp_size D a pv
  have hP : partition ltK D a b pv = partition ltK D a b pv := rfl
  conv at hP => rhs; unfold partition
  dsimp only at hP
  obtain ⟨P, hPe⟩ : ∃ P, partition ltK D a b pv = P := ⟨_, rfl⟩
  rw [hPe] at hP ⊢
  obtain ⟨B, hB⟩ : ∃ B, swp D a pv = B := ⟨_, rfl⟩
  rw [hB] at hP hsz
  have hBn : B.size = n := by omega
  have hgu0 := scanUp_ge (fun x => ltK x B[a]!) B (b - 1) (a + 1)
  have hgd0 := scanDown_le (fun x => !ltK x B[a]!) B (scanUp (fun x => ltK x B[a]!) B (b - 1) (a + 1)) (b - 1)
  obtain ⟨I0, hI0⟩ : ∃ I, scanUp (fun x => ltK x B[a]!) B (b - 1) (a + 1) = I := ⟨_, rfl⟩
  rw [hI0] at hP hgu0 hgd0
  obtain ⟨J0, hJ0⟩ : ∃ J, scanDown (fun x => !ltK x B[a]!) B I0 (b - 1) = J := ⟨_, rfl⟩
  rw [hJ0] at hP hgd0
  refine enterF Tryz.func104 rfl Tryz.ntmps104 rfl hw ?_
  refine WC.seq ?_
  refine WC.region ?_
  refine WL.y (Yl.assign rfl) rfl ?_
  refine WL.y (Yl.assign rfl) rfl ?_
  refine WL.nil ?_
  refine WC.seq ?_
  refine WC.drawAny (Hs := []) mixed (by kernel_rfl) ⟨_, (by repeat' constructor)⟩ ?_
  refine WD.take 0 rfl (by kernel_rfl) (by kernel_rfl) (by kernel_rfl) rfl rfl (Yl.move rfl) rfl ?_
  refine WD.take 1 rfl (by kernel_rfl) (by kernel_rfl) (by kernel_rfl) rfl rfl (Yl.move rfl) rfl ?_
  refine WD.take 2 rfl (by kernel_rfl) (by kernel_rfl) (by kernel_rfl) rfl rfl (Yl.move rfl) rfl ?_
  refine WD.take 3 rfl (by kernel_rfl) (by kernel_rfl) (by kernel_rfl) rfl rfl (Yl.move rfl) rfl ?_
  refine WD.take 4 rfl (by kernel_rfl) (by kernel_rfl) (by kernel_rfl) rfl rfl (Yl.move rfl) rfl ?_
  refine WD.take 5 rfl (by kernel_rfl) (by kernel_rfl) (by kernel_rfl) rfl rfl (Yl.move rfl) rfl ?_
  refine WD.take 6 rfl (by kernel_rfl) (by kernel_rfl) (by kernel_rfl) rfl rfl (Yl.indexF un22 sz30 rfl rfl hF rfl (by omega)) rfl ?_
  refine WD.take 8 rfl (by kernel_rfl) (by kernel_rfl) (by kernel_rfl) rfl rfl (Yl.move rfl) rfl ?_
  refine WD.take 9 rfl (by kernel_rfl) (by kernel_rfl) (by kernel_rfl) rfl rfl (Yl.move rfl) rfl ?_
  refine WD.take 10 rfl (by kernel_rfl) (by kernel_rfl) (by kernel_rfl) rfl rfl (Yl.indexF un22 sz30 rfl rfl hF rfl (by omega)) rfl ?_
  refine WD.two 7 11 (by kernel_rfl) ?_ ?_
  · refine WO.y rfl rfl .no (Yl.loadV vtK (fun _ _ => trivial) rfl (Reads.own (by repeat constructor)) (by rw [Array.length_toList]; omega) (so_getK (by omega))) rfl ?_
    refine WD.one 11 (by kernel_rfl) ?_
    refine WO.y rfl rfl .no (Yl.loadV vtK (fun _ _ => trivial) rfl (Reads.own (by repeat constructor)) (by rw [Array.length_toList]; omega) (so_getK (by omega))) rfl ?_
    refine WD.take 12 rfl (by kernel_rfl) (by kernel_rfl) (by kernel_rfl) rfl rfl (Yl.indexF un22 sz30 rfl rfl hF rfl (by omega)) rfl ?_
    refine WD.one 13 (by kernel_rfl) ?_
    refine WO.sto rfl rfl .no (Sto.elemV (j := a) (u := D[pv]!) (xs := D.toList) vtK (fun _ _ => trivial) trivial rfl rfl (by repeat constructor) (by rw [Array.length_toList]; omega) (by omega)) ⟨_, (by repeat' constructor)⟩ ?_
    refine WD.take 14 rfl (by kernel_rfl) (by kernel_rfl) (by kernel_rfl) rfl rfl (Yl.indexF un22 sz30 rfl rfl hF rfl (by omega)) rfl ?_
    refine WD.one 15 (by kernel_rfl) ?_
    refine WO.sto rfl rfl .no (Sto.elemV (j := pv) (u := D[a]!) (xs := D.toList.set (a) D[pv]!) vtK (fun _ _ => trivial) trivial rfl rfl (by repeat constructor) (by rw [List.length_set, Array.length_toList]; omega) (by omega)) ⟨_, (by repeat' constructor)⟩ ?_
    rw [so_swpK D (a) (pv)]
    refine WD.done (by kernel_rfl) ?_
    refine WC.seq ?_
    rw [hB]
    refine WC.region ?_
    refine WL.y (Yl.move rfl) rfl ?_
    refine WL.y (Yl.add rfl rfl (IntWalk.i64_in _ (by omega))) rfl ?_
    refine WL.y (Yl.move rfl) rfl ?_
    refine WL.y (Yl.sub rfl rfl (IntWalk.i64_in _ (by omega))) rfl ?_
    refine WL.say (t := 31) (v' := .int .i64 ((b - 1 : Nat) : Int)) rfl (by (refine congrArg _ ?_; omega)) ?_
    refine WL.y (Yl.assign rfl) rfl ?_
    refine WL.y (Yl.assign rfl) rfl ?_
    refine WL.nil ?_
    refine WC.seq ?_
    refine WC.block ?_
    refine WC.loop (α := Nat) (fun p => [(0, v), (4, .func (.func 60) #[] #[]), (1, .int .i64 (a : Int)), (12, .int .i64 (p : Int)), (13, .int .i64 ((b - 1 : Nat) : Int))]) (fun _ => [rwK v n (B.toList)]) (fun p => (a < p ∧ p ≤ n) ∧ scanUp (fun x => ltK x B[a]!) B (b - 1) p = I0) (fun p => n + 1 - p) (a + 1) ⟨⟨Nat.lt_succ_self _, by omega⟩, hI0⟩ ⟨(by repeat (first | exact Sub.nil | refine Sub.cons rfl ?_)), _, (by repeat' constructor)⟩ ?_
    rintro p ⟨⟨hap', hpn⟩, hpI⟩
    refine WC.seq ?_
    refine WC.midX (α := Unit) (fun _ => [(0, v), (4, .func (.func 60) #[] #[]), (1, .int .i64 (a : Int)), (12, .int .i64 (p : Int)), (13, .int .i64 ((b - 1 : Nat) : Int)), (47, .bool (decide ((p : Int) ≤ ((b - 1 : Nat) : Int)) && ltK B[p]! B[a]!))]) (fun _ => [rwK v n (B.toList)]) (fun _ => True) ?_ ?_
    · refine WC.drawAny (Hs := [rwK v n (B.toList)]) mixed (by kernel_rfl) ⟨_, (by repeat' constructor)⟩ ?_
      refine WD.take 0 rfl (by kernel_rfl) (by kernel_rfl) (by kernel_rfl) rfl rfl (Yl.move rfl) rfl ?_
      refine WD.take 1 rfl (by kernel_rfl) (by kernel_rfl) (by kernel_rfl) rfl rfl (Yl.move rfl) rfl ?_
      refine WD.take 2 rfl (by kernel_rfl) (by kernel_rfl) (by kernel_rfl) rfl rfl (Yl.leq rfl rfl) rfl ?_
      refine WD.take 3 rfl (by kernel_rfl) (by kernel_rfl) (by kernel_rfl) rfl rfl (Yl.move rfl) rfl ?_
      refine WD.both (t := 35) rfl (fun g35 => ?_) (fun g35 => ?_)
      · refine WD.takeOn 4 rfl (by kernel_rfl) (by kernel_rfl) (by kernel_rfl) rfl rfl rfl rfl (Yl.move rfl) rfl ?_
        have hpj : p ≤ b - 1 := by have := of_decide_eq_true g35; omega
        refine WD.takeOn 5 rfl (by kernel_rfl) (by kernel_rfl) (by kernel_rfl) rfl rfl rfl rfl (Yl.move rfl) rfl ?_
        refine WD.takeOn 6 rfl (by kernel_rfl) (by kernel_rfl) (by kernel_rfl) rfl rfl rfl rfl (Yl.move rfl) rfl ?_
        refine WD.takeOn 7 rfl (by kernel_rfl) (by kernel_rfl) (by kernel_rfl) rfl rfl rfl rfl (Yl.indexF un22 sz30 rfl rfl hF rfl (by omega)) rfl ?_
        refine WD.takeOn 8 rfl (by kernel_rfl) (by kernel_rfl) (by kernel_rfl) rfl rfl rfl rfl (Yl.loadV vtK (fun _ _ => trivial) rfl (Reads.own (by repeat constructor)) (by rw [Array.length_toList]; omega) (so_getK (by omega))) rfl ?_
        refine WD.takeOn 9 rfl (by kernel_rfl) (by kernel_rfl) (by kernel_rfl) rfl rfl rfl rfl (Yl.move rfl) rfl ?_
        refine WD.takeOn 10 rfl (by kernel_rfl) (by kernel_rfl) (by kernel_rfl) rfl rfl rfl rfl (Yl.move rfl) rfl ?_
        refine WD.takeOn 11 rfl (by kernel_rfl) (by kernel_rfl) (by kernel_rfl) rfl rfl rfl rfl (Yl.indexF un22 sz30 rfl rfl hF rfl (by omega)) rfl ?_
        refine WD.takeOn 12 rfl (by kernel_rfl) (by kernel_rfl) (by kernel_rfl) rfl rfl rfl rfl (Yl.loadV vtK (fun _ _ => trivial) rfl (Reads.own (by repeat constructor)) (by rw [Array.length_toList]; omega) (so_getK (by omega))) rfl ?_
        refine WD.one 13 (by kernel_rfl) ?_
        refine WO.callC (f := .tmp 36) (xs := [.tmp 40, .tmp 44]) (cap := []) rfl (.on rfl rfl) rfl rfl en60 (by repeat' constructor) (fun w hw => order_any _ _ w hw.left.here) rfl (fun _ => ⟨_, (by repeat' constructor)⟩) ?_
        rintro ⟨⟩ -
        refine WD.takeOn 14 rfl (by kernel_rfl) (by kernel_rfl) (by kernel_rfl) rfl rfl rfl rfl (Yl.lss rfl rfl) rfl ?_
        refine WD.say (t := 46) (v' := .bool (ltK _ _)) rfl (by rfl) ?_
        refine WD.take 15 rfl (by kernel_rfl) (by kernel_rfl) (by kernel_rfl) rfl rfl (Yl.pickT rfl rfl) rfl ?_
        refine WD.say (t := 47) (v' := .bool (decide ((p : Int) ≤ ((b - 1 : Nat) : Int)) && ltK B[p]! B[a]!)) rfl (by (rw [g35]; rfl)) ?_
        refine WD.done (by kernel_rfl) ?_
        exact ⟨rfl, (), trivial, (by repeat (first | exact Sub.nil | refine Sub.cons rfl ?_)), _, (by repeat' constructor)⟩
      · refine WD.takeOff 4 rfl (by kernel_rfl) (by kernel_rfl) (by kernel_rfl) rfl rfl rfl rfl rfl rfl ?_
        refine WD.takeOff 5 rfl (by kernel_rfl) (by kernel_rfl) (by kernel_rfl) rfl rfl rfl rfl rfl rfl ?_
        refine WD.takeOff 6 rfl (by kernel_rfl) (by kernel_rfl) (by kernel_rfl) rfl rfl rfl rfl rfl rfl ?_
        refine WD.takeOff 7 rfl (by kernel_rfl) (by kernel_rfl) (by kernel_rfl) rfl rfl rfl rfl rfl rfl ?_
        refine WD.takeOff 8 rfl (by kernel_rfl) (by kernel_rfl) (by kernel_rfl) rfl rfl rfl rfl rfl rfl ?_
        refine WD.takeOff 9 rfl (by kernel_rfl) (by kernel_rfl) (by kernel_rfl) rfl rfl rfl rfl rfl rfl ?_
        refine WD.takeOff 10 rfl (by kernel_rfl) (by kernel_rfl) (by kernel_rfl) rfl rfl rfl rfl rfl rfl ?_
        refine WD.takeOff 11 rfl (by kernel_rfl) (by kernel_rfl) (by kernel_rfl) rfl rfl rfl rfl rfl rfl ?_
        refine WD.takeOff 12 rfl (by kernel_rfl) (by kernel_rfl) (by kernel_rfl) rfl rfl rfl rfl rfl rfl ?_
        refine WD.one 13 (by kernel_rfl) ?_
        refine WO.off rfl rfl rfl rfl rfl rfl rfl ?_
        refine WD.takeOff 14 rfl (by kernel_rfl) (by kernel_rfl) (by kernel_rfl) rfl rfl rfl rfl rfl rfl ?_
        refine WD.take 15 rfl (by kernel_rfl) (by kernel_rfl) (by kernel_rfl) rfl rfl (Yl.pickF rfl rfl) rfl ?_
        refine WD.say (t := 47) (v' := .bool (decide ((p : Int) ≤ ((b - 1 : Nat) : Int)) && ltK B[p]! B[a]!)) rfl (by (rw [g35]; rfl)) ?_
        refine WD.done (by kernel_rfl) ?_
        exact ⟨rfl, (), trivial, (by repeat (first | exact Sub.nil | refine Sub.cons rfl ?_)), _, (by repeat' constructor)⟩
    · rintro ⟨⟩ -
      refine WC.cond rfl (fun g47 => ?_) (fun g47 => ?_)
      · refine WC.skip ?_
        refine WC.block ?_
        have hpj := and_le g47
        refine WC.region ?_
        refine WL.y (Yl.move rfl) rfl ?_
        refine WL.y (Yl.add rfl rfl (IntWalk.i64_in _ (by omega))) rfl ?_
        refine WL.y (Yl.assign rfl) rfl ?_
        refine WL.nil ?_
        exact ⟨rfl, p + 1, ⟨by omega, by rw [← up_go g47]; exact hpI⟩, by omega, (by repeat (first | exact Sub.nil | refine Sub.cons rfl ?_)), _, (by repeat' constructor)⟩
      · refine WC.exit ?_
        refine WC.seq ?_
        refine WC.block ?_
        have hpe : p = I0 := by rw [← hpI]; exact (up_stop g47).symm
        subst hpe
        refine WC.loop (α := Nat) (fun q => [(0, v), (4, .func (.func 60) #[] #[]), (1, .int .i64 (a : Int)), (12, .int .i64 (p : Int)), (13, .int .i64 (q : Int))]) (fun _ => [rwK v n (B.toList)]) (fun q => q < n ∧ scanDown (fun x => !ltK x B[a]!) B p q = J0) (fun q => q) (b - 1) ⟨by omega, hJ0⟩ ⟨(by repeat (first | exact Sub.nil | refine Sub.cons rfl ?_)), _, (by repeat' constructor)⟩ ?_
        rintro q ⟨hqn, hqJ⟩
        refine WC.seq ?_
        refine WC.midX (α := Unit) (fun _ => [(0, v), (4, .func (.func 60) #[] #[]), (1, .int .i64 (a : Int)), (12, .int .i64 (p : Int)), (13, .int .i64 (q : Int)), (66, .bool (decide ((p : Int) ≤ (q : Int)) && !ltK B[q]! B[a]!))]) (fun _ => [rwK v n (B.toList)]) (fun _ => True) ?_ ?_
        · refine WC.drawAny (Hs := [rwK v n (B.toList)]) mixed (by kernel_rfl) ⟨_, (by repeat' constructor)⟩ ?_
          refine WD.take 0 rfl (by kernel_rfl) (by kernel_rfl) (by kernel_rfl) rfl rfl (Yl.move rfl) rfl ?_
          refine WD.take 1 rfl (by kernel_rfl) (by kernel_rfl) (by kernel_rfl) rfl rfl (Yl.move rfl) rfl ?_
          refine WD.take 2 rfl (by kernel_rfl) (by kernel_rfl) (by kernel_rfl) rfl rfl (Yl.leq rfl rfl) rfl ?_
          refine WD.take 3 rfl (by kernel_rfl) (by kernel_rfl) (by kernel_rfl) rfl rfl (Yl.move rfl) rfl ?_
          refine WD.both (t := 53) rfl (fun g53 => ?_) (fun g53 => ?_)
          · refine WD.takeOn 4 rfl (by kernel_rfl) (by kernel_rfl) (by kernel_rfl) rfl rfl rfl rfl (Yl.move rfl) rfl ?_
            refine WD.takeOn 5 rfl (by kernel_rfl) (by kernel_rfl) (by kernel_rfl) rfl rfl rfl rfl (Yl.move rfl) rfl ?_
            refine WD.takeOn 6 rfl (by kernel_rfl) (by kernel_rfl) (by kernel_rfl) rfl rfl rfl rfl (Yl.move rfl) rfl ?_
            refine WD.takeOn 7 rfl (by kernel_rfl) (by kernel_rfl) (by kernel_rfl) rfl rfl rfl rfl (Yl.indexF un22 sz30 rfl rfl hF rfl (by omega)) rfl ?_
            refine WD.takeOn 8 rfl (by kernel_rfl) (by kernel_rfl) (by kernel_rfl) rfl rfl rfl rfl (Yl.loadV vtK (fun _ _ => trivial) rfl (Reads.own (by repeat constructor)) (by rw [Array.length_toList]; omega) (so_getK (by omega))) rfl ?_
            refine WD.takeOn 9 rfl (by kernel_rfl) (by kernel_rfl) (by kernel_rfl) rfl rfl rfl rfl (Yl.move rfl) rfl ?_
            refine WD.takeOn 10 rfl (by kernel_rfl) (by kernel_rfl) (by kernel_rfl) rfl rfl rfl rfl (Yl.move rfl) rfl ?_
            refine WD.takeOn 11 rfl (by kernel_rfl) (by kernel_rfl) (by kernel_rfl) rfl rfl rfl rfl (Yl.indexF un22 sz30 rfl rfl hF rfl (by omega)) rfl ?_
            refine WD.takeOn 12 rfl (by kernel_rfl) (by kernel_rfl) (by kernel_rfl) rfl rfl rfl rfl (Yl.loadV vtK (fun _ _ => trivial) rfl (Reads.own (by repeat constructor)) (by rw [Array.length_toList]; omega) (so_getK (by omega))) rfl ?_
            refine WD.one 13 (by kernel_rfl) ?_
            refine WO.callC (f := .tmp 54) (xs := [.tmp 58, .tmp 62]) (cap := []) rfl (.on rfl rfl) rfl rfl en60 (by repeat' constructor) (fun w hw => order_any _ _ w hw.left.here) rfl (fun _ => ⟨_, (by repeat' constructor)⟩) ?_
            rintro ⟨⟩ -
            refine WD.takeOn 14 rfl (by kernel_rfl) (by kernel_rfl) (by kernel_rfl) rfl rfl rfl rfl (Yl.lss rfl rfl) rfl ?_
            refine WD.say (t := 64) (v' := .bool (ltK _ _)) rfl (by rfl) ?_
            refine WD.takeOn 15 rfl (by kernel_rfl) (by kernel_rfl) (by kernel_rfl) rfl rfl rfl rfl (Yl.not rfl) rfl ?_
            refine WD.take 16 rfl (by kernel_rfl) (by kernel_rfl) (by kernel_rfl) rfl rfl (Yl.pickT rfl rfl) rfl ?_
            refine WD.say (t := 66) (v' := .bool (decide ((p : Int) ≤ (q : Int)) && !ltK B[q]! B[a]!)) rfl (by (rw [g53]; rfl)) ?_
            refine WD.done (by kernel_rfl) ?_
            exact ⟨rfl, (), trivial, (by repeat (first | exact Sub.nil | refine Sub.cons rfl ?_)), _, (by repeat' constructor)⟩
          · refine WD.takeOff 4 rfl (by kernel_rfl) (by kernel_rfl) (by kernel_rfl) rfl rfl rfl rfl rfl rfl ?_
            refine WD.takeOff 5 rfl (by kernel_rfl) (by kernel_rfl) (by kernel_rfl) rfl rfl rfl rfl rfl rfl ?_
            refine WD.takeOff 6 rfl (by kernel_rfl) (by kernel_rfl) (by kernel_rfl) rfl rfl rfl rfl rfl rfl ?_
            refine WD.takeOff 7 rfl (by kernel_rfl) (by kernel_rfl) (by kernel_rfl) rfl rfl rfl rfl rfl rfl ?_
            refine WD.takeOff 8 rfl (by kernel_rfl) (by kernel_rfl) (by kernel_rfl) rfl rfl rfl rfl rfl rfl ?_
            refine WD.takeOff 9 rfl (by kernel_rfl) (by kernel_rfl) (by kernel_rfl) rfl rfl rfl rfl rfl rfl ?_
            refine WD.takeOff 10 rfl (by kernel_rfl) (by kernel_rfl) (by kernel_rfl) rfl rfl rfl rfl rfl rfl ?_
            refine WD.takeOff 11 rfl (by kernel_rfl) (by kernel_rfl) (by kernel_rfl) rfl rfl rfl rfl rfl rfl ?_
            refine WD.takeOff 12 rfl (by kernel_rfl) (by kernel_rfl) (by kernel_rfl) rfl rfl rfl rfl rfl rfl ?_
            refine WD.one 13 (by kernel_rfl) ?_
            refine WO.off rfl rfl rfl rfl rfl rfl rfl ?_
            refine WD.takeOff 14 rfl (by kernel_rfl) (by kernel_rfl) (by kernel_rfl) rfl rfl rfl rfl rfl rfl ?_
            refine WD.takeOff 15 rfl (by kernel_rfl) (by kernel_rfl) (by kernel_rfl) rfl rfl rfl rfl rfl rfl ?_
            refine WD.take 16 rfl (by kernel_rfl) (by kernel_rfl) (by kernel_rfl) rfl rfl (Yl.pickF rfl rfl) rfl ?_
            refine WD.say (t := 66) (v' := .bool (decide ((p : Int) ≤ (q : Int)) && !ltK B[q]! B[a]!)) rfl (by (rw [g53]; rfl)) ?_
            refine WD.done (by kernel_rfl) ?_
            exact ⟨rfl, (), trivial, (by repeat (first | exact Sub.nil | refine Sub.cons rfl ?_)), _, (by repeat' constructor)⟩
        · rintro ⟨⟩ -
          refine WC.cond rfl (fun g66 => ?_) (fun g66 => ?_)
          · refine WC.skip ?_
            refine WC.block ?_
            have hpq := and_le g66
            refine WC.region ?_
            refine WL.y (Yl.move rfl) rfl ?_
            refine WL.y (Yl.sub rfl rfl (IntWalk.i64_in _ (by omega))) rfl ?_
            refine WL.say (t := 68) (v' := .int .i64 ((q - 1 : Nat) : Int)) rfl (by (refine congrArg _ ?_; omega)) ?_
            refine WL.y (Yl.assign rfl) rfl ?_
            refine WL.nil ?_
            exact ⟨rfl, q - 1, ⟨by omega, by rw [← down_go (by omega) g66]; exact hqJ⟩, by omega, (by repeat (first | exact Sub.nil | refine Sub.cons rfl ?_)), _, (by repeat' constructor)⟩
          · refine WC.exit ?_
            refine WC.seq ?_
            refine WC.seq ?_
            have hqe : q = J0 := by rw [← hqJ]; exact (down_stop (by omega) g66).symm
            subst hqe
            refine WC.region ?_
            refine WL.y (Yl.move rfl) rfl ?_
            refine WL.y (Yl.move rfl) rfl ?_
            refine WL.y (Yl.gtr rfl rfl) rfl ?_
            refine WL.nil ?_
            refine WC.condD rfl (fun g71 => ?_) (fun g71 => ?_)
            · refine WC.seq ?_
              have hpq : p > q := by omega
              rw [if_pos hpq] at hP
              subst hP
              dsimp only
              refine WC.drawAny (Hs := []) mixed (by kernel_rfl) ⟨_, (by repeat' constructor)⟩ ?_
              refine WD.take 0 rfl (by kernel_rfl) (by kernel_rfl) (by kernel_rfl) rfl rfl (Yl.move rfl) rfl ?_
              refine WD.take 1 rfl (by kernel_rfl) (by kernel_rfl) (by kernel_rfl) rfl rfl (Yl.move rfl) rfl ?_
              refine WD.take 2 rfl (by kernel_rfl) (by kernel_rfl) (by kernel_rfl) rfl rfl (Yl.move rfl) rfl ?_
              refine WD.take 3 rfl (by kernel_rfl) (by kernel_rfl) (by kernel_rfl) rfl rfl (Yl.move rfl) rfl ?_
              refine WD.take 4 rfl (by kernel_rfl) (by kernel_rfl) (by kernel_rfl) rfl rfl (Yl.move rfl) rfl ?_
              refine WD.take 5 rfl (by kernel_rfl) (by kernel_rfl) (by kernel_rfl) rfl rfl (Yl.move rfl) rfl ?_
              refine WD.take 6 rfl (by kernel_rfl) (by kernel_rfl) (by kernel_rfl) rfl rfl (Yl.indexF un22 sz30 rfl rfl hF rfl (by omega)) rfl ?_
              refine WD.take 8 rfl (by kernel_rfl) (by kernel_rfl) (by kernel_rfl) rfl rfl (Yl.move rfl) rfl ?_
              refine WD.take 9 rfl (by kernel_rfl) (by kernel_rfl) (by kernel_rfl) rfl rfl (Yl.move rfl) rfl ?_
              refine WD.take 10 rfl (by kernel_rfl) (by kernel_rfl) (by kernel_rfl) rfl rfl (Yl.indexF un22 sz30 rfl rfl hF rfl (by omega)) rfl ?_
              refine WD.two 7 11 (by kernel_rfl) ?_ ?_
              · refine WO.y rfl rfl .no (Yl.loadV vtK (fun _ _ => trivial) rfl (Reads.own (by repeat constructor)) (by rw [Array.length_toList]; omega) (so_getK (by omega))) rfl ?_
                refine WD.one 11 (by kernel_rfl) ?_
                refine WO.y rfl rfl .no (Yl.loadV vtK (fun _ _ => trivial) rfl (Reads.own (by repeat constructor)) (by rw [Array.length_toList]; omega) (so_getK (by omega))) rfl ?_
                refine WD.take 12 rfl (by kernel_rfl) (by kernel_rfl) (by kernel_rfl) rfl rfl (Yl.indexF un22 sz30 rfl rfl hF rfl (by omega)) rfl ?_
                refine WD.one 13 (by kernel_rfl) ?_
                refine WO.sto rfl rfl .no (Sto.elemV (j := q) (u := B[a]!) (xs := B.toList) vtK (fun _ _ => trivial) trivial rfl rfl (by repeat constructor) (by rw [Array.length_toList]; omega) (by omega)) ⟨_, (by repeat' constructor)⟩ ?_
                refine WD.take 14 rfl (by kernel_rfl) (by kernel_rfl) (by kernel_rfl) rfl rfl (Yl.indexF un22 sz30 rfl rfl hF rfl (by omega)) rfl ?_
                refine WD.one 15 (by kernel_rfl) ?_
                refine WO.sto rfl rfl .no (Sto.elemV (j := a) (u := B[q]!) (xs := B.toList.set (q) B[a]!) vtK (fun _ _ => trivial) trivial rfl rfl (by repeat constructor) (by rw [List.length_set, Array.length_toList]; omega) (by omega)) ⟨_, (by repeat' constructor)⟩ ?_
                rw [so_swpK B (q) (a)]
                refine WD.done (by kernel_rfl) ?_
                refine WC.seq ?_
                refine WC.region ?_
                refine WL.y (Yl.move rfl) rfl ?_
                refine WL.y (Yl.assign rfl) rfl ?_
                refine WL.y (Yl.assign rfl) rfl ?_
                refine WL.nil ?_
                refine WC.ret ?_
                repeat (with_reducible (first | refine peelT ?_ | refine peelB ?_ | refine peelTX ?_ | refine peelBX ?_ | refine peelBN ?_ | refine peelBO rfl ?_))
                exact ret2 (.inr rfl) Tryz.results104 rfl rfl fun w' h => ⟨(), trivial, rfl, h.sub (by repeat' constructor)⟩
              · refine WO.y rfl rfl .no (Yl.loadV vtK (fun _ _ => trivial) rfl (Reads.own (by repeat constructor)) (by rw [Array.length_toList]; omega) (so_getK (by omega))) rfl ?_
                refine WD.one 7 (by kernel_rfl) ?_
                refine WO.y rfl rfl .no (Yl.loadV vtK (fun _ _ => trivial) rfl (Reads.own (by repeat constructor)) (by rw [Array.length_toList]; omega) (so_getK (by omega))) rfl ?_
                refine WD.take 12 rfl (by kernel_rfl) (by kernel_rfl) (by kernel_rfl) rfl rfl (Yl.indexF un22 sz30 rfl rfl hF rfl (by omega)) rfl ?_
                refine WD.one 13 (by kernel_rfl) ?_
                refine WO.sto rfl rfl .no (Sto.elemV (j := q) (u := B[a]!) (xs := B.toList) vtK (fun _ _ => trivial) trivial rfl rfl (by repeat constructor) (by rw [Array.length_toList]; omega) (by omega)) ⟨_, (by repeat' constructor)⟩ ?_
                refine WD.take 14 rfl (by kernel_rfl) (by kernel_rfl) (by kernel_rfl) rfl rfl (Yl.indexF un22 sz30 rfl rfl hF rfl (by omega)) rfl ?_
                refine WD.one 15 (by kernel_rfl) ?_
                refine WO.sto rfl rfl .no (Sto.elemV (j := a) (u := B[q]!) (xs := B.toList.set (q) B[a]!) vtK (fun _ _ => trivial) trivial rfl rfl (by repeat constructor) (by rw [List.length_set, Array.length_toList]; omega) (by omega)) ⟨_, (by repeat' constructor)⟩ ?_
                rw [so_swpK B (q) (a)]
                refine WD.done (by kernel_rfl) ?_
                refine WC.seq ?_
                refine WC.region ?_
                refine WL.y (Yl.move rfl) rfl ?_
                refine WL.y (Yl.assign rfl) rfl ?_
                refine WL.y (Yl.assign rfl) rfl ?_
                refine WL.nil ?_
                refine WC.ret ?_
                repeat (with_reducible (first | refine peelT ?_ | refine peelB ?_ | refine peelTX ?_ | refine peelBX ?_ | refine peelBN ?_ | refine peelBO rfl ?_))
                exact ret2 (.inr rfl) Tryz.results104 rfl rfl fun w' h => ⟨(), trivial, rfl, h.sub (by repeat' constructor)⟩
            · refine WC.skip ?_
              refine WC.seq ?_
              have hpq : ¬ p > q := by omega
              rw [if_neg hpq] at hP
              subst hP
              dsimp only
              have hsz2 := swp_size B p q
              refine WC.drawAny (Hs := []) mixed (by kernel_rfl) ⟨_, (by repeat' constructor)⟩ ?_
              refine WD.take 0 rfl (by kernel_rfl) (by kernel_rfl) (by kernel_rfl) rfl rfl (Yl.move rfl) rfl ?_
              refine WD.take 1 rfl (by kernel_rfl) (by kernel_rfl) (by kernel_rfl) rfl rfl (Yl.move rfl) rfl ?_
              refine WD.take 2 rfl (by kernel_rfl) (by kernel_rfl) (by kernel_rfl) rfl rfl (Yl.move rfl) rfl ?_
              refine WD.take 3 rfl (by kernel_rfl) (by kernel_rfl) (by kernel_rfl) rfl rfl (Yl.move rfl) rfl ?_
              refine WD.take 4 rfl (by kernel_rfl) (by kernel_rfl) (by kernel_rfl) rfl rfl (Yl.move rfl) rfl ?_
              refine WD.take 5 rfl (by kernel_rfl) (by kernel_rfl) (by kernel_rfl) rfl rfl (Yl.move rfl) rfl ?_
              refine WD.take 6 rfl (by kernel_rfl) (by kernel_rfl) (by kernel_rfl) rfl rfl (Yl.indexF un22 sz30 rfl rfl hF rfl (by omega)) rfl ?_
              refine WD.take 8 rfl (by kernel_rfl) (by kernel_rfl) (by kernel_rfl) rfl rfl (Yl.move rfl) rfl ?_
              refine WD.take 9 rfl (by kernel_rfl) (by kernel_rfl) (by kernel_rfl) rfl rfl (Yl.move rfl) rfl ?_
              refine WD.take 10 rfl (by kernel_rfl) (by kernel_rfl) (by kernel_rfl) rfl rfl (Yl.indexF un22 sz30 rfl rfl hF rfl (by omega)) rfl ?_
              refine WD.two 7 11 (by kernel_rfl) ?_ ?_
              · refine WO.y rfl rfl .no (Yl.loadV vtK (fun _ _ => trivial) rfl (Reads.own (by repeat constructor)) (by rw [Array.length_toList]; omega) (so_getK (by omega))) rfl ?_
                refine WD.one 11 (by kernel_rfl) ?_
                refine WO.y rfl rfl .no (Yl.loadV vtK (fun _ _ => trivial) rfl (Reads.own (by repeat constructor)) (by rw [Array.length_toList]; omega) (so_getK (by omega))) rfl ?_
                refine WD.take 12 rfl (by kernel_rfl) (by kernel_rfl) (by kernel_rfl) rfl rfl (Yl.indexF un22 sz30 rfl rfl hF rfl (by omega)) rfl ?_
                refine WD.one 13 (by kernel_rfl) ?_
                refine WO.sto rfl rfl .no (Sto.elemV (j := p) (u := B[q]!) (xs := B.toList) vtK (fun _ _ => trivial) trivial rfl rfl (by repeat constructor) (by rw [Array.length_toList]; omega) (by omega)) ⟨_, (by repeat' constructor)⟩ ?_
                refine WD.take 14 rfl (by kernel_rfl) (by kernel_rfl) (by kernel_rfl) rfl rfl (Yl.indexF un22 sz30 rfl rfl hF rfl (by omega)) rfl ?_
                refine WD.one 15 (by kernel_rfl) ?_
                refine WO.sto rfl rfl .no (Sto.elemV (j := q) (u := B[p]!) (xs := B.toList.set (p) B[q]!) vtK (fun _ _ => trivial) trivial rfl rfl (by repeat constructor) (by rw [List.length_set, Array.length_toList]; omega) (by omega)) ⟨_, (by repeat' constructor)⟩ ?_
                rw [so_swpK B (p) (q)]
                refine WD.done (by kernel_rfl) ?_
                refine WC.seq ?_
                refine WC.region ?_
                refine WL.y (Yl.move rfl) rfl ?_
                refine WL.y (Yl.add rfl rfl (IntWalk.i64_in _ (by omega))) rfl ?_
                refine WL.y (Yl.assign rfl) rfl ?_
                refine WL.nil ?_
                refine WC.seq ?_
                refine WC.region ?_
                refine WL.y (Yl.move rfl) rfl ?_
                refine WL.y (Yl.sub rfl rfl (IntWalk.i64_in _ (by omega))) rfl ?_
                refine WL.say (t := 104) (v' := .int .i64 ((q - 1 : Nat) : Int)) rfl (by (refine congrArg _ ?_; omega)) ?_
                refine WL.y (Yl.assign rfl) rfl ?_
                refine WL.nil ?_
                refine WC.seq ?_
                refine WC.block ?_
                obtain ⟨T, hT⟩ : ∃ T, partLoop ltK a (p + 1) (q - 1) (swp B p q) = T := ⟨_, rfl⟩
                rw [hT]
                refine WC.loop (α := Nat × Nat × Array Ky) (fun z => [(0, v), (4, .func (.func 60) #[] #[]), (1, .int .i64 (a : Int)), (12, .int .i64 (z.1 : Int)), (13, .int .i64 (z.2.1 : Int))]) (fun z => [rwK v n (z.2.2.toList)]) (fun z => (a < z.1 ∧ z.1 ≤ n) ∧ z.2.1 < n ∧ z.2.2.size = n ∧ partLoop ltK a z.1 z.2.1 z.2.2 = T) (fun z => z.2.1 + 1 - z.1) (p + 1, q - 1, swp B p q) ⟨by dsimp only; omega, by dsimp only; omega, by dsimp only; omega, hT⟩ ⟨(by repeat (first | exact Sub.nil | refine Sub.cons rfl ?_)), _, (by repeat' constructor)⟩ ?_
                rintro ⟨i, j, G⟩ ⟨⟨hai, hin⟩, hjn, hG, hTG⟩
                dsimp only at hai hin hjn hG hTG ⊢
                have hgu := scanUp_ge (fun x => ltK x G[a]!) G j i
                have hgd := scanDown_le (fun x => !ltK x G[a]!) G (scanUp (fun x => ltK x G[a]!) G j i) j
                rw [partLoop_eq] at hTG
                obtain ⟨I, hI⟩ : ∃ I, scanUp (fun x => ltK x G[a]!) G j i = I := ⟨_, rfl⟩
                rw [hI] at hgu hgd hTG
                obtain ⟨J, hJ⟩ : ∃ J, scanDown (fun x => !ltK x G[a]!) G I j = J := ⟨_, rfl⟩
                rw [hJ] at hgd hTG
                refine WC.block ?_
                refine WC.seq ?_
                refine WC.block ?_
                refine WC.loop (α := Nat) (fun y => [(0, v), (4, .func (.func 60) #[] #[]), (1, .int .i64 (a : Int)), (12, .int .i64 (y : Int)), (13, .int .i64 (j : Int))]) (fun _ => [rwK v n (G.toList)]) (fun y => (a < y ∧ y ≤ n) ∧ scanUp (fun x => ltK x G[a]!) G j y = I) (fun y => n + 1 - y) i ⟨⟨hai, hin⟩, hI⟩ ⟨(by repeat (first | exact Sub.nil | refine Sub.cons rfl ?_)), _, (by repeat' constructor)⟩ ?_
                rintro y ⟨⟨hay, hyn⟩, hyI⟩
                refine WC.seq ?_
                refine WC.midX (α := Unit) (fun _ => [(0, v), (4, .func (.func 60) #[] #[]), (1, .int .i64 (a : Int)), (12, .int .i64 (y : Int)), (13, .int .i64 (j : Int)), (120, .bool (decide ((y : Int) ≤ (j : Int)) && ltK G[y]! G[a]!))]) (fun _ => [rwK v n (G.toList)]) (fun _ => True) ?_ ?_
                · refine WC.drawAny (Hs := [rwK v n (G.toList)]) mixed (by kernel_rfl) ⟨_, (by repeat' constructor)⟩ ?_
                  refine WD.take 0 rfl (by kernel_rfl) (by kernel_rfl) (by kernel_rfl) rfl rfl (Yl.move rfl) rfl ?_
                  refine WD.take 1 rfl (by kernel_rfl) (by kernel_rfl) (by kernel_rfl) rfl rfl (Yl.move rfl) rfl ?_
                  refine WD.take 2 rfl (by kernel_rfl) (by kernel_rfl) (by kernel_rfl) rfl rfl (Yl.leq rfl rfl) rfl ?_
                  refine WD.take 3 rfl (by kernel_rfl) (by kernel_rfl) (by kernel_rfl) rfl rfl (Yl.move rfl) rfl ?_
                  refine WD.both (t := 108) rfl (fun g108 => ?_) (fun g108 => ?_)
                  · refine WD.takeOn 4 rfl (by kernel_rfl) (by kernel_rfl) (by kernel_rfl) rfl rfl rfl rfl (Yl.move rfl) rfl ?_
                    have hyj : y ≤ j := by have := of_decide_eq_true g108; omega
                    refine WD.takeOn 5 rfl (by kernel_rfl) (by kernel_rfl) (by kernel_rfl) rfl rfl rfl rfl (Yl.move rfl) rfl ?_
                    refine WD.takeOn 6 rfl (by kernel_rfl) (by kernel_rfl) (by kernel_rfl) rfl rfl rfl rfl (Yl.move rfl) rfl ?_
                    refine WD.takeOn 7 rfl (by kernel_rfl) (by kernel_rfl) (by kernel_rfl) rfl rfl rfl rfl (Yl.indexF un22 sz30 rfl rfl hF rfl (by omega)) rfl ?_
                    refine WD.takeOn 8 rfl (by kernel_rfl) (by kernel_rfl) (by kernel_rfl) rfl rfl rfl rfl (Yl.loadV vtK (fun _ _ => trivial) rfl (Reads.own (by repeat constructor)) (by rw [Array.length_toList]; omega) (so_getK (by omega))) rfl ?_
                    refine WD.takeOn 9 rfl (by kernel_rfl) (by kernel_rfl) (by kernel_rfl) rfl rfl rfl rfl (Yl.move rfl) rfl ?_
                    refine WD.takeOn 10 rfl (by kernel_rfl) (by kernel_rfl) (by kernel_rfl) rfl rfl rfl rfl (Yl.move rfl) rfl ?_
                    refine WD.takeOn 11 rfl (by kernel_rfl) (by kernel_rfl) (by kernel_rfl) rfl rfl rfl rfl (Yl.indexF un22 sz30 rfl rfl hF rfl (by omega)) rfl ?_
                    refine WD.takeOn 12 rfl (by kernel_rfl) (by kernel_rfl) (by kernel_rfl) rfl rfl rfl rfl (Yl.loadV vtK (fun _ _ => trivial) rfl (Reads.own (by repeat constructor)) (by rw [Array.length_toList]; omega) (so_getK (by omega))) rfl ?_
                    refine WD.one 13 (by kernel_rfl) ?_
                    refine WO.callC (f := .tmp 109) (xs := [.tmp 113, .tmp 117]) (cap := []) rfl (.on rfl rfl) rfl rfl en60 (by repeat' constructor) (fun w hw => order_any _ _ w hw.left.here) rfl (fun _ => ⟨_, (by repeat' constructor)⟩) ?_
                    rintro ⟨⟩ -
                    refine WD.takeOn 14 rfl (by kernel_rfl) (by kernel_rfl) (by kernel_rfl) rfl rfl rfl rfl (Yl.lss rfl rfl) rfl ?_
                    refine WD.say (t := 119) (v' := .bool (ltK _ _)) rfl (by rfl) ?_
                    refine WD.take 15 rfl (by kernel_rfl) (by kernel_rfl) (by kernel_rfl) rfl rfl (Yl.pickT rfl rfl) rfl ?_
                    refine WD.say (t := 120) (v' := .bool (decide ((y : Int) ≤ (j : Int)) && ltK G[y]! G[a]!)) rfl (by (rw [g108]; rfl)) ?_
                    refine WD.done (by kernel_rfl) ?_
                    exact ⟨rfl, (), trivial, (by repeat (first | exact Sub.nil | refine Sub.cons rfl ?_)), _, (by repeat' constructor)⟩
                  · refine WD.takeOff 4 rfl (by kernel_rfl) (by kernel_rfl) (by kernel_rfl) rfl rfl rfl rfl rfl rfl ?_
                    refine WD.takeOff 5 rfl (by kernel_rfl) (by kernel_rfl) (by kernel_rfl) rfl rfl rfl rfl rfl rfl ?_
                    refine WD.takeOff 6 rfl (by kernel_rfl) (by kernel_rfl) (by kernel_rfl) rfl rfl rfl rfl rfl rfl ?_
                    refine WD.takeOff 7 rfl (by kernel_rfl) (by kernel_rfl) (by kernel_rfl) rfl rfl rfl rfl rfl rfl ?_
                    refine WD.takeOff 8 rfl (by kernel_rfl) (by kernel_rfl) (by kernel_rfl) rfl rfl rfl rfl rfl rfl ?_
                    refine WD.takeOff 9 rfl (by kernel_rfl) (by kernel_rfl) (by kernel_rfl) rfl rfl rfl rfl rfl rfl ?_
                    refine WD.takeOff 10 rfl (by kernel_rfl) (by kernel_rfl) (by kernel_rfl) rfl rfl rfl rfl rfl rfl ?_
                    refine WD.takeOff 11 rfl (by kernel_rfl) (by kernel_rfl) (by kernel_rfl) rfl rfl rfl rfl rfl rfl ?_
                    refine WD.takeOff 12 rfl (by kernel_rfl) (by kernel_rfl) (by kernel_rfl) rfl rfl rfl rfl rfl rfl ?_
                    refine WD.one 13 (by kernel_rfl) ?_
                    refine WO.off rfl rfl rfl rfl rfl rfl rfl ?_
                    refine WD.takeOff 14 rfl (by kernel_rfl) (by kernel_rfl) (by kernel_rfl) rfl rfl rfl rfl rfl rfl ?_
                    refine WD.take 15 rfl (by kernel_rfl) (by kernel_rfl) (by kernel_rfl) rfl rfl (Yl.pickF rfl rfl) rfl ?_
                    refine WD.say (t := 120) (v' := .bool (decide ((y : Int) ≤ (j : Int)) && ltK G[y]! G[a]!)) rfl (by (rw [g108]; rfl)) ?_
                    refine WD.done (by kernel_rfl) ?_
                    exact ⟨rfl, (), trivial, (by repeat (first | exact Sub.nil | refine Sub.cons rfl ?_)), _, (by repeat' constructor)⟩
                · rintro ⟨⟩ -
                  refine WC.cond rfl (fun g120 => ?_) (fun g120 => ?_)
                  · refine WC.skip ?_
                    refine WC.block ?_
                    have hyj := and_le g120
                    refine WC.region ?_
                    refine WL.y (Yl.move rfl) rfl ?_
                    refine WL.y (Yl.add rfl rfl (IntWalk.i64_in _ (by omega))) rfl ?_
                    refine WL.y (Yl.assign rfl) rfl ?_
                    refine WL.nil ?_
                    exact ⟨rfl, y + 1, ⟨by omega, by rw [← up_go g120]; exact hyI⟩, by omega, (by repeat (first | exact Sub.nil | refine Sub.cons rfl ?_)), _, (by repeat' constructor)⟩
                  · refine WC.exit ?_
                    refine WC.seq ?_
                    refine WC.block ?_
                    have hye : y = I := by rw [← hyI]; exact (up_stop g120).symm
                    subst hye
                    refine WC.loop (α := Nat) (fun z => [(0, v), (4, .func (.func 60) #[] #[]), (1, .int .i64 (a : Int)), (12, .int .i64 (y : Int)), (13, .int .i64 (z : Int))]) (fun _ => [rwK v n (G.toList)]) (fun z => z < n ∧ scanDown (fun x => !ltK x G[a]!) G y z = J) (fun z => z) j ⟨hjn, hJ⟩ ⟨(by repeat (first | exact Sub.nil | refine Sub.cons rfl ?_)), _, (by repeat' constructor)⟩ ?_
                    rintro z ⟨hzn, hzJ⟩
                    refine WC.seq ?_
                    refine WC.midX (α := Unit) (fun _ => [(0, v), (4, .func (.func 60) #[] #[]), (1, .int .i64 (a : Int)), (12, .int .i64 (y : Int)), (13, .int .i64 (z : Int)), (139, .bool (decide ((y : Int) ≤ (z : Int)) && !ltK G[z]! G[a]!))]) (fun _ => [rwK v n (G.toList)]) (fun _ => True) ?_ ?_
                    · refine WC.drawAny (Hs := [rwK v n (G.toList)]) mixed (by kernel_rfl) ⟨_, (by repeat' constructor)⟩ ?_
                      refine WD.take 0 rfl (by kernel_rfl) (by kernel_rfl) (by kernel_rfl) rfl rfl (Yl.move rfl) rfl ?_
                      refine WD.take 1 rfl (by kernel_rfl) (by kernel_rfl) (by kernel_rfl) rfl rfl (Yl.move rfl) rfl ?_
                      refine WD.take 2 rfl (by kernel_rfl) (by kernel_rfl) (by kernel_rfl) rfl rfl (Yl.leq rfl rfl) rfl ?_
                      refine WD.take 3 rfl (by kernel_rfl) (by kernel_rfl) (by kernel_rfl) rfl rfl (Yl.move rfl) rfl ?_
                      refine WD.both (t := 126) rfl (fun g126 => ?_) (fun g126 => ?_)
                      · refine WD.takeOn 4 rfl (by kernel_rfl) (by kernel_rfl) (by kernel_rfl) rfl rfl rfl rfl (Yl.move rfl) rfl ?_
                        refine WD.takeOn 5 rfl (by kernel_rfl) (by kernel_rfl) (by kernel_rfl) rfl rfl rfl rfl (Yl.move rfl) rfl ?_
                        refine WD.takeOn 6 rfl (by kernel_rfl) (by kernel_rfl) (by kernel_rfl) rfl rfl rfl rfl (Yl.move rfl) rfl ?_
                        refine WD.takeOn 7 rfl (by kernel_rfl) (by kernel_rfl) (by kernel_rfl) rfl rfl rfl rfl (Yl.indexF un22 sz30 rfl rfl hF rfl (by omega)) rfl ?_
                        refine WD.takeOn 8 rfl (by kernel_rfl) (by kernel_rfl) (by kernel_rfl) rfl rfl rfl rfl (Yl.loadV vtK (fun _ _ => trivial) rfl (Reads.own (by repeat constructor)) (by rw [Array.length_toList]; omega) (so_getK (by omega))) rfl ?_
                        refine WD.takeOn 9 rfl (by kernel_rfl) (by kernel_rfl) (by kernel_rfl) rfl rfl rfl rfl (Yl.move rfl) rfl ?_
                        refine WD.takeOn 10 rfl (by kernel_rfl) (by kernel_rfl) (by kernel_rfl) rfl rfl rfl rfl (Yl.move rfl) rfl ?_
                        refine WD.takeOn 11 rfl (by kernel_rfl) (by kernel_rfl) (by kernel_rfl) rfl rfl rfl rfl (Yl.indexF un22 sz30 rfl rfl hF rfl (by omega)) rfl ?_
                        refine WD.takeOn 12 rfl (by kernel_rfl) (by kernel_rfl) (by kernel_rfl) rfl rfl rfl rfl (Yl.loadV vtK (fun _ _ => trivial) rfl (Reads.own (by repeat constructor)) (by rw [Array.length_toList]; omega) (so_getK (by omega))) rfl ?_
                        refine WD.one 13 (by kernel_rfl) ?_
                        refine WO.callC (f := .tmp 127) (xs := [.tmp 131, .tmp 135]) (cap := []) rfl (.on rfl rfl) rfl rfl en60 (by repeat' constructor) (fun w hw => order_any _ _ w hw.left.here) rfl (fun _ => ⟨_, (by repeat' constructor)⟩) ?_
                        rintro ⟨⟩ -
                        refine WD.takeOn 14 rfl (by kernel_rfl) (by kernel_rfl) (by kernel_rfl) rfl rfl rfl rfl (Yl.lss rfl rfl) rfl ?_
                        refine WD.say (t := 137) (v' := .bool (ltK _ _)) rfl (by rfl) ?_
                        refine WD.takeOn 15 rfl (by kernel_rfl) (by kernel_rfl) (by kernel_rfl) rfl rfl rfl rfl (Yl.not rfl) rfl ?_
                        refine WD.take 16 rfl (by kernel_rfl) (by kernel_rfl) (by kernel_rfl) rfl rfl (Yl.pickT rfl rfl) rfl ?_
                        refine WD.say (t := 139) (v' := .bool (decide ((y : Int) ≤ (z : Int)) && !ltK G[z]! G[a]!)) rfl (by (rw [g126]; rfl)) ?_
                        refine WD.done (by kernel_rfl) ?_
                        exact ⟨rfl, (), trivial, (by repeat (first | exact Sub.nil | refine Sub.cons rfl ?_)), _, (by repeat' constructor)⟩
                      · refine WD.takeOff 4 rfl (by kernel_rfl) (by kernel_rfl) (by kernel_rfl) rfl rfl rfl rfl rfl rfl ?_
                        refine WD.takeOff 5 rfl (by kernel_rfl) (by kernel_rfl) (by kernel_rfl) rfl rfl rfl rfl rfl rfl ?_
                        refine WD.takeOff 6 rfl (by kernel_rfl) (by kernel_rfl) (by kernel_rfl) rfl rfl rfl rfl rfl rfl ?_
                        refine WD.takeOff 7 rfl (by kernel_rfl) (by kernel_rfl) (by kernel_rfl) rfl rfl rfl rfl rfl rfl ?_
                        refine WD.takeOff 8 rfl (by kernel_rfl) (by kernel_rfl) (by kernel_rfl) rfl rfl rfl rfl rfl rfl ?_
                        refine WD.takeOff 9 rfl (by kernel_rfl) (by kernel_rfl) (by kernel_rfl) rfl rfl rfl rfl rfl rfl ?_
                        refine WD.takeOff 10 rfl (by kernel_rfl) (by kernel_rfl) (by kernel_rfl) rfl rfl rfl rfl rfl rfl ?_
                        refine WD.takeOff 11 rfl (by kernel_rfl) (by kernel_rfl) (by kernel_rfl) rfl rfl rfl rfl rfl rfl ?_
                        refine WD.takeOff 12 rfl (by kernel_rfl) (by kernel_rfl) (by kernel_rfl) rfl rfl rfl rfl rfl rfl ?_
                        refine WD.one 13 (by kernel_rfl) ?_
                        refine WO.off rfl rfl rfl rfl rfl rfl rfl ?_
                        refine WD.takeOff 14 rfl (by kernel_rfl) (by kernel_rfl) (by kernel_rfl) rfl rfl rfl rfl rfl rfl ?_
                        refine WD.takeOff 15 rfl (by kernel_rfl) (by kernel_rfl) (by kernel_rfl) rfl rfl rfl rfl rfl rfl ?_
                        refine WD.take 16 rfl (by kernel_rfl) (by kernel_rfl) (by kernel_rfl) rfl rfl (Yl.pickF rfl rfl) rfl ?_
                        refine WD.say (t := 139) (v' := .bool (decide ((y : Int) ≤ (z : Int)) && !ltK G[z]! G[a]!)) rfl (by (rw [g126]; rfl)) ?_
                        refine WD.done (by kernel_rfl) ?_
                        exact ⟨rfl, (), trivial, (by repeat (first | exact Sub.nil | refine Sub.cons rfl ?_)), _, (by repeat' constructor)⟩
                    · rintro ⟨⟩ -
                      refine WC.cond rfl (fun g139 => ?_) (fun g139 => ?_)
                      · refine WC.skip ?_
                        refine WC.block ?_
                        have hyz := and_le g139
                        refine WC.region ?_
                        refine WL.y (Yl.move rfl) rfl ?_
                        refine WL.y (Yl.sub rfl rfl (IntWalk.i64_in _ (by omega))) rfl ?_
                        refine WL.say (t := 141) (v' := .int .i64 ((z - 1 : Nat) : Int)) rfl (by (refine congrArg _ ?_; omega)) ?_
                        refine WL.y (Yl.assign rfl) rfl ?_
                        refine WL.nil ?_
                        exact ⟨rfl, z - 1, ⟨by omega, by rw [← down_go (by omega) g139]; exact hzJ⟩, by omega, (by repeat (first | exact Sub.nil | refine Sub.cons rfl ?_)), _, (by repeat' constructor)⟩
                      · refine WC.exit ?_
                        refine WC.seq ?_
                        refine WC.seq ?_
                        have hze : z = J := by rw [← hzJ]; exact (down_stop (by omega) g139).symm
                        subst hze
                        refine WC.region ?_
                        refine WL.y (Yl.move rfl) rfl ?_
                        refine WL.y (Yl.move rfl) rfl ?_
                        refine WL.y (Yl.gtr rfl rfl) rfl ?_
                        refine WL.nil ?_
                        refine WC.condD rfl (fun g144 => ?_) (fun g144 => ?_)
                        · refine WC.exit ?_
                          refine WC.seq ?_
                          have hyz : y > z := by omega
                          rw [if_pos hyz] at hTG
                          subst hTG
                          dsimp only
                          refine WC.drawAny (Hs := []) mixed (by kernel_rfl) ⟨_, (by repeat' constructor)⟩ ?_
                          refine WD.take 0 rfl (by kernel_rfl) (by kernel_rfl) (by kernel_rfl) rfl rfl (Yl.move rfl) rfl ?_
                          refine WD.take 1 rfl (by kernel_rfl) (by kernel_rfl) (by kernel_rfl) rfl rfl (Yl.move rfl) rfl ?_
                          refine WD.take 2 rfl (by kernel_rfl) (by kernel_rfl) (by kernel_rfl) rfl rfl (Yl.move rfl) rfl ?_
                          refine WD.take 3 rfl (by kernel_rfl) (by kernel_rfl) (by kernel_rfl) rfl rfl (Yl.move rfl) rfl ?_
                          refine WD.take 4 rfl (by kernel_rfl) (by kernel_rfl) (by kernel_rfl) rfl rfl (Yl.move rfl) rfl ?_
                          refine WD.take 5 rfl (by kernel_rfl) (by kernel_rfl) (by kernel_rfl) rfl rfl (Yl.move rfl) rfl ?_
                          refine WD.take 6 rfl (by kernel_rfl) (by kernel_rfl) (by kernel_rfl) rfl rfl (Yl.indexF un22 sz30 rfl rfl hF rfl (by omega)) rfl ?_
                          refine WD.take 8 rfl (by kernel_rfl) (by kernel_rfl) (by kernel_rfl) rfl rfl (Yl.move rfl) rfl ?_
                          refine WD.take 9 rfl (by kernel_rfl) (by kernel_rfl) (by kernel_rfl) rfl rfl (Yl.move rfl) rfl ?_
                          refine WD.take 10 rfl (by kernel_rfl) (by kernel_rfl) (by kernel_rfl) rfl rfl (Yl.indexF un22 sz30 rfl rfl hF rfl (by omega)) rfl ?_
                          refine WD.two 7 11 (by kernel_rfl) ?_ ?_
                          · refine WO.y rfl rfl .no (Yl.loadV vtK (fun _ _ => trivial) rfl (Reads.own (by repeat constructor)) (by rw [Array.length_toList]; omega) (so_getK (by omega))) rfl ?_
                            refine WD.one 11 (by kernel_rfl) ?_
                            refine WO.y rfl rfl .no (Yl.loadV vtK (fun _ _ => trivial) rfl (Reads.own (by repeat constructor)) (by rw [Array.length_toList]; omega) (so_getK (by omega))) rfl ?_
                            refine WD.take 12 rfl (by kernel_rfl) (by kernel_rfl) (by kernel_rfl) rfl rfl (Yl.indexF un22 sz30 rfl rfl hF rfl (by omega)) rfl ?_
                            refine WD.one 13 (by kernel_rfl) ?_
                            refine WO.sto rfl rfl .no (Sto.elemV (j := z) (u := G[a]!) (xs := G.toList) vtK (fun _ _ => trivial) trivial rfl rfl (by repeat constructor) (by rw [Array.length_toList]; omega) (by omega)) ⟨_, (by repeat' constructor)⟩ ?_
                            refine WD.take 14 rfl (by kernel_rfl) (by kernel_rfl) (by kernel_rfl) rfl rfl (Yl.indexF un22 sz30 rfl rfl hF rfl (by omega)) rfl ?_
                            refine WD.one 15 (by kernel_rfl) ?_
                            refine WO.sto rfl rfl .no (Sto.elemV (j := a) (u := G[z]!) (xs := G.toList.set (z) G[a]!) vtK (fun _ _ => trivial) trivial rfl rfl (by repeat constructor) (by rw [List.length_set, Array.length_toList]; omega) (by omega)) ⟨_, (by repeat' constructor)⟩ ?_
                            rw [so_swpK G (z) (a)]
                            refine WD.done (by kernel_rfl) ?_
                            refine WC.seq ?_
                            refine WC.region ?_
                            refine WL.y (Yl.move rfl) rfl ?_
                            refine WL.y (Yl.assign rfl) rfl ?_
                            refine WL.y (Yl.assign rfl) rfl ?_
                            refine WL.nil ?_
                            refine WC.ret ?_
                            repeat (with_reducible (first | refine peelT ?_ | refine peelB ?_ | refine peelTX ?_ | refine peelBX ?_ | refine peelBN ?_ | refine peelBO rfl ?_))
                            exact ret2 (.inr rfl) Tryz.results104 rfl rfl fun w' h => ⟨(), trivial, rfl, h.sub (by repeat' constructor)⟩
                          · refine WO.y rfl rfl .no (Yl.loadV vtK (fun _ _ => trivial) rfl (Reads.own (by repeat constructor)) (by rw [Array.length_toList]; omega) (so_getK (by omega))) rfl ?_
                            refine WD.one 7 (by kernel_rfl) ?_
                            refine WO.y rfl rfl .no (Yl.loadV vtK (fun _ _ => trivial) rfl (Reads.own (by repeat constructor)) (by rw [Array.length_toList]; omega) (so_getK (by omega))) rfl ?_
                            refine WD.take 12 rfl (by kernel_rfl) (by kernel_rfl) (by kernel_rfl) rfl rfl (Yl.indexF un22 sz30 rfl rfl hF rfl (by omega)) rfl ?_
                            refine WD.one 13 (by kernel_rfl) ?_
                            refine WO.sto rfl rfl .no (Sto.elemV (j := z) (u := G[a]!) (xs := G.toList) vtK (fun _ _ => trivial) trivial rfl rfl (by repeat constructor) (by rw [Array.length_toList]; omega) (by omega)) ⟨_, (by repeat' constructor)⟩ ?_
                            refine WD.take 14 rfl (by kernel_rfl) (by kernel_rfl) (by kernel_rfl) rfl rfl (Yl.indexF un22 sz30 rfl rfl hF rfl (by omega)) rfl ?_
                            refine WD.one 15 (by kernel_rfl) ?_
                            refine WO.sto rfl rfl .no (Sto.elemV (j := a) (u := G[z]!) (xs := G.toList.set (z) G[a]!) vtK (fun _ _ => trivial) trivial rfl rfl (by repeat constructor) (by rw [List.length_set, Array.length_toList]; omega) (by omega)) ⟨_, (by repeat' constructor)⟩ ?_
                            rw [so_swpK G (z) (a)]
                            refine WD.done (by kernel_rfl) ?_
                            refine WC.seq ?_
                            refine WC.region ?_
                            refine WL.y (Yl.move rfl) rfl ?_
                            refine WL.y (Yl.assign rfl) rfl ?_
                            refine WL.y (Yl.assign rfl) rfl ?_
                            refine WL.nil ?_
                            refine WC.ret ?_
                            repeat (with_reducible (first | refine peelT ?_ | refine peelB ?_ | refine peelTX ?_ | refine peelBX ?_ | refine peelBN ?_ | refine peelBO rfl ?_))
                            exact ret2 (.inr rfl) Tryz.results104 rfl rfl fun w' h => ⟨(), trivial, rfl, h.sub (by repeat' constructor)⟩
                        · refine WC.skip ?_
                          refine WC.seq ?_
                          have hyz : ¬ y > z := by omega
                          rw [if_neg hyz] at hTG
                          refine WC.drawAny (Hs := []) mixed (by kernel_rfl) ⟨_, (by repeat' constructor)⟩ ?_
                          refine WD.take 0 rfl (by kernel_rfl) (by kernel_rfl) (by kernel_rfl) rfl rfl (Yl.move rfl) rfl ?_
                          refine WD.take 1 rfl (by kernel_rfl) (by kernel_rfl) (by kernel_rfl) rfl rfl (Yl.move rfl) rfl ?_
                          refine WD.take 2 rfl (by kernel_rfl) (by kernel_rfl) (by kernel_rfl) rfl rfl (Yl.move rfl) rfl ?_
                          refine WD.take 3 rfl (by kernel_rfl) (by kernel_rfl) (by kernel_rfl) rfl rfl (Yl.move rfl) rfl ?_
                          refine WD.take 4 rfl (by kernel_rfl) (by kernel_rfl) (by kernel_rfl) rfl rfl (Yl.move rfl) rfl ?_
                          refine WD.take 5 rfl (by kernel_rfl) (by kernel_rfl) (by kernel_rfl) rfl rfl (Yl.move rfl) rfl ?_
                          refine WD.take 6 rfl (by kernel_rfl) (by kernel_rfl) (by kernel_rfl) rfl rfl (Yl.indexF un22 sz30 rfl rfl hF rfl (by omega)) rfl ?_
                          refine WD.take 8 rfl (by kernel_rfl) (by kernel_rfl) (by kernel_rfl) rfl rfl (Yl.move rfl) rfl ?_
                          refine WD.take 9 rfl (by kernel_rfl) (by kernel_rfl) (by kernel_rfl) rfl rfl (Yl.move rfl) rfl ?_
                          refine WD.take 10 rfl (by kernel_rfl) (by kernel_rfl) (by kernel_rfl) rfl rfl (Yl.indexF un22 sz30 rfl rfl hF rfl (by omega)) rfl ?_
                          refine WD.two 7 11 (by kernel_rfl) ?_ ?_
                          · refine WO.y rfl rfl .no (Yl.loadV vtK (fun _ _ => trivial) rfl (Reads.own (by repeat constructor)) (by rw [Array.length_toList]; omega) (so_getK (by omega))) rfl ?_
                            refine WD.one 11 (by kernel_rfl) ?_
                            refine WO.y rfl rfl .no (Yl.loadV vtK (fun _ _ => trivial) rfl (Reads.own (by repeat constructor)) (by rw [Array.length_toList]; omega) (so_getK (by omega))) rfl ?_
                            refine WD.take 12 rfl (by kernel_rfl) (by kernel_rfl) (by kernel_rfl) rfl rfl (Yl.indexF un22 sz30 rfl rfl hF rfl (by omega)) rfl ?_
                            refine WD.one 13 (by kernel_rfl) ?_
                            refine WO.sto rfl rfl .no (Sto.elemV (j := y) (u := G[z]!) (xs := G.toList) vtK (fun _ _ => trivial) trivial rfl rfl (by repeat constructor) (by rw [Array.length_toList]; omega) (by omega)) ⟨_, (by repeat' constructor)⟩ ?_
                            refine WD.take 14 rfl (by kernel_rfl) (by kernel_rfl) (by kernel_rfl) rfl rfl (Yl.indexF un22 sz30 rfl rfl hF rfl (by omega)) rfl ?_
                            refine WD.one 15 (by kernel_rfl) ?_
                            refine WO.sto rfl rfl .no (Sto.elemV (j := z) (u := G[y]!) (xs := G.toList.set (y) G[z]!) vtK (fun _ _ => trivial) trivial rfl rfl (by repeat constructor) (by rw [List.length_set, Array.length_toList]; omega) (by omega)) ⟨_, (by repeat' constructor)⟩ ?_
                            rw [so_swpK G (y) (z)]
                            refine WD.done (by kernel_rfl) ?_
                            refine WC.seq ?_
                            refine WC.region ?_
                            refine WL.y (Yl.move rfl) rfl ?_
                            refine WL.y (Yl.add rfl rfl (IntWalk.i64_in _ (by omega))) rfl ?_
                            refine WL.y (Yl.assign rfl) rfl ?_
                            refine WL.nil ?_
                            refine WC.region ?_
                            refine WL.y (Yl.move rfl) rfl ?_
                            refine WL.y (Yl.sub rfl rfl (IntWalk.i64_in _ (by omega))) rfl ?_
                            refine WL.say (t := 162) (v' := .int .i64 ((z - 1 : Nat) : Int)) rfl (by (refine congrArg _ ?_; omega)) ?_
                            refine WL.y (Yl.assign rfl) rfl ?_
                            refine WL.nil ?_
                            exact ⟨rfl, (y + 1, z - 1, swp G y z), ⟨by dsimp only; omega, by dsimp only; omega, by dsimp only; rw [swp_size]; exact hG, hTG⟩, by dsimp only; omega, (by repeat (first | exact Sub.nil | refine Sub.cons rfl ?_)), _, (by repeat' constructor)⟩
                          · refine WO.y rfl rfl .no (Yl.loadV vtK (fun _ _ => trivial) rfl (Reads.own (by repeat constructor)) (by rw [Array.length_toList]; omega) (so_getK (by omega))) rfl ?_
                            refine WD.one 7 (by kernel_rfl) ?_
                            refine WO.y rfl rfl .no (Yl.loadV vtK (fun _ _ => trivial) rfl (Reads.own (by repeat constructor)) (by rw [Array.length_toList]; omega) (so_getK (by omega))) rfl ?_
                            refine WD.take 12 rfl (by kernel_rfl) (by kernel_rfl) (by kernel_rfl) rfl rfl (Yl.indexF un22 sz30 rfl rfl hF rfl (by omega)) rfl ?_
                            refine WD.one 13 (by kernel_rfl) ?_
                            refine WO.sto rfl rfl .no (Sto.elemV (j := y) (u := G[z]!) (xs := G.toList) vtK (fun _ _ => trivial) trivial rfl rfl (by repeat constructor) (by rw [Array.length_toList]; omega) (by omega)) ⟨_, (by repeat' constructor)⟩ ?_
                            refine WD.take 14 rfl (by kernel_rfl) (by kernel_rfl) (by kernel_rfl) rfl rfl (Yl.indexF un22 sz30 rfl rfl hF rfl (by omega)) rfl ?_
                            refine WD.one 15 (by kernel_rfl) ?_
                            refine WO.sto rfl rfl .no (Sto.elemV (j := z) (u := G[y]!) (xs := G.toList.set (y) G[z]!) vtK (fun _ _ => trivial) trivial rfl rfl (by repeat constructor) (by rw [List.length_set, Array.length_toList]; omega) (by omega)) ⟨_, (by repeat' constructor)⟩ ?_
                            rw [so_swpK G (y) (z)]
                            refine WD.done (by kernel_rfl) ?_
                            refine WC.seq ?_
                            refine WC.region ?_
                            refine WL.y (Yl.move rfl) rfl ?_
                            refine WL.y (Yl.add rfl rfl (IntWalk.i64_in _ (by omega))) rfl ?_
                            refine WL.y (Yl.assign rfl) rfl ?_
                            refine WL.nil ?_
                            refine WC.region ?_
                            refine WL.y (Yl.move rfl) rfl ?_
                            refine WL.y (Yl.sub rfl rfl (IntWalk.i64_in _ (by omega))) rfl ?_
                            refine WL.say (t := 162) (v' := .int .i64 ((z - 1 : Nat) : Int)) rfl (by (refine congrArg _ ?_; omega)) ?_
                            refine WL.y (Yl.assign rfl) rfl ?_
                            refine WL.nil ?_
                            exact ⟨rfl, (y + 1, z - 1, swp G y z), ⟨by dsimp only; omega, by dsimp only; omega, by dsimp only; rw [swp_size]; exact hG, hTG⟩, by dsimp only; omega, (by repeat (first | exact Sub.nil | refine Sub.cons rfl ?_)), _, (by repeat' constructor)⟩
              · refine WO.y rfl rfl .no (Yl.loadV vtK (fun _ _ => trivial) rfl (Reads.own (by repeat constructor)) (by rw [Array.length_toList]; omega) (so_getK (by omega))) rfl ?_
                refine WD.one 7 (by kernel_rfl) ?_
                refine WO.y rfl rfl .no (Yl.loadV vtK (fun _ _ => trivial) rfl (Reads.own (by repeat constructor)) (by rw [Array.length_toList]; omega) (so_getK (by omega))) rfl ?_
                refine WD.take 12 rfl (by kernel_rfl) (by kernel_rfl) (by kernel_rfl) rfl rfl (Yl.indexF un22 sz30 rfl rfl hF rfl (by omega)) rfl ?_
                refine WD.one 13 (by kernel_rfl) ?_
                refine WO.sto rfl rfl .no (Sto.elemV (j := p) (u := B[q]!) (xs := B.toList) vtK (fun _ _ => trivial) trivial rfl rfl (by repeat constructor) (by rw [Array.length_toList]; omega) (by omega)) ⟨_, (by repeat' constructor)⟩ ?_
                refine WD.take 14 rfl (by kernel_rfl) (by kernel_rfl) (by kernel_rfl) rfl rfl (Yl.indexF un22 sz30 rfl rfl hF rfl (by omega)) rfl ?_
                refine WD.one 15 (by kernel_rfl) ?_
                refine WO.sto rfl rfl .no (Sto.elemV (j := q) (u := B[p]!) (xs := B.toList.set (p) B[q]!) vtK (fun _ _ => trivial) trivial rfl rfl (by repeat constructor) (by rw [List.length_set, Array.length_toList]; omega) (by omega)) ⟨_, (by repeat' constructor)⟩ ?_
                rw [so_swpK B (p) (q)]
                refine WD.done (by kernel_rfl) ?_
                refine WC.seq ?_
                refine WC.region ?_
                refine WL.y (Yl.move rfl) rfl ?_
                refine WL.y (Yl.add rfl rfl (IntWalk.i64_in _ (by omega))) rfl ?_
                refine WL.y (Yl.assign rfl) rfl ?_
                refine WL.nil ?_
                refine WC.seq ?_
                refine WC.region ?_
                refine WL.y (Yl.move rfl) rfl ?_
                refine WL.y (Yl.sub rfl rfl (IntWalk.i64_in _ (by omega))) rfl ?_
                refine WL.say (t := 104) (v' := .int .i64 ((q - 1 : Nat) : Int)) rfl (by (refine congrArg _ ?_; omega)) ?_
                refine WL.y (Yl.assign rfl) rfl ?_
                refine WL.nil ?_
                refine WC.seq ?_
                refine WC.block ?_
                obtain ⟨T, hT⟩ : ∃ T, partLoop ltK a (p + 1) (q - 1) (swp B p q) = T := ⟨_, rfl⟩
                rw [hT]
                refine WC.loop (α := Nat × Nat × Array Ky) (fun z => [(0, v), (4, .func (.func 60) #[] #[]), (1, .int .i64 (a : Int)), (12, .int .i64 (z.1 : Int)), (13, .int .i64 (z.2.1 : Int))]) (fun z => [rwK v n (z.2.2.toList)]) (fun z => (a < z.1 ∧ z.1 ≤ n) ∧ z.2.1 < n ∧ z.2.2.size = n ∧ partLoop ltK a z.1 z.2.1 z.2.2 = T) (fun z => z.2.1 + 1 - z.1) (p + 1, q - 1, swp B p q) ⟨by dsimp only; omega, by dsimp only; omega, by dsimp only; omega, hT⟩ ⟨(by repeat (first | exact Sub.nil | refine Sub.cons rfl ?_)), _, (by repeat' constructor)⟩ ?_
                rintro ⟨i, j, G⟩ ⟨⟨hai, hin⟩, hjn, hG, hTG⟩
                dsimp only at hai hin hjn hG hTG ⊢
                have hgu := scanUp_ge (fun x => ltK x G[a]!) G j i
                have hgd := scanDown_le (fun x => !ltK x G[a]!) G (scanUp (fun x => ltK x G[a]!) G j i) j
                rw [partLoop_eq] at hTG
                obtain ⟨I, hI⟩ : ∃ I, scanUp (fun x => ltK x G[a]!) G j i = I := ⟨_, rfl⟩
                rw [hI] at hgu hgd hTG
                obtain ⟨J, hJ⟩ : ∃ J, scanDown (fun x => !ltK x G[a]!) G I j = J := ⟨_, rfl⟩
                rw [hJ] at hgd hTG
                refine WC.block ?_
                refine WC.seq ?_
                refine WC.block ?_
                refine WC.loop (α := Nat) (fun y => [(0, v), (4, .func (.func 60) #[] #[]), (1, .int .i64 (a : Int)), (12, .int .i64 (y : Int)), (13, .int .i64 (j : Int))]) (fun _ => [rwK v n (G.toList)]) (fun y => (a < y ∧ y ≤ n) ∧ scanUp (fun x => ltK x G[a]!) G j y = I) (fun y => n + 1 - y) i ⟨⟨hai, hin⟩, hI⟩ ⟨(by repeat (first | exact Sub.nil | refine Sub.cons rfl ?_)), _, (by repeat' constructor)⟩ ?_
                rintro y ⟨⟨hay, hyn⟩, hyI⟩
                refine WC.seq ?_
                refine WC.midX (α := Unit) (fun _ => [(0, v), (4, .func (.func 60) #[] #[]), (1, .int .i64 (a : Int)), (12, .int .i64 (y : Int)), (13, .int .i64 (j : Int)), (120, .bool (decide ((y : Int) ≤ (j : Int)) && ltK G[y]! G[a]!))]) (fun _ => [rwK v n (G.toList)]) (fun _ => True) ?_ ?_
                · refine WC.drawAny (Hs := [rwK v n (G.toList)]) mixed (by kernel_rfl) ⟨_, (by repeat' constructor)⟩ ?_
                  refine WD.take 0 rfl (by kernel_rfl) (by kernel_rfl) (by kernel_rfl) rfl rfl (Yl.move rfl) rfl ?_
                  refine WD.take 1 rfl (by kernel_rfl) (by kernel_rfl) (by kernel_rfl) rfl rfl (Yl.move rfl) rfl ?_
                  refine WD.take 2 rfl (by kernel_rfl) (by kernel_rfl) (by kernel_rfl) rfl rfl (Yl.leq rfl rfl) rfl ?_
                  refine WD.take 3 rfl (by kernel_rfl) (by kernel_rfl) (by kernel_rfl) rfl rfl (Yl.move rfl) rfl ?_
                  refine WD.both (t := 108) rfl (fun g108 => ?_) (fun g108 => ?_)
                  · refine WD.takeOn 4 rfl (by kernel_rfl) (by kernel_rfl) (by kernel_rfl) rfl rfl rfl rfl (Yl.move rfl) rfl ?_
                    have hyj : y ≤ j := by have := of_decide_eq_true g108; omega
                    refine WD.takeOn 5 rfl (by kernel_rfl) (by kernel_rfl) (by kernel_rfl) rfl rfl rfl rfl (Yl.move rfl) rfl ?_
                    refine WD.takeOn 6 rfl (by kernel_rfl) (by kernel_rfl) (by kernel_rfl) rfl rfl rfl rfl (Yl.move rfl) rfl ?_
                    refine WD.takeOn 7 rfl (by kernel_rfl) (by kernel_rfl) (by kernel_rfl) rfl rfl rfl rfl (Yl.indexF un22 sz30 rfl rfl hF rfl (by omega)) rfl ?_
                    refine WD.takeOn 8 rfl (by kernel_rfl) (by kernel_rfl) (by kernel_rfl) rfl rfl rfl rfl (Yl.loadV vtK (fun _ _ => trivial) rfl (Reads.own (by repeat constructor)) (by rw [Array.length_toList]; omega) (so_getK (by omega))) rfl ?_
                    refine WD.takeOn 9 rfl (by kernel_rfl) (by kernel_rfl) (by kernel_rfl) rfl rfl rfl rfl (Yl.move rfl) rfl ?_
                    refine WD.takeOn 10 rfl (by kernel_rfl) (by kernel_rfl) (by kernel_rfl) rfl rfl rfl rfl (Yl.move rfl) rfl ?_
                    refine WD.takeOn 11 rfl (by kernel_rfl) (by kernel_rfl) (by kernel_rfl) rfl rfl rfl rfl (Yl.indexF un22 sz30 rfl rfl hF rfl (by omega)) rfl ?_
                    refine WD.takeOn 12 rfl (by kernel_rfl) (by kernel_rfl) (by kernel_rfl) rfl rfl rfl rfl (Yl.loadV vtK (fun _ _ => trivial) rfl (Reads.own (by repeat constructor)) (by rw [Array.length_toList]; omega) (so_getK (by omega))) rfl ?_
                    refine WD.one 13 (by kernel_rfl) ?_
                    refine WO.callC (f := .tmp 109) (xs := [.tmp 113, .tmp 117]) (cap := []) rfl (.on rfl rfl) rfl rfl en60 (by repeat' constructor) (fun w hw => order_any _ _ w hw.left.here) rfl (fun _ => ⟨_, (by repeat' constructor)⟩) ?_
                    rintro ⟨⟩ -
                    refine WD.takeOn 14 rfl (by kernel_rfl) (by kernel_rfl) (by kernel_rfl) rfl rfl rfl rfl (Yl.lss rfl rfl) rfl ?_
                    refine WD.say (t := 119) (v' := .bool (ltK _ _)) rfl (by rfl) ?_
                    refine WD.take 15 rfl (by kernel_rfl) (by kernel_rfl) (by kernel_rfl) rfl rfl (Yl.pickT rfl rfl) rfl ?_
                    refine WD.say (t := 120) (v' := .bool (decide ((y : Int) ≤ (j : Int)) && ltK G[y]! G[a]!)) rfl (by (rw [g108]; rfl)) ?_
                    refine WD.done (by kernel_rfl) ?_
                    exact ⟨rfl, (), trivial, (by repeat (first | exact Sub.nil | refine Sub.cons rfl ?_)), _, (by repeat' constructor)⟩
                  · refine WD.takeOff 4 rfl (by kernel_rfl) (by kernel_rfl) (by kernel_rfl) rfl rfl rfl rfl rfl rfl ?_
                    refine WD.takeOff 5 rfl (by kernel_rfl) (by kernel_rfl) (by kernel_rfl) rfl rfl rfl rfl rfl rfl ?_
                    refine WD.takeOff 6 rfl (by kernel_rfl) (by kernel_rfl) (by kernel_rfl) rfl rfl rfl rfl rfl rfl ?_
                    refine WD.takeOff 7 rfl (by kernel_rfl) (by kernel_rfl) (by kernel_rfl) rfl rfl rfl rfl rfl rfl ?_
                    refine WD.takeOff 8 rfl (by kernel_rfl) (by kernel_rfl) (by kernel_rfl) rfl rfl rfl rfl rfl rfl ?_
                    refine WD.takeOff 9 rfl (by kernel_rfl) (by kernel_rfl) (by kernel_rfl) rfl rfl rfl rfl rfl rfl ?_
                    refine WD.takeOff 10 rfl (by kernel_rfl) (by kernel_rfl) (by kernel_rfl) rfl rfl rfl rfl rfl rfl ?_
                    refine WD.takeOff 11 rfl (by kernel_rfl) (by kernel_rfl) (by kernel_rfl) rfl rfl rfl rfl rfl rfl ?_
                    refine WD.takeOff 12 rfl (by kernel_rfl) (by kernel_rfl) (by kernel_rfl) rfl rfl rfl rfl rfl rfl ?_
                    refine WD.one 13 (by kernel_rfl) ?_
                    refine WO.off rfl rfl rfl rfl rfl rfl rfl ?_
                    refine WD.takeOff 14 rfl (by kernel_rfl) (by kernel_rfl) (by kernel_rfl) rfl rfl rfl rfl rfl rfl ?_
                    refine WD.take 15 rfl (by kernel_rfl) (by kernel_rfl) (by kernel_rfl) rfl rfl (Yl.pickF rfl rfl) rfl ?_
                    refine WD.say (t := 120) (v' := .bool (decide ((y : Int) ≤ (j : Int)) && ltK G[y]! G[a]!)) rfl (by (rw [g108]; rfl)) ?_
                    refine WD.done (by kernel_rfl) ?_
                    exact ⟨rfl, (), trivial, (by repeat (first | exact Sub.nil | refine Sub.cons rfl ?_)), _, (by repeat' constructor)⟩
                · rintro ⟨⟩ -
                  refine WC.cond rfl (fun g120 => ?_) (fun g120 => ?_)
                  · refine WC.skip ?_
                    refine WC.block ?_
                    have hyj := and_le g120
                    refine WC.region ?_
                    refine WL.y (Yl.move rfl) rfl ?_
                    refine WL.y (Yl.add rfl rfl (IntWalk.i64_in _ (by omega))) rfl ?_
                    refine WL.y (Yl.assign rfl) rfl ?_
                    refine WL.nil ?_
                    exact ⟨rfl, y + 1, ⟨by omega, by rw [← up_go g120]; exact hyI⟩, by omega, (by repeat (first | exact Sub.nil | refine Sub.cons rfl ?_)), _, (by repeat' constructor)⟩
                  · refine WC.exit ?_
                    refine WC.seq ?_
                    refine WC.block ?_
                    have hye : y = I := by rw [← hyI]; exact (up_stop g120).symm
                    subst hye
                    refine WC.loop (α := Nat) (fun z => [(0, v), (4, .func (.func 60) #[] #[]), (1, .int .i64 (a : Int)), (12, .int .i64 (y : Int)), (13, .int .i64 (z : Int))]) (fun _ => [rwK v n (G.toList)]) (fun z => z < n ∧ scanDown (fun x => !ltK x G[a]!) G y z = J) (fun z => z) j ⟨hjn, hJ⟩ ⟨(by repeat (first | exact Sub.nil | refine Sub.cons rfl ?_)), _, (by repeat' constructor)⟩ ?_
                    rintro z ⟨hzn, hzJ⟩
                    refine WC.seq ?_
                    refine WC.midX (α := Unit) (fun _ => [(0, v), (4, .func (.func 60) #[] #[]), (1, .int .i64 (a : Int)), (12, .int .i64 (y : Int)), (13, .int .i64 (z : Int)), (139, .bool (decide ((y : Int) ≤ (z : Int)) && !ltK G[z]! G[a]!))]) (fun _ => [rwK v n (G.toList)]) (fun _ => True) ?_ ?_
                    · refine WC.drawAny (Hs := [rwK v n (G.toList)]) mixed (by kernel_rfl) ⟨_, (by repeat' constructor)⟩ ?_
                      refine WD.take 0 rfl (by kernel_rfl) (by kernel_rfl) (by kernel_rfl) rfl rfl (Yl.move rfl) rfl ?_
                      refine WD.take 1 rfl (by kernel_rfl) (by kernel_rfl) (by kernel_rfl) rfl rfl (Yl.move rfl) rfl ?_
                      refine WD.take 2 rfl (by kernel_rfl) (by kernel_rfl) (by kernel_rfl) rfl rfl (Yl.leq rfl rfl) rfl ?_
                      refine WD.take 3 rfl (by kernel_rfl) (by kernel_rfl) (by kernel_rfl) rfl rfl (Yl.move rfl) rfl ?_
                      refine WD.both (t := 126) rfl (fun g126 => ?_) (fun g126 => ?_)
                      · refine WD.takeOn 4 rfl (by kernel_rfl) (by kernel_rfl) (by kernel_rfl) rfl rfl rfl rfl (Yl.move rfl) rfl ?_
                        refine WD.takeOn 5 rfl (by kernel_rfl) (by kernel_rfl) (by kernel_rfl) rfl rfl rfl rfl (Yl.move rfl) rfl ?_
                        refine WD.takeOn 6 rfl (by kernel_rfl) (by kernel_rfl) (by kernel_rfl) rfl rfl rfl rfl (Yl.move rfl) rfl ?_
                        refine WD.takeOn 7 rfl (by kernel_rfl) (by kernel_rfl) (by kernel_rfl) rfl rfl rfl rfl (Yl.indexF un22 sz30 rfl rfl hF rfl (by omega)) rfl ?_
                        refine WD.takeOn 8 rfl (by kernel_rfl) (by kernel_rfl) (by kernel_rfl) rfl rfl rfl rfl (Yl.loadV vtK (fun _ _ => trivial) rfl (Reads.own (by repeat constructor)) (by rw [Array.length_toList]; omega) (so_getK (by omega))) rfl ?_
                        refine WD.takeOn 9 rfl (by kernel_rfl) (by kernel_rfl) (by kernel_rfl) rfl rfl rfl rfl (Yl.move rfl) rfl ?_
                        refine WD.takeOn 10 rfl (by kernel_rfl) (by kernel_rfl) (by kernel_rfl) rfl rfl rfl rfl (Yl.move rfl) rfl ?_
                        refine WD.takeOn 11 rfl (by kernel_rfl) (by kernel_rfl) (by kernel_rfl) rfl rfl rfl rfl (Yl.indexF un22 sz30 rfl rfl hF rfl (by omega)) rfl ?_
                        refine WD.takeOn 12 rfl (by kernel_rfl) (by kernel_rfl) (by kernel_rfl) rfl rfl rfl rfl (Yl.loadV vtK (fun _ _ => trivial) rfl (Reads.own (by repeat constructor)) (by rw [Array.length_toList]; omega) (so_getK (by omega))) rfl ?_
                        refine WD.one 13 (by kernel_rfl) ?_
                        refine WO.callC (f := .tmp 127) (xs := [.tmp 131, .tmp 135]) (cap := []) rfl (.on rfl rfl) rfl rfl en60 (by repeat' constructor) (fun w hw => order_any _ _ w hw.left.here) rfl (fun _ => ⟨_, (by repeat' constructor)⟩) ?_
                        rintro ⟨⟩ -
                        refine WD.takeOn 14 rfl (by kernel_rfl) (by kernel_rfl) (by kernel_rfl) rfl rfl rfl rfl (Yl.lss rfl rfl) rfl ?_
                        refine WD.say (t := 137) (v' := .bool (ltK _ _)) rfl (by rfl) ?_
                        refine WD.takeOn 15 rfl (by kernel_rfl) (by kernel_rfl) (by kernel_rfl) rfl rfl rfl rfl (Yl.not rfl) rfl ?_
                        refine WD.take 16 rfl (by kernel_rfl) (by kernel_rfl) (by kernel_rfl) rfl rfl (Yl.pickT rfl rfl) rfl ?_
                        refine WD.say (t := 139) (v' := .bool (decide ((y : Int) ≤ (z : Int)) && !ltK G[z]! G[a]!)) rfl (by (rw [g126]; rfl)) ?_
                        refine WD.done (by kernel_rfl) ?_
                        exact ⟨rfl, (), trivial, (by repeat (first | exact Sub.nil | refine Sub.cons rfl ?_)), _, (by repeat' constructor)⟩
                      · refine WD.takeOff 4 rfl (by kernel_rfl) (by kernel_rfl) (by kernel_rfl) rfl rfl rfl rfl rfl rfl ?_
                        refine WD.takeOff 5 rfl (by kernel_rfl) (by kernel_rfl) (by kernel_rfl) rfl rfl rfl rfl rfl rfl ?_
                        refine WD.takeOff 6 rfl (by kernel_rfl) (by kernel_rfl) (by kernel_rfl) rfl rfl rfl rfl rfl rfl ?_
                        refine WD.takeOff 7 rfl (by kernel_rfl) (by kernel_rfl) (by kernel_rfl) rfl rfl rfl rfl rfl rfl ?_
                        refine WD.takeOff 8 rfl (by kernel_rfl) (by kernel_rfl) (by kernel_rfl) rfl rfl rfl rfl rfl rfl ?_
                        refine WD.takeOff 9 rfl (by kernel_rfl) (by kernel_rfl) (by kernel_rfl) rfl rfl rfl rfl rfl rfl ?_
                        refine WD.takeOff 10 rfl (by kernel_rfl) (by kernel_rfl) (by kernel_rfl) rfl rfl rfl rfl rfl rfl ?_
                        refine WD.takeOff 11 rfl (by kernel_rfl) (by kernel_rfl) (by kernel_rfl) rfl rfl rfl rfl rfl rfl ?_
                        refine WD.takeOff 12 rfl (by kernel_rfl) (by kernel_rfl) (by kernel_rfl) rfl rfl rfl rfl rfl rfl ?_
                        refine WD.one 13 (by kernel_rfl) ?_
                        refine WO.off rfl rfl rfl rfl rfl rfl rfl ?_
                        refine WD.takeOff 14 rfl (by kernel_rfl) (by kernel_rfl) (by kernel_rfl) rfl rfl rfl rfl rfl rfl ?_
                        refine WD.takeOff 15 rfl (by kernel_rfl) (by kernel_rfl) (by kernel_rfl) rfl rfl rfl rfl rfl rfl ?_
                        refine WD.take 16 rfl (by kernel_rfl) (by kernel_rfl) (by kernel_rfl) rfl rfl (Yl.pickF rfl rfl) rfl ?_
                        refine WD.say (t := 139) (v' := .bool (decide ((y : Int) ≤ (z : Int)) && !ltK G[z]! G[a]!)) rfl (by (rw [g126]; rfl)) ?_
                        refine WD.done (by kernel_rfl) ?_
                        exact ⟨rfl, (), trivial, (by repeat (first | exact Sub.nil | refine Sub.cons rfl ?_)), _, (by repeat' constructor)⟩
                    · rintro ⟨⟩ -
                      refine WC.cond rfl (fun g139 => ?_) (fun g139 => ?_)
                      · refine WC.skip ?_
                        refine WC.block ?_
                        have hyz := and_le g139
                        refine WC.region ?_
                        refine WL.y (Yl.move rfl) rfl ?_
                        refine WL.y (Yl.sub rfl rfl (IntWalk.i64_in _ (by omega))) rfl ?_
                        refine WL.say (t := 141) (v' := .int .i64 ((z - 1 : Nat) : Int)) rfl (by (refine congrArg _ ?_; omega)) ?_
                        refine WL.y (Yl.assign rfl) rfl ?_
                        refine WL.nil ?_
                        exact ⟨rfl, z - 1, ⟨by omega, by rw [← down_go (by omega) g139]; exact hzJ⟩, by omega, (by repeat (first | exact Sub.nil | refine Sub.cons rfl ?_)), _, (by repeat' constructor)⟩
                      · refine WC.exit ?_
                        refine WC.seq ?_
                        refine WC.seq ?_
                        have hze : z = J := by rw [← hzJ]; exact (down_stop (by omega) g139).symm
                        subst hze
                        refine WC.region ?_
                        refine WL.y (Yl.move rfl) rfl ?_
                        refine WL.y (Yl.move rfl) rfl ?_
                        refine WL.y (Yl.gtr rfl rfl) rfl ?_
                        refine WL.nil ?_
                        refine WC.condD rfl (fun g144 => ?_) (fun g144 => ?_)
                        · refine WC.exit ?_
                          refine WC.seq ?_
                          have hyz : y > z := by omega
                          rw [if_pos hyz] at hTG
                          subst hTG
                          dsimp only
                          refine WC.drawAny (Hs := []) mixed (by kernel_rfl) ⟨_, (by repeat' constructor)⟩ ?_
                          refine WD.take 0 rfl (by kernel_rfl) (by kernel_rfl) (by kernel_rfl) rfl rfl (Yl.move rfl) rfl ?_
                          refine WD.take 1 rfl (by kernel_rfl) (by kernel_rfl) (by kernel_rfl) rfl rfl (Yl.move rfl) rfl ?_
                          refine WD.take 2 rfl (by kernel_rfl) (by kernel_rfl) (by kernel_rfl) rfl rfl (Yl.move rfl) rfl ?_
                          refine WD.take 3 rfl (by kernel_rfl) (by kernel_rfl) (by kernel_rfl) rfl rfl (Yl.move rfl) rfl ?_
                          refine WD.take 4 rfl (by kernel_rfl) (by kernel_rfl) (by kernel_rfl) rfl rfl (Yl.move rfl) rfl ?_
                          refine WD.take 5 rfl (by kernel_rfl) (by kernel_rfl) (by kernel_rfl) rfl rfl (Yl.move rfl) rfl ?_
                          refine WD.take 6 rfl (by kernel_rfl) (by kernel_rfl) (by kernel_rfl) rfl rfl (Yl.indexF un22 sz30 rfl rfl hF rfl (by omega)) rfl ?_
                          refine WD.take 8 rfl (by kernel_rfl) (by kernel_rfl) (by kernel_rfl) rfl rfl (Yl.move rfl) rfl ?_
                          refine WD.take 9 rfl (by kernel_rfl) (by kernel_rfl) (by kernel_rfl) rfl rfl (Yl.move rfl) rfl ?_
                          refine WD.take 10 rfl (by kernel_rfl) (by kernel_rfl) (by kernel_rfl) rfl rfl (Yl.indexF un22 sz30 rfl rfl hF rfl (by omega)) rfl ?_
                          refine WD.two 7 11 (by kernel_rfl) ?_ ?_
                          · refine WO.y rfl rfl .no (Yl.loadV vtK (fun _ _ => trivial) rfl (Reads.own (by repeat constructor)) (by rw [Array.length_toList]; omega) (so_getK (by omega))) rfl ?_
                            refine WD.one 11 (by kernel_rfl) ?_
                            refine WO.y rfl rfl .no (Yl.loadV vtK (fun _ _ => trivial) rfl (Reads.own (by repeat constructor)) (by rw [Array.length_toList]; omega) (so_getK (by omega))) rfl ?_
                            refine WD.take 12 rfl (by kernel_rfl) (by kernel_rfl) (by kernel_rfl) rfl rfl (Yl.indexF un22 sz30 rfl rfl hF rfl (by omega)) rfl ?_
                            refine WD.one 13 (by kernel_rfl) ?_
                            refine WO.sto rfl rfl .no (Sto.elemV (j := z) (u := G[a]!) (xs := G.toList) vtK (fun _ _ => trivial) trivial rfl rfl (by repeat constructor) (by rw [Array.length_toList]; omega) (by omega)) ⟨_, (by repeat' constructor)⟩ ?_
                            refine WD.take 14 rfl (by kernel_rfl) (by kernel_rfl) (by kernel_rfl) rfl rfl (Yl.indexF un22 sz30 rfl rfl hF rfl (by omega)) rfl ?_
                            refine WD.one 15 (by kernel_rfl) ?_
                            refine WO.sto rfl rfl .no (Sto.elemV (j := a) (u := G[z]!) (xs := G.toList.set (z) G[a]!) vtK (fun _ _ => trivial) trivial rfl rfl (by repeat constructor) (by rw [List.length_set, Array.length_toList]; omega) (by omega)) ⟨_, (by repeat' constructor)⟩ ?_
                            rw [so_swpK G (z) (a)]
                            refine WD.done (by kernel_rfl) ?_
                            refine WC.seq ?_
                            refine WC.region ?_
                            refine WL.y (Yl.move rfl) rfl ?_
                            refine WL.y (Yl.assign rfl) rfl ?_
                            refine WL.y (Yl.assign rfl) rfl ?_
                            refine WL.nil ?_
                            refine WC.ret ?_
                            repeat (with_reducible (first | refine peelT ?_ | refine peelB ?_ | refine peelTX ?_ | refine peelBX ?_ | refine peelBN ?_ | refine peelBO rfl ?_))
                            exact ret2 (.inr rfl) Tryz.results104 rfl rfl fun w' h => ⟨(), trivial, rfl, h.sub (by repeat' constructor)⟩
                          · refine WO.y rfl rfl .no (Yl.loadV vtK (fun _ _ => trivial) rfl (Reads.own (by repeat constructor)) (by rw [Array.length_toList]; omega) (so_getK (by omega))) rfl ?_
                            refine WD.one 7 (by kernel_rfl) ?_
                            refine WO.y rfl rfl .no (Yl.loadV vtK (fun _ _ => trivial) rfl (Reads.own (by repeat constructor)) (by rw [Array.length_toList]; omega) (so_getK (by omega))) rfl ?_
                            refine WD.take 12 rfl (by kernel_rfl) (by kernel_rfl) (by kernel_rfl) rfl rfl (Yl.indexF un22 sz30 rfl rfl hF rfl (by omega)) rfl ?_
                            refine WD.one 13 (by kernel_rfl) ?_
                            refine WO.sto rfl rfl .no (Sto.elemV (j := z) (u := G[a]!) (xs := G.toList) vtK (fun _ _ => trivial) trivial rfl rfl (by repeat constructor) (by rw [Array.length_toList]; omega) (by omega)) ⟨_, (by repeat' constructor)⟩ ?_
                            refine WD.take 14 rfl (by kernel_rfl) (by kernel_rfl) (by kernel_rfl) rfl rfl (Yl.indexF un22 sz30 rfl rfl hF rfl (by omega)) rfl ?_
                            refine WD.one 15 (by kernel_rfl) ?_
                            refine WO.sto rfl rfl .no (Sto.elemV (j := a) (u := G[z]!) (xs := G.toList.set (z) G[a]!) vtK (fun _ _ => trivial) trivial rfl rfl (by repeat constructor) (by rw [List.length_set, Array.length_toList]; omega) (by omega)) ⟨_, (by repeat' constructor)⟩ ?_
                            rw [so_swpK G (z) (a)]
                            refine WD.done (by kernel_rfl) ?_
                            refine WC.seq ?_
                            refine WC.region ?_
                            refine WL.y (Yl.move rfl) rfl ?_
                            refine WL.y (Yl.assign rfl) rfl ?_
                            refine WL.y (Yl.assign rfl) rfl ?_
                            refine WL.nil ?_
                            refine WC.ret ?_
                            repeat (with_reducible (first | refine peelT ?_ | refine peelB ?_ | refine peelTX ?_ | refine peelBX ?_ | refine peelBN ?_ | refine peelBO rfl ?_))
                            exact ret2 (.inr rfl) Tryz.results104 rfl rfl fun w' h => ⟨(), trivial, rfl, h.sub (by repeat' constructor)⟩
                        · refine WC.skip ?_
                          refine WC.seq ?_
                          have hyz : ¬ y > z := by omega
                          rw [if_neg hyz] at hTG
                          refine WC.drawAny (Hs := []) mixed (by kernel_rfl) ⟨_, (by repeat' constructor)⟩ ?_
                          refine WD.take 0 rfl (by kernel_rfl) (by kernel_rfl) (by kernel_rfl) rfl rfl (Yl.move rfl) rfl ?_
                          refine WD.take 1 rfl (by kernel_rfl) (by kernel_rfl) (by kernel_rfl) rfl rfl (Yl.move rfl) rfl ?_
                          refine WD.take 2 rfl (by kernel_rfl) (by kernel_rfl) (by kernel_rfl) rfl rfl (Yl.move rfl) rfl ?_
                          refine WD.take 3 rfl (by kernel_rfl) (by kernel_rfl) (by kernel_rfl) rfl rfl (Yl.move rfl) rfl ?_
                          refine WD.take 4 rfl (by kernel_rfl) (by kernel_rfl) (by kernel_rfl) rfl rfl (Yl.move rfl) rfl ?_
                          refine WD.take 5 rfl (by kernel_rfl) (by kernel_rfl) (by kernel_rfl) rfl rfl (Yl.move rfl) rfl ?_
                          refine WD.take 6 rfl (by kernel_rfl) (by kernel_rfl) (by kernel_rfl) rfl rfl (Yl.indexF un22 sz30 rfl rfl hF rfl (by omega)) rfl ?_
                          refine WD.take 8 rfl (by kernel_rfl) (by kernel_rfl) (by kernel_rfl) rfl rfl (Yl.move rfl) rfl ?_
                          refine WD.take 9 rfl (by kernel_rfl) (by kernel_rfl) (by kernel_rfl) rfl rfl (Yl.move rfl) rfl ?_
                          refine WD.take 10 rfl (by kernel_rfl) (by kernel_rfl) (by kernel_rfl) rfl rfl (Yl.indexF un22 sz30 rfl rfl hF rfl (by omega)) rfl ?_
                          refine WD.two 7 11 (by kernel_rfl) ?_ ?_
                          · refine WO.y rfl rfl .no (Yl.loadV vtK (fun _ _ => trivial) rfl (Reads.own (by repeat constructor)) (by rw [Array.length_toList]; omega) (so_getK (by omega))) rfl ?_
                            refine WD.one 11 (by kernel_rfl) ?_
                            refine WO.y rfl rfl .no (Yl.loadV vtK (fun _ _ => trivial) rfl (Reads.own (by repeat constructor)) (by rw [Array.length_toList]; omega) (so_getK (by omega))) rfl ?_
                            refine WD.take 12 rfl (by kernel_rfl) (by kernel_rfl) (by kernel_rfl) rfl rfl (Yl.indexF un22 sz30 rfl rfl hF rfl (by omega)) rfl ?_
                            refine WD.one 13 (by kernel_rfl) ?_
                            refine WO.sto rfl rfl .no (Sto.elemV (j := y) (u := G[z]!) (xs := G.toList) vtK (fun _ _ => trivial) trivial rfl rfl (by repeat constructor) (by rw [Array.length_toList]; omega) (by omega)) ⟨_, (by repeat' constructor)⟩ ?_
                            refine WD.take 14 rfl (by kernel_rfl) (by kernel_rfl) (by kernel_rfl) rfl rfl (Yl.indexF un22 sz30 rfl rfl hF rfl (by omega)) rfl ?_
                            refine WD.one 15 (by kernel_rfl) ?_
                            refine WO.sto rfl rfl .no (Sto.elemV (j := z) (u := G[y]!) (xs := G.toList.set (y) G[z]!) vtK (fun _ _ => trivial) trivial rfl rfl (by repeat constructor) (by rw [List.length_set, Array.length_toList]; omega) (by omega)) ⟨_, (by repeat' constructor)⟩ ?_
                            rw [so_swpK G (y) (z)]
                            refine WD.done (by kernel_rfl) ?_
                            refine WC.seq ?_
                            refine WC.region ?_
                            refine WL.y (Yl.move rfl) rfl ?_
                            refine WL.y (Yl.add rfl rfl (IntWalk.i64_in _ (by omega))) rfl ?_
                            refine WL.y (Yl.assign rfl) rfl ?_
                            refine WL.nil ?_
                            refine WC.region ?_
                            refine WL.y (Yl.move rfl) rfl ?_
                            refine WL.y (Yl.sub rfl rfl (IntWalk.i64_in _ (by omega))) rfl ?_
                            refine WL.say (t := 162) (v' := .int .i64 ((z - 1 : Nat) : Int)) rfl (by (refine congrArg _ ?_; omega)) ?_
                            refine WL.y (Yl.assign rfl) rfl ?_
                            refine WL.nil ?_
                            exact ⟨rfl, (y + 1, z - 1, swp G y z), ⟨by dsimp only; omega, by dsimp only; omega, by dsimp only; rw [swp_size]; exact hG, hTG⟩, by dsimp only; omega, (by repeat (first | exact Sub.nil | refine Sub.cons rfl ?_)), _, (by repeat' constructor)⟩
                          · refine WO.y rfl rfl .no (Yl.loadV vtK (fun _ _ => trivial) rfl (Reads.own (by repeat constructor)) (by rw [Array.length_toList]; omega) (so_getK (by omega))) rfl ?_
                            refine WD.one 7 (by kernel_rfl) ?_
                            refine WO.y rfl rfl .no (Yl.loadV vtK (fun _ _ => trivial) rfl (Reads.own (by repeat constructor)) (by rw [Array.length_toList]; omega) (so_getK (by omega))) rfl ?_
                            refine WD.take 12 rfl (by kernel_rfl) (by kernel_rfl) (by kernel_rfl) rfl rfl (Yl.indexF un22 sz30 rfl rfl hF rfl (by omega)) rfl ?_
                            refine WD.one 13 (by kernel_rfl) ?_
                            refine WO.sto rfl rfl .no (Sto.elemV (j := y) (u := G[z]!) (xs := G.toList) vtK (fun _ _ => trivial) trivial rfl rfl (by repeat constructor) (by rw [Array.length_toList]; omega) (by omega)) ⟨_, (by repeat' constructor)⟩ ?_
                            refine WD.take 14 rfl (by kernel_rfl) (by kernel_rfl) (by kernel_rfl) rfl rfl (Yl.indexF un22 sz30 rfl rfl hF rfl (by omega)) rfl ?_
                            refine WD.one 15 (by kernel_rfl) ?_
                            refine WO.sto rfl rfl .no (Sto.elemV (j := z) (u := G[y]!) (xs := G.toList.set (y) G[z]!) vtK (fun _ _ => trivial) trivial rfl rfl (by repeat constructor) (by rw [List.length_set, Array.length_toList]; omega) (by omega)) ⟨_, (by repeat' constructor)⟩ ?_
                            rw [so_swpK G (y) (z)]
                            refine WD.done (by kernel_rfl) ?_
                            refine WC.seq ?_
                            refine WC.region ?_
                            refine WL.y (Yl.move rfl) rfl ?_
                            refine WL.y (Yl.add rfl rfl (IntWalk.i64_in _ (by omega))) rfl ?_
                            refine WL.y (Yl.assign rfl) rfl ?_
                            refine WL.nil ?_
                            refine WC.region ?_
                            refine WL.y (Yl.move rfl) rfl ?_
                            refine WL.y (Yl.sub rfl rfl (IntWalk.i64_in _ (by omega))) rfl ?_
                            refine WL.say (t := 162) (v' := .int .i64 ((z - 1 : Nat) : Int)) rfl (by (refine congrArg _ ?_; omega)) ?_
                            refine WL.y (Yl.assign rfl) rfl ?_
                            refine WL.nil ?_
                            exact ⟨rfl, (y + 1, z - 1, swp G y z), ⟨by dsimp only; omega, by dsimp only; omega, by dsimp only; rw [swp_size]; exact hG, hTG⟩, by dsimp only; omega, (by repeat (first | exact Sub.nil | refine Sub.cons rfl ?_)), _, (by repeat' constructor)⟩
  · refine WO.y rfl rfl .no (Yl.loadV vtK (fun _ _ => trivial) rfl (Reads.own (by repeat constructor)) (by rw [Array.length_toList]; omega) (so_getK (by omega))) rfl ?_
    refine WD.one 7 (by kernel_rfl) ?_
    refine WO.y rfl rfl .no (Yl.loadV vtK (fun _ _ => trivial) rfl (Reads.own (by repeat constructor)) (by rw [Array.length_toList]; omega) (so_getK (by omega))) rfl ?_
    refine WD.take 12 rfl (by kernel_rfl) (by kernel_rfl) (by kernel_rfl) rfl rfl (Yl.indexF un22 sz30 rfl rfl hF rfl (by omega)) rfl ?_
    refine WD.one 13 (by kernel_rfl) ?_
    refine WO.sto rfl rfl .no (Sto.elemV (j := a) (u := D[pv]!) (xs := D.toList) vtK (fun _ _ => trivial) trivial rfl rfl (by repeat constructor) (by rw [Array.length_toList]; omega) (by omega)) ⟨_, (by repeat' constructor)⟩ ?_
    refine WD.take 14 rfl (by kernel_rfl) (by kernel_rfl) (by kernel_rfl) rfl rfl (Yl.indexF un22 sz30 rfl rfl hF rfl (by omega)) rfl ?_
    refine WD.one 15 (by kernel_rfl) ?_
    refine WO.sto rfl rfl .no (Sto.elemV (j := pv) (u := D[a]!) (xs := D.toList.set (a) D[pv]!) vtK (fun _ _ => trivial) trivial rfl rfl (by repeat constructor) (by rw [List.length_set, Array.length_toList]; omega) (by omega)) ⟨_, (by repeat' constructor)⟩ ?_
    rw [so_swpK D (a) (pv)]
    refine WD.done (by kernel_rfl) ?_
    refine WC.seq ?_
    rw [hB]
    refine WC.region ?_
    refine WL.y (Yl.move rfl) rfl ?_
    refine WL.y (Yl.add rfl rfl (IntWalk.i64_in _ (by omega))) rfl ?_
    refine WL.y (Yl.move rfl) rfl ?_
    refine WL.y (Yl.sub rfl rfl (IntWalk.i64_in _ (by omega))) rfl ?_
    refine WL.say (t := 31) (v' := .int .i64 ((b - 1 : Nat) : Int)) rfl (by (refine congrArg _ ?_; omega)) ?_
    refine WL.y (Yl.assign rfl) rfl ?_
    refine WL.y (Yl.assign rfl) rfl ?_
    refine WL.nil ?_
    refine WC.seq ?_
    refine WC.block ?_
    refine WC.loop (α := Nat) (fun p => [(0, v), (4, .func (.func 60) #[] #[]), (1, .int .i64 (a : Int)), (12, .int .i64 (p : Int)), (13, .int .i64 ((b - 1 : Nat) : Int))]) (fun _ => [rwK v n (B.toList)]) (fun p => (a < p ∧ p ≤ n) ∧ scanUp (fun x => ltK x B[a]!) B (b - 1) p = I0) (fun p => n + 1 - p) (a + 1) ⟨⟨Nat.lt_succ_self _, by omega⟩, hI0⟩ ⟨(by repeat (first | exact Sub.nil | refine Sub.cons rfl ?_)), _, (by repeat' constructor)⟩ ?_
    rintro p ⟨⟨hap', hpn⟩, hpI⟩
    refine WC.seq ?_
    refine WC.midX (α := Unit) (fun _ => [(0, v), (4, .func (.func 60) #[] #[]), (1, .int .i64 (a : Int)), (12, .int .i64 (p : Int)), (13, .int .i64 ((b - 1 : Nat) : Int)), (47, .bool (decide ((p : Int) ≤ ((b - 1 : Nat) : Int)) && ltK B[p]! B[a]!))]) (fun _ => [rwK v n (B.toList)]) (fun _ => True) ?_ ?_
    · refine WC.drawAny (Hs := [rwK v n (B.toList)]) mixed (by kernel_rfl) ⟨_, (by repeat' constructor)⟩ ?_
      refine WD.take 0 rfl (by kernel_rfl) (by kernel_rfl) (by kernel_rfl) rfl rfl (Yl.move rfl) rfl ?_
      refine WD.take 1 rfl (by kernel_rfl) (by kernel_rfl) (by kernel_rfl) rfl rfl (Yl.move rfl) rfl ?_
      refine WD.take 2 rfl (by kernel_rfl) (by kernel_rfl) (by kernel_rfl) rfl rfl (Yl.leq rfl rfl) rfl ?_
      refine WD.take 3 rfl (by kernel_rfl) (by kernel_rfl) (by kernel_rfl) rfl rfl (Yl.move rfl) rfl ?_
      refine WD.both (t := 35) rfl (fun g35 => ?_) (fun g35 => ?_)
      · refine WD.takeOn 4 rfl (by kernel_rfl) (by kernel_rfl) (by kernel_rfl) rfl rfl rfl rfl (Yl.move rfl) rfl ?_
        have hpj : p ≤ b - 1 := by have := of_decide_eq_true g35; omega
        refine WD.takeOn 5 rfl (by kernel_rfl) (by kernel_rfl) (by kernel_rfl) rfl rfl rfl rfl (Yl.move rfl) rfl ?_
        refine WD.takeOn 6 rfl (by kernel_rfl) (by kernel_rfl) (by kernel_rfl) rfl rfl rfl rfl (Yl.move rfl) rfl ?_
        refine WD.takeOn 7 rfl (by kernel_rfl) (by kernel_rfl) (by kernel_rfl) rfl rfl rfl rfl (Yl.indexF un22 sz30 rfl rfl hF rfl (by omega)) rfl ?_
        refine WD.takeOn 8 rfl (by kernel_rfl) (by kernel_rfl) (by kernel_rfl) rfl rfl rfl rfl (Yl.loadV vtK (fun _ _ => trivial) rfl (Reads.own (by repeat constructor)) (by rw [Array.length_toList]; omega) (so_getK (by omega))) rfl ?_
        refine WD.takeOn 9 rfl (by kernel_rfl) (by kernel_rfl) (by kernel_rfl) rfl rfl rfl rfl (Yl.move rfl) rfl ?_
        refine WD.takeOn 10 rfl (by kernel_rfl) (by kernel_rfl) (by kernel_rfl) rfl rfl rfl rfl (Yl.move rfl) rfl ?_
        refine WD.takeOn 11 rfl (by kernel_rfl) (by kernel_rfl) (by kernel_rfl) rfl rfl rfl rfl (Yl.indexF un22 sz30 rfl rfl hF rfl (by omega)) rfl ?_
        refine WD.takeOn 12 rfl (by kernel_rfl) (by kernel_rfl) (by kernel_rfl) rfl rfl rfl rfl (Yl.loadV vtK (fun _ _ => trivial) rfl (Reads.own (by repeat constructor)) (by rw [Array.length_toList]; omega) (so_getK (by omega))) rfl ?_
        refine WD.one 13 (by kernel_rfl) ?_
        refine WO.callC (f := .tmp 36) (xs := [.tmp 40, .tmp 44]) (cap := []) rfl (.on rfl rfl) rfl rfl en60 (by repeat' constructor) (fun w hw => order_any _ _ w hw.left.here) rfl (fun _ => ⟨_, (by repeat' constructor)⟩) ?_
        rintro ⟨⟩ -
        refine WD.takeOn 14 rfl (by kernel_rfl) (by kernel_rfl) (by kernel_rfl) rfl rfl rfl rfl (Yl.lss rfl rfl) rfl ?_
        refine WD.say (t := 46) (v' := .bool (ltK _ _)) rfl (by rfl) ?_
        refine WD.take 15 rfl (by kernel_rfl) (by kernel_rfl) (by kernel_rfl) rfl rfl (Yl.pickT rfl rfl) rfl ?_
        refine WD.say (t := 47) (v' := .bool (decide ((p : Int) ≤ ((b - 1 : Nat) : Int)) && ltK B[p]! B[a]!)) rfl (by (rw [g35]; rfl)) ?_
        refine WD.done (by kernel_rfl) ?_
        exact ⟨rfl, (), trivial, (by repeat (first | exact Sub.nil | refine Sub.cons rfl ?_)), _, (by repeat' constructor)⟩
      · refine WD.takeOff 4 rfl (by kernel_rfl) (by kernel_rfl) (by kernel_rfl) rfl rfl rfl rfl rfl rfl ?_
        refine WD.takeOff 5 rfl (by kernel_rfl) (by kernel_rfl) (by kernel_rfl) rfl rfl rfl rfl rfl rfl ?_
        refine WD.takeOff 6 rfl (by kernel_rfl) (by kernel_rfl) (by kernel_rfl) rfl rfl rfl rfl rfl rfl ?_
        refine WD.takeOff 7 rfl (by kernel_rfl) (by kernel_rfl) (by kernel_rfl) rfl rfl rfl rfl rfl rfl ?_
        refine WD.takeOff 8 rfl (by kernel_rfl) (by kernel_rfl) (by kernel_rfl) rfl rfl rfl rfl rfl rfl ?_
        refine WD.takeOff 9 rfl (by kernel_rfl) (by kernel_rfl) (by kernel_rfl) rfl rfl rfl rfl rfl rfl ?_
        refine WD.takeOff 10 rfl (by kernel_rfl) (by kernel_rfl) (by kernel_rfl) rfl rfl rfl rfl rfl rfl ?_
        refine WD.takeOff 11 rfl (by kernel_rfl) (by kernel_rfl) (by kernel_rfl) rfl rfl rfl rfl rfl rfl ?_
        refine WD.takeOff 12 rfl (by kernel_rfl) (by kernel_rfl) (by kernel_rfl) rfl rfl rfl rfl rfl rfl ?_
        refine WD.one 13 (by kernel_rfl) ?_
        refine WO.off rfl rfl rfl rfl rfl rfl rfl ?_
        refine WD.takeOff 14 rfl (by kernel_rfl) (by kernel_rfl) (by kernel_rfl) rfl rfl rfl rfl rfl rfl ?_
        refine WD.take 15 rfl (by kernel_rfl) (by kernel_rfl) (by kernel_rfl) rfl rfl (Yl.pickF rfl rfl) rfl ?_
        refine WD.say (t := 47) (v' := .bool (decide ((p : Int) ≤ ((b - 1 : Nat) : Int)) && ltK B[p]! B[a]!)) rfl (by (rw [g35]; rfl)) ?_
        refine WD.done (by kernel_rfl) ?_
        exact ⟨rfl, (), trivial, (by repeat (first | exact Sub.nil | refine Sub.cons rfl ?_)), _, (by repeat' constructor)⟩
    · rintro ⟨⟩ -
      refine WC.cond rfl (fun g47 => ?_) (fun g47 => ?_)
      · refine WC.skip ?_
        refine WC.block ?_
        have hpj := and_le g47
        refine WC.region ?_
        refine WL.y (Yl.move rfl) rfl ?_
        refine WL.y (Yl.add rfl rfl (IntWalk.i64_in _ (by omega))) rfl ?_
        refine WL.y (Yl.assign rfl) rfl ?_
        refine WL.nil ?_
        exact ⟨rfl, p + 1, ⟨by omega, by rw [← up_go g47]; exact hpI⟩, by omega, (by repeat (first | exact Sub.nil | refine Sub.cons rfl ?_)), _, (by repeat' constructor)⟩
      · refine WC.exit ?_
        refine WC.seq ?_
        refine WC.block ?_
        have hpe : p = I0 := by rw [← hpI]; exact (up_stop g47).symm
        subst hpe
        refine WC.loop (α := Nat) (fun q => [(0, v), (4, .func (.func 60) #[] #[]), (1, .int .i64 (a : Int)), (12, .int .i64 (p : Int)), (13, .int .i64 (q : Int))]) (fun _ => [rwK v n (B.toList)]) (fun q => q < n ∧ scanDown (fun x => !ltK x B[a]!) B p q = J0) (fun q => q) (b - 1) ⟨by omega, hJ0⟩ ⟨(by repeat (first | exact Sub.nil | refine Sub.cons rfl ?_)), _, (by repeat' constructor)⟩ ?_
        rintro q ⟨hqn, hqJ⟩
        refine WC.seq ?_
        refine WC.midX (α := Unit) (fun _ => [(0, v), (4, .func (.func 60) #[] #[]), (1, .int .i64 (a : Int)), (12, .int .i64 (p : Int)), (13, .int .i64 (q : Int)), (66, .bool (decide ((p : Int) ≤ (q : Int)) && !ltK B[q]! B[a]!))]) (fun _ => [rwK v n (B.toList)]) (fun _ => True) ?_ ?_
        · refine WC.drawAny (Hs := [rwK v n (B.toList)]) mixed (by kernel_rfl) ⟨_, (by repeat' constructor)⟩ ?_
          refine WD.take 0 rfl (by kernel_rfl) (by kernel_rfl) (by kernel_rfl) rfl rfl (Yl.move rfl) rfl ?_
          refine WD.take 1 rfl (by kernel_rfl) (by kernel_rfl) (by kernel_rfl) rfl rfl (Yl.move rfl) rfl ?_
          refine WD.take 2 rfl (by kernel_rfl) (by kernel_rfl) (by kernel_rfl) rfl rfl (Yl.leq rfl rfl) rfl ?_
          refine WD.take 3 rfl (by kernel_rfl) (by kernel_rfl) (by kernel_rfl) rfl rfl (Yl.move rfl) rfl ?_
          refine WD.both (t := 53) rfl (fun g53 => ?_) (fun g53 => ?_)
          · refine WD.takeOn 4 rfl (by kernel_rfl) (by kernel_rfl) (by kernel_rfl) rfl rfl rfl rfl (Yl.move rfl) rfl ?_
            refine WD.takeOn 5 rfl (by kernel_rfl) (by kernel_rfl) (by kernel_rfl) rfl rfl rfl rfl (Yl.move rfl) rfl ?_
            refine WD.takeOn 6 rfl (by kernel_rfl) (by kernel_rfl) (by kernel_rfl) rfl rfl rfl rfl (Yl.move rfl) rfl ?_
            refine WD.takeOn 7 rfl (by kernel_rfl) (by kernel_rfl) (by kernel_rfl) rfl rfl rfl rfl (Yl.indexF un22 sz30 rfl rfl hF rfl (by omega)) rfl ?_
            refine WD.takeOn 8 rfl (by kernel_rfl) (by kernel_rfl) (by kernel_rfl) rfl rfl rfl rfl (Yl.loadV vtK (fun _ _ => trivial) rfl (Reads.own (by repeat constructor)) (by rw [Array.length_toList]; omega) (so_getK (by omega))) rfl ?_
            refine WD.takeOn 9 rfl (by kernel_rfl) (by kernel_rfl) (by kernel_rfl) rfl rfl rfl rfl (Yl.move rfl) rfl ?_
            refine WD.takeOn 10 rfl (by kernel_rfl) (by kernel_rfl) (by kernel_rfl) rfl rfl rfl rfl (Yl.move rfl) rfl ?_
            refine WD.takeOn 11 rfl (by kernel_rfl) (by kernel_rfl) (by kernel_rfl) rfl rfl rfl rfl (Yl.indexF un22 sz30 rfl rfl hF rfl (by omega)) rfl ?_
            refine WD.takeOn 12 rfl (by kernel_rfl) (by kernel_rfl) (by kernel_rfl) rfl rfl rfl rfl (Yl.loadV vtK (fun _ _ => trivial) rfl (Reads.own (by repeat constructor)) (by rw [Array.length_toList]; omega) (so_getK (by omega))) rfl ?_
            refine WD.one 13 (by kernel_rfl) ?_
            refine WO.callC (f := .tmp 54) (xs := [.tmp 58, .tmp 62]) (cap := []) rfl (.on rfl rfl) rfl rfl en60 (by repeat' constructor) (fun w hw => order_any _ _ w hw.left.here) rfl (fun _ => ⟨_, (by repeat' constructor)⟩) ?_
            rintro ⟨⟩ -
            refine WD.takeOn 14 rfl (by kernel_rfl) (by kernel_rfl) (by kernel_rfl) rfl rfl rfl rfl (Yl.lss rfl rfl) rfl ?_
            refine WD.say (t := 64) (v' := .bool (ltK _ _)) rfl (by rfl) ?_
            refine WD.takeOn 15 rfl (by kernel_rfl) (by kernel_rfl) (by kernel_rfl) rfl rfl rfl rfl (Yl.not rfl) rfl ?_
            refine WD.take 16 rfl (by kernel_rfl) (by kernel_rfl) (by kernel_rfl) rfl rfl (Yl.pickT rfl rfl) rfl ?_
            refine WD.say (t := 66) (v' := .bool (decide ((p : Int) ≤ (q : Int)) && !ltK B[q]! B[a]!)) rfl (by (rw [g53]; rfl)) ?_
            refine WD.done (by kernel_rfl) ?_
            exact ⟨rfl, (), trivial, (by repeat (first | exact Sub.nil | refine Sub.cons rfl ?_)), _, (by repeat' constructor)⟩
          · refine WD.takeOff 4 rfl (by kernel_rfl) (by kernel_rfl) (by kernel_rfl) rfl rfl rfl rfl rfl rfl ?_
            refine WD.takeOff 5 rfl (by kernel_rfl) (by kernel_rfl) (by kernel_rfl) rfl rfl rfl rfl rfl rfl ?_
            refine WD.takeOff 6 rfl (by kernel_rfl) (by kernel_rfl) (by kernel_rfl) rfl rfl rfl rfl rfl rfl ?_
            refine WD.takeOff 7 rfl (by kernel_rfl) (by kernel_rfl) (by kernel_rfl) rfl rfl rfl rfl rfl rfl ?_
            refine WD.takeOff 8 rfl (by kernel_rfl) (by kernel_rfl) (by kernel_rfl) rfl rfl rfl rfl rfl rfl ?_
            refine WD.takeOff 9 rfl (by kernel_rfl) (by kernel_rfl) (by kernel_rfl) rfl rfl rfl rfl rfl rfl ?_
            refine WD.takeOff 10 rfl (by kernel_rfl) (by kernel_rfl) (by kernel_rfl) rfl rfl rfl rfl rfl rfl ?_
            refine WD.takeOff 11 rfl (by kernel_rfl) (by kernel_rfl) (by kernel_rfl) rfl rfl rfl rfl rfl rfl ?_
            refine WD.takeOff 12 rfl (by kernel_rfl) (by kernel_rfl) (by kernel_rfl) rfl rfl rfl rfl rfl rfl ?_
            refine WD.one 13 (by kernel_rfl) ?_
            refine WO.off rfl rfl rfl rfl rfl rfl rfl ?_
            refine WD.takeOff 14 rfl (by kernel_rfl) (by kernel_rfl) (by kernel_rfl) rfl rfl rfl rfl rfl rfl ?_
            refine WD.takeOff 15 rfl (by kernel_rfl) (by kernel_rfl) (by kernel_rfl) rfl rfl rfl rfl rfl rfl ?_
            refine WD.take 16 rfl (by kernel_rfl) (by kernel_rfl) (by kernel_rfl) rfl rfl (Yl.pickF rfl rfl) rfl ?_
            refine WD.say (t := 66) (v' := .bool (decide ((p : Int) ≤ (q : Int)) && !ltK B[q]! B[a]!)) rfl (by (rw [g53]; rfl)) ?_
            refine WD.done (by kernel_rfl) ?_
            exact ⟨rfl, (), trivial, (by repeat (first | exact Sub.nil | refine Sub.cons rfl ?_)), _, (by repeat' constructor)⟩
        · rintro ⟨⟩ -
          refine WC.cond rfl (fun g66 => ?_) (fun g66 => ?_)
          · refine WC.skip ?_
            refine WC.block ?_
            have hpq := and_le g66
            refine WC.region ?_
            refine WL.y (Yl.move rfl) rfl ?_
            refine WL.y (Yl.sub rfl rfl (IntWalk.i64_in _ (by omega))) rfl ?_
            refine WL.say (t := 68) (v' := .int .i64 ((q - 1 : Nat) : Int)) rfl (by (refine congrArg _ ?_; omega)) ?_
            refine WL.y (Yl.assign rfl) rfl ?_
            refine WL.nil ?_
            exact ⟨rfl, q - 1, ⟨by omega, by rw [← down_go (by omega) g66]; exact hqJ⟩, by omega, (by repeat (first | exact Sub.nil | refine Sub.cons rfl ?_)), _, (by repeat' constructor)⟩
          · refine WC.exit ?_
            refine WC.seq ?_
            refine WC.seq ?_
            have hqe : q = J0 := by rw [← hqJ]; exact (down_stop (by omega) g66).symm
            subst hqe
            refine WC.region ?_
            refine WL.y (Yl.move rfl) rfl ?_
            refine WL.y (Yl.move rfl) rfl ?_
            refine WL.y (Yl.gtr rfl rfl) rfl ?_
            refine WL.nil ?_
            refine WC.condD rfl (fun g71 => ?_) (fun g71 => ?_)
            · refine WC.seq ?_
              have hpq : p > q := by omega
              rw [if_pos hpq] at hP
              subst hP
              dsimp only
              refine WC.drawAny (Hs := []) mixed (by kernel_rfl) ⟨_, (by repeat' constructor)⟩ ?_
              refine WD.take 0 rfl (by kernel_rfl) (by kernel_rfl) (by kernel_rfl) rfl rfl (Yl.move rfl) rfl ?_
              refine WD.take 1 rfl (by kernel_rfl) (by kernel_rfl) (by kernel_rfl) rfl rfl (Yl.move rfl) rfl ?_
              refine WD.take 2 rfl (by kernel_rfl) (by kernel_rfl) (by kernel_rfl) rfl rfl (Yl.move rfl) rfl ?_
              refine WD.take 3 rfl (by kernel_rfl) (by kernel_rfl) (by kernel_rfl) rfl rfl (Yl.move rfl) rfl ?_
              refine WD.take 4 rfl (by kernel_rfl) (by kernel_rfl) (by kernel_rfl) rfl rfl (Yl.move rfl) rfl ?_
              refine WD.take 5 rfl (by kernel_rfl) (by kernel_rfl) (by kernel_rfl) rfl rfl (Yl.move rfl) rfl ?_
              refine WD.take 6 rfl (by kernel_rfl) (by kernel_rfl) (by kernel_rfl) rfl rfl (Yl.indexF un22 sz30 rfl rfl hF rfl (by omega)) rfl ?_
              refine WD.take 8 rfl (by kernel_rfl) (by kernel_rfl) (by kernel_rfl) rfl rfl (Yl.move rfl) rfl ?_
              refine WD.take 9 rfl (by kernel_rfl) (by kernel_rfl) (by kernel_rfl) rfl rfl (Yl.move rfl) rfl ?_
              refine WD.take 10 rfl (by kernel_rfl) (by kernel_rfl) (by kernel_rfl) rfl rfl (Yl.indexF un22 sz30 rfl rfl hF rfl (by omega)) rfl ?_
              refine WD.two 7 11 (by kernel_rfl) ?_ ?_
              · refine WO.y rfl rfl .no (Yl.loadV vtK (fun _ _ => trivial) rfl (Reads.own (by repeat constructor)) (by rw [Array.length_toList]; omega) (so_getK (by omega))) rfl ?_
                refine WD.one 11 (by kernel_rfl) ?_
                refine WO.y rfl rfl .no (Yl.loadV vtK (fun _ _ => trivial) rfl (Reads.own (by repeat constructor)) (by rw [Array.length_toList]; omega) (so_getK (by omega))) rfl ?_
                refine WD.take 12 rfl (by kernel_rfl) (by kernel_rfl) (by kernel_rfl) rfl rfl (Yl.indexF un22 sz30 rfl rfl hF rfl (by omega)) rfl ?_
                refine WD.one 13 (by kernel_rfl) ?_
                refine WO.sto rfl rfl .no (Sto.elemV (j := q) (u := B[a]!) (xs := B.toList) vtK (fun _ _ => trivial) trivial rfl rfl (by repeat constructor) (by rw [Array.length_toList]; omega) (by omega)) ⟨_, (by repeat' constructor)⟩ ?_
                refine WD.take 14 rfl (by kernel_rfl) (by kernel_rfl) (by kernel_rfl) rfl rfl (Yl.indexF un22 sz30 rfl rfl hF rfl (by omega)) rfl ?_
                refine WD.one 15 (by kernel_rfl) ?_
                refine WO.sto rfl rfl .no (Sto.elemV (j := a) (u := B[q]!) (xs := B.toList.set (q) B[a]!) vtK (fun _ _ => trivial) trivial rfl rfl (by repeat constructor) (by rw [List.length_set, Array.length_toList]; omega) (by omega)) ⟨_, (by repeat' constructor)⟩ ?_
                rw [so_swpK B (q) (a)]
                refine WD.done (by kernel_rfl) ?_
                refine WC.seq ?_
                refine WC.region ?_
                refine WL.y (Yl.move rfl) rfl ?_
                refine WL.y (Yl.assign rfl) rfl ?_
                refine WL.y (Yl.assign rfl) rfl ?_
                refine WL.nil ?_
                refine WC.ret ?_
                repeat (with_reducible (first | refine peelT ?_ | refine peelB ?_ | refine peelTX ?_ | refine peelBX ?_ | refine peelBN ?_ | refine peelBO rfl ?_))
                exact ret2 (.inr rfl) Tryz.results104 rfl rfl fun w' h => ⟨(), trivial, rfl, h.sub (by repeat' constructor)⟩
              · refine WO.y rfl rfl .no (Yl.loadV vtK (fun _ _ => trivial) rfl (Reads.own (by repeat constructor)) (by rw [Array.length_toList]; omega) (so_getK (by omega))) rfl ?_
                refine WD.one 7 (by kernel_rfl) ?_
                refine WO.y rfl rfl .no (Yl.loadV vtK (fun _ _ => trivial) rfl (Reads.own (by repeat constructor)) (by rw [Array.length_toList]; omega) (so_getK (by omega))) rfl ?_
                refine WD.take 12 rfl (by kernel_rfl) (by kernel_rfl) (by kernel_rfl) rfl rfl (Yl.indexF un22 sz30 rfl rfl hF rfl (by omega)) rfl ?_
                refine WD.one 13 (by kernel_rfl) ?_
                refine WO.sto rfl rfl .no (Sto.elemV (j := q) (u := B[a]!) (xs := B.toList) vtK (fun _ _ => trivial) trivial rfl rfl (by repeat constructor) (by rw [Array.length_toList]; omega) (by omega)) ⟨_, (by repeat' constructor)⟩ ?_
                refine WD.take 14 rfl (by kernel_rfl) (by kernel_rfl) (by kernel_rfl) rfl rfl (Yl.indexF un22 sz30 rfl rfl hF rfl (by omega)) rfl ?_
                refine WD.one 15 (by kernel_rfl) ?_
                refine WO.sto rfl rfl .no (Sto.elemV (j := a) (u := B[q]!) (xs := B.toList.set (q) B[a]!) vtK (fun _ _ => trivial) trivial rfl rfl (by repeat constructor) (by rw [List.length_set, Array.length_toList]; omega) (by omega)) ⟨_, (by repeat' constructor)⟩ ?_
                rw [so_swpK B (q) (a)]
                refine WD.done (by kernel_rfl) ?_
                refine WC.seq ?_
                refine WC.region ?_
                refine WL.y (Yl.move rfl) rfl ?_
                refine WL.y (Yl.assign rfl) rfl ?_
                refine WL.y (Yl.assign rfl) rfl ?_
                refine WL.nil ?_
                refine WC.ret ?_
                repeat (with_reducible (first | refine peelT ?_ | refine peelB ?_ | refine peelTX ?_ | refine peelBX ?_ | refine peelBN ?_ | refine peelBO rfl ?_))
                exact ret2 (.inr rfl) Tryz.results104 rfl rfl fun w' h => ⟨(), trivial, rfl, h.sub (by repeat' constructor)⟩
            · refine WC.skip ?_
              refine WC.seq ?_
              have hpq : ¬ p > q := by omega
              rw [if_neg hpq] at hP
              subst hP
              dsimp only
              have hsz2 := swp_size B p q
              refine WC.drawAny (Hs := []) mixed (by kernel_rfl) ⟨_, (by repeat' constructor)⟩ ?_
              refine WD.take 0 rfl (by kernel_rfl) (by kernel_rfl) (by kernel_rfl) rfl rfl (Yl.move rfl) rfl ?_
              refine WD.take 1 rfl (by kernel_rfl) (by kernel_rfl) (by kernel_rfl) rfl rfl (Yl.move rfl) rfl ?_
              refine WD.take 2 rfl (by kernel_rfl) (by kernel_rfl) (by kernel_rfl) rfl rfl (Yl.move rfl) rfl ?_
              refine WD.take 3 rfl (by kernel_rfl) (by kernel_rfl) (by kernel_rfl) rfl rfl (Yl.move rfl) rfl ?_
              refine WD.take 4 rfl (by kernel_rfl) (by kernel_rfl) (by kernel_rfl) rfl rfl (Yl.move rfl) rfl ?_
              refine WD.take 5 rfl (by kernel_rfl) (by kernel_rfl) (by kernel_rfl) rfl rfl (Yl.move rfl) rfl ?_
              refine WD.take 6 rfl (by kernel_rfl) (by kernel_rfl) (by kernel_rfl) rfl rfl (Yl.indexF un22 sz30 rfl rfl hF rfl (by omega)) rfl ?_
              refine WD.take 8 rfl (by kernel_rfl) (by kernel_rfl) (by kernel_rfl) rfl rfl (Yl.move rfl) rfl ?_
              refine WD.take 9 rfl (by kernel_rfl) (by kernel_rfl) (by kernel_rfl) rfl rfl (Yl.move rfl) rfl ?_
              refine WD.take 10 rfl (by kernel_rfl) (by kernel_rfl) (by kernel_rfl) rfl rfl (Yl.indexF un22 sz30 rfl rfl hF rfl (by omega)) rfl ?_
              refine WD.two 7 11 (by kernel_rfl) ?_ ?_
              · refine WO.y rfl rfl .no (Yl.loadV vtK (fun _ _ => trivial) rfl (Reads.own (by repeat constructor)) (by rw [Array.length_toList]; omega) (so_getK (by omega))) rfl ?_
                refine WD.one 11 (by kernel_rfl) ?_
                refine WO.y rfl rfl .no (Yl.loadV vtK (fun _ _ => trivial) rfl (Reads.own (by repeat constructor)) (by rw [Array.length_toList]; omega) (so_getK (by omega))) rfl ?_
                refine WD.take 12 rfl (by kernel_rfl) (by kernel_rfl) (by kernel_rfl) rfl rfl (Yl.indexF un22 sz30 rfl rfl hF rfl (by omega)) rfl ?_
                refine WD.one 13 (by kernel_rfl) ?_
                refine WO.sto rfl rfl .no (Sto.elemV (j := p) (u := B[q]!) (xs := B.toList) vtK (fun _ _ => trivial) trivial rfl rfl (by repeat constructor) (by rw [Array.length_toList]; omega) (by omega)) ⟨_, (by repeat' constructor)⟩ ?_
                refine WD.take 14 rfl (by kernel_rfl) (by kernel_rfl) (by kernel_rfl) rfl rfl (Yl.indexF un22 sz30 rfl rfl hF rfl (by omega)) rfl ?_
                refine WD.one 15 (by kernel_rfl) ?_
                refine WO.sto rfl rfl .no (Sto.elemV (j := q) (u := B[p]!) (xs := B.toList.set (p) B[q]!) vtK (fun _ _ => trivial) trivial rfl rfl (by repeat constructor) (by rw [List.length_set, Array.length_toList]; omega) (by omega)) ⟨_, (by repeat' constructor)⟩ ?_
                rw [so_swpK B (p) (q)]
                refine WD.done (by kernel_rfl) ?_
                refine WC.seq ?_
                refine WC.region ?_
                refine WL.y (Yl.move rfl) rfl ?_
                refine WL.y (Yl.add rfl rfl (IntWalk.i64_in _ (by omega))) rfl ?_
                refine WL.y (Yl.assign rfl) rfl ?_
                refine WL.nil ?_
                refine WC.seq ?_
                refine WC.region ?_
                refine WL.y (Yl.move rfl) rfl ?_
                refine WL.y (Yl.sub rfl rfl (IntWalk.i64_in _ (by omega))) rfl ?_
                refine WL.say (t := 104) (v' := .int .i64 ((q - 1 : Nat) : Int)) rfl (by (refine congrArg _ ?_; omega)) ?_
                refine WL.y (Yl.assign rfl) rfl ?_
                refine WL.nil ?_
                refine WC.seq ?_
                refine WC.block ?_
                obtain ⟨T, hT⟩ : ∃ T, partLoop ltK a (p + 1) (q - 1) (swp B p q) = T := ⟨_, rfl⟩
                rw [hT]
                refine WC.loop (α := Nat × Nat × Array Ky) (fun z => [(0, v), (4, .func (.func 60) #[] #[]), (1, .int .i64 (a : Int)), (12, .int .i64 (z.1 : Int)), (13, .int .i64 (z.2.1 : Int))]) (fun z => [rwK v n (z.2.2.toList)]) (fun z => (a < z.1 ∧ z.1 ≤ n) ∧ z.2.1 < n ∧ z.2.2.size = n ∧ partLoop ltK a z.1 z.2.1 z.2.2 = T) (fun z => z.2.1 + 1 - z.1) (p + 1, q - 1, swp B p q) ⟨by dsimp only; omega, by dsimp only; omega, by dsimp only; omega, hT⟩ ⟨(by repeat (first | exact Sub.nil | refine Sub.cons rfl ?_)), _, (by repeat' constructor)⟩ ?_
                rintro ⟨i, j, G⟩ ⟨⟨hai, hin⟩, hjn, hG, hTG⟩
                dsimp only at hai hin hjn hG hTG ⊢
                have hgu := scanUp_ge (fun x => ltK x G[a]!) G j i
                have hgd := scanDown_le (fun x => !ltK x G[a]!) G (scanUp (fun x => ltK x G[a]!) G j i) j
                rw [partLoop_eq] at hTG
                obtain ⟨I, hI⟩ : ∃ I, scanUp (fun x => ltK x G[a]!) G j i = I := ⟨_, rfl⟩
                rw [hI] at hgu hgd hTG
                obtain ⟨J, hJ⟩ : ∃ J, scanDown (fun x => !ltK x G[a]!) G I j = J := ⟨_, rfl⟩
                rw [hJ] at hgd hTG
                refine WC.block ?_
                refine WC.seq ?_
                refine WC.block ?_
                refine WC.loop (α := Nat) (fun y => [(0, v), (4, .func (.func 60) #[] #[]), (1, .int .i64 (a : Int)), (12, .int .i64 (y : Int)), (13, .int .i64 (j : Int))]) (fun _ => [rwK v n (G.toList)]) (fun y => (a < y ∧ y ≤ n) ∧ scanUp (fun x => ltK x G[a]!) G j y = I) (fun y => n + 1 - y) i ⟨⟨hai, hin⟩, hI⟩ ⟨(by repeat (first | exact Sub.nil | refine Sub.cons rfl ?_)), _, (by repeat' constructor)⟩ ?_
                rintro y ⟨⟨hay, hyn⟩, hyI⟩
                refine WC.seq ?_
                refine WC.midX (α := Unit) (fun _ => [(0, v), (4, .func (.func 60) #[] #[]), (1, .int .i64 (a : Int)), (12, .int .i64 (y : Int)), (13, .int .i64 (j : Int)), (120, .bool (decide ((y : Int) ≤ (j : Int)) && ltK G[y]! G[a]!))]) (fun _ => [rwK v n (G.toList)]) (fun _ => True) ?_ ?_
                · refine WC.drawAny (Hs := [rwK v n (G.toList)]) mixed (by kernel_rfl) ⟨_, (by repeat' constructor)⟩ ?_
                  refine WD.take 0 rfl (by kernel_rfl) (by kernel_rfl) (by kernel_rfl) rfl rfl (Yl.move rfl) rfl ?_
                  refine WD.take 1 rfl (by kernel_rfl) (by kernel_rfl) (by kernel_rfl) rfl rfl (Yl.move rfl) rfl ?_
                  refine WD.take 2 rfl (by kernel_rfl) (by kernel_rfl) (by kernel_rfl) rfl rfl (Yl.leq rfl rfl) rfl ?_
                  refine WD.take 3 rfl (by kernel_rfl) (by kernel_rfl) (by kernel_rfl) rfl rfl (Yl.move rfl) rfl ?_
                  refine WD.both (t := 108) rfl (fun g108 => ?_) (fun g108 => ?_)
                  · refine WD.takeOn 4 rfl (by kernel_rfl) (by kernel_rfl) (by kernel_rfl) rfl rfl rfl rfl (Yl.move rfl) rfl ?_
                    have hyj : y ≤ j := by have := of_decide_eq_true g108; omega
                    refine WD.takeOn 5 rfl (by kernel_rfl) (by kernel_rfl) (by kernel_rfl) rfl rfl rfl rfl (Yl.move rfl) rfl ?_
                    refine WD.takeOn 6 rfl (by kernel_rfl) (by kernel_rfl) (by kernel_rfl) rfl rfl rfl rfl (Yl.move rfl) rfl ?_
                    refine WD.takeOn 7 rfl (by kernel_rfl) (by kernel_rfl) (by kernel_rfl) rfl rfl rfl rfl (Yl.indexF un22 sz30 rfl rfl hF rfl (by omega)) rfl ?_
                    refine WD.takeOn 8 rfl (by kernel_rfl) (by kernel_rfl) (by kernel_rfl) rfl rfl rfl rfl (Yl.loadV vtK (fun _ _ => trivial) rfl (Reads.own (by repeat constructor)) (by rw [Array.length_toList]; omega) (so_getK (by omega))) rfl ?_
                    refine WD.takeOn 9 rfl (by kernel_rfl) (by kernel_rfl) (by kernel_rfl) rfl rfl rfl rfl (Yl.move rfl) rfl ?_
                    refine WD.takeOn 10 rfl (by kernel_rfl) (by kernel_rfl) (by kernel_rfl) rfl rfl rfl rfl (Yl.move rfl) rfl ?_
                    refine WD.takeOn 11 rfl (by kernel_rfl) (by kernel_rfl) (by kernel_rfl) rfl rfl rfl rfl (Yl.indexF un22 sz30 rfl rfl hF rfl (by omega)) rfl ?_
                    refine WD.takeOn 12 rfl (by kernel_rfl) (by kernel_rfl) (by kernel_rfl) rfl rfl rfl rfl (Yl.loadV vtK (fun _ _ => trivial) rfl (Reads.own (by repeat constructor)) (by rw [Array.length_toList]; omega) (so_getK (by omega))) rfl ?_
                    refine WD.one 13 (by kernel_rfl) ?_
                    refine WO.callC (f := .tmp 109) (xs := [.tmp 113, .tmp 117]) (cap := []) rfl (.on rfl rfl) rfl rfl en60 (by repeat' constructor) (fun w hw => order_any _ _ w hw.left.here) rfl (fun _ => ⟨_, (by repeat' constructor)⟩) ?_
                    rintro ⟨⟩ -
                    refine WD.takeOn 14 rfl (by kernel_rfl) (by kernel_rfl) (by kernel_rfl) rfl rfl rfl rfl (Yl.lss rfl rfl) rfl ?_
                    refine WD.say (t := 119) (v' := .bool (ltK _ _)) rfl (by rfl) ?_
                    refine WD.take 15 rfl (by kernel_rfl) (by kernel_rfl) (by kernel_rfl) rfl rfl (Yl.pickT rfl rfl) rfl ?_
                    refine WD.say (t := 120) (v' := .bool (decide ((y : Int) ≤ (j : Int)) && ltK G[y]! G[a]!)) rfl (by (rw [g108]; rfl)) ?_
                    refine WD.done (by kernel_rfl) ?_
                    exact ⟨rfl, (), trivial, (by repeat (first | exact Sub.nil | refine Sub.cons rfl ?_)), _, (by repeat' constructor)⟩
                  · refine WD.takeOff 4 rfl (by kernel_rfl) (by kernel_rfl) (by kernel_rfl) rfl rfl rfl rfl rfl rfl ?_
                    refine WD.takeOff 5 rfl (by kernel_rfl) (by kernel_rfl) (by kernel_rfl) rfl rfl rfl rfl rfl rfl ?_
                    refine WD.takeOff 6 rfl (by kernel_rfl) (by kernel_rfl) (by kernel_rfl) rfl rfl rfl rfl rfl rfl ?_
                    refine WD.takeOff 7 rfl (by kernel_rfl) (by kernel_rfl) (by kernel_rfl) rfl rfl rfl rfl rfl rfl ?_
                    refine WD.takeOff 8 rfl (by kernel_rfl) (by kernel_rfl) (by kernel_rfl) rfl rfl rfl rfl rfl rfl ?_
                    refine WD.takeOff 9 rfl (by kernel_rfl) (by kernel_rfl) (by kernel_rfl) rfl rfl rfl rfl rfl rfl ?_
                    refine WD.takeOff 10 rfl (by kernel_rfl) (by kernel_rfl) (by kernel_rfl) rfl rfl rfl rfl rfl rfl ?_
                    refine WD.takeOff 11 rfl (by kernel_rfl) (by kernel_rfl) (by kernel_rfl) rfl rfl rfl rfl rfl rfl ?_
                    refine WD.takeOff 12 rfl (by kernel_rfl) (by kernel_rfl) (by kernel_rfl) rfl rfl rfl rfl rfl rfl ?_
                    refine WD.one 13 (by kernel_rfl) ?_
                    refine WO.off rfl rfl rfl rfl rfl rfl rfl ?_
                    refine WD.takeOff 14 rfl (by kernel_rfl) (by kernel_rfl) (by kernel_rfl) rfl rfl rfl rfl rfl rfl ?_
                    refine WD.take 15 rfl (by kernel_rfl) (by kernel_rfl) (by kernel_rfl) rfl rfl (Yl.pickF rfl rfl) rfl ?_
                    refine WD.say (t := 120) (v' := .bool (decide ((y : Int) ≤ (j : Int)) && ltK G[y]! G[a]!)) rfl (by (rw [g108]; rfl)) ?_
                    refine WD.done (by kernel_rfl) ?_
                    exact ⟨rfl, (), trivial, (by repeat (first | exact Sub.nil | refine Sub.cons rfl ?_)), _, (by repeat' constructor)⟩
                · rintro ⟨⟩ -
                  refine WC.cond rfl (fun g120 => ?_) (fun g120 => ?_)
                  · refine WC.skip ?_
                    refine WC.block ?_
                    have hyj := and_le g120
                    refine WC.region ?_
                    refine WL.y (Yl.move rfl) rfl ?_
                    refine WL.y (Yl.add rfl rfl (IntWalk.i64_in _ (by omega))) rfl ?_
                    refine WL.y (Yl.assign rfl) rfl ?_
                    refine WL.nil ?_
                    exact ⟨rfl, y + 1, ⟨by omega, by rw [← up_go g120]; exact hyI⟩, by omega, (by repeat (first | exact Sub.nil | refine Sub.cons rfl ?_)), _, (by repeat' constructor)⟩
                  · refine WC.exit ?_
                    refine WC.seq ?_
                    refine WC.block ?_
                    have hye : y = I := by rw [← hyI]; exact (up_stop g120).symm
                    subst hye
                    refine WC.loop (α := Nat) (fun z => [(0, v), (4, .func (.func 60) #[] #[]), (1, .int .i64 (a : Int)), (12, .int .i64 (y : Int)), (13, .int .i64 (z : Int))]) (fun _ => [rwK v n (G.toList)]) (fun z => z < n ∧ scanDown (fun x => !ltK x G[a]!) G y z = J) (fun z => z) j ⟨hjn, hJ⟩ ⟨(by repeat (first | exact Sub.nil | refine Sub.cons rfl ?_)), _, (by repeat' constructor)⟩ ?_
                    rintro z ⟨hzn, hzJ⟩
                    refine WC.seq ?_
                    refine WC.midX (α := Unit) (fun _ => [(0, v), (4, .func (.func 60) #[] #[]), (1, .int .i64 (a : Int)), (12, .int .i64 (y : Int)), (13, .int .i64 (z : Int)), (139, .bool (decide ((y : Int) ≤ (z : Int)) && !ltK G[z]! G[a]!))]) (fun _ => [rwK v n (G.toList)]) (fun _ => True) ?_ ?_
                    · refine WC.drawAny (Hs := [rwK v n (G.toList)]) mixed (by kernel_rfl) ⟨_, (by repeat' constructor)⟩ ?_
                      refine WD.take 0 rfl (by kernel_rfl) (by kernel_rfl) (by kernel_rfl) rfl rfl (Yl.move rfl) rfl ?_
                      refine WD.take 1 rfl (by kernel_rfl) (by kernel_rfl) (by kernel_rfl) rfl rfl (Yl.move rfl) rfl ?_
                      refine WD.take 2 rfl (by kernel_rfl) (by kernel_rfl) (by kernel_rfl) rfl rfl (Yl.leq rfl rfl) rfl ?_
                      refine WD.take 3 rfl (by kernel_rfl) (by kernel_rfl) (by kernel_rfl) rfl rfl (Yl.move rfl) rfl ?_
                      refine WD.both (t := 126) rfl (fun g126 => ?_) (fun g126 => ?_)
                      · refine WD.takeOn 4 rfl (by kernel_rfl) (by kernel_rfl) (by kernel_rfl) rfl rfl rfl rfl (Yl.move rfl) rfl ?_
                        refine WD.takeOn 5 rfl (by kernel_rfl) (by kernel_rfl) (by kernel_rfl) rfl rfl rfl rfl (Yl.move rfl) rfl ?_
                        refine WD.takeOn 6 rfl (by kernel_rfl) (by kernel_rfl) (by kernel_rfl) rfl rfl rfl rfl (Yl.move rfl) rfl ?_
                        refine WD.takeOn 7 rfl (by kernel_rfl) (by kernel_rfl) (by kernel_rfl) rfl rfl rfl rfl (Yl.indexF un22 sz30 rfl rfl hF rfl (by omega)) rfl ?_
                        refine WD.takeOn 8 rfl (by kernel_rfl) (by kernel_rfl) (by kernel_rfl) rfl rfl rfl rfl (Yl.loadV vtK (fun _ _ => trivial) rfl (Reads.own (by repeat constructor)) (by rw [Array.length_toList]; omega) (so_getK (by omega))) rfl ?_
                        refine WD.takeOn 9 rfl (by kernel_rfl) (by kernel_rfl) (by kernel_rfl) rfl rfl rfl rfl (Yl.move rfl) rfl ?_
                        refine WD.takeOn 10 rfl (by kernel_rfl) (by kernel_rfl) (by kernel_rfl) rfl rfl rfl rfl (Yl.move rfl) rfl ?_
                        refine WD.takeOn 11 rfl (by kernel_rfl) (by kernel_rfl) (by kernel_rfl) rfl rfl rfl rfl (Yl.indexF un22 sz30 rfl rfl hF rfl (by omega)) rfl ?_
                        refine WD.takeOn 12 rfl (by kernel_rfl) (by kernel_rfl) (by kernel_rfl) rfl rfl rfl rfl (Yl.loadV vtK (fun _ _ => trivial) rfl (Reads.own (by repeat constructor)) (by rw [Array.length_toList]; omega) (so_getK (by omega))) rfl ?_
                        refine WD.one 13 (by kernel_rfl) ?_
                        refine WO.callC (f := .tmp 127) (xs := [.tmp 131, .tmp 135]) (cap := []) rfl (.on rfl rfl) rfl rfl en60 (by repeat' constructor) (fun w hw => order_any _ _ w hw.left.here) rfl (fun _ => ⟨_, (by repeat' constructor)⟩) ?_
                        rintro ⟨⟩ -
                        refine WD.takeOn 14 rfl (by kernel_rfl) (by kernel_rfl) (by kernel_rfl) rfl rfl rfl rfl (Yl.lss rfl rfl) rfl ?_
                        refine WD.say (t := 137) (v' := .bool (ltK _ _)) rfl (by rfl) ?_
                        refine WD.takeOn 15 rfl (by kernel_rfl) (by kernel_rfl) (by kernel_rfl) rfl rfl rfl rfl (Yl.not rfl) rfl ?_
                        refine WD.take 16 rfl (by kernel_rfl) (by kernel_rfl) (by kernel_rfl) rfl rfl (Yl.pickT rfl rfl) rfl ?_
                        refine WD.say (t := 139) (v' := .bool (decide ((y : Int) ≤ (z : Int)) && !ltK G[z]! G[a]!)) rfl (by (rw [g126]; rfl)) ?_
                        refine WD.done (by kernel_rfl) ?_
                        exact ⟨rfl, (), trivial, (by repeat (first | exact Sub.nil | refine Sub.cons rfl ?_)), _, (by repeat' constructor)⟩
                      · refine WD.takeOff 4 rfl (by kernel_rfl) (by kernel_rfl) (by kernel_rfl) rfl rfl rfl rfl rfl rfl ?_
                        refine WD.takeOff 5 rfl (by kernel_rfl) (by kernel_rfl) (by kernel_rfl) rfl rfl rfl rfl rfl rfl ?_
                        refine WD.takeOff 6 rfl (by kernel_rfl) (by kernel_rfl) (by kernel_rfl) rfl rfl rfl rfl rfl rfl ?_
                        refine WD.takeOff 7 rfl (by kernel_rfl) (by kernel_rfl) (by kernel_rfl) rfl rfl rfl rfl rfl rfl ?_
                        refine WD.takeOff 8 rfl (by kernel_rfl) (by kernel_rfl) (by kernel_rfl) rfl rfl rfl rfl rfl rfl ?_
                        refine WD.takeOff 9 rfl (by kernel_rfl) (by kernel_rfl) (by kernel_rfl) rfl rfl rfl rfl rfl rfl ?_
                        refine WD.takeOff 10 rfl (by kernel_rfl) (by kernel_rfl) (by kernel_rfl) rfl rfl rfl rfl rfl rfl ?_
                        refine WD.takeOff 11 rfl (by kernel_rfl) (by kernel_rfl) (by kernel_rfl) rfl rfl rfl rfl rfl rfl ?_
                        refine WD.takeOff 12 rfl (by kernel_rfl) (by kernel_rfl) (by kernel_rfl) rfl rfl rfl rfl rfl rfl ?_
                        refine WD.one 13 (by kernel_rfl) ?_
                        refine WO.off rfl rfl rfl rfl rfl rfl rfl ?_
                        refine WD.takeOff 14 rfl (by kernel_rfl) (by kernel_rfl) (by kernel_rfl) rfl rfl rfl rfl rfl rfl ?_
                        refine WD.takeOff 15 rfl (by kernel_rfl) (by kernel_rfl) (by kernel_rfl) rfl rfl rfl rfl rfl rfl ?_
                        refine WD.take 16 rfl (by kernel_rfl) (by kernel_rfl) (by kernel_rfl) rfl rfl (Yl.pickF rfl rfl) rfl ?_
                        refine WD.say (t := 139) (v' := .bool (decide ((y : Int) ≤ (z : Int)) && !ltK G[z]! G[a]!)) rfl (by (rw [g126]; rfl)) ?_
                        refine WD.done (by kernel_rfl) ?_
                        exact ⟨rfl, (), trivial, (by repeat (first | exact Sub.nil | refine Sub.cons rfl ?_)), _, (by repeat' constructor)⟩
                    · rintro ⟨⟩ -
                      refine WC.cond rfl (fun g139 => ?_) (fun g139 => ?_)
                      · refine WC.skip ?_
                        refine WC.block ?_
                        have hyz := and_le g139
                        refine WC.region ?_
                        refine WL.y (Yl.move rfl) rfl ?_
                        refine WL.y (Yl.sub rfl rfl (IntWalk.i64_in _ (by omega))) rfl ?_
                        refine WL.say (t := 141) (v' := .int .i64 ((z - 1 : Nat) : Int)) rfl (by (refine congrArg _ ?_; omega)) ?_
                        refine WL.y (Yl.assign rfl) rfl ?_
                        refine WL.nil ?_
                        exact ⟨rfl, z - 1, ⟨by omega, by rw [← down_go (by omega) g139]; exact hzJ⟩, by omega, (by repeat (first | exact Sub.nil | refine Sub.cons rfl ?_)), _, (by repeat' constructor)⟩
                      · refine WC.exit ?_
                        refine WC.seq ?_
                        refine WC.seq ?_
                        have hze : z = J := by rw [← hzJ]; exact (down_stop (by omega) g139).symm
                        subst hze
                        refine WC.region ?_
                        refine WL.y (Yl.move rfl) rfl ?_
                        refine WL.y (Yl.move rfl) rfl ?_
                        refine WL.y (Yl.gtr rfl rfl) rfl ?_
                        refine WL.nil ?_
                        refine WC.condD rfl (fun g144 => ?_) (fun g144 => ?_)
                        · refine WC.exit ?_
                          refine WC.seq ?_
                          have hyz : y > z := by omega
                          rw [if_pos hyz] at hTG
                          subst hTG
                          dsimp only
                          refine WC.drawAny (Hs := []) mixed (by kernel_rfl) ⟨_, (by repeat' constructor)⟩ ?_
                          refine WD.take 0 rfl (by kernel_rfl) (by kernel_rfl) (by kernel_rfl) rfl rfl (Yl.move rfl) rfl ?_
                          refine WD.take 1 rfl (by kernel_rfl) (by kernel_rfl) (by kernel_rfl) rfl rfl (Yl.move rfl) rfl ?_
                          refine WD.take 2 rfl (by kernel_rfl) (by kernel_rfl) (by kernel_rfl) rfl rfl (Yl.move rfl) rfl ?_
                          refine WD.take 3 rfl (by kernel_rfl) (by kernel_rfl) (by kernel_rfl) rfl rfl (Yl.move rfl) rfl ?_
                          refine WD.take 4 rfl (by kernel_rfl) (by kernel_rfl) (by kernel_rfl) rfl rfl (Yl.move rfl) rfl ?_
                          refine WD.take 5 rfl (by kernel_rfl) (by kernel_rfl) (by kernel_rfl) rfl rfl (Yl.move rfl) rfl ?_
                          refine WD.take 6 rfl (by kernel_rfl) (by kernel_rfl) (by kernel_rfl) rfl rfl (Yl.indexF un22 sz30 rfl rfl hF rfl (by omega)) rfl ?_
                          refine WD.take 8 rfl (by kernel_rfl) (by kernel_rfl) (by kernel_rfl) rfl rfl (Yl.move rfl) rfl ?_
                          refine WD.take 9 rfl (by kernel_rfl) (by kernel_rfl) (by kernel_rfl) rfl rfl (Yl.move rfl) rfl ?_
                          refine WD.take 10 rfl (by kernel_rfl) (by kernel_rfl) (by kernel_rfl) rfl rfl (Yl.indexF un22 sz30 rfl rfl hF rfl (by omega)) rfl ?_
                          refine WD.two 7 11 (by kernel_rfl) ?_ ?_
                          · refine WO.y rfl rfl .no (Yl.loadV vtK (fun _ _ => trivial) rfl (Reads.own (by repeat constructor)) (by rw [Array.length_toList]; omega) (so_getK (by omega))) rfl ?_
                            refine WD.one 11 (by kernel_rfl) ?_
                            refine WO.y rfl rfl .no (Yl.loadV vtK (fun _ _ => trivial) rfl (Reads.own (by repeat constructor)) (by rw [Array.length_toList]; omega) (so_getK (by omega))) rfl ?_
                            refine WD.take 12 rfl (by kernel_rfl) (by kernel_rfl) (by kernel_rfl) rfl rfl (Yl.indexF un22 sz30 rfl rfl hF rfl (by omega)) rfl ?_
                            refine WD.one 13 (by kernel_rfl) ?_
                            refine WO.sto rfl rfl .no (Sto.elemV (j := z) (u := G[a]!) (xs := G.toList) vtK (fun _ _ => trivial) trivial rfl rfl (by repeat constructor) (by rw [Array.length_toList]; omega) (by omega)) ⟨_, (by repeat' constructor)⟩ ?_
                            refine WD.take 14 rfl (by kernel_rfl) (by kernel_rfl) (by kernel_rfl) rfl rfl (Yl.indexF un22 sz30 rfl rfl hF rfl (by omega)) rfl ?_
                            refine WD.one 15 (by kernel_rfl) ?_
                            refine WO.sto rfl rfl .no (Sto.elemV (j := a) (u := G[z]!) (xs := G.toList.set (z) G[a]!) vtK (fun _ _ => trivial) trivial rfl rfl (by repeat constructor) (by rw [List.length_set, Array.length_toList]; omega) (by omega)) ⟨_, (by repeat' constructor)⟩ ?_
                            rw [so_swpK G (z) (a)]
                            refine WD.done (by kernel_rfl) ?_
                            refine WC.seq ?_
                            refine WC.region ?_
                            refine WL.y (Yl.move rfl) rfl ?_
                            refine WL.y (Yl.assign rfl) rfl ?_
                            refine WL.y (Yl.assign rfl) rfl ?_
                            refine WL.nil ?_
                            refine WC.ret ?_
                            repeat (with_reducible (first | refine peelT ?_ | refine peelB ?_ | refine peelTX ?_ | refine peelBX ?_ | refine peelBN ?_ | refine peelBO rfl ?_))
                            exact ret2 (.inr rfl) Tryz.results104 rfl rfl fun w' h => ⟨(), trivial, rfl, h.sub (by repeat' constructor)⟩
                          · refine WO.y rfl rfl .no (Yl.loadV vtK (fun _ _ => trivial) rfl (Reads.own (by repeat constructor)) (by rw [Array.length_toList]; omega) (so_getK (by omega))) rfl ?_
                            refine WD.one 7 (by kernel_rfl) ?_
                            refine WO.y rfl rfl .no (Yl.loadV vtK (fun _ _ => trivial) rfl (Reads.own (by repeat constructor)) (by rw [Array.length_toList]; omega) (so_getK (by omega))) rfl ?_
                            refine WD.take 12 rfl (by kernel_rfl) (by kernel_rfl) (by kernel_rfl) rfl rfl (Yl.indexF un22 sz30 rfl rfl hF rfl (by omega)) rfl ?_
                            refine WD.one 13 (by kernel_rfl) ?_
                            refine WO.sto rfl rfl .no (Sto.elemV (j := z) (u := G[a]!) (xs := G.toList) vtK (fun _ _ => trivial) trivial rfl rfl (by repeat constructor) (by rw [Array.length_toList]; omega) (by omega)) ⟨_, (by repeat' constructor)⟩ ?_
                            refine WD.take 14 rfl (by kernel_rfl) (by kernel_rfl) (by kernel_rfl) rfl rfl (Yl.indexF un22 sz30 rfl rfl hF rfl (by omega)) rfl ?_
                            refine WD.one 15 (by kernel_rfl) ?_
                            refine WO.sto rfl rfl .no (Sto.elemV (j := a) (u := G[z]!) (xs := G.toList.set (z) G[a]!) vtK (fun _ _ => trivial) trivial rfl rfl (by repeat constructor) (by rw [List.length_set, Array.length_toList]; omega) (by omega)) ⟨_, (by repeat' constructor)⟩ ?_
                            rw [so_swpK G (z) (a)]
                            refine WD.done (by kernel_rfl) ?_
                            refine WC.seq ?_
                            refine WC.region ?_
                            refine WL.y (Yl.move rfl) rfl ?_
                            refine WL.y (Yl.assign rfl) rfl ?_
                            refine WL.y (Yl.assign rfl) rfl ?_
                            refine WL.nil ?_
                            refine WC.ret ?_
                            repeat (with_reducible (first | refine peelT ?_ | refine peelB ?_ | refine peelTX ?_ | refine peelBX ?_ | refine peelBN ?_ | refine peelBO rfl ?_))
                            exact ret2 (.inr rfl) Tryz.results104 rfl rfl fun w' h => ⟨(), trivial, rfl, h.sub (by repeat' constructor)⟩
                        · refine WC.skip ?_
                          refine WC.seq ?_
                          have hyz : ¬ y > z := by omega
                          rw [if_neg hyz] at hTG
                          refine WC.drawAny (Hs := []) mixed (by kernel_rfl) ⟨_, (by repeat' constructor)⟩ ?_
                          refine WD.take 0 rfl (by kernel_rfl) (by kernel_rfl) (by kernel_rfl) rfl rfl (Yl.move rfl) rfl ?_
                          refine WD.take 1 rfl (by kernel_rfl) (by kernel_rfl) (by kernel_rfl) rfl rfl (Yl.move rfl) rfl ?_
                          refine WD.take 2 rfl (by kernel_rfl) (by kernel_rfl) (by kernel_rfl) rfl rfl (Yl.move rfl) rfl ?_
                          refine WD.take 3 rfl (by kernel_rfl) (by kernel_rfl) (by kernel_rfl) rfl rfl (Yl.move rfl) rfl ?_
                          refine WD.take 4 rfl (by kernel_rfl) (by kernel_rfl) (by kernel_rfl) rfl rfl (Yl.move rfl) rfl ?_
                          refine WD.take 5 rfl (by kernel_rfl) (by kernel_rfl) (by kernel_rfl) rfl rfl (Yl.move rfl) rfl ?_
                          refine WD.take 6 rfl (by kernel_rfl) (by kernel_rfl) (by kernel_rfl) rfl rfl (Yl.indexF un22 sz30 rfl rfl hF rfl (by omega)) rfl ?_
                          refine WD.take 8 rfl (by kernel_rfl) (by kernel_rfl) (by kernel_rfl) rfl rfl (Yl.move rfl) rfl ?_
                          refine WD.take 9 rfl (by kernel_rfl) (by kernel_rfl) (by kernel_rfl) rfl rfl (Yl.move rfl) rfl ?_
                          refine WD.take 10 rfl (by kernel_rfl) (by kernel_rfl) (by kernel_rfl) rfl rfl (Yl.indexF un22 sz30 rfl rfl hF rfl (by omega)) rfl ?_
                          refine WD.two 7 11 (by kernel_rfl) ?_ ?_
                          · refine WO.y rfl rfl .no (Yl.loadV vtK (fun _ _ => trivial) rfl (Reads.own (by repeat constructor)) (by rw [Array.length_toList]; omega) (so_getK (by omega))) rfl ?_
                            refine WD.one 11 (by kernel_rfl) ?_
                            refine WO.y rfl rfl .no (Yl.loadV vtK (fun _ _ => trivial) rfl (Reads.own (by repeat constructor)) (by rw [Array.length_toList]; omega) (so_getK (by omega))) rfl ?_
                            refine WD.take 12 rfl (by kernel_rfl) (by kernel_rfl) (by kernel_rfl) rfl rfl (Yl.indexF un22 sz30 rfl rfl hF rfl (by omega)) rfl ?_
                            refine WD.one 13 (by kernel_rfl) ?_
                            refine WO.sto rfl rfl .no (Sto.elemV (j := y) (u := G[z]!) (xs := G.toList) vtK (fun _ _ => trivial) trivial rfl rfl (by repeat constructor) (by rw [Array.length_toList]; omega) (by omega)) ⟨_, (by repeat' constructor)⟩ ?_
                            refine WD.take 14 rfl (by kernel_rfl) (by kernel_rfl) (by kernel_rfl) rfl rfl (Yl.indexF un22 sz30 rfl rfl hF rfl (by omega)) rfl ?_
                            refine WD.one 15 (by kernel_rfl) ?_
                            refine WO.sto rfl rfl .no (Sto.elemV (j := z) (u := G[y]!) (xs := G.toList.set (y) G[z]!) vtK (fun _ _ => trivial) trivial rfl rfl (by repeat constructor) (by rw [List.length_set, Array.length_toList]; omega) (by omega)) ⟨_, (by repeat' constructor)⟩ ?_
                            rw [so_swpK G (y) (z)]
                            refine WD.done (by kernel_rfl) ?_
                            refine WC.seq ?_
                            refine WC.region ?_
                            refine WL.y (Yl.move rfl) rfl ?_
                            refine WL.y (Yl.add rfl rfl (IntWalk.i64_in _ (by omega))) rfl ?_
                            refine WL.y (Yl.assign rfl) rfl ?_
                            refine WL.nil ?_
                            refine WC.region ?_
                            refine WL.y (Yl.move rfl) rfl ?_
                            refine WL.y (Yl.sub rfl rfl (IntWalk.i64_in _ (by omega))) rfl ?_
                            refine WL.say (t := 162) (v' := .int .i64 ((z - 1 : Nat) : Int)) rfl (by (refine congrArg _ ?_; omega)) ?_
                            refine WL.y (Yl.assign rfl) rfl ?_
                            refine WL.nil ?_
                            exact ⟨rfl, (y + 1, z - 1, swp G y z), ⟨by dsimp only; omega, by dsimp only; omega, by dsimp only; rw [swp_size]; exact hG, hTG⟩, by dsimp only; omega, (by repeat (first | exact Sub.nil | refine Sub.cons rfl ?_)), _, (by repeat' constructor)⟩
                          · refine WO.y rfl rfl .no (Yl.loadV vtK (fun _ _ => trivial) rfl (Reads.own (by repeat constructor)) (by rw [Array.length_toList]; omega) (so_getK (by omega))) rfl ?_
                            refine WD.one 7 (by kernel_rfl) ?_
                            refine WO.y rfl rfl .no (Yl.loadV vtK (fun _ _ => trivial) rfl (Reads.own (by repeat constructor)) (by rw [Array.length_toList]; omega) (so_getK (by omega))) rfl ?_
                            refine WD.take 12 rfl (by kernel_rfl) (by kernel_rfl) (by kernel_rfl) rfl rfl (Yl.indexF un22 sz30 rfl rfl hF rfl (by omega)) rfl ?_
                            refine WD.one 13 (by kernel_rfl) ?_
                            refine WO.sto rfl rfl .no (Sto.elemV (j := y) (u := G[z]!) (xs := G.toList) vtK (fun _ _ => trivial) trivial rfl rfl (by repeat constructor) (by rw [Array.length_toList]; omega) (by omega)) ⟨_, (by repeat' constructor)⟩ ?_
                            refine WD.take 14 rfl (by kernel_rfl) (by kernel_rfl) (by kernel_rfl) rfl rfl (Yl.indexF un22 sz30 rfl rfl hF rfl (by omega)) rfl ?_
                            refine WD.one 15 (by kernel_rfl) ?_
                            refine WO.sto rfl rfl .no (Sto.elemV (j := z) (u := G[y]!) (xs := G.toList.set (y) G[z]!) vtK (fun _ _ => trivial) trivial rfl rfl (by repeat constructor) (by rw [List.length_set, Array.length_toList]; omega) (by omega)) ⟨_, (by repeat' constructor)⟩ ?_
                            rw [so_swpK G (y) (z)]
                            refine WD.done (by kernel_rfl) ?_
                            refine WC.seq ?_
                            refine WC.region ?_
                            refine WL.y (Yl.move rfl) rfl ?_
                            refine WL.y (Yl.add rfl rfl (IntWalk.i64_in _ (by omega))) rfl ?_
                            refine WL.y (Yl.assign rfl) rfl ?_
                            refine WL.nil ?_
                            refine WC.region ?_
                            refine WL.y (Yl.move rfl) rfl ?_
                            refine WL.y (Yl.sub rfl rfl (IntWalk.i64_in _ (by omega))) rfl ?_
                            refine WL.say (t := 162) (v' := .int .i64 ((z - 1 : Nat) : Int)) rfl (by (refine congrArg _ ?_; omega)) ?_
                            refine WL.y (Yl.assign rfl) rfl ?_
                            refine WL.nil ?_
                            exact ⟨rfl, (y + 1, z - 1, swp G y z), ⟨by dsimp only; omega, by dsimp only; omega, by dsimp only; rw [swp_size]; exact hG, hTG⟩, by dsimp only; omega, (by repeat (first | exact Sub.nil | refine Sub.cons rfl ?_)), _, (by repeat' constructor)⟩
              · refine WO.y rfl rfl .no (Yl.loadV vtK (fun _ _ => trivial) rfl (Reads.own (by repeat constructor)) (by rw [Array.length_toList]; omega) (so_getK (by omega))) rfl ?_
                refine WD.one 7 (by kernel_rfl) ?_
                refine WO.y rfl rfl .no (Yl.loadV vtK (fun _ _ => trivial) rfl (Reads.own (by repeat constructor)) (by rw [Array.length_toList]; omega) (so_getK (by omega))) rfl ?_
                refine WD.take 12 rfl (by kernel_rfl) (by kernel_rfl) (by kernel_rfl) rfl rfl (Yl.indexF un22 sz30 rfl rfl hF rfl (by omega)) rfl ?_
                refine WD.one 13 (by kernel_rfl) ?_
                refine WO.sto rfl rfl .no (Sto.elemV (j := p) (u := B[q]!) (xs := B.toList) vtK (fun _ _ => trivial) trivial rfl rfl (by repeat constructor) (by rw [Array.length_toList]; omega) (by omega)) ⟨_, (by repeat' constructor)⟩ ?_
                refine WD.take 14 rfl (by kernel_rfl) (by kernel_rfl) (by kernel_rfl) rfl rfl (Yl.indexF un22 sz30 rfl rfl hF rfl (by omega)) rfl ?_
                refine WD.one 15 (by kernel_rfl) ?_
                refine WO.sto rfl rfl .no (Sto.elemV (j := q) (u := B[p]!) (xs := B.toList.set (p) B[q]!) vtK (fun _ _ => trivial) trivial rfl rfl (by repeat constructor) (by rw [List.length_set, Array.length_toList]; omega) (by omega)) ⟨_, (by repeat' constructor)⟩ ?_
                rw [so_swpK B (p) (q)]
                refine WD.done (by kernel_rfl) ?_
                refine WC.seq ?_
                refine WC.region ?_
                refine WL.y (Yl.move rfl) rfl ?_
                refine WL.y (Yl.add rfl rfl (IntWalk.i64_in _ (by omega))) rfl ?_
                refine WL.y (Yl.assign rfl) rfl ?_
                refine WL.nil ?_
                refine WC.seq ?_
                refine WC.region ?_
                refine WL.y (Yl.move rfl) rfl ?_
                refine WL.y (Yl.sub rfl rfl (IntWalk.i64_in _ (by omega))) rfl ?_
                refine WL.say (t := 104) (v' := .int .i64 ((q - 1 : Nat) : Int)) rfl (by (refine congrArg _ ?_; omega)) ?_
                refine WL.y (Yl.assign rfl) rfl ?_
                refine WL.nil ?_
                refine WC.seq ?_
                refine WC.block ?_
                obtain ⟨T, hT⟩ : ∃ T, partLoop ltK a (p + 1) (q - 1) (swp B p q) = T := ⟨_, rfl⟩
                rw [hT]
                refine WC.loop (α := Nat × Nat × Array Ky) (fun z => [(0, v), (4, .func (.func 60) #[] #[]), (1, .int .i64 (a : Int)), (12, .int .i64 (z.1 : Int)), (13, .int .i64 (z.2.1 : Int))]) (fun z => [rwK v n (z.2.2.toList)]) (fun z => (a < z.1 ∧ z.1 ≤ n) ∧ z.2.1 < n ∧ z.2.2.size = n ∧ partLoop ltK a z.1 z.2.1 z.2.2 = T) (fun z => z.2.1 + 1 - z.1) (p + 1, q - 1, swp B p q) ⟨by dsimp only; omega, by dsimp only; omega, by dsimp only; omega, hT⟩ ⟨(by repeat (first | exact Sub.nil | refine Sub.cons rfl ?_)), _, (by repeat' constructor)⟩ ?_
                rintro ⟨i, j, G⟩ ⟨⟨hai, hin⟩, hjn, hG, hTG⟩
                dsimp only at hai hin hjn hG hTG ⊢
                have hgu := scanUp_ge (fun x => ltK x G[a]!) G j i
                have hgd := scanDown_le (fun x => !ltK x G[a]!) G (scanUp (fun x => ltK x G[a]!) G j i) j
                rw [partLoop_eq] at hTG
                obtain ⟨I, hI⟩ : ∃ I, scanUp (fun x => ltK x G[a]!) G j i = I := ⟨_, rfl⟩
                rw [hI] at hgu hgd hTG
                obtain ⟨J, hJ⟩ : ∃ J, scanDown (fun x => !ltK x G[a]!) G I j = J := ⟨_, rfl⟩
                rw [hJ] at hgd hTG
                refine WC.block ?_
                refine WC.seq ?_
                refine WC.block ?_
                refine WC.loop (α := Nat) (fun y => [(0, v), (4, .func (.func 60) #[] #[]), (1, .int .i64 (a : Int)), (12, .int .i64 (y : Int)), (13, .int .i64 (j : Int))]) (fun _ => [rwK v n (G.toList)]) (fun y => (a < y ∧ y ≤ n) ∧ scanUp (fun x => ltK x G[a]!) G j y = I) (fun y => n + 1 - y) i ⟨⟨hai, hin⟩, hI⟩ ⟨(by repeat (first | exact Sub.nil | refine Sub.cons rfl ?_)), _, (by repeat' constructor)⟩ ?_
                rintro y ⟨⟨hay, hyn⟩, hyI⟩
                refine WC.seq ?_
                refine WC.midX (α := Unit) (fun _ => [(0, v), (4, .func (.func 60) #[] #[]), (1, .int .i64 (a : Int)), (12, .int .i64 (y : Int)), (13, .int .i64 (j : Int)), (120, .bool (decide ((y : Int) ≤ (j : Int)) && ltK G[y]! G[a]!))]) (fun _ => [rwK v n (G.toList)]) (fun _ => True) ?_ ?_
                · refine WC.drawAny (Hs := [rwK v n (G.toList)]) mixed (by kernel_rfl) ⟨_, (by repeat' constructor)⟩ ?_
                  refine WD.take 0 rfl (by kernel_rfl) (by kernel_rfl) (by kernel_rfl) rfl rfl (Yl.move rfl) rfl ?_
                  refine WD.take 1 rfl (by kernel_rfl) (by kernel_rfl) (by kernel_rfl) rfl rfl (Yl.move rfl) rfl ?_
                  refine WD.take 2 rfl (by kernel_rfl) (by kernel_rfl) (by kernel_rfl) rfl rfl (Yl.leq rfl rfl) rfl ?_
                  refine WD.take 3 rfl (by kernel_rfl) (by kernel_rfl) (by kernel_rfl) rfl rfl (Yl.move rfl) rfl ?_
                  refine WD.both (t := 108) rfl (fun g108 => ?_) (fun g108 => ?_)
                  · refine WD.takeOn 4 rfl (by kernel_rfl) (by kernel_rfl) (by kernel_rfl) rfl rfl rfl rfl (Yl.move rfl) rfl ?_
                    have hyj : y ≤ j := by have := of_decide_eq_true g108; omega
                    refine WD.takeOn 5 rfl (by kernel_rfl) (by kernel_rfl) (by kernel_rfl) rfl rfl rfl rfl (Yl.move rfl) rfl ?_
                    refine WD.takeOn 6 rfl (by kernel_rfl) (by kernel_rfl) (by kernel_rfl) rfl rfl rfl rfl (Yl.move rfl) rfl ?_
                    refine WD.takeOn 7 rfl (by kernel_rfl) (by kernel_rfl) (by kernel_rfl) rfl rfl rfl rfl (Yl.indexF un22 sz30 rfl rfl hF rfl (by omega)) rfl ?_
                    refine WD.takeOn 8 rfl (by kernel_rfl) (by kernel_rfl) (by kernel_rfl) rfl rfl rfl rfl (Yl.loadV vtK (fun _ _ => trivial) rfl (Reads.own (by repeat constructor)) (by rw [Array.length_toList]; omega) (so_getK (by omega))) rfl ?_
                    refine WD.takeOn 9 rfl (by kernel_rfl) (by kernel_rfl) (by kernel_rfl) rfl rfl rfl rfl (Yl.move rfl) rfl ?_
                    refine WD.takeOn 10 rfl (by kernel_rfl) (by kernel_rfl) (by kernel_rfl) rfl rfl rfl rfl (Yl.move rfl) rfl ?_
                    refine WD.takeOn 11 rfl (by kernel_rfl) (by kernel_rfl) (by kernel_rfl) rfl rfl rfl rfl (Yl.indexF un22 sz30 rfl rfl hF rfl (by omega)) rfl ?_
                    refine WD.takeOn 12 rfl (by kernel_rfl) (by kernel_rfl) (by kernel_rfl) rfl rfl rfl rfl (Yl.loadV vtK (fun _ _ => trivial) rfl (Reads.own (by repeat constructor)) (by rw [Array.length_toList]; omega) (so_getK (by omega))) rfl ?_
                    refine WD.one 13 (by kernel_rfl) ?_
                    refine WO.callC (f := .tmp 109) (xs := [.tmp 113, .tmp 117]) (cap := []) rfl (.on rfl rfl) rfl rfl en60 (by repeat' constructor) (fun w hw => order_any _ _ w hw.left.here) rfl (fun _ => ⟨_, (by repeat' constructor)⟩) ?_
                    rintro ⟨⟩ -
                    refine WD.takeOn 14 rfl (by kernel_rfl) (by kernel_rfl) (by kernel_rfl) rfl rfl rfl rfl (Yl.lss rfl rfl) rfl ?_
                    refine WD.say (t := 119) (v' := .bool (ltK _ _)) rfl (by rfl) ?_
                    refine WD.take 15 rfl (by kernel_rfl) (by kernel_rfl) (by kernel_rfl) rfl rfl (Yl.pickT rfl rfl) rfl ?_
                    refine WD.say (t := 120) (v' := .bool (decide ((y : Int) ≤ (j : Int)) && ltK G[y]! G[a]!)) rfl (by (rw [g108]; rfl)) ?_
                    refine WD.done (by kernel_rfl) ?_
                    exact ⟨rfl, (), trivial, (by repeat (first | exact Sub.nil | refine Sub.cons rfl ?_)), _, (by repeat' constructor)⟩
                  · refine WD.takeOff 4 rfl (by kernel_rfl) (by kernel_rfl) (by kernel_rfl) rfl rfl rfl rfl rfl rfl ?_
                    refine WD.takeOff 5 rfl (by kernel_rfl) (by kernel_rfl) (by kernel_rfl) rfl rfl rfl rfl rfl rfl ?_
                    refine WD.takeOff 6 rfl (by kernel_rfl) (by kernel_rfl) (by kernel_rfl) rfl rfl rfl rfl rfl rfl ?_
                    refine WD.takeOff 7 rfl (by kernel_rfl) (by kernel_rfl) (by kernel_rfl) rfl rfl rfl rfl rfl rfl ?_
                    refine WD.takeOff 8 rfl (by kernel_rfl) (by kernel_rfl) (by kernel_rfl) rfl rfl rfl rfl rfl rfl ?_
                    refine WD.takeOff 9 rfl (by kernel_rfl) (by kernel_rfl) (by kernel_rfl) rfl rfl rfl rfl rfl rfl ?_
                    refine WD.takeOff 10 rfl (by kernel_rfl) (by kernel_rfl) (by kernel_rfl) rfl rfl rfl rfl rfl rfl ?_
                    refine WD.takeOff 11 rfl (by kernel_rfl) (by kernel_rfl) (by kernel_rfl) rfl rfl rfl rfl rfl rfl ?_
                    refine WD.takeOff 12 rfl (by kernel_rfl) (by kernel_rfl) (by kernel_rfl) rfl rfl rfl rfl rfl rfl ?_
                    refine WD.one 13 (by kernel_rfl) ?_
                    refine WO.off rfl rfl rfl rfl rfl rfl rfl ?_
                    refine WD.takeOff 14 rfl (by kernel_rfl) (by kernel_rfl) (by kernel_rfl) rfl rfl rfl rfl rfl rfl ?_
                    refine WD.take 15 rfl (by kernel_rfl) (by kernel_rfl) (by kernel_rfl) rfl rfl (Yl.pickF rfl rfl) rfl ?_
                    refine WD.say (t := 120) (v' := .bool (decide ((y : Int) ≤ (j : Int)) && ltK G[y]! G[a]!)) rfl (by (rw [g108]; rfl)) ?_
                    refine WD.done (by kernel_rfl) ?_
                    exact ⟨rfl, (), trivial, (by repeat (first | exact Sub.nil | refine Sub.cons rfl ?_)), _, (by repeat' constructor)⟩
                · rintro ⟨⟩ -
                  refine WC.cond rfl (fun g120 => ?_) (fun g120 => ?_)
                  · refine WC.skip ?_
                    refine WC.block ?_
                    have hyj := and_le g120
                    refine WC.region ?_
                    refine WL.y (Yl.move rfl) rfl ?_
                    refine WL.y (Yl.add rfl rfl (IntWalk.i64_in _ (by omega))) rfl ?_
                    refine WL.y (Yl.assign rfl) rfl ?_
                    refine WL.nil ?_
                    exact ⟨rfl, y + 1, ⟨by omega, by rw [← up_go g120]; exact hyI⟩, by omega, (by repeat (first | exact Sub.nil | refine Sub.cons rfl ?_)), _, (by repeat' constructor)⟩
                  · refine WC.exit ?_
                    refine WC.seq ?_
                    refine WC.block ?_
                    have hye : y = I := by rw [← hyI]; exact (up_stop g120).symm
                    subst hye
                    refine WC.loop (α := Nat) (fun z => [(0, v), (4, .func (.func 60) #[] #[]), (1, .int .i64 (a : Int)), (12, .int .i64 (y : Int)), (13, .int .i64 (z : Int))]) (fun _ => [rwK v n (G.toList)]) (fun z => z < n ∧ scanDown (fun x => !ltK x G[a]!) G y z = J) (fun z => z) j ⟨hjn, hJ⟩ ⟨(by repeat (first | exact Sub.nil | refine Sub.cons rfl ?_)), _, (by repeat' constructor)⟩ ?_
                    rintro z ⟨hzn, hzJ⟩
                    refine WC.seq ?_
                    refine WC.midX (α := Unit) (fun _ => [(0, v), (4, .func (.func 60) #[] #[]), (1, .int .i64 (a : Int)), (12, .int .i64 (y : Int)), (13, .int .i64 (z : Int)), (139, .bool (decide ((y : Int) ≤ (z : Int)) && !ltK G[z]! G[a]!))]) (fun _ => [rwK v n (G.toList)]) (fun _ => True) ?_ ?_
                    · refine WC.drawAny (Hs := [rwK v n (G.toList)]) mixed (by kernel_rfl) ⟨_, (by repeat' constructor)⟩ ?_
                      refine WD.take 0 rfl (by kernel_rfl) (by kernel_rfl) (by kernel_rfl) rfl rfl (Yl.move rfl) rfl ?_
                      refine WD.take 1 rfl (by kernel_rfl) (by kernel_rfl) (by kernel_rfl) rfl rfl (Yl.move rfl) rfl ?_
                      refine WD.take 2 rfl (by kernel_rfl) (by kernel_rfl) (by kernel_rfl) rfl rfl (Yl.leq rfl rfl) rfl ?_
                      refine WD.take 3 rfl (by kernel_rfl) (by kernel_rfl) (by kernel_rfl) rfl rfl (Yl.move rfl) rfl ?_
                      refine WD.both (t := 126) rfl (fun g126 => ?_) (fun g126 => ?_)
                      · refine WD.takeOn 4 rfl (by kernel_rfl) (by kernel_rfl) (by kernel_rfl) rfl rfl rfl rfl (Yl.move rfl) rfl ?_
                        refine WD.takeOn 5 rfl (by kernel_rfl) (by kernel_rfl) (by kernel_rfl) rfl rfl rfl rfl (Yl.move rfl) rfl ?_
                        refine WD.takeOn 6 rfl (by kernel_rfl) (by kernel_rfl) (by kernel_rfl) rfl rfl rfl rfl (Yl.move rfl) rfl ?_
                        refine WD.takeOn 7 rfl (by kernel_rfl) (by kernel_rfl) (by kernel_rfl) rfl rfl rfl rfl (Yl.indexF un22 sz30 rfl rfl hF rfl (by omega)) rfl ?_
                        refine WD.takeOn 8 rfl (by kernel_rfl) (by kernel_rfl) (by kernel_rfl) rfl rfl rfl rfl (Yl.loadV vtK (fun _ _ => trivial) rfl (Reads.own (by repeat constructor)) (by rw [Array.length_toList]; omega) (so_getK (by omega))) rfl ?_
                        refine WD.takeOn 9 rfl (by kernel_rfl) (by kernel_rfl) (by kernel_rfl) rfl rfl rfl rfl (Yl.move rfl) rfl ?_
                        refine WD.takeOn 10 rfl (by kernel_rfl) (by kernel_rfl) (by kernel_rfl) rfl rfl rfl rfl (Yl.move rfl) rfl ?_
                        refine WD.takeOn 11 rfl (by kernel_rfl) (by kernel_rfl) (by kernel_rfl) rfl rfl rfl rfl (Yl.indexF un22 sz30 rfl rfl hF rfl (by omega)) rfl ?_
                        refine WD.takeOn 12 rfl (by kernel_rfl) (by kernel_rfl) (by kernel_rfl) rfl rfl rfl rfl (Yl.loadV vtK (fun _ _ => trivial) rfl (Reads.own (by repeat constructor)) (by rw [Array.length_toList]; omega) (so_getK (by omega))) rfl ?_
                        refine WD.one 13 (by kernel_rfl) ?_
                        refine WO.callC (f := .tmp 127) (xs := [.tmp 131, .tmp 135]) (cap := []) rfl (.on rfl rfl) rfl rfl en60 (by repeat' constructor) (fun w hw => order_any _ _ w hw.left.here) rfl (fun _ => ⟨_, (by repeat' constructor)⟩) ?_
                        rintro ⟨⟩ -
                        refine WD.takeOn 14 rfl (by kernel_rfl) (by kernel_rfl) (by kernel_rfl) rfl rfl rfl rfl (Yl.lss rfl rfl) rfl ?_
                        refine WD.say (t := 137) (v' := .bool (ltK _ _)) rfl (by rfl) ?_
                        refine WD.takeOn 15 rfl (by kernel_rfl) (by kernel_rfl) (by kernel_rfl) rfl rfl rfl rfl (Yl.not rfl) rfl ?_
                        refine WD.take 16 rfl (by kernel_rfl) (by kernel_rfl) (by kernel_rfl) rfl rfl (Yl.pickT rfl rfl) rfl ?_
                        refine WD.say (t := 139) (v' := .bool (decide ((y : Int) ≤ (z : Int)) && !ltK G[z]! G[a]!)) rfl (by (rw [g126]; rfl)) ?_
                        refine WD.done (by kernel_rfl) ?_
                        exact ⟨rfl, (), trivial, (by repeat (first | exact Sub.nil | refine Sub.cons rfl ?_)), _, (by repeat' constructor)⟩
                      · refine WD.takeOff 4 rfl (by kernel_rfl) (by kernel_rfl) (by kernel_rfl) rfl rfl rfl rfl rfl rfl ?_
                        refine WD.takeOff 5 rfl (by kernel_rfl) (by kernel_rfl) (by kernel_rfl) rfl rfl rfl rfl rfl rfl ?_
                        refine WD.takeOff 6 rfl (by kernel_rfl) (by kernel_rfl) (by kernel_rfl) rfl rfl rfl rfl rfl rfl ?_
                        refine WD.takeOff 7 rfl (by kernel_rfl) (by kernel_rfl) (by kernel_rfl) rfl rfl rfl rfl rfl rfl ?_
                        refine WD.takeOff 8 rfl (by kernel_rfl) (by kernel_rfl) (by kernel_rfl) rfl rfl rfl rfl rfl rfl ?_
                        refine WD.takeOff 9 rfl (by kernel_rfl) (by kernel_rfl) (by kernel_rfl) rfl rfl rfl rfl rfl rfl ?_
                        refine WD.takeOff 10 rfl (by kernel_rfl) (by kernel_rfl) (by kernel_rfl) rfl rfl rfl rfl rfl rfl ?_
                        refine WD.takeOff 11 rfl (by kernel_rfl) (by kernel_rfl) (by kernel_rfl) rfl rfl rfl rfl rfl rfl ?_
                        refine WD.takeOff 12 rfl (by kernel_rfl) (by kernel_rfl) (by kernel_rfl) rfl rfl rfl rfl rfl rfl ?_
                        refine WD.one 13 (by kernel_rfl) ?_
                        refine WO.off rfl rfl rfl rfl rfl rfl rfl ?_
                        refine WD.takeOff 14 rfl (by kernel_rfl) (by kernel_rfl) (by kernel_rfl) rfl rfl rfl rfl rfl rfl ?_
                        refine WD.takeOff 15 rfl (by kernel_rfl) (by kernel_rfl) (by kernel_rfl) rfl rfl rfl rfl rfl rfl ?_
                        refine WD.take 16 rfl (by kernel_rfl) (by kernel_rfl) (by kernel_rfl) rfl rfl (Yl.pickF rfl rfl) rfl ?_
                        refine WD.say (t := 139) (v' := .bool (decide ((y : Int) ≤ (z : Int)) && !ltK G[z]! G[a]!)) rfl (by (rw [g126]; rfl)) ?_
                        refine WD.done (by kernel_rfl) ?_
                        exact ⟨rfl, (), trivial, (by repeat (first | exact Sub.nil | refine Sub.cons rfl ?_)), _, (by repeat' constructor)⟩
                    · rintro ⟨⟩ -
                      refine WC.cond rfl (fun g139 => ?_) (fun g139 => ?_)
                      · refine WC.skip ?_
                        refine WC.block ?_
                        have hyz := and_le g139
                        refine WC.region ?_
                        refine WL.y (Yl.move rfl) rfl ?_
                        refine WL.y (Yl.sub rfl rfl (IntWalk.i64_in _ (by omega))) rfl ?_
                        refine WL.say (t := 141) (v' := .int .i64 ((z - 1 : Nat) : Int)) rfl (by (refine congrArg _ ?_; omega)) ?_
                        refine WL.y (Yl.assign rfl) rfl ?_
                        refine WL.nil ?_
                        exact ⟨rfl, z - 1, ⟨by omega, by rw [← down_go (by omega) g139]; exact hzJ⟩, by omega, (by repeat (first | exact Sub.nil | refine Sub.cons rfl ?_)), _, (by repeat' constructor)⟩
                      · refine WC.exit ?_
                        refine WC.seq ?_
                        refine WC.seq ?_
                        have hze : z = J := by rw [← hzJ]; exact (down_stop (by omega) g139).symm
                        subst hze
                        refine WC.region ?_
                        refine WL.y (Yl.move rfl) rfl ?_
                        refine WL.y (Yl.move rfl) rfl ?_
                        refine WL.y (Yl.gtr rfl rfl) rfl ?_
                        refine WL.nil ?_
                        refine WC.condD rfl (fun g144 => ?_) (fun g144 => ?_)
                        · refine WC.exit ?_
                          refine WC.seq ?_
                          have hyz : y > z := by omega
                          rw [if_pos hyz] at hTG
                          subst hTG
                          dsimp only
                          refine WC.drawAny (Hs := []) mixed (by kernel_rfl) ⟨_, (by repeat' constructor)⟩ ?_
                          refine WD.take 0 rfl (by kernel_rfl) (by kernel_rfl) (by kernel_rfl) rfl rfl (Yl.move rfl) rfl ?_
                          refine WD.take 1 rfl (by kernel_rfl) (by kernel_rfl) (by kernel_rfl) rfl rfl (Yl.move rfl) rfl ?_
                          refine WD.take 2 rfl (by kernel_rfl) (by kernel_rfl) (by kernel_rfl) rfl rfl (Yl.move rfl) rfl ?_
                          refine WD.take 3 rfl (by kernel_rfl) (by kernel_rfl) (by kernel_rfl) rfl rfl (Yl.move rfl) rfl ?_
                          refine WD.take 4 rfl (by kernel_rfl) (by kernel_rfl) (by kernel_rfl) rfl rfl (Yl.move rfl) rfl ?_
                          refine WD.take 5 rfl (by kernel_rfl) (by kernel_rfl) (by kernel_rfl) rfl rfl (Yl.move rfl) rfl ?_
                          refine WD.take 6 rfl (by kernel_rfl) (by kernel_rfl) (by kernel_rfl) rfl rfl (Yl.indexF un22 sz30 rfl rfl hF rfl (by omega)) rfl ?_
                          refine WD.take 8 rfl (by kernel_rfl) (by kernel_rfl) (by kernel_rfl) rfl rfl (Yl.move rfl) rfl ?_
                          refine WD.take 9 rfl (by kernel_rfl) (by kernel_rfl) (by kernel_rfl) rfl rfl (Yl.move rfl) rfl ?_
                          refine WD.take 10 rfl (by kernel_rfl) (by kernel_rfl) (by kernel_rfl) rfl rfl (Yl.indexF un22 sz30 rfl rfl hF rfl (by omega)) rfl ?_
                          refine WD.two 7 11 (by kernel_rfl) ?_ ?_
                          · refine WO.y rfl rfl .no (Yl.loadV vtK (fun _ _ => trivial) rfl (Reads.own (by repeat constructor)) (by rw [Array.length_toList]; omega) (so_getK (by omega))) rfl ?_
                            refine WD.one 11 (by kernel_rfl) ?_
                            refine WO.y rfl rfl .no (Yl.loadV vtK (fun _ _ => trivial) rfl (Reads.own (by repeat constructor)) (by rw [Array.length_toList]; omega) (so_getK (by omega))) rfl ?_
                            refine WD.take 12 rfl (by kernel_rfl) (by kernel_rfl) (by kernel_rfl) rfl rfl (Yl.indexF un22 sz30 rfl rfl hF rfl (by omega)) rfl ?_
                            refine WD.one 13 (by kernel_rfl) ?_
                            refine WO.sto rfl rfl .no (Sto.elemV (j := z) (u := G[a]!) (xs := G.toList) vtK (fun _ _ => trivial) trivial rfl rfl (by repeat constructor) (by rw [Array.length_toList]; omega) (by omega)) ⟨_, (by repeat' constructor)⟩ ?_
                            refine WD.take 14 rfl (by kernel_rfl) (by kernel_rfl) (by kernel_rfl) rfl rfl (Yl.indexF un22 sz30 rfl rfl hF rfl (by omega)) rfl ?_
                            refine WD.one 15 (by kernel_rfl) ?_
                            refine WO.sto rfl rfl .no (Sto.elemV (j := a) (u := G[z]!) (xs := G.toList.set (z) G[a]!) vtK (fun _ _ => trivial) trivial rfl rfl (by repeat constructor) (by rw [List.length_set, Array.length_toList]; omega) (by omega)) ⟨_, (by repeat' constructor)⟩ ?_
                            rw [so_swpK G (z) (a)]
                            refine WD.done (by kernel_rfl) ?_
                            refine WC.seq ?_
                            refine WC.region ?_
                            refine WL.y (Yl.move rfl) rfl ?_
                            refine WL.y (Yl.assign rfl) rfl ?_
                            refine WL.y (Yl.assign rfl) rfl ?_
                            refine WL.nil ?_
                            refine WC.ret ?_
                            repeat (with_reducible (first | refine peelT ?_ | refine peelB ?_ | refine peelTX ?_ | refine peelBX ?_ | refine peelBN ?_ | refine peelBO rfl ?_))
                            exact ret2 (.inr rfl) Tryz.results104 rfl rfl fun w' h => ⟨(), trivial, rfl, h.sub (by repeat' constructor)⟩
                          · refine WO.y rfl rfl .no (Yl.loadV vtK (fun _ _ => trivial) rfl (Reads.own (by repeat constructor)) (by rw [Array.length_toList]; omega) (so_getK (by omega))) rfl ?_
                            refine WD.one 7 (by kernel_rfl) ?_
                            refine WO.y rfl rfl .no (Yl.loadV vtK (fun _ _ => trivial) rfl (Reads.own (by repeat constructor)) (by rw [Array.length_toList]; omega) (so_getK (by omega))) rfl ?_
                            refine WD.take 12 rfl (by kernel_rfl) (by kernel_rfl) (by kernel_rfl) rfl rfl (Yl.indexF un22 sz30 rfl rfl hF rfl (by omega)) rfl ?_
                            refine WD.one 13 (by kernel_rfl) ?_
                            refine WO.sto rfl rfl .no (Sto.elemV (j := z) (u := G[a]!) (xs := G.toList) vtK (fun _ _ => trivial) trivial rfl rfl (by repeat constructor) (by rw [Array.length_toList]; omega) (by omega)) ⟨_, (by repeat' constructor)⟩ ?_
                            refine WD.take 14 rfl (by kernel_rfl) (by kernel_rfl) (by kernel_rfl) rfl rfl (Yl.indexF un22 sz30 rfl rfl hF rfl (by omega)) rfl ?_
                            refine WD.one 15 (by kernel_rfl) ?_
                            refine WO.sto rfl rfl .no (Sto.elemV (j := a) (u := G[z]!) (xs := G.toList.set (z) G[a]!) vtK (fun _ _ => trivial) trivial rfl rfl (by repeat constructor) (by rw [List.length_set, Array.length_toList]; omega) (by omega)) ⟨_, (by repeat' constructor)⟩ ?_
                            rw [so_swpK G (z) (a)]
                            refine WD.done (by kernel_rfl) ?_
                            refine WC.seq ?_
                            refine WC.region ?_
                            refine WL.y (Yl.move rfl) rfl ?_
                            refine WL.y (Yl.assign rfl) rfl ?_
                            refine WL.y (Yl.assign rfl) rfl ?_
                            refine WL.nil ?_
                            refine WC.ret ?_
                            repeat (with_reducible (first | refine peelT ?_ | refine peelB ?_ | refine peelTX ?_ | refine peelBX ?_ | refine peelBN ?_ | refine peelBO rfl ?_))
                            exact ret2 (.inr rfl) Tryz.results104 rfl rfl fun w' h => ⟨(), trivial, rfl, h.sub (by repeat' constructor)⟩
                        · refine WC.skip ?_
                          refine WC.seq ?_
                          have hyz : ¬ y > z := by omega
                          rw [if_neg hyz] at hTG
                          refine WC.drawAny (Hs := []) mixed (by kernel_rfl) ⟨_, (by repeat' constructor)⟩ ?_
                          refine WD.take 0 rfl (by kernel_rfl) (by kernel_rfl) (by kernel_rfl) rfl rfl (Yl.move rfl) rfl ?_
                          refine WD.take 1 rfl (by kernel_rfl) (by kernel_rfl) (by kernel_rfl) rfl rfl (Yl.move rfl) rfl ?_
                          refine WD.take 2 rfl (by kernel_rfl) (by kernel_rfl) (by kernel_rfl) rfl rfl (Yl.move rfl) rfl ?_
                          refine WD.take 3 rfl (by kernel_rfl) (by kernel_rfl) (by kernel_rfl) rfl rfl (Yl.move rfl) rfl ?_
                          refine WD.take 4 rfl (by kernel_rfl) (by kernel_rfl) (by kernel_rfl) rfl rfl (Yl.move rfl) rfl ?_
                          refine WD.take 5 rfl (by kernel_rfl) (by kernel_rfl) (by kernel_rfl) rfl rfl (Yl.move rfl) rfl ?_
                          refine WD.take 6 rfl (by kernel_rfl) (by kernel_rfl) (by kernel_rfl) rfl rfl (Yl.indexF un22 sz30 rfl rfl hF rfl (by omega)) rfl ?_
                          refine WD.take 8 rfl (by kernel_rfl) (by kernel_rfl) (by kernel_rfl) rfl rfl (Yl.move rfl) rfl ?_
                          refine WD.take 9 rfl (by kernel_rfl) (by kernel_rfl) (by kernel_rfl) rfl rfl (Yl.move rfl) rfl ?_
                          refine WD.take 10 rfl (by kernel_rfl) (by kernel_rfl) (by kernel_rfl) rfl rfl (Yl.indexF un22 sz30 rfl rfl hF rfl (by omega)) rfl ?_
                          refine WD.two 7 11 (by kernel_rfl) ?_ ?_
                          · refine WO.y rfl rfl .no (Yl.loadV vtK (fun _ _ => trivial) rfl (Reads.own (by repeat constructor)) (by rw [Array.length_toList]; omega) (so_getK (by omega))) rfl ?_
                            refine WD.one 11 (by kernel_rfl) ?_
                            refine WO.y rfl rfl .no (Yl.loadV vtK (fun _ _ => trivial) rfl (Reads.own (by repeat constructor)) (by rw [Array.length_toList]; omega) (so_getK (by omega))) rfl ?_
                            refine WD.take 12 rfl (by kernel_rfl) (by kernel_rfl) (by kernel_rfl) rfl rfl (Yl.indexF un22 sz30 rfl rfl hF rfl (by omega)) rfl ?_
                            refine WD.one 13 (by kernel_rfl) ?_
                            refine WO.sto rfl rfl .no (Sto.elemV (j := y) (u := G[z]!) (xs := G.toList) vtK (fun _ _ => trivial) trivial rfl rfl (by repeat constructor) (by rw [Array.length_toList]; omega) (by omega)) ⟨_, (by repeat' constructor)⟩ ?_
                            refine WD.take 14 rfl (by kernel_rfl) (by kernel_rfl) (by kernel_rfl) rfl rfl (Yl.indexF un22 sz30 rfl rfl hF rfl (by omega)) rfl ?_
                            refine WD.one 15 (by kernel_rfl) ?_
                            refine WO.sto rfl rfl .no (Sto.elemV (j := z) (u := G[y]!) (xs := G.toList.set (y) G[z]!) vtK (fun _ _ => trivial) trivial rfl rfl (by repeat constructor) (by rw [List.length_set, Array.length_toList]; omega) (by omega)) ⟨_, (by repeat' constructor)⟩ ?_
                            rw [so_swpK G (y) (z)]
                            refine WD.done (by kernel_rfl) ?_
                            refine WC.seq ?_
                            refine WC.region ?_
                            refine WL.y (Yl.move rfl) rfl ?_
                            refine WL.y (Yl.add rfl rfl (IntWalk.i64_in _ (by omega))) rfl ?_
                            refine WL.y (Yl.assign rfl) rfl ?_
                            refine WL.nil ?_
                            refine WC.region ?_
                            refine WL.y (Yl.move rfl) rfl ?_
                            refine WL.y (Yl.sub rfl rfl (IntWalk.i64_in _ (by omega))) rfl ?_
                            refine WL.say (t := 162) (v' := .int .i64 ((z - 1 : Nat) : Int)) rfl (by (refine congrArg _ ?_; omega)) ?_
                            refine WL.y (Yl.assign rfl) rfl ?_
                            refine WL.nil ?_
                            exact ⟨rfl, (y + 1, z - 1, swp G y z), ⟨by dsimp only; omega, by dsimp only; omega, by dsimp only; rw [swp_size]; exact hG, hTG⟩, by dsimp only; omega, (by repeat (first | exact Sub.nil | refine Sub.cons rfl ?_)), _, (by repeat' constructor)⟩
                          · refine WO.y rfl rfl .no (Yl.loadV vtK (fun _ _ => trivial) rfl (Reads.own (by repeat constructor)) (by rw [Array.length_toList]; omega) (so_getK (by omega))) rfl ?_
                            refine WD.one 7 (by kernel_rfl) ?_
                            refine WO.y rfl rfl .no (Yl.loadV vtK (fun _ _ => trivial) rfl (Reads.own (by repeat constructor)) (by rw [Array.length_toList]; omega) (so_getK (by omega))) rfl ?_
                            refine WD.take 12 rfl (by kernel_rfl) (by kernel_rfl) (by kernel_rfl) rfl rfl (Yl.indexF un22 sz30 rfl rfl hF rfl (by omega)) rfl ?_
                            refine WD.one 13 (by kernel_rfl) ?_
                            refine WO.sto rfl rfl .no (Sto.elemV (j := y) (u := G[z]!) (xs := G.toList) vtK (fun _ _ => trivial) trivial rfl rfl (by repeat constructor) (by rw [Array.length_toList]; omega) (by omega)) ⟨_, (by repeat' constructor)⟩ ?_
                            refine WD.take 14 rfl (by kernel_rfl) (by kernel_rfl) (by kernel_rfl) rfl rfl (Yl.indexF un22 sz30 rfl rfl hF rfl (by omega)) rfl ?_
                            refine WD.one 15 (by kernel_rfl) ?_
                            refine WO.sto rfl rfl .no (Sto.elemV (j := z) (u := G[y]!) (xs := G.toList.set (y) G[z]!) vtK (fun _ _ => trivial) trivial rfl rfl (by repeat constructor) (by rw [List.length_set, Array.length_toList]; omega) (by omega)) ⟨_, (by repeat' constructor)⟩ ?_
                            rw [so_swpK G (y) (z)]
                            refine WD.done (by kernel_rfl) ?_
                            refine WC.seq ?_
                            refine WC.region ?_
                            refine WL.y (Yl.move rfl) rfl ?_
                            refine WL.y (Yl.add rfl rfl (IntWalk.i64_in _ (by omega))) rfl ?_
                            refine WL.y (Yl.assign rfl) rfl ?_
                            refine WL.nil ?_
                            refine WC.region ?_
                            refine WL.y (Yl.move rfl) rfl ?_
                            refine WL.y (Yl.sub rfl rfl (IntWalk.i64_in _ (by omega))) rfl ?_
                            refine WL.say (t := 162) (v' := .int .i64 ((z - 1 : Nat) : Int)) rfl (by (refine congrArg _ ?_; omega)) ?_
                            refine WL.y (Yl.assign rfl) rfl ?_
                            refine WL.nil ?_
                            exact ⟨rfl, (y + 1, z - 1, swp G y z), ⟨by dsimp only; omega, by dsimp only; omega, by dsimp only; rw [swp_size]; exact hG, hTG⟩, by dsimp only; omega, (by repeat (first | exact Sub.nil | refine Sub.cons rfl ?_)), _, (by repeat' constructor)⟩
end Go.Proofs.YtfobhdmhjjafcaaGreatDoorRR
