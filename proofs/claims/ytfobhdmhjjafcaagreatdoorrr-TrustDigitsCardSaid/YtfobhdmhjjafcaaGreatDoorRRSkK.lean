/- Sorting keys: the partial insertion: the walk. -/
import Derived.Test.YtfobhdmhjjafcaaGreatDoorRRSkE
import Derived.Test.YtfobhdmhjjafcaaGreatDoorRRSoG
namespace Go.Proofs.YtfobhdmhjjafcaaGreatDoorRR
open Go Go.RowKit Go.Sort

theorem ltB (i j : Nat) : decide ((i : Int) < (j : Int)) = decide (i < j) := by
  rw [decide_eq_decide]
  omega
theorem ss_go {D : Array Ky} {b i : Nat} (h : (decide ((i : Int) < (b : Int)) && !ltK D[i]! D[i - 1]!) = true) : scanSorted ltK D b i = scanSorted ltK D b (i + 1) := by
  rw [ltB] at h
  conv => lhs; rw [scanSorted]
  rw [if_pos h]
theorem ss_stop {D : Array Ky} {b i : Nat} (h : (decide ((i : Int) < (b : Int)) && !ltK D[i]! D[i - 1]!) = false) : scanSorted ltK D b i = i := by
  rw [ltB] at h
  rw [scanSorted, if_neg (ne_true_of_eq_false h)]
theorem and_lt {i j : Nat} {c : Bool} (h : (decide ((i : Int) < (j : Int)) && c) = true) : i < j := by
  rw [Bool.and_eq_true] at h
  have := of_decide_eq_true h.1
  omega
theorem ss_ge (D : Array Ky) (b i : Nat) : i ≤ scanSorted ltK D b i := by
  induction h : b - i using Nat.strongRecOn generalizing i with
  | ind m ih =>
    by_cases hc : (decide ((i : Int) < (b : Int)) && !ltK D[i]! D[i - 1]!) = true
    · rw [ss_go hc]
      have := ih (b - (i + 1)) (by have := and_lt hc; omega) (i + 1) rfl
      omega
    · rw [ss_stop (by simpa using hc)]
      exact Nat.le_refl _
theorem ss_le {D : Array Ky} {b i : Nat} (hi : i ≤ b) : scanSorted ltK D b i ≤ b := by
  induction h : b - i using Nat.strongRecOn generalizing i with
  | ind m ih =>
    by_cases hc : (decide ((i : Int) < (b : Int)) && !ltK D[i]! D[i - 1]!) = true
    · have := and_lt hc
      rw [ss_go hc]
      exact ih (b - (i + 1)) (by omega) (by omega) rfl
    · rw [ss_stop (by simpa using hc)]
      exact hi
theorem sd_go {D : Array Ky} {j : Nat} (h : 1 ≤ j) (hl : ltK D[j]! D[j - 1]! = true) : shiftDown ltK j D = shiftDown ltK (j - 1) (swp D j (j - 1)) := by
  cases j with
  | zero => omega
  | succ j =>
    replace hl : ltK D[j + 1]! D[j]! = true := hl
    rw [shiftDown, if_neg (by rw [hl]; decide)]
    rfl
theorem sd_stop {D : Array Ky} {j : Nat} (h : ¬ (1 ≤ j ∧ ltK D[j]! D[j - 1]! = true)) : shiftDown ltK j D = D := by
  cases j with
  | zero => rfl
  | succ j =>
    have hl : ltK D[j + 1]! D[j]! = false := by
      cases e : ltK D[j + 1]! D[j]! with
      | false => rfl
      | true => exact absurd ⟨by omega, e⟩ h
    rw [shiftDown, if_pos (by rw [hl]; rfl)]
theorem su_go {D : Array Ky} {b j : Nat} (h : j < b) (hl : ltK D[j]! D[j - 1]! = true) : shiftUp ltK b j D = shiftUp ltK b (j + 1) (swp D j (j - 1)) := by
  conv => lhs; rw [shiftUp]
  rw [if_pos h, if_neg (by rw [hl]; decide)]
theorem su_stop {D : Array Ky} {b j : Nat} (h : ¬ (j < b ∧ ltK D[j]! D[j - 1]! = true)) : shiftUp ltK b j D = D := by
  rw [shiftUp]
  split
  · rename_i e
    have hl : ltK D[j]! D[j - 1]! = false := by
      cases e2 : ltK D[j]! D[j - 1]! with
      | false => rfl
      | true => exact absurd ⟨e, e2⟩ h
    rw [if_pos (by rw [hl]; rfl)]
  · rfl
theorem sd_size : ∀ (j : Nat) (D : Array Ky), (shiftDown ltK j D).size = D.size
  | 0, D => rfl
  | j + 1, D => by
    rw [shiftDown]
    split
    · rfl
    · rw [sd_size j, swp_size]
theorem su_size (b j : Nat) (D : Array Ky) : (shiftUp ltK b j D).size = D.size := by
  induction h : b - j using Nat.strongRecOn generalizing j D with
  | ind m ih =>
    by_cases hc : j < b ∧ ltK D[j]! D[j - 1]! = true
    · rw [su_go hc.1 hc.2, ih (b - (j + 1)) (by omega) _ _ rfl, swp_size]
    · rw [su_stop hc]
/-- One step of the five. -/
def pinD (a : Nat) (D : Array Ky) (I : Nat) : Array Ky := if I - a ≥ 2 then shiftDown ltK (I - 1) (swp D I (I - 1)) else swp D I (I - 1)
def pinU (a b : Nat) (D : Array Ky) (I : Nat) : Array Ky := if b - I ≥ 2 then shiftUp ltK b (I + 1) (pinD a D I) else pinD a D I
theorem pinD_size (a : Nat) (D : Array Ky) (I : Nat) : (pinD a D I).size = D.size := by
  unfold pinD
  split
  · rw [sd_size, swp_size]
  · rw [swp_size]
theorem pinU_size (a b : Nat) (D : Array Ky) (I : Nat) : (pinU a b D I).size = D.size := by
  unfold pinU
  split
  · rw [su_size, pinD_size]
  · rw [pinD_size]
theorem pin_eq (a b s i : Nat) (D : Array Ky) : partialIns ltK a b (s + 1) i D = if scanSorted ltK D b i = b then (D, true) else if b - a < 50 then (D, false) else partialIns ltK a b s (scanSorted ltK D b i) (pinU a b D (scanSorted ltK D b i)) := by
  rw [partialIns]
  rfl

set_option maxHeartbeats 3200000 in
set_option maxRecDepth 100000 in
theorem pinK_any (v : Value) (n : Nat) (D : Array Ky) (a b : Nat) (hD : D.size = n) (hn : n ≤ 1099511627776) (hab : a < b) (hb : b ≤ n) (w : World) (hw : OK w (fpL [rwK v n (D.toList)]) [rwK v n (D.toList)] w) :
    Fn Tryz.prog 102 [v, .int .i64 (a : Int), .int .i64 (b : Int), .func (.func 60) #[] #[]] [rwK v n (D.toList)] w (fun _ : Unit => True) (fun _ => .bool (partialInsertionSort ltK D a b).2) (fun _ => [rwK v n ((partialInsertionSort ltK D a b).1.toList)]) := by
  have hF := sl_form (hw.get (r := rwK v n (D.toList)) .head)
  unfold partialInsertionSort
  obtain ⟨T, hT⟩ : ∃ T, partialIns ltK a b 5 (a + 1) D = T := ⟨_, rfl⟩
  rw [hT]
  refine enterF Tryz.func102 rfl Tryz.ntmps102 rfl hw ?_
  refine WC.seq ?_
  refine WC.region ?_
  refine WL.y (Yl.assign rfl) rfl ?_
  refine WL.nil ?_
  refine WC.seq ?_
  refine WC.region ?_
  refine WL.y (Yl.move rfl) rfl ?_
  refine WL.y (Yl.add rfl rfl (IntWalk.i64_in _ (by omega))) rfl ?_
  refine WL.y (Yl.assign rfl) rfl ?_
  refine WL.nil ?_
  refine WC.seq ?_
  refine WC.seq ?_
  refine WC.region ?_
  refine WL.y (Yl.assign rfl) rfl ?_
  refine WL.nil ?_
  refine WC.block ?_
  refine WC.loop (α := Nat × Nat × Array Ky) (fun p => [(0, v), (3, .func (.func 60) #[] #[]), (1, .int .i64 (a : Int)), (2, .int .i64 (b : Int)), (9, .int .i64 (p.2.1 : Int)), (10, .int .i64 (p.1 : Int))]) (fun p => [rwK v n (p.2.2.toList)]) (fun p => p.1 ≤ 5 ∧ (a < p.2.1 ∧ p.2.1 ≤ b) ∧ p.2.2.size = n ∧ partialIns ltK a b (5 - p.1) p.2.1 p.2.2 = T) (fun p => 5 - p.1) (0, a + 1, D) ⟨by dsimp only; omega, by dsimp only; omega, hD, hT⟩ ⟨(by repeat (first | exact Sub.nil | refine Sub.cons rfl ?_)), _, (by repeat' constructor)⟩ ?_
  rintro ⟨k, i, G⟩ ⟨hk, ⟨hai, hib⟩, hG, hTG⟩
  dsimp only at hk hai hib hG hTG ⊢
  refine WC.seq ?_
  refine WC.seq ?_
  refine WC.region ?_
  refine WL.y (Yl.move rfl) rfl ?_
  refine WL.y (Yl.lss rfl rfl) rfl ?_
  refine WL.nil ?_
  refine WC.condD rfl (fun g16 => ?_) (fun g16 => ?_)
  · refine WC.skip ?_
    refine WC.seq ?_
    refine WC.block ?_
    refine WC.seq ?_
    refine WC.block ?_
    have hk5 : k < 5 := by omega
    rw [show 5 - k = (5 - (k + 1)) + 1 by omega, pin_eq] at hTG
    have hge := ss_ge G b i
    have hle := ss_le (D := G) hib
    obtain ⟨I, hI⟩ : ∃ I, scanSorted ltK G b i = I := ⟨_, rfl⟩
    rw [hI] at hTG hge hle
    have hpd := pinD_size a G I
    have hpu := pinU_size a b G I
    refine WC.loop (α := Nat) (fun p => [(0, v), (3, .func (.func 60) #[] #[]), (1, .int .i64 (a : Int)), (2, .int .i64 (b : Int)), (9, .int .i64 (p : Int)), (10, .int .i64 (k : Int))]) (fun _ => [rwK v n (G.toList)]) (fun p => (a < p ∧ p ≤ b) ∧ scanSorted ltK G b p = I) (fun p => b - p) i ⟨⟨hai, hib⟩, hI⟩ ⟨(by repeat (first | exact Sub.nil | refine Sub.cons rfl ?_)), _, (by repeat' constructor)⟩ ?_
    rintro p ⟨⟨hap, hpb⟩, hpI⟩
    refine WC.seq ?_
    refine WC.midX (α := Unit) (fun _ => [(0, v), (3, .func (.func 60) #[] #[]), (1, .int .i64 (a : Int)), (2, .int .i64 (b : Int)), (9, .int .i64 (p : Int)), (10, .int .i64 (k : Int)), (36, .bool (decide ((p : Int) < (b : Int)) && !ltK G[p]! G[p - 1]!))]) (fun _ => [rwK v n (G.toList)]) (fun _ => True) ?_ ?_
    · refine WC.drawAny (Hs := [rwK v n (G.toList)]) mixed (by kernel_rfl) ⟨_, (by repeat' constructor)⟩ ?_
      refine WD.take 0 rfl (by kernel_rfl) (by kernel_rfl) (by kernel_rfl) rfl rfl (Yl.move rfl) rfl ?_
      refine WD.take 1 rfl (by kernel_rfl) (by kernel_rfl) (by kernel_rfl) rfl rfl (Yl.move rfl) rfl ?_
      refine WD.take 2 rfl (by kernel_rfl) (by kernel_rfl) (by kernel_rfl) rfl rfl (Yl.lss rfl rfl) rfl ?_
      refine WD.take 3 rfl (by kernel_rfl) (by kernel_rfl) (by kernel_rfl) rfl rfl (Yl.move rfl) rfl ?_
      refine WD.both (t := 22) rfl (fun g22 => ?_) (fun g22 => ?_)
      · refine WD.takeOn 4 rfl (by kernel_rfl) (by kernel_rfl) (by kernel_rfl) rfl rfl rfl rfl (Yl.move rfl) rfl ?_
        have hpj : p < b := by have := of_decide_eq_true g22; omega
        refine WD.takeOn 5 rfl (by kernel_rfl) (by kernel_rfl) (by kernel_rfl) rfl rfl rfl rfl (Yl.move rfl) rfl ?_
        refine WD.takeOn 6 rfl (by kernel_rfl) (by kernel_rfl) (by kernel_rfl) rfl rfl rfl rfl (Yl.move rfl) rfl ?_
        refine WD.takeOn 7 rfl (by kernel_rfl) (by kernel_rfl) (by kernel_rfl) rfl rfl rfl rfl (Yl.indexF un22 sz30 rfl rfl hF rfl (by omega)) rfl ?_
        refine WD.takeOn 8 rfl (by kernel_rfl) (by kernel_rfl) (by kernel_rfl) rfl rfl rfl rfl (Yl.loadV vtK (fun _ _ => trivial) rfl (Reads.own (by repeat constructor)) (by rw [Array.length_toList]; omega) (so_getK (by omega))) rfl ?_
        refine WD.takeOn 9 rfl (by kernel_rfl) (by kernel_rfl) (by kernel_rfl) rfl rfl rfl rfl (Yl.move rfl) rfl ?_
        refine WD.takeOn 10 rfl (by kernel_rfl) (by kernel_rfl) (by kernel_rfl) rfl rfl rfl rfl (Yl.move rfl) rfl ?_
        refine WD.takeOn 11 rfl (by kernel_rfl) (by kernel_rfl) (by kernel_rfl) rfl rfl rfl rfl (Yl.sub rfl rfl (IntWalk.i64_in _ (by omega))) rfl ?_
        refine WD.say (t := 30) (v' := .int .i64 ((p - 1 : Nat) : Int)) rfl (by (refine congrArg _ ?_; omega)) ?_
        refine WD.takeOn 12 rfl (by kernel_rfl) (by kernel_rfl) (by kernel_rfl) rfl rfl rfl rfl (Yl.indexF un22 sz30 rfl rfl hF rfl (by omega)) rfl ?_
        refine WD.takeOn 13 rfl (by kernel_rfl) (by kernel_rfl) (by kernel_rfl) rfl rfl rfl rfl (Yl.loadV vtK (fun _ _ => trivial) rfl (Reads.own (by repeat constructor)) (by rw [Array.length_toList]; omega) (so_getK (by omega))) rfl ?_
        refine WD.one 14 (by kernel_rfl) ?_
        refine WO.callC (f := .tmp 23) (xs := [.tmp 27, .tmp 32]) (cap := []) rfl (.on rfl rfl) rfl rfl en60 (by repeat' constructor) (fun w hw => order_any _ _ w hw.left.here) rfl (fun _ => ⟨_, (by repeat' constructor)⟩) ?_
        rintro ⟨⟩ -
        refine WD.takeOn 15 rfl (by kernel_rfl) (by kernel_rfl) (by kernel_rfl) rfl rfl rfl rfl (Yl.lss rfl rfl) rfl ?_
        refine WD.say (t := 34) (v' := .bool (ltK _ _)) rfl (by rfl) ?_
        refine WD.takeOn 16 rfl (by kernel_rfl) (by kernel_rfl) (by kernel_rfl) rfl rfl rfl rfl (Yl.not rfl) rfl ?_
        refine WD.take 17 rfl (by kernel_rfl) (by kernel_rfl) (by kernel_rfl) rfl rfl (Yl.pickT rfl rfl) rfl ?_
        refine WD.say (t := 36) (v' := .bool (decide ((p : Int) < (b : Int)) && !ltK G[p]! G[p - 1]!)) rfl (by (rw [g22]; rfl)) ?_
        refine WD.done (by kernel_rfl) ?_
        exact ⟨rfl, (), trivial, (by repeat (first | exact Sub.nil | refine Sub.cons rfl ?_)), _, (by repeat' constructor)⟩
      · refine WD.takeOff 4 rfl (by kernel_rfl) (by kernel_rfl) (by kernel_rfl) rfl rfl rfl rfl rfl rfl ?_
        refine WD.takeOff 5 rfl (by kernel_rfl) (by kernel_rfl) (by kernel_rfl) rfl rfl rfl rfl rfl rfl ?_
        refine WD.takeOff 6 rfl (by kernel_rfl) (by kernel_rfl) (by kernel_rfl) rfl rfl rfl rfl rfl rfl ?_
        refine WD.takeOff 7 rfl (by kernel_rfl) (by kernel_rfl) (by kernel_rfl) rfl rfl rfl rfl rfl rfl ?_
        refine WD.takeOff 8 rfl (by kernel_rfl) (by kernel_rfl) (by kernel_rfl) rfl rfl rfl rfl rfl rfl ?_
        refine WD.takeOff 9 rfl (by kernel_rfl) (by kernel_rfl) (by kernel_rfl) rfl rfl rfl rfl rfl rfl ?_
        refine WD.takeOff 10 rfl (by kernel_rfl) (by kernel_rfl) (by kernel_rfl) rfl rfl rfl rfl rfl rfl ?_
        refine WD.takeOff 11 rfl (by kernel_rfl) (by kernel_rfl) (by kernel_rfl) rfl rfl rfl rfl rfl rfl ?_
        refine WD.takeOff 12 rfl (by kernel_rfl) (by kernel_rfl) (by kernel_rfl) rfl rfl rfl rfl rfl rfl ?_
        refine WD.takeOff 13 rfl (by kernel_rfl) (by kernel_rfl) (by kernel_rfl) rfl rfl rfl rfl rfl rfl ?_
        refine WD.one 14 (by kernel_rfl) ?_
        refine WO.off rfl rfl rfl rfl rfl rfl rfl ?_
        refine WD.takeOff 15 rfl (by kernel_rfl) (by kernel_rfl) (by kernel_rfl) rfl rfl rfl rfl rfl rfl ?_
        refine WD.takeOff 16 rfl (by kernel_rfl) (by kernel_rfl) (by kernel_rfl) rfl rfl rfl rfl rfl rfl ?_
        refine WD.take 17 rfl (by kernel_rfl) (by kernel_rfl) (by kernel_rfl) rfl rfl (Yl.pickF rfl rfl) rfl ?_
        refine WD.say (t := 36) (v' := .bool (decide ((p : Int) < (b : Int)) && !ltK G[p]! G[p - 1]!)) rfl (by (rw [g22]; rfl)) ?_
        refine WD.done (by kernel_rfl) ?_
        exact ⟨rfl, (), trivial, (by repeat (first | exact Sub.nil | refine Sub.cons rfl ?_)), _, (by repeat' constructor)⟩
    · rintro ⟨⟩ -
      refine WC.cond rfl (fun g36 => ?_) (fun g36 => ?_)
      · refine WC.skip ?_
        refine WC.block ?_
        have hpj := and_lt g36
        refine WC.region ?_
        refine WL.y (Yl.move rfl) rfl ?_
        refine WL.y (Yl.add rfl rfl (IntWalk.i64_in _ (by omega))) rfl ?_
        refine WL.y (Yl.assign rfl) rfl ?_
        refine WL.nil ?_
        exact ⟨rfl, p + 1, ⟨by omega, by rw [← ss_go g36]; exact hpI⟩, by omega, (by repeat (first | exact Sub.nil | refine Sub.cons rfl ?_)), _, (by repeat' constructor)⟩
      · refine WC.exit ?_
        refine WC.seq ?_
        refine WC.seq ?_
        have hpe : p = I := by rw [← hpI]; exact (ss_stop g36).symm
        subst hpe
        refine WC.region ?_
        refine WL.y (Yl.move rfl) rfl ?_
        refine WL.y (Yl.move rfl) rfl ?_
        refine WL.y (Yl.eql rfl rfl) rfl ?_
        refine WL.nil ?_
        refine WC.condD rfl (fun g41 => ?_) (fun g41 => ?_)
        · refine WC.seq ?_
          have hpb2 : p = b := by omega
          rw [if_pos hpb2] at hTG
          subst hTG
          refine WC.region ?_
          refine WL.y (Yl.assign rfl) rfl ?_
          refine WL.nil ?_
          refine WC.ret ?_
          repeat (with_reducible (first | refine peelT ?_ | refine peelB ?_ | refine peelTX ?_ | refine peelBX ?_ | refine peelBN ?_ | refine peelBO rfl ?_))
          exact ret1 (.inr rfl) Tryz.results102 rfl fun w' h => ⟨(), trivial, rfl, h.sub (by repeat' constructor)⟩
        · refine WC.skip ?_
          refine WC.seq ?_
          refine WC.seq ?_
          have hpb2 : ¬ p = b := by omega
          rw [if_neg hpb2] at hTG
          refine WC.region ?_
          refine WL.y (Yl.move rfl) rfl ?_
          refine WL.y (Yl.move rfl) rfl ?_
          refine WL.y (Yl.sub rfl rfl (IntWalk.i64_in _ (by omega))) rfl ?_
          refine WL.y (Yl.lss rfl rfl) rfl ?_
          refine WL.nil ?_
          refine WC.condD rfl (fun g45 => ?_) (fun g45 => ?_)
          · refine WC.seq ?_
            have hb50 : b - a < 50 := by omega
            rw [if_pos hb50] at hTG
            subst hTG
            refine WC.region ?_
            refine WL.y (Yl.assign rfl) rfl ?_
            refine WL.nil ?_
            refine WC.ret ?_
            repeat (with_reducible (first | refine peelT ?_ | refine peelB ?_ | refine peelTX ?_ | refine peelBX ?_ | refine peelBN ?_ | refine peelBO rfl ?_))
            exact ret1 (.inr rfl) Tryz.results102 rfl fun w' h => ⟨(), trivial, rfl, h.sub (by repeat' constructor)⟩
          · refine WC.skip ?_
            refine WC.seq ?_
            have hb50 : ¬ b - a < 50 := by omega
            rw [if_neg hb50] at hTG
            have hsw := swp_size G p (p - 1)
            refine WC.drawAny (Hs := []) mixed (by kernel_rfl) ⟨_, (by repeat' constructor)⟩ ?_
            refine WD.take 0 rfl (by kernel_rfl) (by kernel_rfl) (by kernel_rfl) rfl rfl (Yl.move rfl) rfl ?_
            refine WD.take 1 rfl (by kernel_rfl) (by kernel_rfl) (by kernel_rfl) rfl rfl (Yl.move rfl) rfl ?_
            refine WD.take 2 rfl (by kernel_rfl) (by kernel_rfl) (by kernel_rfl) rfl rfl (Yl.move rfl) rfl ?_
            refine WD.take 3 rfl (by kernel_rfl) (by kernel_rfl) (by kernel_rfl) rfl rfl (Yl.move rfl) rfl ?_
            refine WD.take 4 rfl (by kernel_rfl) (by kernel_rfl) (by kernel_rfl) rfl rfl (Yl.sub rfl rfl (IntWalk.i64_in _ (by omega))) rfl ?_
            refine WD.say (t := 50) (v' := .int .i64 ((p - 1 : Nat) : Int)) rfl (by (refine congrArg _ ?_; omega)) ?_
            refine WD.take 5 rfl (by kernel_rfl) (by kernel_rfl) (by kernel_rfl) rfl rfl (Yl.move rfl) rfl ?_
            refine WD.take 6 rfl (by kernel_rfl) (by kernel_rfl) (by kernel_rfl) rfl rfl (Yl.move rfl) rfl ?_
            refine WD.take 7 rfl (by kernel_rfl) (by kernel_rfl) (by kernel_rfl) rfl rfl (Yl.sub rfl rfl (IntWalk.i64_in _ (by omega))) rfl ?_
            refine WD.say (t := 53) (v' := .int .i64 ((p - 1 : Nat) : Int)) rfl (by (refine congrArg _ ?_; omega)) ?_
            refine WD.take 8 rfl (by kernel_rfl) (by kernel_rfl) (by kernel_rfl) rfl rfl (Yl.indexF un22 sz30 rfl rfl hF rfl (by omega)) rfl ?_
            refine WD.take 10 rfl (by kernel_rfl) (by kernel_rfl) (by kernel_rfl) rfl rfl (Yl.move rfl) rfl ?_
            refine WD.take 11 rfl (by kernel_rfl) (by kernel_rfl) (by kernel_rfl) rfl rfl (Yl.move rfl) rfl ?_
            refine WD.take 12 rfl (by kernel_rfl) (by kernel_rfl) (by kernel_rfl) rfl rfl (Yl.indexF un22 sz30 rfl rfl hF rfl (by omega)) rfl ?_
            refine WD.two 9 13 (by kernel_rfl) ?_ ?_
            · refine WO.y rfl rfl .no (Yl.loadV vtK (fun _ _ => trivial) rfl (Reads.own (by repeat constructor)) (by rw [Array.length_toList]; omega) (so_getK (by omega))) rfl ?_
              refine WD.one 13 (by kernel_rfl) ?_
              refine WO.y rfl rfl .no (Yl.loadV vtK (fun _ _ => trivial) rfl (Reads.own (by repeat constructor)) (by rw [Array.length_toList]; omega) (so_getK (by omega))) rfl ?_
              refine WD.take 14 rfl (by kernel_rfl) (by kernel_rfl) (by kernel_rfl) rfl rfl (Yl.indexF un22 sz30 rfl rfl hF rfl (by omega)) rfl ?_
              refine WD.one 15 (by kernel_rfl) ?_
              refine WO.sto rfl rfl .no (Sto.elemV (j := p) (u := G[p - 1]!) (xs := G.toList) vtK (fun _ _ => trivial) trivial rfl rfl (by repeat constructor) (by rw [Array.length_toList]; omega) (by omega)) ⟨_, (by repeat' constructor)⟩ ?_
              refine WD.take 16 rfl (by kernel_rfl) (by kernel_rfl) (by kernel_rfl) rfl rfl (Yl.indexF un22 sz30 rfl rfl hF rfl (by omega)) rfl ?_
              refine WD.one 17 (by kernel_rfl) ?_
              refine WO.sto rfl rfl .no (Sto.elemV (j := p - 1) (u := G[p]!) (xs := G.toList.set (p) G[p - 1]!) vtK (fun _ _ => trivial) trivial rfl rfl (by repeat constructor) (by rw [List.length_set, Array.length_toList]; omega) (by omega)) ⟨_, (by repeat' constructor)⟩ ?_
              rw [so_swpK G (p) (p - 1)]
              refine WD.done (by kernel_rfl) ?_
              refine WC.midX (α := Unit) (fun _ => [(0, v), (3, .func (.func 60) #[] #[]), (1, .int .i64 (a : Int)), (2, .int .i64 (b : Int)), (9, .int .i64 (p : Int)), (10, .int .i64 (k : Int))]) (fun _ => [rwK v n ((pinD a G p).toList)]) (fun _ => True) ?_ ?_
              · refine WC.seq ?_
                refine WC.region ?_
                refine WL.y (Yl.move rfl) rfl ?_
                refine WL.y (Yl.move rfl) rfl ?_
                refine WL.y (Yl.sub rfl rfl (IntWalk.i64_in _ (by omega))) rfl ?_
                refine WL.y (Yl.geq rfl rfl) rfl ?_
                refine WL.nil ?_
                refine WC.condD rfl (fun g65 => ?_) (fun g65 => ?_)
                · refine WC.seq ?_
                  refine WC.region ?_
                  refine WL.y (Yl.move rfl) rfl ?_
                  refine WL.y (Yl.sub rfl rfl (IntWalk.i64_in _ (by omega))) rfl ?_
                  refine WL.say (t := 67) (v' := .int .i64 ((p - 1 : Nat) : Int)) rfl (by (refine congrArg _ ?_; omega)) ?_
                  refine WL.y (Yl.assign rfl) rfl ?_
                  refine WL.nil ?_
                  refine WC.block ?_
                  have hia : p - a ≥ 2 := by omega
                  obtain ⟨V, hV⟩ : ∃ V, shiftDown ltK (p - 1) (swp G p (p - 1)) = V := ⟨_, rfl⟩
                  have hVe : pinD a G p = V := by unfold pinD; rw [if_pos hia]; exact hV
                  rw [hVe]
                  refine WC.loop (α := Nat × Array Ky) (fun z => [(0, v), (3, .func (.func 60) #[] #[]), (1, .int .i64 (a : Int)), (2, .int .i64 (b : Int)), (9, .int .i64 (p : Int)), (10, .int .i64 (k : Int)), (11, .int .i64 (z.1 : Int))]) (fun z => [rwK v n (z.2.toList)]) (fun z => z.1 < n ∧ z.2.size = n ∧ shiftDown ltK z.1 z.2 = V) (fun z => z.1) (p - 1, swp G p (p - 1)) ⟨by dsimp only; omega, by dsimp only; omega, hV⟩ ⟨(by repeat (first | exact Sub.nil | refine Sub.cons rfl ?_)), _, (by repeat' constructor)⟩ ?_
                  rintro ⟨j, E⟩ ⟨hj, hE, hVE⟩
                  dsimp only at hj hE hVE ⊢
                  refine WC.seq ?_
                  refine WC.seq ?_
                  refine WC.region ?_
                  refine WL.y (Yl.move rfl) rfl ?_
                  refine WL.y (Yl.geq rfl rfl) rfl ?_
                  refine WL.nil ?_
                  refine WC.condD rfl (fun g69 => ?_) (fun g69 => ?_)
                  · refine WC.skip ?_
                    refine WC.seq ?_
                    refine WC.block ?_
                    refine WC.seq ?_
                    refine WC.seq ?_
                    have hj1 : 1 ≤ j := by omega
                    refine WC.drawAny (Hs := [rwK v n (E.toList)]) mixed (by kernel_rfl) ⟨_, (by repeat' constructor)⟩ ?_
                    refine WD.take 0 rfl (by kernel_rfl) (by kernel_rfl) (by kernel_rfl) rfl rfl (Yl.move rfl) rfl ?_
                    refine WD.take 1 rfl (by kernel_rfl) (by kernel_rfl) (by kernel_rfl) rfl rfl (Yl.move rfl) rfl ?_
                    refine WD.take 2 rfl (by kernel_rfl) (by kernel_rfl) (by kernel_rfl) rfl rfl (Yl.move rfl) rfl ?_
                    refine WD.take 3 rfl (by kernel_rfl) (by kernel_rfl) (by kernel_rfl) rfl rfl (Yl.indexF un22 sz30 rfl rfl hF rfl (by omega)) rfl ?_
                    refine WD.take 4 rfl (by kernel_rfl) (by kernel_rfl) (by kernel_rfl) rfl rfl (Yl.loadV vtK (fun _ _ => trivial) rfl (Reads.own (by repeat constructor)) (by rw [Array.length_toList]; omega) (so_getK (by omega))) rfl ?_
                    refine WD.take 5 rfl (by kernel_rfl) (by kernel_rfl) (by kernel_rfl) rfl rfl (Yl.move rfl) rfl ?_
                    refine WD.take 6 rfl (by kernel_rfl) (by kernel_rfl) (by kernel_rfl) rfl rfl (Yl.move rfl) rfl ?_
                    refine WD.take 7 rfl (by kernel_rfl) (by kernel_rfl) (by kernel_rfl) rfl rfl (Yl.sub rfl rfl (IntWalk.i64_in _ (by omega))) rfl ?_
                    refine WD.say (t := 79) (v' := .int .i64 ((j - 1 : Nat) : Int)) rfl (by (refine congrArg _ ?_; omega)) ?_
                    refine WD.take 8 rfl (by kernel_rfl) (by kernel_rfl) (by kernel_rfl) rfl rfl (Yl.indexF un22 sz30 rfl rfl hF rfl (by omega)) rfl ?_
                    refine WD.take 9 rfl (by kernel_rfl) (by kernel_rfl) (by kernel_rfl) rfl rfl (Yl.loadV vtK (fun _ _ => trivial) rfl (Reads.own (by repeat constructor)) (by rw [Array.length_toList]; omega) (so_getK (by omega))) rfl ?_
                    refine WD.one 10 (by kernel_rfl) ?_
                    refine WO.callC (f := .tmp 72) (xs := [.tmp 76, .tmp 81]) (cap := []) rfl .no rfl rfl en60 (by repeat' constructor) (fun w hw => order_any _ _ w hw.left.here) rfl (fun _ => ⟨_, (by repeat' constructor)⟩) ?_
                    rintro ⟨⟩ -
                    refine WD.take 11 rfl (by kernel_rfl) (by kernel_rfl) (by kernel_rfl) rfl rfl (Yl.lss rfl rfl) rfl ?_
                    refine WD.say (t := 83) (v' := .bool (ltK _ _)) rfl (by rfl) ?_
                    refine WD.take 12 rfl (by kernel_rfl) (by kernel_rfl) (by kernel_rfl) rfl rfl (Yl.not rfl) rfl ?_
                    refine WD.done (by kernel_rfl) ?_
                    refine WC.cond rfl (fun g84 => ?_) (fun g84 => ?_)
                    · refine WC.exit ?_
                      first
                      | (have hj0 : ¬ 1 ≤ j := by omega
                         have hst : shiftDown ltK j E = E := sd_stop (fun e => hj0 e.1)
                         rw [hst] at hVE
                         subst hVE
                         exact ⟨rfl, (), trivial, (by repeat (first | exact Sub.nil | refine Sub.cons rfl ?_)), _, (by repeat' constructor)⟩)
                      | (have hst : shiftDown ltK j E = E := sd_stop (fun e => by rw [e.2] at g84; cases g84)
                         rw [hst] at hVE
                         subst hVE
                         exact ⟨rfl, (), trivial, (by repeat (first | exact Sub.nil | refine Sub.cons rfl ?_)), _, (by repeat' constructor)⟩)
                      | (have hia : ¬ p - a ≥ 2 := by omega
                         rw [show pinD a G p = swp G p (p - 1) from if_neg hia]
                         exact ⟨rfl, (), trivial, (by repeat (first | exact Sub.nil | refine Sub.cons rfl ?_)), _, (by repeat' constructor)⟩)
                    · refine WC.skip ?_
                      have hlt : ltK E[j]! E[j - 1]! = true := by simpa using g84
                      rw [sd_go hj1 hlt] at hVE
                      refine WC.drawAny (Hs := []) mixed (by kernel_rfl) ⟨_, (by repeat' constructor)⟩ ?_
                      refine WD.take 0 rfl (by kernel_rfl) (by kernel_rfl) (by kernel_rfl) rfl rfl (Yl.move rfl) rfl ?_
                      refine WD.take 1 rfl (by kernel_rfl) (by kernel_rfl) (by kernel_rfl) rfl rfl (Yl.move rfl) rfl ?_
                      refine WD.take 2 rfl (by kernel_rfl) (by kernel_rfl) (by kernel_rfl) rfl rfl (Yl.move rfl) rfl ?_
                      refine WD.take 3 rfl (by kernel_rfl) (by kernel_rfl) (by kernel_rfl) rfl rfl (Yl.move rfl) rfl ?_
                      refine WD.take 4 rfl (by kernel_rfl) (by kernel_rfl) (by kernel_rfl) rfl rfl (Yl.sub rfl rfl (IntWalk.i64_in _ (by omega))) rfl ?_
                      refine WD.say (t := 89) (v' := .int .i64 ((j - 1 : Nat) : Int)) rfl (by (refine congrArg _ ?_; omega)) ?_
                      refine WD.take 5 rfl (by kernel_rfl) (by kernel_rfl) (by kernel_rfl) rfl rfl (Yl.move rfl) rfl ?_
                      refine WD.take 6 rfl (by kernel_rfl) (by kernel_rfl) (by kernel_rfl) rfl rfl (Yl.move rfl) rfl ?_
                      refine WD.take 7 rfl (by kernel_rfl) (by kernel_rfl) (by kernel_rfl) rfl rfl (Yl.sub rfl rfl (IntWalk.i64_in _ (by omega))) rfl ?_
                      refine WD.say (t := 92) (v' := .int .i64 ((j - 1 : Nat) : Int)) rfl (by (refine congrArg _ ?_; omega)) ?_
                      refine WD.take 8 rfl (by kernel_rfl) (by kernel_rfl) (by kernel_rfl) rfl rfl (Yl.indexF un22 sz30 rfl rfl hF rfl (by omega)) rfl ?_
                      refine WD.take 10 rfl (by kernel_rfl) (by kernel_rfl) (by kernel_rfl) rfl rfl (Yl.move rfl) rfl ?_
                      refine WD.take 11 rfl (by kernel_rfl) (by kernel_rfl) (by kernel_rfl) rfl rfl (Yl.move rfl) rfl ?_
                      refine WD.take 12 rfl (by kernel_rfl) (by kernel_rfl) (by kernel_rfl) rfl rfl (Yl.indexF un22 sz30 rfl rfl hF rfl (by omega)) rfl ?_
                      refine WD.two 9 13 (by kernel_rfl) ?_ ?_
                      · refine WO.y rfl rfl .no (Yl.loadV vtK (fun _ _ => trivial) rfl (Reads.own (by repeat constructor)) (by rw [Array.length_toList]; omega) (so_getK (by omega))) rfl ?_
                        refine WD.one 13 (by kernel_rfl) ?_
                        refine WO.y rfl rfl .no (Yl.loadV vtK (fun _ _ => trivial) rfl (Reads.own (by repeat constructor)) (by rw [Array.length_toList]; omega) (so_getK (by omega))) rfl ?_
                        refine WD.take 14 rfl (by kernel_rfl) (by kernel_rfl) (by kernel_rfl) rfl rfl (Yl.indexF un22 sz30 rfl rfl hF rfl (by omega)) rfl ?_
                        refine WD.one 15 (by kernel_rfl) ?_
                        refine WO.sto rfl rfl .no (Sto.elemV (j := j) (u := E[j - 1]!) (xs := E.toList) vtK (fun _ _ => trivial) trivial rfl rfl (by repeat constructor) (by rw [Array.length_toList]; omega) (by omega)) ⟨_, (by repeat' constructor)⟩ ?_
                        refine WD.take 16 rfl (by kernel_rfl) (by kernel_rfl) (by kernel_rfl) rfl rfl (Yl.indexF un22 sz30 rfl rfl hF rfl (by omega)) rfl ?_
                        refine WD.one 17 (by kernel_rfl) ?_
                        refine WO.sto rfl rfl .no (Sto.elemV (j := j - 1) (u := E[j]!) (xs := E.toList.set (j) E[j - 1]!) vtK (fun _ _ => trivial) trivial rfl rfl (by repeat constructor) (by rw [List.length_set, Array.length_toList]; omega) (by omega)) ⟨_, (by repeat' constructor)⟩ ?_
                        rw [so_swpK E (j) (j - 1)]
                        refine WD.done (by kernel_rfl) ?_
                        refine WC.region ?_
                        refine WL.y (Yl.move rfl) rfl ?_
                        refine WL.y (Yl.sub rfl rfl (IntWalk.i64_in _ (by omega))) rfl ?_
                        refine WL.say (t := 71) (v' := .int .i64 ((j - 1 : Nat) : Int)) rfl (by (refine congrArg _ ?_; omega)) ?_
                        refine WL.y (Yl.assign rfl) rfl ?_
                        refine WL.nil ?_
                        exact ⟨rfl, (j - 1, swp E j (j - 1)), ⟨by dsimp only; omega, by dsimp only; rw [swp_size]; exact hE, hVE⟩, by dsimp only; omega, (by repeat (first | exact Sub.nil | refine Sub.cons rfl ?_)), _, (by repeat' constructor)⟩
                      · refine WO.y rfl rfl .no (Yl.loadV vtK (fun _ _ => trivial) rfl (Reads.own (by repeat constructor)) (by rw [Array.length_toList]; omega) (so_getK (by omega))) rfl ?_
                        refine WD.one 9 (by kernel_rfl) ?_
                        refine WO.y rfl rfl .no (Yl.loadV vtK (fun _ _ => trivial) rfl (Reads.own (by repeat constructor)) (by rw [Array.length_toList]; omega) (so_getK (by omega))) rfl ?_
                        refine WD.take 14 rfl (by kernel_rfl) (by kernel_rfl) (by kernel_rfl) rfl rfl (Yl.indexF un22 sz30 rfl rfl hF rfl (by omega)) rfl ?_
                        refine WD.one 15 (by kernel_rfl) ?_
                        refine WO.sto rfl rfl .no (Sto.elemV (j := j) (u := E[j - 1]!) (xs := E.toList) vtK (fun _ _ => trivial) trivial rfl rfl (by repeat constructor) (by rw [Array.length_toList]; omega) (by omega)) ⟨_, (by repeat' constructor)⟩ ?_
                        refine WD.take 16 rfl (by kernel_rfl) (by kernel_rfl) (by kernel_rfl) rfl rfl (Yl.indexF un22 sz30 rfl rfl hF rfl (by omega)) rfl ?_
                        refine WD.one 17 (by kernel_rfl) ?_
                        refine WO.sto rfl rfl .no (Sto.elemV (j := j - 1) (u := E[j]!) (xs := E.toList.set (j) E[j - 1]!) vtK (fun _ _ => trivial) trivial rfl rfl (by repeat constructor) (by rw [List.length_set, Array.length_toList]; omega) (by omega)) ⟨_, (by repeat' constructor)⟩ ?_
                        rw [so_swpK E (j) (j - 1)]
                        refine WD.done (by kernel_rfl) ?_
                        refine WC.region ?_
                        refine WL.y (Yl.move rfl) rfl ?_
                        refine WL.y (Yl.sub rfl rfl (IntWalk.i64_in _ (by omega))) rfl ?_
                        refine WL.say (t := 71) (v' := .int .i64 ((j - 1 : Nat) : Int)) rfl (by (refine congrArg _ ?_; omega)) ?_
                        refine WL.y (Yl.assign rfl) rfl ?_
                        refine WL.nil ?_
                        exact ⟨rfl, (j - 1, swp E j (j - 1)), ⟨by dsimp only; omega, by dsimp only; rw [swp_size]; exact hE, hVE⟩, by dsimp only; omega, (by repeat (first | exact Sub.nil | refine Sub.cons rfl ?_)), _, (by repeat' constructor)⟩
                  · refine WC.exit ?_
                    first
                    | (have hj0 : ¬ 1 ≤ j := by omega
                       have hst : shiftDown ltK j E = E := sd_stop (fun e => hj0 e.1)
                       rw [hst] at hVE
                       subst hVE
                       exact ⟨rfl, (), trivial, (by repeat (first | exact Sub.nil | refine Sub.cons rfl ?_)), _, (by repeat' constructor)⟩)
                    | (have hst : shiftDown ltK j E = E := sd_stop (fun e => by rw [e.2] at g84; cases g84)
                       rw [hst] at hVE
                       subst hVE
                       exact ⟨rfl, (), trivial, (by repeat (first | exact Sub.nil | refine Sub.cons rfl ?_)), _, (by repeat' constructor)⟩)
                    | (have hia : ¬ p - a ≥ 2 := by omega
                       rw [show pinD a G p = swp G p (p - 1) from if_neg hia]
                       exact ⟨rfl, (), trivial, (by repeat (first | exact Sub.nil | refine Sub.cons rfl ?_)), _, (by repeat' constructor)⟩)
                · refine WC.skip ?_
                  first
                  | (have hj0 : ¬ 1 ≤ j := by omega
                     have hst : shiftDown ltK j E = E := sd_stop (fun e => hj0 e.1)
                     rw [hst] at hVE
                     subst hVE
                     exact ⟨rfl, (), trivial, (by repeat (first | exact Sub.nil | refine Sub.cons rfl ?_)), _, (by repeat' constructor)⟩)
                  | (have hst : shiftDown ltK j E = E := sd_stop (fun e => by rw [e.2] at g84; cases g84)
                     rw [hst] at hVE
                     subst hVE
                     exact ⟨rfl, (), trivial, (by repeat (first | exact Sub.nil | refine Sub.cons rfl ?_)), _, (by repeat' constructor)⟩)
                  | (have hia : ¬ p - a ≥ 2 := by omega
                     rw [show pinD a G p = swp G p (p - 1) from if_neg hia]
                     exact ⟨rfl, (), trivial, (by repeat (first | exact Sub.nil | refine Sub.cons rfl ?_)), _, (by repeat' constructor)⟩)
              · rintro ⟨⟩ -
                refine WC.seq ?_
                refine WC.region ?_
                refine WL.y (Yl.move rfl) rfl ?_
                refine WL.y (Yl.move rfl) rfl ?_
                refine WL.y (Yl.sub rfl rfl (IntWalk.i64_in _ (by omega))) rfl ?_
                refine WL.y (Yl.geq rfl rfl) rfl ?_
                refine WL.nil ?_
                refine WC.condD rfl (fun g104 => ?_) (fun g104 => ?_)
                · refine WC.seq ?_
                  refine WC.region ?_
                  refine WL.y (Yl.move rfl) rfl ?_
                  refine WL.y (Yl.add rfl rfl (IntWalk.i64_in _ (by omega))) rfl ?_
                  refine WL.y (Yl.assign rfl) rfl ?_
                  refine WL.nil ?_
                  refine WC.block ?_
                  have hbi : b - p ≥ 2 := by omega
                  obtain ⟨V, hV⟩ : ∃ V, shiftUp ltK b (p + 1) (pinD a G p) = V := ⟨_, rfl⟩
                  have hVe : pinU a b G p = V := by unfold pinU; rw [if_pos hbi]; exact hV
                  rw [hVe] at hTG hpu
                  refine WC.loop (α := Nat × Array Ky) (fun z => [(0, v), (3, .func (.func 60) #[] #[]), (1, .int .i64 (a : Int)), (2, .int .i64 (b : Int)), (9, .int .i64 (p : Int)), (10, .int .i64 (k : Int)), (12, .int .i64 (z.1 : Int))]) (fun z => [rwK v n (z.2.toList)]) (fun z => (1 ≤ z.1 ∧ z.1 ≤ b) ∧ z.2.size = n ∧ shiftUp ltK b z.1 z.2 = V) (fun z => b - z.1) (p + 1, pinD a G p) ⟨by dsimp only; omega, by dsimp only; omega, hV⟩ ⟨(by repeat (first | exact Sub.nil | refine Sub.cons rfl ?_)), _, (by repeat' constructor)⟩ ?_
                  rintro ⟨j, E⟩ ⟨⟨hj1, hj⟩, hE, hVE⟩
                  dsimp only at hj1 hj hE hVE ⊢
                  refine WC.seq ?_
                  refine WC.seq ?_
                  refine WC.region ?_
                  refine WL.y (Yl.move rfl) rfl ?_
                  refine WL.y (Yl.move rfl) rfl ?_
                  refine WL.y (Yl.lss rfl rfl) rfl ?_
                  refine WL.nil ?_
                  refine WC.condD rfl (fun g109 => ?_) (fun g109 => ?_)
                  · refine WC.skip ?_
                    refine WC.seq ?_
                    refine WC.block ?_
                    refine WC.seq ?_
                    refine WC.seq ?_
                    have hjb : j < b := by omega
                    refine WC.drawAny (Hs := [rwK v n (E.toList)]) mixed (by kernel_rfl) ⟨_, (by repeat' constructor)⟩ ?_
                    refine WD.take 0 rfl (by kernel_rfl) (by kernel_rfl) (by kernel_rfl) rfl rfl (Yl.move rfl) rfl ?_
                    refine WD.take 1 rfl (by kernel_rfl) (by kernel_rfl) (by kernel_rfl) rfl rfl (Yl.move rfl) rfl ?_
                    refine WD.take 2 rfl (by kernel_rfl) (by kernel_rfl) (by kernel_rfl) rfl rfl (Yl.move rfl) rfl ?_
                    refine WD.take 3 rfl (by kernel_rfl) (by kernel_rfl) (by kernel_rfl) rfl rfl (Yl.indexF un22 sz30 rfl rfl hF rfl (by omega)) rfl ?_
                    refine WD.take 4 rfl (by kernel_rfl) (by kernel_rfl) (by kernel_rfl) rfl rfl (Yl.loadV vtK (fun _ _ => trivial) rfl (Reads.own (by repeat constructor)) (by rw [Array.length_toList]; omega) (so_getK (by omega))) rfl ?_
                    refine WD.take 5 rfl (by kernel_rfl) (by kernel_rfl) (by kernel_rfl) rfl rfl (Yl.move rfl) rfl ?_
                    refine WD.take 6 rfl (by kernel_rfl) (by kernel_rfl) (by kernel_rfl) rfl rfl (Yl.move rfl) rfl ?_
                    refine WD.take 7 rfl (by kernel_rfl) (by kernel_rfl) (by kernel_rfl) rfl rfl (Yl.sub rfl rfl (IntWalk.i64_in _ (by omega))) rfl ?_
                    refine WD.say (t := 119) (v' := .int .i64 ((j - 1 : Nat) : Int)) rfl (by (refine congrArg _ ?_; omega)) ?_
                    refine WD.take 8 rfl (by kernel_rfl) (by kernel_rfl) (by kernel_rfl) rfl rfl (Yl.indexF un22 sz30 rfl rfl hF rfl (by omega)) rfl ?_
                    refine WD.take 9 rfl (by kernel_rfl) (by kernel_rfl) (by kernel_rfl) rfl rfl (Yl.loadV vtK (fun _ _ => trivial) rfl (Reads.own (by repeat constructor)) (by rw [Array.length_toList]; omega) (so_getK (by omega))) rfl ?_
                    refine WD.one 10 (by kernel_rfl) ?_
                    refine WO.callC (f := .tmp 112) (xs := [.tmp 116, .tmp 121]) (cap := []) rfl .no rfl rfl en60 (by repeat' constructor) (fun w hw => order_any _ _ w hw.left.here) rfl (fun _ => ⟨_, (by repeat' constructor)⟩) ?_
                    rintro ⟨⟩ -
                    refine WD.take 11 rfl (by kernel_rfl) (by kernel_rfl) (by kernel_rfl) rfl rfl (Yl.lss rfl rfl) rfl ?_
                    refine WD.say (t := 123) (v' := .bool (ltK _ _)) rfl (by rfl) ?_
                    refine WD.take 12 rfl (by kernel_rfl) (by kernel_rfl) (by kernel_rfl) rfl rfl (Yl.not rfl) rfl ?_
                    refine WD.done (by kernel_rfl) ?_
                    refine WC.cond rfl (fun g124 => ?_) (fun g124 => ?_)
                    · refine WC.exit ?_
                      refine WC.region ?_
                      refine WL.y (Yl.move rfl) rfl ?_
                      refine WL.y (Yl.add rfl rfl (IntWalk.i64_in _ (by omega))) rfl ?_
                      refine WL.y (Yl.assign rfl) rfl ?_
                      refine WL.nil ?_
                      first
                      | (have hjb : ¬ j < b := by omega
                         have hst : shiftUp ltK b j E = E := su_stop (fun e => hjb e.1)
                         rw [hst] at hVE
                         subst hVE
                         exact ⟨rfl, (k + 1, p, E), ⟨by dsimp only; omega, by dsimp only; omega, by dsimp only; omega, hTG⟩, by dsimp only; omega, (by repeat (first | exact Sub.nil | refine Sub.cons rfl ?_)), _, (by repeat' constructor)⟩)
                      | (have hst : shiftUp ltK b j E = E := su_stop (fun e => by rw [e.2] at g124; cases g124)
                         rw [hst] at hVE
                         subst hVE
                         exact ⟨rfl, (k + 1, p, E), ⟨by dsimp only; omega, by dsimp only; omega, by dsimp only; omega, hTG⟩, by dsimp only; omega, (by repeat (first | exact Sub.nil | refine Sub.cons rfl ?_)), _, (by repeat' constructor)⟩)
                      | (have hbi : ¬ b - p ≥ 2 := by omega
                         rw [show pinU a b G p = pinD a G p from if_neg hbi] at hTG
                         exact ⟨rfl, (k + 1, p, pinD a G p), ⟨by dsimp only; omega, by dsimp only; omega, by dsimp only; omega, hTG⟩, by dsimp only; omega, (by repeat (first | exact Sub.nil | refine Sub.cons rfl ?_)), _, (by repeat' constructor)⟩)
                    · refine WC.skip ?_
                      have hlt : ltK E[j]! E[j - 1]! = true := by simpa using g124
                      rw [su_go hjb hlt] at hVE
                      refine WC.drawAny (Hs := []) mixed (by kernel_rfl) ⟨_, (by repeat' constructor)⟩ ?_
                      refine WD.take 0 rfl (by kernel_rfl) (by kernel_rfl) (by kernel_rfl) rfl rfl (Yl.move rfl) rfl ?_
                      refine WD.take 1 rfl (by kernel_rfl) (by kernel_rfl) (by kernel_rfl) rfl rfl (Yl.move rfl) rfl ?_
                      refine WD.take 2 rfl (by kernel_rfl) (by kernel_rfl) (by kernel_rfl) rfl rfl (Yl.move rfl) rfl ?_
                      refine WD.take 3 rfl (by kernel_rfl) (by kernel_rfl) (by kernel_rfl) rfl rfl (Yl.move rfl) rfl ?_
                      refine WD.take 4 rfl (by kernel_rfl) (by kernel_rfl) (by kernel_rfl) rfl rfl (Yl.sub rfl rfl (IntWalk.i64_in _ (by omega))) rfl ?_
                      refine WD.say (t := 129) (v' := .int .i64 ((j - 1 : Nat) : Int)) rfl (by (refine congrArg _ ?_; omega)) ?_
                      refine WD.take 5 rfl (by kernel_rfl) (by kernel_rfl) (by kernel_rfl) rfl rfl (Yl.move rfl) rfl ?_
                      refine WD.take 6 rfl (by kernel_rfl) (by kernel_rfl) (by kernel_rfl) rfl rfl (Yl.move rfl) rfl ?_
                      refine WD.take 7 rfl (by kernel_rfl) (by kernel_rfl) (by kernel_rfl) rfl rfl (Yl.sub rfl rfl (IntWalk.i64_in _ (by omega))) rfl ?_
                      refine WD.say (t := 132) (v' := .int .i64 ((j - 1 : Nat) : Int)) rfl (by (refine congrArg _ ?_; omega)) ?_
                      refine WD.take 8 rfl (by kernel_rfl) (by kernel_rfl) (by kernel_rfl) rfl rfl (Yl.indexF un22 sz30 rfl rfl hF rfl (by omega)) rfl ?_
                      refine WD.take 10 rfl (by kernel_rfl) (by kernel_rfl) (by kernel_rfl) rfl rfl (Yl.move rfl) rfl ?_
                      refine WD.take 11 rfl (by kernel_rfl) (by kernel_rfl) (by kernel_rfl) rfl rfl (Yl.move rfl) rfl ?_
                      refine WD.take 12 rfl (by kernel_rfl) (by kernel_rfl) (by kernel_rfl) rfl rfl (Yl.indexF un22 sz30 rfl rfl hF rfl (by omega)) rfl ?_
                      refine WD.two 9 13 (by kernel_rfl) ?_ ?_
                      · refine WO.y rfl rfl .no (Yl.loadV vtK (fun _ _ => trivial) rfl (Reads.own (by repeat constructor)) (by rw [Array.length_toList]; omega) (so_getK (by omega))) rfl ?_
                        refine WD.one 13 (by kernel_rfl) ?_
                        refine WO.y rfl rfl .no (Yl.loadV vtK (fun _ _ => trivial) rfl (Reads.own (by repeat constructor)) (by rw [Array.length_toList]; omega) (so_getK (by omega))) rfl ?_
                        refine WD.take 14 rfl (by kernel_rfl) (by kernel_rfl) (by kernel_rfl) rfl rfl (Yl.indexF un22 sz30 rfl rfl hF rfl (by omega)) rfl ?_
                        refine WD.one 15 (by kernel_rfl) ?_
                        refine WO.sto rfl rfl .no (Sto.elemV (j := j) (u := E[j - 1]!) (xs := E.toList) vtK (fun _ _ => trivial) trivial rfl rfl (by repeat constructor) (by rw [Array.length_toList]; omega) (by omega)) ⟨_, (by repeat' constructor)⟩ ?_
                        refine WD.take 16 rfl (by kernel_rfl) (by kernel_rfl) (by kernel_rfl) rfl rfl (Yl.indexF un22 sz30 rfl rfl hF rfl (by omega)) rfl ?_
                        refine WD.one 17 (by kernel_rfl) ?_
                        refine WO.sto rfl rfl .no (Sto.elemV (j := j - 1) (u := E[j]!) (xs := E.toList.set (j) E[j - 1]!) vtK (fun _ _ => trivial) trivial rfl rfl (by repeat constructor) (by rw [List.length_set, Array.length_toList]; omega) (by omega)) ⟨_, (by repeat' constructor)⟩ ?_
                        rw [so_swpK E (j) (j - 1)]
                        refine WD.done (by kernel_rfl) ?_
                        refine WC.region ?_
                        refine WL.y (Yl.move rfl) rfl ?_
                        refine WL.y (Yl.add rfl rfl (IntWalk.i64_in _ (by omega))) rfl ?_
                        refine WL.y (Yl.assign rfl) rfl ?_
                        refine WL.nil ?_
                        exact ⟨rfl, (j + 1, swp E j (j - 1)), ⟨by dsimp only; omega, by dsimp only; rw [swp_size]; exact hE, hVE⟩, by dsimp only; omega, (by repeat (first | exact Sub.nil | refine Sub.cons rfl ?_)), _, (by repeat' constructor)⟩
                      · refine WO.y rfl rfl .no (Yl.loadV vtK (fun _ _ => trivial) rfl (Reads.own (by repeat constructor)) (by rw [Array.length_toList]; omega) (so_getK (by omega))) rfl ?_
                        refine WD.one 9 (by kernel_rfl) ?_
                        refine WO.y rfl rfl .no (Yl.loadV vtK (fun _ _ => trivial) rfl (Reads.own (by repeat constructor)) (by rw [Array.length_toList]; omega) (so_getK (by omega))) rfl ?_
                        refine WD.take 14 rfl (by kernel_rfl) (by kernel_rfl) (by kernel_rfl) rfl rfl (Yl.indexF un22 sz30 rfl rfl hF rfl (by omega)) rfl ?_
                        refine WD.one 15 (by kernel_rfl) ?_
                        refine WO.sto rfl rfl .no (Sto.elemV (j := j) (u := E[j - 1]!) (xs := E.toList) vtK (fun _ _ => trivial) trivial rfl rfl (by repeat constructor) (by rw [Array.length_toList]; omega) (by omega)) ⟨_, (by repeat' constructor)⟩ ?_
                        refine WD.take 16 rfl (by kernel_rfl) (by kernel_rfl) (by kernel_rfl) rfl rfl (Yl.indexF un22 sz30 rfl rfl hF rfl (by omega)) rfl ?_
                        refine WD.one 17 (by kernel_rfl) ?_
                        refine WO.sto rfl rfl .no (Sto.elemV (j := j - 1) (u := E[j]!) (xs := E.toList.set (j) E[j - 1]!) vtK (fun _ _ => trivial) trivial rfl rfl (by repeat constructor) (by rw [List.length_set, Array.length_toList]; omega) (by omega)) ⟨_, (by repeat' constructor)⟩ ?_
                        rw [so_swpK E (j) (j - 1)]
                        refine WD.done (by kernel_rfl) ?_
                        refine WC.region ?_
                        refine WL.y (Yl.move rfl) rfl ?_
                        refine WL.y (Yl.add rfl rfl (IntWalk.i64_in _ (by omega))) rfl ?_
                        refine WL.y (Yl.assign rfl) rfl ?_
                        refine WL.nil ?_
                        exact ⟨rfl, (j + 1, swp E j (j - 1)), ⟨by dsimp only; omega, by dsimp only; rw [swp_size]; exact hE, hVE⟩, by dsimp only; omega, (by repeat (first | exact Sub.nil | refine Sub.cons rfl ?_)), _, (by repeat' constructor)⟩
                  · refine WC.exit ?_
                    refine WC.region ?_
                    refine WL.y (Yl.move rfl) rfl ?_
                    refine WL.y (Yl.add rfl rfl (IntWalk.i64_in _ (by omega))) rfl ?_
                    refine WL.y (Yl.assign rfl) rfl ?_
                    refine WL.nil ?_
                    first
                    | (have hjb : ¬ j < b := by omega
                       have hst : shiftUp ltK b j E = E := su_stop (fun e => hjb e.1)
                       rw [hst] at hVE
                       subst hVE
                       exact ⟨rfl, (k + 1, p, E), ⟨by dsimp only; omega, by dsimp only; omega, by dsimp only; omega, hTG⟩, by dsimp only; omega, (by repeat (first | exact Sub.nil | refine Sub.cons rfl ?_)), _, (by repeat' constructor)⟩)
                    | (have hst : shiftUp ltK b j E = E := su_stop (fun e => by rw [e.2] at g124; cases g124)
                       rw [hst] at hVE
                       subst hVE
                       exact ⟨rfl, (k + 1, p, E), ⟨by dsimp only; omega, by dsimp only; omega, by dsimp only; omega, hTG⟩, by dsimp only; omega, (by repeat (first | exact Sub.nil | refine Sub.cons rfl ?_)), _, (by repeat' constructor)⟩)
                    | (have hbi : ¬ b - p ≥ 2 := by omega
                       rw [show pinU a b G p = pinD a G p from if_neg hbi] at hTG
                       exact ⟨rfl, (k + 1, p, pinD a G p), ⟨by dsimp only; omega, by dsimp only; omega, by dsimp only; omega, hTG⟩, by dsimp only; omega, (by repeat (first | exact Sub.nil | refine Sub.cons rfl ?_)), _, (by repeat' constructor)⟩)
                · refine WC.skip ?_
                  refine WC.region ?_
                  refine WL.y (Yl.move rfl) rfl ?_
                  refine WL.y (Yl.add rfl rfl (IntWalk.i64_in _ (by omega))) rfl ?_
                  refine WL.y (Yl.assign rfl) rfl ?_
                  refine WL.nil ?_
                  first
                  | (have hjb : ¬ j < b := by omega
                     have hst : shiftUp ltK b j E = E := su_stop (fun e => hjb e.1)
                     rw [hst] at hVE
                     subst hVE
                     exact ⟨rfl, (k + 1, p, E), ⟨by dsimp only; omega, by dsimp only; omega, by dsimp only; omega, hTG⟩, by dsimp only; omega, (by repeat (first | exact Sub.nil | refine Sub.cons rfl ?_)), _, (by repeat' constructor)⟩)
                  | (have hst : shiftUp ltK b j E = E := su_stop (fun e => by rw [e.2] at g124; cases g124)
                     rw [hst] at hVE
                     subst hVE
                     exact ⟨rfl, (k + 1, p, E), ⟨by dsimp only; omega, by dsimp only; omega, by dsimp only; omega, hTG⟩, by dsimp only; omega, (by repeat (first | exact Sub.nil | refine Sub.cons rfl ?_)), _, (by repeat' constructor)⟩)
                  | (have hbi : ¬ b - p ≥ 2 := by omega
                     rw [show pinU a b G p = pinD a G p from if_neg hbi] at hTG
                     exact ⟨rfl, (k + 1, p, pinD a G p), ⟨by dsimp only; omega, by dsimp only; omega, by dsimp only; omega, hTG⟩, by dsimp only; omega, (by repeat (first | exact Sub.nil | refine Sub.cons rfl ?_)), _, (by repeat' constructor)⟩)
            · refine WO.y rfl rfl .no (Yl.loadV vtK (fun _ _ => trivial) rfl (Reads.own (by repeat constructor)) (by rw [Array.length_toList]; omega) (so_getK (by omega))) rfl ?_
              refine WD.one 9 (by kernel_rfl) ?_
              refine WO.y rfl rfl .no (Yl.loadV vtK (fun _ _ => trivial) rfl (Reads.own (by repeat constructor)) (by rw [Array.length_toList]; omega) (so_getK (by omega))) rfl ?_
              refine WD.take 14 rfl (by kernel_rfl) (by kernel_rfl) (by kernel_rfl) rfl rfl (Yl.indexF un22 sz30 rfl rfl hF rfl (by omega)) rfl ?_
              refine WD.one 15 (by kernel_rfl) ?_
              refine WO.sto rfl rfl .no (Sto.elemV (j := p) (u := G[p - 1]!) (xs := G.toList) vtK (fun _ _ => trivial) trivial rfl rfl (by repeat constructor) (by rw [Array.length_toList]; omega) (by omega)) ⟨_, (by repeat' constructor)⟩ ?_
              refine WD.take 16 rfl (by kernel_rfl) (by kernel_rfl) (by kernel_rfl) rfl rfl (Yl.indexF un22 sz30 rfl rfl hF rfl (by omega)) rfl ?_
              refine WD.one 17 (by kernel_rfl) ?_
              refine WO.sto rfl rfl .no (Sto.elemV (j := p - 1) (u := G[p]!) (xs := G.toList.set (p) G[p - 1]!) vtK (fun _ _ => trivial) trivial rfl rfl (by repeat constructor) (by rw [List.length_set, Array.length_toList]; omega) (by omega)) ⟨_, (by repeat' constructor)⟩ ?_
              rw [so_swpK G (p) (p - 1)]
              refine WD.done (by kernel_rfl) ?_
              refine WC.midX (α := Unit) (fun _ => [(0, v), (3, .func (.func 60) #[] #[]), (1, .int .i64 (a : Int)), (2, .int .i64 (b : Int)), (9, .int .i64 (p : Int)), (10, .int .i64 (k : Int))]) (fun _ => [rwK v n ((pinD a G p).toList)]) (fun _ => True) ?_ ?_
              · refine WC.seq ?_
                refine WC.region ?_
                refine WL.y (Yl.move rfl) rfl ?_
                refine WL.y (Yl.move rfl) rfl ?_
                refine WL.y (Yl.sub rfl rfl (IntWalk.i64_in _ (by omega))) rfl ?_
                refine WL.y (Yl.geq rfl rfl) rfl ?_
                refine WL.nil ?_
                refine WC.condD rfl (fun g65 => ?_) (fun g65 => ?_)
                · refine WC.seq ?_
                  refine WC.region ?_
                  refine WL.y (Yl.move rfl) rfl ?_
                  refine WL.y (Yl.sub rfl rfl (IntWalk.i64_in _ (by omega))) rfl ?_
                  refine WL.say (t := 67) (v' := .int .i64 ((p - 1 : Nat) : Int)) rfl (by (refine congrArg _ ?_; omega)) ?_
                  refine WL.y (Yl.assign rfl) rfl ?_
                  refine WL.nil ?_
                  refine WC.block ?_
                  have hia : p - a ≥ 2 := by omega
                  obtain ⟨V, hV⟩ : ∃ V, shiftDown ltK (p - 1) (swp G p (p - 1)) = V := ⟨_, rfl⟩
                  have hVe : pinD a G p = V := by unfold pinD; rw [if_pos hia]; exact hV
                  rw [hVe]
                  refine WC.loop (α := Nat × Array Ky) (fun z => [(0, v), (3, .func (.func 60) #[] #[]), (1, .int .i64 (a : Int)), (2, .int .i64 (b : Int)), (9, .int .i64 (p : Int)), (10, .int .i64 (k : Int)), (11, .int .i64 (z.1 : Int))]) (fun z => [rwK v n (z.2.toList)]) (fun z => z.1 < n ∧ z.2.size = n ∧ shiftDown ltK z.1 z.2 = V) (fun z => z.1) (p - 1, swp G p (p - 1)) ⟨by dsimp only; omega, by dsimp only; omega, hV⟩ ⟨(by repeat (first | exact Sub.nil | refine Sub.cons rfl ?_)), _, (by repeat' constructor)⟩ ?_
                  rintro ⟨j, E⟩ ⟨hj, hE, hVE⟩
                  dsimp only at hj hE hVE ⊢
                  refine WC.seq ?_
                  refine WC.seq ?_
                  refine WC.region ?_
                  refine WL.y (Yl.move rfl) rfl ?_
                  refine WL.y (Yl.geq rfl rfl) rfl ?_
                  refine WL.nil ?_
                  refine WC.condD rfl (fun g69 => ?_) (fun g69 => ?_)
                  · refine WC.skip ?_
                    refine WC.seq ?_
                    refine WC.block ?_
                    refine WC.seq ?_
                    refine WC.seq ?_
                    have hj1 : 1 ≤ j := by omega
                    refine WC.drawAny (Hs := [rwK v n (E.toList)]) mixed (by kernel_rfl) ⟨_, (by repeat' constructor)⟩ ?_
                    refine WD.take 0 rfl (by kernel_rfl) (by kernel_rfl) (by kernel_rfl) rfl rfl (Yl.move rfl) rfl ?_
                    refine WD.take 1 rfl (by kernel_rfl) (by kernel_rfl) (by kernel_rfl) rfl rfl (Yl.move rfl) rfl ?_
                    refine WD.take 2 rfl (by kernel_rfl) (by kernel_rfl) (by kernel_rfl) rfl rfl (Yl.move rfl) rfl ?_
                    refine WD.take 3 rfl (by kernel_rfl) (by kernel_rfl) (by kernel_rfl) rfl rfl (Yl.indexF un22 sz30 rfl rfl hF rfl (by omega)) rfl ?_
                    refine WD.take 4 rfl (by kernel_rfl) (by kernel_rfl) (by kernel_rfl) rfl rfl (Yl.loadV vtK (fun _ _ => trivial) rfl (Reads.own (by repeat constructor)) (by rw [Array.length_toList]; omega) (so_getK (by omega))) rfl ?_
                    refine WD.take 5 rfl (by kernel_rfl) (by kernel_rfl) (by kernel_rfl) rfl rfl (Yl.move rfl) rfl ?_
                    refine WD.take 6 rfl (by kernel_rfl) (by kernel_rfl) (by kernel_rfl) rfl rfl (Yl.move rfl) rfl ?_
                    refine WD.take 7 rfl (by kernel_rfl) (by kernel_rfl) (by kernel_rfl) rfl rfl (Yl.sub rfl rfl (IntWalk.i64_in _ (by omega))) rfl ?_
                    refine WD.say (t := 79) (v' := .int .i64 ((j - 1 : Nat) : Int)) rfl (by (refine congrArg _ ?_; omega)) ?_
                    refine WD.take 8 rfl (by kernel_rfl) (by kernel_rfl) (by kernel_rfl) rfl rfl (Yl.indexF un22 sz30 rfl rfl hF rfl (by omega)) rfl ?_
                    refine WD.take 9 rfl (by kernel_rfl) (by kernel_rfl) (by kernel_rfl) rfl rfl (Yl.loadV vtK (fun _ _ => trivial) rfl (Reads.own (by repeat constructor)) (by rw [Array.length_toList]; omega) (so_getK (by omega))) rfl ?_
                    refine WD.one 10 (by kernel_rfl) ?_
                    refine WO.callC (f := .tmp 72) (xs := [.tmp 76, .tmp 81]) (cap := []) rfl .no rfl rfl en60 (by repeat' constructor) (fun w hw => order_any _ _ w hw.left.here) rfl (fun _ => ⟨_, (by repeat' constructor)⟩) ?_
                    rintro ⟨⟩ -
                    refine WD.take 11 rfl (by kernel_rfl) (by kernel_rfl) (by kernel_rfl) rfl rfl (Yl.lss rfl rfl) rfl ?_
                    refine WD.say (t := 83) (v' := .bool (ltK _ _)) rfl (by rfl) ?_
                    refine WD.take 12 rfl (by kernel_rfl) (by kernel_rfl) (by kernel_rfl) rfl rfl (Yl.not rfl) rfl ?_
                    refine WD.done (by kernel_rfl) ?_
                    refine WC.cond rfl (fun g84 => ?_) (fun g84 => ?_)
                    · refine WC.exit ?_
                      first
                      | (have hj0 : ¬ 1 ≤ j := by omega
                         have hst : shiftDown ltK j E = E := sd_stop (fun e => hj0 e.1)
                         rw [hst] at hVE
                         subst hVE
                         exact ⟨rfl, (), trivial, (by repeat (first | exact Sub.nil | refine Sub.cons rfl ?_)), _, (by repeat' constructor)⟩)
                      | (have hst : shiftDown ltK j E = E := sd_stop (fun e => by rw [e.2] at g84; cases g84)
                         rw [hst] at hVE
                         subst hVE
                         exact ⟨rfl, (), trivial, (by repeat (first | exact Sub.nil | refine Sub.cons rfl ?_)), _, (by repeat' constructor)⟩)
                      | (have hia : ¬ p - a ≥ 2 := by omega
                         rw [show pinD a G p = swp G p (p - 1) from if_neg hia]
                         exact ⟨rfl, (), trivial, (by repeat (first | exact Sub.nil | refine Sub.cons rfl ?_)), _, (by repeat' constructor)⟩)
                    · refine WC.skip ?_
                      have hlt : ltK E[j]! E[j - 1]! = true := by simpa using g84
                      rw [sd_go hj1 hlt] at hVE
                      refine WC.drawAny (Hs := []) mixed (by kernel_rfl) ⟨_, (by repeat' constructor)⟩ ?_
                      refine WD.take 0 rfl (by kernel_rfl) (by kernel_rfl) (by kernel_rfl) rfl rfl (Yl.move rfl) rfl ?_
                      refine WD.take 1 rfl (by kernel_rfl) (by kernel_rfl) (by kernel_rfl) rfl rfl (Yl.move rfl) rfl ?_
                      refine WD.take 2 rfl (by kernel_rfl) (by kernel_rfl) (by kernel_rfl) rfl rfl (Yl.move rfl) rfl ?_
                      refine WD.take 3 rfl (by kernel_rfl) (by kernel_rfl) (by kernel_rfl) rfl rfl (Yl.move rfl) rfl ?_
                      refine WD.take 4 rfl (by kernel_rfl) (by kernel_rfl) (by kernel_rfl) rfl rfl (Yl.sub rfl rfl (IntWalk.i64_in _ (by omega))) rfl ?_
                      refine WD.say (t := 89) (v' := .int .i64 ((j - 1 : Nat) : Int)) rfl (by (refine congrArg _ ?_; omega)) ?_
                      refine WD.take 5 rfl (by kernel_rfl) (by kernel_rfl) (by kernel_rfl) rfl rfl (Yl.move rfl) rfl ?_
                      refine WD.take 6 rfl (by kernel_rfl) (by kernel_rfl) (by kernel_rfl) rfl rfl (Yl.move rfl) rfl ?_
                      refine WD.take 7 rfl (by kernel_rfl) (by kernel_rfl) (by kernel_rfl) rfl rfl (Yl.sub rfl rfl (IntWalk.i64_in _ (by omega))) rfl ?_
                      refine WD.say (t := 92) (v' := .int .i64 ((j - 1 : Nat) : Int)) rfl (by (refine congrArg _ ?_; omega)) ?_
                      refine WD.take 8 rfl (by kernel_rfl) (by kernel_rfl) (by kernel_rfl) rfl rfl (Yl.indexF un22 sz30 rfl rfl hF rfl (by omega)) rfl ?_
                      refine WD.take 10 rfl (by kernel_rfl) (by kernel_rfl) (by kernel_rfl) rfl rfl (Yl.move rfl) rfl ?_
                      refine WD.take 11 rfl (by kernel_rfl) (by kernel_rfl) (by kernel_rfl) rfl rfl (Yl.move rfl) rfl ?_
                      refine WD.take 12 rfl (by kernel_rfl) (by kernel_rfl) (by kernel_rfl) rfl rfl (Yl.indexF un22 sz30 rfl rfl hF rfl (by omega)) rfl ?_
                      refine WD.two 9 13 (by kernel_rfl) ?_ ?_
                      · refine WO.y rfl rfl .no (Yl.loadV vtK (fun _ _ => trivial) rfl (Reads.own (by repeat constructor)) (by rw [Array.length_toList]; omega) (so_getK (by omega))) rfl ?_
                        refine WD.one 13 (by kernel_rfl) ?_
                        refine WO.y rfl rfl .no (Yl.loadV vtK (fun _ _ => trivial) rfl (Reads.own (by repeat constructor)) (by rw [Array.length_toList]; omega) (so_getK (by omega))) rfl ?_
                        refine WD.take 14 rfl (by kernel_rfl) (by kernel_rfl) (by kernel_rfl) rfl rfl (Yl.indexF un22 sz30 rfl rfl hF rfl (by omega)) rfl ?_
                        refine WD.one 15 (by kernel_rfl) ?_
                        refine WO.sto rfl rfl .no (Sto.elemV (j := j) (u := E[j - 1]!) (xs := E.toList) vtK (fun _ _ => trivial) trivial rfl rfl (by repeat constructor) (by rw [Array.length_toList]; omega) (by omega)) ⟨_, (by repeat' constructor)⟩ ?_
                        refine WD.take 16 rfl (by kernel_rfl) (by kernel_rfl) (by kernel_rfl) rfl rfl (Yl.indexF un22 sz30 rfl rfl hF rfl (by omega)) rfl ?_
                        refine WD.one 17 (by kernel_rfl) ?_
                        refine WO.sto rfl rfl .no (Sto.elemV (j := j - 1) (u := E[j]!) (xs := E.toList.set (j) E[j - 1]!) vtK (fun _ _ => trivial) trivial rfl rfl (by repeat constructor) (by rw [List.length_set, Array.length_toList]; omega) (by omega)) ⟨_, (by repeat' constructor)⟩ ?_
                        rw [so_swpK E (j) (j - 1)]
                        refine WD.done (by kernel_rfl) ?_
                        refine WC.region ?_
                        refine WL.y (Yl.move rfl) rfl ?_
                        refine WL.y (Yl.sub rfl rfl (IntWalk.i64_in _ (by omega))) rfl ?_
                        refine WL.say (t := 71) (v' := .int .i64 ((j - 1 : Nat) : Int)) rfl (by (refine congrArg _ ?_; omega)) ?_
                        refine WL.y (Yl.assign rfl) rfl ?_
                        refine WL.nil ?_
                        exact ⟨rfl, (j - 1, swp E j (j - 1)), ⟨by dsimp only; omega, by dsimp only; rw [swp_size]; exact hE, hVE⟩, by dsimp only; omega, (by repeat (first | exact Sub.nil | refine Sub.cons rfl ?_)), _, (by repeat' constructor)⟩
                      · refine WO.y rfl rfl .no (Yl.loadV vtK (fun _ _ => trivial) rfl (Reads.own (by repeat constructor)) (by rw [Array.length_toList]; omega) (so_getK (by omega))) rfl ?_
                        refine WD.one 9 (by kernel_rfl) ?_
                        refine WO.y rfl rfl .no (Yl.loadV vtK (fun _ _ => trivial) rfl (Reads.own (by repeat constructor)) (by rw [Array.length_toList]; omega) (so_getK (by omega))) rfl ?_
                        refine WD.take 14 rfl (by kernel_rfl) (by kernel_rfl) (by kernel_rfl) rfl rfl (Yl.indexF un22 sz30 rfl rfl hF rfl (by omega)) rfl ?_
                        refine WD.one 15 (by kernel_rfl) ?_
                        refine WO.sto rfl rfl .no (Sto.elemV (j := j) (u := E[j - 1]!) (xs := E.toList) vtK (fun _ _ => trivial) trivial rfl rfl (by repeat constructor) (by rw [Array.length_toList]; omega) (by omega)) ⟨_, (by repeat' constructor)⟩ ?_
                        refine WD.take 16 rfl (by kernel_rfl) (by kernel_rfl) (by kernel_rfl) rfl rfl (Yl.indexF un22 sz30 rfl rfl hF rfl (by omega)) rfl ?_
                        refine WD.one 17 (by kernel_rfl) ?_
                        refine WO.sto rfl rfl .no (Sto.elemV (j := j - 1) (u := E[j]!) (xs := E.toList.set (j) E[j - 1]!) vtK (fun _ _ => trivial) trivial rfl rfl (by repeat constructor) (by rw [List.length_set, Array.length_toList]; omega) (by omega)) ⟨_, (by repeat' constructor)⟩ ?_
                        rw [so_swpK E (j) (j - 1)]
                        refine WD.done (by kernel_rfl) ?_
                        refine WC.region ?_
                        refine WL.y (Yl.move rfl) rfl ?_
                        refine WL.y (Yl.sub rfl rfl (IntWalk.i64_in _ (by omega))) rfl ?_
                        refine WL.say (t := 71) (v' := .int .i64 ((j - 1 : Nat) : Int)) rfl (by (refine congrArg _ ?_; omega)) ?_
                        refine WL.y (Yl.assign rfl) rfl ?_
                        refine WL.nil ?_
                        exact ⟨rfl, (j - 1, swp E j (j - 1)), ⟨by dsimp only; omega, by dsimp only; rw [swp_size]; exact hE, hVE⟩, by dsimp only; omega, (by repeat (first | exact Sub.nil | refine Sub.cons rfl ?_)), _, (by repeat' constructor)⟩
                  · refine WC.exit ?_
                    first
                    | (have hj0 : ¬ 1 ≤ j := by omega
                       have hst : shiftDown ltK j E = E := sd_stop (fun e => hj0 e.1)
                       rw [hst] at hVE
                       subst hVE
                       exact ⟨rfl, (), trivial, (by repeat (first | exact Sub.nil | refine Sub.cons rfl ?_)), _, (by repeat' constructor)⟩)
                    | (have hst : shiftDown ltK j E = E := sd_stop (fun e => by rw [e.2] at g84; cases g84)
                       rw [hst] at hVE
                       subst hVE
                       exact ⟨rfl, (), trivial, (by repeat (first | exact Sub.nil | refine Sub.cons rfl ?_)), _, (by repeat' constructor)⟩)
                    | (have hia : ¬ p - a ≥ 2 := by omega
                       rw [show pinD a G p = swp G p (p - 1) from if_neg hia]
                       exact ⟨rfl, (), trivial, (by repeat (first | exact Sub.nil | refine Sub.cons rfl ?_)), _, (by repeat' constructor)⟩)
                · refine WC.skip ?_
                  first
                  | (have hj0 : ¬ 1 ≤ j := by omega
                     have hst : shiftDown ltK j E = E := sd_stop (fun e => hj0 e.1)
                     rw [hst] at hVE
                     subst hVE
                     exact ⟨rfl, (), trivial, (by repeat (first | exact Sub.nil | refine Sub.cons rfl ?_)), _, (by repeat' constructor)⟩)
                  | (have hst : shiftDown ltK j E = E := sd_stop (fun e => by rw [e.2] at g84; cases g84)
                     rw [hst] at hVE
                     subst hVE
                     exact ⟨rfl, (), trivial, (by repeat (first | exact Sub.nil | refine Sub.cons rfl ?_)), _, (by repeat' constructor)⟩)
                  | (have hia : ¬ p - a ≥ 2 := by omega
                     rw [show pinD a G p = swp G p (p - 1) from if_neg hia]
                     exact ⟨rfl, (), trivial, (by repeat (first | exact Sub.nil | refine Sub.cons rfl ?_)), _, (by repeat' constructor)⟩)
              · rintro ⟨⟩ -
                refine WC.seq ?_
                refine WC.region ?_
                refine WL.y (Yl.move rfl) rfl ?_
                refine WL.y (Yl.move rfl) rfl ?_
                refine WL.y (Yl.sub rfl rfl (IntWalk.i64_in _ (by omega))) rfl ?_
                refine WL.y (Yl.geq rfl rfl) rfl ?_
                refine WL.nil ?_
                refine WC.condD rfl (fun g104 => ?_) (fun g104 => ?_)
                · refine WC.seq ?_
                  refine WC.region ?_
                  refine WL.y (Yl.move rfl) rfl ?_
                  refine WL.y (Yl.add rfl rfl (IntWalk.i64_in _ (by omega))) rfl ?_
                  refine WL.y (Yl.assign rfl) rfl ?_
                  refine WL.nil ?_
                  refine WC.block ?_
                  have hbi : b - p ≥ 2 := by omega
                  obtain ⟨V, hV⟩ : ∃ V, shiftUp ltK b (p + 1) (pinD a G p) = V := ⟨_, rfl⟩
                  have hVe : pinU a b G p = V := by unfold pinU; rw [if_pos hbi]; exact hV
                  rw [hVe] at hTG hpu
                  refine WC.loop (α := Nat × Array Ky) (fun z => [(0, v), (3, .func (.func 60) #[] #[]), (1, .int .i64 (a : Int)), (2, .int .i64 (b : Int)), (9, .int .i64 (p : Int)), (10, .int .i64 (k : Int)), (12, .int .i64 (z.1 : Int))]) (fun z => [rwK v n (z.2.toList)]) (fun z => (1 ≤ z.1 ∧ z.1 ≤ b) ∧ z.2.size = n ∧ shiftUp ltK b z.1 z.2 = V) (fun z => b - z.1) (p + 1, pinD a G p) ⟨by dsimp only; omega, by dsimp only; omega, hV⟩ ⟨(by repeat (first | exact Sub.nil | refine Sub.cons rfl ?_)), _, (by repeat' constructor)⟩ ?_
                  rintro ⟨j, E⟩ ⟨⟨hj1, hj⟩, hE, hVE⟩
                  dsimp only at hj1 hj hE hVE ⊢
                  refine WC.seq ?_
                  refine WC.seq ?_
                  refine WC.region ?_
                  refine WL.y (Yl.move rfl) rfl ?_
                  refine WL.y (Yl.move rfl) rfl ?_
                  refine WL.y (Yl.lss rfl rfl) rfl ?_
                  refine WL.nil ?_
                  refine WC.condD rfl (fun g109 => ?_) (fun g109 => ?_)
                  · refine WC.skip ?_
                    refine WC.seq ?_
                    refine WC.block ?_
                    refine WC.seq ?_
                    refine WC.seq ?_
                    have hjb : j < b := by omega
                    refine WC.drawAny (Hs := [rwK v n (E.toList)]) mixed (by kernel_rfl) ⟨_, (by repeat' constructor)⟩ ?_
                    refine WD.take 0 rfl (by kernel_rfl) (by kernel_rfl) (by kernel_rfl) rfl rfl (Yl.move rfl) rfl ?_
                    refine WD.take 1 rfl (by kernel_rfl) (by kernel_rfl) (by kernel_rfl) rfl rfl (Yl.move rfl) rfl ?_
                    refine WD.take 2 rfl (by kernel_rfl) (by kernel_rfl) (by kernel_rfl) rfl rfl (Yl.move rfl) rfl ?_
                    refine WD.take 3 rfl (by kernel_rfl) (by kernel_rfl) (by kernel_rfl) rfl rfl (Yl.indexF un22 sz30 rfl rfl hF rfl (by omega)) rfl ?_
                    refine WD.take 4 rfl (by kernel_rfl) (by kernel_rfl) (by kernel_rfl) rfl rfl (Yl.loadV vtK (fun _ _ => trivial) rfl (Reads.own (by repeat constructor)) (by rw [Array.length_toList]; omega) (so_getK (by omega))) rfl ?_
                    refine WD.take 5 rfl (by kernel_rfl) (by kernel_rfl) (by kernel_rfl) rfl rfl (Yl.move rfl) rfl ?_
                    refine WD.take 6 rfl (by kernel_rfl) (by kernel_rfl) (by kernel_rfl) rfl rfl (Yl.move rfl) rfl ?_
                    refine WD.take 7 rfl (by kernel_rfl) (by kernel_rfl) (by kernel_rfl) rfl rfl (Yl.sub rfl rfl (IntWalk.i64_in _ (by omega))) rfl ?_
                    refine WD.say (t := 119) (v' := .int .i64 ((j - 1 : Nat) : Int)) rfl (by (refine congrArg _ ?_; omega)) ?_
                    refine WD.take 8 rfl (by kernel_rfl) (by kernel_rfl) (by kernel_rfl) rfl rfl (Yl.indexF un22 sz30 rfl rfl hF rfl (by omega)) rfl ?_
                    refine WD.take 9 rfl (by kernel_rfl) (by kernel_rfl) (by kernel_rfl) rfl rfl (Yl.loadV vtK (fun _ _ => trivial) rfl (Reads.own (by repeat constructor)) (by rw [Array.length_toList]; omega) (so_getK (by omega))) rfl ?_
                    refine WD.one 10 (by kernel_rfl) ?_
                    refine WO.callC (f := .tmp 112) (xs := [.tmp 116, .tmp 121]) (cap := []) rfl .no rfl rfl en60 (by repeat' constructor) (fun w hw => order_any _ _ w hw.left.here) rfl (fun _ => ⟨_, (by repeat' constructor)⟩) ?_
                    rintro ⟨⟩ -
                    refine WD.take 11 rfl (by kernel_rfl) (by kernel_rfl) (by kernel_rfl) rfl rfl (Yl.lss rfl rfl) rfl ?_
                    refine WD.say (t := 123) (v' := .bool (ltK _ _)) rfl (by rfl) ?_
                    refine WD.take 12 rfl (by kernel_rfl) (by kernel_rfl) (by kernel_rfl) rfl rfl (Yl.not rfl) rfl ?_
                    refine WD.done (by kernel_rfl) ?_
                    refine WC.cond rfl (fun g124 => ?_) (fun g124 => ?_)
                    · refine WC.exit ?_
                      refine WC.region ?_
                      refine WL.y (Yl.move rfl) rfl ?_
                      refine WL.y (Yl.add rfl rfl (IntWalk.i64_in _ (by omega))) rfl ?_
                      refine WL.y (Yl.assign rfl) rfl ?_
                      refine WL.nil ?_
                      first
                      | (have hjb : ¬ j < b := by omega
                         have hst : shiftUp ltK b j E = E := su_stop (fun e => hjb e.1)
                         rw [hst] at hVE
                         subst hVE
                         exact ⟨rfl, (k + 1, p, E), ⟨by dsimp only; omega, by dsimp only; omega, by dsimp only; omega, hTG⟩, by dsimp only; omega, (by repeat (first | exact Sub.nil | refine Sub.cons rfl ?_)), _, (by repeat' constructor)⟩)
                      | (have hst : shiftUp ltK b j E = E := su_stop (fun e => by rw [e.2] at g124; cases g124)
                         rw [hst] at hVE
                         subst hVE
                         exact ⟨rfl, (k + 1, p, E), ⟨by dsimp only; omega, by dsimp only; omega, by dsimp only; omega, hTG⟩, by dsimp only; omega, (by repeat (first | exact Sub.nil | refine Sub.cons rfl ?_)), _, (by repeat' constructor)⟩)
                      | (have hbi : ¬ b - p ≥ 2 := by omega
                         rw [show pinU a b G p = pinD a G p from if_neg hbi] at hTG
                         exact ⟨rfl, (k + 1, p, pinD a G p), ⟨by dsimp only; omega, by dsimp only; omega, by dsimp only; omega, hTG⟩, by dsimp only; omega, (by repeat (first | exact Sub.nil | refine Sub.cons rfl ?_)), _, (by repeat' constructor)⟩)
                    · refine WC.skip ?_
                      have hlt : ltK E[j]! E[j - 1]! = true := by simpa using g124
                      rw [su_go hjb hlt] at hVE
                      refine WC.drawAny (Hs := []) mixed (by kernel_rfl) ⟨_, (by repeat' constructor)⟩ ?_
                      refine WD.take 0 rfl (by kernel_rfl) (by kernel_rfl) (by kernel_rfl) rfl rfl (Yl.move rfl) rfl ?_
                      refine WD.take 1 rfl (by kernel_rfl) (by kernel_rfl) (by kernel_rfl) rfl rfl (Yl.move rfl) rfl ?_
                      refine WD.take 2 rfl (by kernel_rfl) (by kernel_rfl) (by kernel_rfl) rfl rfl (Yl.move rfl) rfl ?_
                      refine WD.take 3 rfl (by kernel_rfl) (by kernel_rfl) (by kernel_rfl) rfl rfl (Yl.move rfl) rfl ?_
                      refine WD.take 4 rfl (by kernel_rfl) (by kernel_rfl) (by kernel_rfl) rfl rfl (Yl.sub rfl rfl (IntWalk.i64_in _ (by omega))) rfl ?_
                      refine WD.say (t := 129) (v' := .int .i64 ((j - 1 : Nat) : Int)) rfl (by (refine congrArg _ ?_; omega)) ?_
                      refine WD.take 5 rfl (by kernel_rfl) (by kernel_rfl) (by kernel_rfl) rfl rfl (Yl.move rfl) rfl ?_
                      refine WD.take 6 rfl (by kernel_rfl) (by kernel_rfl) (by kernel_rfl) rfl rfl (Yl.move rfl) rfl ?_
                      refine WD.take 7 rfl (by kernel_rfl) (by kernel_rfl) (by kernel_rfl) rfl rfl (Yl.sub rfl rfl (IntWalk.i64_in _ (by omega))) rfl ?_
                      refine WD.say (t := 132) (v' := .int .i64 ((j - 1 : Nat) : Int)) rfl (by (refine congrArg _ ?_; omega)) ?_
                      refine WD.take 8 rfl (by kernel_rfl) (by kernel_rfl) (by kernel_rfl) rfl rfl (Yl.indexF un22 sz30 rfl rfl hF rfl (by omega)) rfl ?_
                      refine WD.take 10 rfl (by kernel_rfl) (by kernel_rfl) (by kernel_rfl) rfl rfl (Yl.move rfl) rfl ?_
                      refine WD.take 11 rfl (by kernel_rfl) (by kernel_rfl) (by kernel_rfl) rfl rfl (Yl.move rfl) rfl ?_
                      refine WD.take 12 rfl (by kernel_rfl) (by kernel_rfl) (by kernel_rfl) rfl rfl (Yl.indexF un22 sz30 rfl rfl hF rfl (by omega)) rfl ?_
                      refine WD.two 9 13 (by kernel_rfl) ?_ ?_
                      · refine WO.y rfl rfl .no (Yl.loadV vtK (fun _ _ => trivial) rfl (Reads.own (by repeat constructor)) (by rw [Array.length_toList]; omega) (so_getK (by omega))) rfl ?_
                        refine WD.one 13 (by kernel_rfl) ?_
                        refine WO.y rfl rfl .no (Yl.loadV vtK (fun _ _ => trivial) rfl (Reads.own (by repeat constructor)) (by rw [Array.length_toList]; omega) (so_getK (by omega))) rfl ?_
                        refine WD.take 14 rfl (by kernel_rfl) (by kernel_rfl) (by kernel_rfl) rfl rfl (Yl.indexF un22 sz30 rfl rfl hF rfl (by omega)) rfl ?_
                        refine WD.one 15 (by kernel_rfl) ?_
                        refine WO.sto rfl rfl .no (Sto.elemV (j := j) (u := E[j - 1]!) (xs := E.toList) vtK (fun _ _ => trivial) trivial rfl rfl (by repeat constructor) (by rw [Array.length_toList]; omega) (by omega)) ⟨_, (by repeat' constructor)⟩ ?_
                        refine WD.take 16 rfl (by kernel_rfl) (by kernel_rfl) (by kernel_rfl) rfl rfl (Yl.indexF un22 sz30 rfl rfl hF rfl (by omega)) rfl ?_
                        refine WD.one 17 (by kernel_rfl) ?_
                        refine WO.sto rfl rfl .no (Sto.elemV (j := j - 1) (u := E[j]!) (xs := E.toList.set (j) E[j - 1]!) vtK (fun _ _ => trivial) trivial rfl rfl (by repeat constructor) (by rw [List.length_set, Array.length_toList]; omega) (by omega)) ⟨_, (by repeat' constructor)⟩ ?_
                        rw [so_swpK E (j) (j - 1)]
                        refine WD.done (by kernel_rfl) ?_
                        refine WC.region ?_
                        refine WL.y (Yl.move rfl) rfl ?_
                        refine WL.y (Yl.add rfl rfl (IntWalk.i64_in _ (by omega))) rfl ?_
                        refine WL.y (Yl.assign rfl) rfl ?_
                        refine WL.nil ?_
                        exact ⟨rfl, (j + 1, swp E j (j - 1)), ⟨by dsimp only; omega, by dsimp only; rw [swp_size]; exact hE, hVE⟩, by dsimp only; omega, (by repeat (first | exact Sub.nil | refine Sub.cons rfl ?_)), _, (by repeat' constructor)⟩
                      · refine WO.y rfl rfl .no (Yl.loadV vtK (fun _ _ => trivial) rfl (Reads.own (by repeat constructor)) (by rw [Array.length_toList]; omega) (so_getK (by omega))) rfl ?_
                        refine WD.one 9 (by kernel_rfl) ?_
                        refine WO.y rfl rfl .no (Yl.loadV vtK (fun _ _ => trivial) rfl (Reads.own (by repeat constructor)) (by rw [Array.length_toList]; omega) (so_getK (by omega))) rfl ?_
                        refine WD.take 14 rfl (by kernel_rfl) (by kernel_rfl) (by kernel_rfl) rfl rfl (Yl.indexF un22 sz30 rfl rfl hF rfl (by omega)) rfl ?_
                        refine WD.one 15 (by kernel_rfl) ?_
                        refine WO.sto rfl rfl .no (Sto.elemV (j := j) (u := E[j - 1]!) (xs := E.toList) vtK (fun _ _ => trivial) trivial rfl rfl (by repeat constructor) (by rw [Array.length_toList]; omega) (by omega)) ⟨_, (by repeat' constructor)⟩ ?_
                        refine WD.take 16 rfl (by kernel_rfl) (by kernel_rfl) (by kernel_rfl) rfl rfl (Yl.indexF un22 sz30 rfl rfl hF rfl (by omega)) rfl ?_
                        refine WD.one 17 (by kernel_rfl) ?_
                        refine WO.sto rfl rfl .no (Sto.elemV (j := j - 1) (u := E[j]!) (xs := E.toList.set (j) E[j - 1]!) vtK (fun _ _ => trivial) trivial rfl rfl (by repeat constructor) (by rw [List.length_set, Array.length_toList]; omega) (by omega)) ⟨_, (by repeat' constructor)⟩ ?_
                        rw [so_swpK E (j) (j - 1)]
                        refine WD.done (by kernel_rfl) ?_
                        refine WC.region ?_
                        refine WL.y (Yl.move rfl) rfl ?_
                        refine WL.y (Yl.add rfl rfl (IntWalk.i64_in _ (by omega))) rfl ?_
                        refine WL.y (Yl.assign rfl) rfl ?_
                        refine WL.nil ?_
                        exact ⟨rfl, (j + 1, swp E j (j - 1)), ⟨by dsimp only; omega, by dsimp only; rw [swp_size]; exact hE, hVE⟩, by dsimp only; omega, (by repeat (first | exact Sub.nil | refine Sub.cons rfl ?_)), _, (by repeat' constructor)⟩
                  · refine WC.exit ?_
                    refine WC.region ?_
                    refine WL.y (Yl.move rfl) rfl ?_
                    refine WL.y (Yl.add rfl rfl (IntWalk.i64_in _ (by omega))) rfl ?_
                    refine WL.y (Yl.assign rfl) rfl ?_
                    refine WL.nil ?_
                    first
                    | (have hjb : ¬ j < b := by omega
                       have hst : shiftUp ltK b j E = E := su_stop (fun e => hjb e.1)
                       rw [hst] at hVE
                       subst hVE
                       exact ⟨rfl, (k + 1, p, E), ⟨by dsimp only; omega, by dsimp only; omega, by dsimp only; omega, hTG⟩, by dsimp only; omega, (by repeat (first | exact Sub.nil | refine Sub.cons rfl ?_)), _, (by repeat' constructor)⟩)
                    | (have hst : shiftUp ltK b j E = E := su_stop (fun e => by rw [e.2] at g124; cases g124)
                       rw [hst] at hVE
                       subst hVE
                       exact ⟨rfl, (k + 1, p, E), ⟨by dsimp only; omega, by dsimp only; omega, by dsimp only; omega, hTG⟩, by dsimp only; omega, (by repeat (first | exact Sub.nil | refine Sub.cons rfl ?_)), _, (by repeat' constructor)⟩)
                    | (have hbi : ¬ b - p ≥ 2 := by omega
                       rw [show pinU a b G p = pinD a G p from if_neg hbi] at hTG
                       exact ⟨rfl, (k + 1, p, pinD a G p), ⟨by dsimp only; omega, by dsimp only; omega, by dsimp only; omega, hTG⟩, by dsimp only; omega, (by repeat (first | exact Sub.nil | refine Sub.cons rfl ?_)), _, (by repeat' constructor)⟩)
                · refine WC.skip ?_
                  refine WC.region ?_
                  refine WL.y (Yl.move rfl) rfl ?_
                  refine WL.y (Yl.add rfl rfl (IntWalk.i64_in _ (by omega))) rfl ?_
                  refine WL.y (Yl.assign rfl) rfl ?_
                  refine WL.nil ?_
                  first
                  | (have hjb : ¬ j < b := by omega
                     have hst : shiftUp ltK b j E = E := su_stop (fun e => hjb e.1)
                     rw [hst] at hVE
                     subst hVE
                     exact ⟨rfl, (k + 1, p, E), ⟨by dsimp only; omega, by dsimp only; omega, by dsimp only; omega, hTG⟩, by dsimp only; omega, (by repeat (first | exact Sub.nil | refine Sub.cons rfl ?_)), _, (by repeat' constructor)⟩)
                  | (have hst : shiftUp ltK b j E = E := su_stop (fun e => by rw [e.2] at g124; cases g124)
                     rw [hst] at hVE
                     subst hVE
                     exact ⟨rfl, (k + 1, p, E), ⟨by dsimp only; omega, by dsimp only; omega, by dsimp only; omega, hTG⟩, by dsimp only; omega, (by repeat (first | exact Sub.nil | refine Sub.cons rfl ?_)), _, (by repeat' constructor)⟩)
                  | (have hbi : ¬ b - p ≥ 2 := by omega
                     rw [show pinU a b G p = pinD a G p from if_neg hbi] at hTG
                     exact ⟨rfl, (k + 1, p, pinD a G p), ⟨by dsimp only; omega, by dsimp only; omega, by dsimp only; omega, hTG⟩, by dsimp only; omega, (by repeat (first | exact Sub.nil | refine Sub.cons rfl ?_)), _, (by repeat' constructor)⟩)
  · refine WC.exit ?_
    refine WC.seq ?_
    have hk5 : k = 5 := by omega
    subst hk5
    have hTe : (G, false) = T := hTG
    subst hTe
    refine WC.region ?_
    refine WL.y (Yl.assign rfl) rfl ?_
    refine WL.nil ?_
    refine WC.ret ?_
    repeat (with_reducible (first | refine peelT ?_ | refine peelB ?_ | refine peelTX ?_ | refine peelBX ?_ | refine peelBN ?_ | refine peelBO rfl ?_))
    exact ret1 (.inr rfl) Tryz.results102 rfl fun w' h => ⟨(), trivial, rfl, h.sub (by repeat' constructor)⟩
end Go.Proofs.YtfobhdmhjjafcaaGreatDoorRR

namespace Go.Proofs.YtfobhdmhjjafcaaGreatDoorRR
open Go Go.RowKit Go.Sort

def othF (L M : Nat) (r : UInt64) : Nat := if (xorNext r).toNat &&& (M - 1) ≥ L then ((xorNext r).toNat &&& (M - 1)) - L else (xorNext r).toNat &&& (M - 1)
set_option maxHeartbeats 1600000 in
set_option maxRecDepth 100000 in
theorem brkK_any (v : Value) (n : Nat) (D : Array Ky) (a L : Nat) (hD : D.size = n) (hn : n ≤ 1099511627776) (hb : a + L ≤ n) (w : World) (hw : OK w (fpL [rwK v n (D.toList)]) [rwK v n (D.toList)] w) :
    Fn Tryz.prog 99 [v, .int .i64 (a : Int), .int .i64 ((a + L : Nat) : Int), .func (.func 60) #[] #[]] [rwK v n (D.toList)] w (fun _ : Unit => True) (fun _ => .tuple #[]) (fun _ => [rwK v n ((breakPatterns D a (a + L)).toList)]) := by
  have hF := sl_form (hw.get (r := rwK v n (D.toList)) .head)
  obtain ⟨M, hM⟩ : ∃ M, 1 <<< bitsLen L = M := ⟨_, rfl⟩
  obtain ⟨i0, hi0⟩ : ∃ i0, a + L / 4 * 2 - 1 = i0 := ⟨_, rfl⟩
  obtain ⟨T, hT⟩ : ∃ T, breakPatterns D a (a + L) = T := ⟨_, rfl⟩
  rw [hT]
  refine enterF Tryz.func99 rfl Tryz.ntmps99 rfl hw ?_
  refine WC.seq ?_
  refine WC.region ?_
  refine WL.y (Yl.move rfl) rfl ?_
  refine WL.y (Yl.move rfl) rfl ?_
  refine WL.y (Yl.sub rfl rfl (IntWalk.i64_in _ (by omega))) rfl ?_
  refine WL.say (t := 15) (v' := .int .i64 (L : Int)) rfl (by (refine congrArg _ ?_; omega)) ?_
  refine WL.y (Yl.assign rfl) rfl ?_
  refine WL.nil ?_
  refine WC.seq ?_
  refine WC.region ?_
  refine WL.y (Yl.move rfl) rfl ?_
  refine WL.y (Yl.geq rfl rfl) rfl ?_
  refine WL.nil ?_
  refine WC.condD rfl (fun g17 => ?_) (fun g17 => ?_)
  · refine WC.seq ?_
    have h8 : 8 ≤ L := by omega
    rw [breakPatterns_eq D a L h8, hM, hi0] at hT
    have hM2 : M ≤ 2 * L := by rw [← hM, Nat.one_shiftLeft]; exact two_pow_bitsLen_le (by omega)
    have hM1 : 1 ≤ M := by rw [← hM, Nat.one_shiftLeft]; exact Nat.one_le_two_pow
    have hL64 : (UInt64.ofNat L).toNat = L := by rw [UInt64.toNat_ofNat']; omega
    refine WC.region ?_
    refine WL.y (Yl.move rfl) rfl ?_
    refine WL.y (Yl.conv un3 un179 rfl (show IntKind.u64.wrap (L : Int) = (L : Int) by rw [IntKind.wrap_u64]; omega)) rfl ?_
    refine WL.to (To.alloc (cs := [.int .u64 0]) zr179 rfl) rfl ?_
    intro b9
    refine WL.sto (Sto.one sz179 rfl rfl (by repeat constructor) rfl (by rfl) (by rfl)) (fun _ h => nomatch h) ?_
    refine WL.nil ?_
    refine WC.seq ?_
    refine WC.region ?_
    refine WL.y (Yl.move rfl) rfl ?_
    refine WL.callC (xs := [.tmp 20]) (cap := []) rfl rfl en117 (by repeat' constructor) (fun w hw => npt_any L (by omega) w hw.left.here) rfl ?_
    rintro ⟨⟩ -
    rw [hM]
    refine WL.y (Yl.assign rfl) rfl ?_
    refine WL.nil ?_
    refine WC.seq ?_
    refine WC.region ?_
    refine WL.y (Yl.move rfl) rfl ?_
    refine WL.y (Yl.move rfl) rfl ?_
    refine WL.y (Yl.quo rfl rfl (by omega) (i64_quo (by omega) (by omega))) rfl ?_
    refine WL.say (t := 24) (v' := .int .i64 ((L / 4 : Nat) : Int)) rfl (by (refine congrArg _ ?_; omega)) ?_
    refine WL.y (Yl.mul rfl rfl (IntWalk.i64_in _ (by omega))) rfl ?_
    refine WL.say (t := 25) (v' := .int .i64 ((L / 4 * 2 : Nat) : Int)) rfl (by (refine congrArg _ ?_; omega)) ?_
    refine WL.y (Yl.add rfl rfl (IntWalk.i64_in _ (by omega))) rfl ?_
    refine WL.say (t := 26) (v' := .int .i64 ((a + L / 4 * 2 : Nat) : Int)) rfl (by (refine congrArg _ ?_; omega)) ?_
    refine WL.y (Yl.sub rfl rfl (IntWalk.i64_in _ (by omega))) rfl ?_
    refine WL.say (t := 27) (v' := .int .i64 (i0 : Int)) rfl (by (refine congrArg _ ?_; omega)) ?_
    refine WL.y (Yl.assign rfl) rfl ?_
    refine WL.nil ?_
    refine WC.block ?_
    refine WC.loop (α := Nat × UInt64 × Array Ky) (fun p => [(0, v), (3, .func (.func 60) #[] #[]), (1, .int .i64 (a : Int)), (8, .int .i64 (L : Int)), (9, .pointer (some ⟨b9, 0, none⟩)), (10, .int .u64 (M : Int)), (11, .int .i64 ((i0 + p.1 : Nat) : Int))]) (fun p => [rwK v n (p.2.2.toList), blkR b9 179 [.int .u64 (p.2.1.toNat : Int)]]) (fun p => p.1 ≤ 3 ∧ p.2.2.size = n ∧ bpRest a L M i0 (3 - p.1) p.1 (p.2.1, p.2.2) = T) (fun p => 3 - p.1) (0, UInt64.ofNat L, D) ⟨by dsimp only; omega, hD, hT⟩ ⟨(by repeat (first | exact Sub.nil | refine Sub.cons rfl ?_)), _, (by dsimp only; rw [hL64]; exact (by repeat' constructor))⟩ ?_
    rintro ⟨t, r, G⟩ ⟨ht, hG, hTG⟩
    dsimp only at ht hG hTG ⊢
    refine WC.seq ?_
    refine WC.seq ?_
    refine WC.region ?_
    refine WL.y (Yl.move rfl) rfl ?_
    refine WL.y (Yl.move rfl) rfl ?_
    refine WL.y (Yl.move rfl) rfl ?_
    refine WL.y (Yl.quo rfl rfl (by omega) (i64_quo (by omega) (by omega))) rfl ?_
    refine WL.say (t := 31) (v' := .int .i64 ((L / 4 : Nat) : Int)) rfl (by (refine congrArg _ ?_; omega)) ?_
    refine WL.y (Yl.mul rfl rfl (IntWalk.i64_in _ (by omega))) rfl ?_
    refine WL.say (t := 32) (v' := .int .i64 ((L / 4 * 2 : Nat) : Int)) rfl (by (refine congrArg _ ?_; omega)) ?_
    refine WL.y (Yl.add rfl rfl (IntWalk.i64_in _ (by omega))) rfl ?_
    refine WL.say (t := 33) (v' := .int .i64 ((a + L / 4 * 2 : Nat) : Int)) rfl (by (refine congrArg _ ?_; omega)) ?_
    refine WL.y (Yl.add rfl rfl (IntWalk.i64_in _ (by omega))) rfl ?_
    refine WL.say (t := 34) (v' := .int .i64 ((a + L / 4 * 2 + 1 : Nat) : Int)) rfl (by (refine congrArg _ ?_; omega)) ?_
    refine WL.y (Yl.leq rfl rfl) rfl ?_
    refine WL.nil ?_
    refine WC.condD rfl (fun g35 => ?_) (fun g35 => ?_)
    · refine WC.skip ?_
      refine WC.seq ?_
      refine WC.block ?_
      refine WC.seq ?_
      have ht3 : t < 3 := by omega
      have hrl : r.toNat < 18446744073709551616 := r.toNat_lt
      have hxl : (xorNext r).toNat < 18446744073709551616 := (xorNext r).toNat_lt
      rw [bp_step a L M i0 t r G (othF L M r) ht3 rfl] at hTG
      have hol : (xorNext r).toNat &&& (M - 1) ≤ M - 1 := Nat.and_le_right
      have hoF : othF L M r = if (xorNext r).toNat &&& (M - 1) ≥ L then ((xorNext r).toNat &&& (M - 1)) - L else (xorNext r).toNat &&& (M - 1) := rfl
      have hand := bits_and_u64_nat (xorNext r).toNat (M - 1) hxl (by omega)
      obtain ⟨O, hO⟩ : ∃ O, (xorNext r).toNat &&& (M - 1) = O := ⟨_, rfl⟩
      rw [hO] at hol hoF hand
      obtain ⟨o, ho⟩ : ∃ o, othF L M r = o := ⟨_, rfl⟩
      rw [ho] at hoF hTG
      refine WC.region ?_
      refine WL.callC (xs := [.tmp 9]) (cap := []) rfl rfl en118 (by repeat' constructor) (fun w hw => xor_any b9 r.toNat hrl w hw.left.here) rfl ?_
      rintro ⟨⟩ -
      rw [← xorNext_toNat]
      dsimp only [List.cons_append, List.nil_append]
      refine WL.y (Yl.move rfl) rfl ?_
      refine WL.y (Yl.sub rfl rfl rfl) rfl ?_
      refine WL.say (t := 40) (v' := .int .u64 ((M - 1 : Nat) : Int)) rfl (by (refine congrArg _ ?_; rw [IntKind.wrap_u64]; omega)) ?_
      refine WL.y (Yl.and rfl rfl) rfl ?_
      refine WL.say (t := 41) (v' := .int .u64 (O : Int)) rfl (by rw [hand]) ?_
      refine WL.y (Yl.conv un67 un3 rfl (IntWalk.i64_in _ (by omega))) rfl ?_
      refine WL.y (Yl.assign rfl) rfl ?_
      refine WL.nil ?_
      refine WC.midX (α := Unit) (fun _ => [(0, v), (3, .func (.func 60) #[] #[]), (1, .int .i64 (a : Int)), (8, .int .i64 (L : Int)), (9, .pointer (some ⟨b9, 0, none⟩)), (10, .int .u64 (M : Int)), (11, .int .i64 ((i0 + t : Nat) : Int)), (12, .int .i64 (o : Int))]) (fun _ => [rwK v n (G.toList), blkR b9 179 [.int .u64 ((xorNext r).toNat : Int)]]) (fun _ => True) ?_ ?_
      · refine WC.seq ?_
        refine WC.region ?_
        refine WL.y (Yl.move rfl) rfl ?_
        refine WL.y (Yl.move rfl) rfl ?_
        refine WL.y (Yl.geq rfl rfl) rfl ?_
        refine WL.nil ?_
        refine WC.condD rfl (fun g45 => ?_) (fun g45 => ?_)
        · refine WC.region ?_
          refine WL.y (Yl.move rfl) rfl ?_
          refine WL.y (Yl.move rfl) rfl ?_
          refine WL.y (Yl.sub rfl rfl (IntWalk.i64_in _ (by omega))) rfl ?_
          refine WL.say (t := 48) (v' := .int .i64 (o : Int)) rfl (by (have h2 : L ≤ O := (by omega); rw [if_pos h2] at hoF; refine congrArg _ ?_; omega)) ?_
          refine WL.y (Yl.assign rfl) rfl ?_
          refine WL.nil ?_
          exact ⟨rfl, (), trivial, (by repeat (first | exact Sub.nil | refine Sub.cons rfl ?_)), _, (by repeat' constructor)⟩
        · refine WC.skip ?_
          have h2 : ¬ L ≤ O := by omega
          rw [if_neg h2] at hoF
          rw [hoF]
          exact ⟨rfl, (), trivial, (by repeat (first | exact Sub.nil | refine Sub.cons rfl ?_)), _, (by repeat' constructor)⟩
      · rintro ⟨⟩ -
        have hoL : o < L := by
          rw [hoF]
          split <;> omega
        refine WC.drawAny (Hs := []) mixed (by kernel_rfl) ⟨_, (by repeat' constructor)⟩ ?_
        refine WD.take 0 rfl (by kernel_rfl) (by kernel_rfl) (by kernel_rfl) rfl rfl (Yl.move rfl) rfl ?_
        refine WD.take 1 rfl (by kernel_rfl) (by kernel_rfl) (by kernel_rfl) rfl rfl (Yl.move rfl) rfl ?_
        refine WD.take 2 rfl (by kernel_rfl) (by kernel_rfl) (by kernel_rfl) rfl rfl (Yl.move rfl) rfl ?_
        refine WD.take 3 rfl (by kernel_rfl) (by kernel_rfl) (by kernel_rfl) rfl rfl (Yl.move rfl) rfl ?_
        refine WD.take 4 rfl (by kernel_rfl) (by kernel_rfl) (by kernel_rfl) rfl rfl (Yl.move rfl) rfl ?_
        refine WD.take 5 rfl (by kernel_rfl) (by kernel_rfl) (by kernel_rfl) rfl rfl (Yl.add rfl rfl (IntWalk.i64_in _ (by omega))) rfl ?_
        refine WD.say (t := 54) (v' := .int .i64 ((a + o : Nat) : Int)) rfl (by (refine congrArg _ ?_; omega)) ?_
        refine WD.take 6 rfl (by kernel_rfl) (by kernel_rfl) (by kernel_rfl) rfl rfl (Yl.move rfl) rfl ?_
        refine WD.take 7 rfl (by kernel_rfl) (by kernel_rfl) (by kernel_rfl) rfl rfl (Yl.move rfl) rfl ?_
        refine WD.take 8 rfl (by kernel_rfl) (by kernel_rfl) (by kernel_rfl) rfl rfl (Yl.move rfl) rfl ?_
        refine WD.take 9 rfl (by kernel_rfl) (by kernel_rfl) (by kernel_rfl) rfl rfl (Yl.add rfl rfl (IntWalk.i64_in _ (by omega))) rfl ?_
        refine WD.say (t := 58) (v' := .int .i64 ((a + o : Nat) : Int)) rfl (by (refine congrArg _ ?_; omega)) ?_
        refine WD.take 10 rfl (by kernel_rfl) (by kernel_rfl) (by kernel_rfl) rfl rfl (Yl.indexF un22 sz30 rfl rfl hF rfl (by omega)) rfl ?_
        refine WD.take 12 rfl (by kernel_rfl) (by kernel_rfl) (by kernel_rfl) rfl rfl (Yl.move rfl) rfl ?_
        refine WD.take 13 rfl (by kernel_rfl) (by kernel_rfl) (by kernel_rfl) rfl rfl (Yl.move rfl) rfl ?_
        refine WD.take 14 rfl (by kernel_rfl) (by kernel_rfl) (by kernel_rfl) rfl rfl (Yl.indexF un22 sz30 rfl rfl hF rfl (by omega)) rfl ?_
        refine WD.two 11 15 (by kernel_rfl) ?_ ?_
        · refine WO.y rfl rfl .no (Yl.loadV vtK (fun _ _ => trivial) rfl (Reads.own (by repeat constructor)) (by rw [Array.length_toList]; omega) (so_getK (by omega))) rfl ?_
          refine WD.one 15 (by kernel_rfl) ?_
          refine WO.y rfl rfl .no (Yl.loadV vtK (fun _ _ => trivial) rfl (Reads.own (by repeat constructor)) (by rw [Array.length_toList]; omega) (so_getK (by omega))) rfl ?_
          refine WD.take 16 rfl (by kernel_rfl) (by kernel_rfl) (by kernel_rfl) rfl rfl (Yl.indexF un22 sz30 rfl rfl hF rfl (by omega)) rfl ?_
          refine WD.one 17 (by kernel_rfl) ?_
          refine WO.sto rfl rfl .no (Sto.elemV (j := i0 + t) (u := G[a + o]!) (xs := G.toList) vtK (fun _ _ => trivial) trivial rfl rfl (by repeat constructor) (by rw [Array.length_toList]; omega) (by omega)) ⟨_, (by repeat' constructor)⟩ ?_
          refine WD.take 18 rfl (by kernel_rfl) (by kernel_rfl) (by kernel_rfl) rfl rfl (Yl.indexF un22 sz30 rfl rfl hF rfl (by omega)) rfl ?_
          refine WD.one 19 (by kernel_rfl) ?_
          refine WO.sto rfl rfl .no (Sto.elemV (j := a + o) (u := G[i0 + t]!) (xs := G.toList.set (i0 + t) G[a + o]!) vtK (fun _ _ => trivial) trivial rfl rfl (by repeat constructor) (by rw [List.length_set, Array.length_toList]; omega) (by omega)) ⟨_, (by repeat' constructor)⟩ ?_
          rw [so_swpK G (i0 + t) (a + o)]
          refine WD.done (by kernel_rfl) ?_
          refine WC.region ?_
          refine WL.y (Yl.move rfl) rfl ?_
          refine WL.y (Yl.add rfl rfl (IntWalk.i64_in _ (by omega))) rfl ?_
          refine WL.say (t := 37) (v' := .int .i64 ((i0 + (t + 1) : Nat) : Int)) rfl (by (refine congrArg _ ?_; omega)) ?_
          refine WL.y (Yl.assign rfl) rfl ?_
          refine WL.nil ?_
          exact ⟨rfl, (t + 1, xorNext r, swp G (i0 + t) (a + o)), ⟨by dsimp only; omega, by dsimp only; rw [swp_size]; exact hG, hTG⟩, by dsimp only; omega, (by repeat (first | exact Sub.nil | refine Sub.cons rfl ?_)), _, (by repeat' constructor)⟩
        · refine WO.y rfl rfl .no (Yl.loadV vtK (fun _ _ => trivial) rfl (Reads.own (by repeat constructor)) (by rw [Array.length_toList]; omega) (so_getK (by omega))) rfl ?_
          refine WD.one 11 (by kernel_rfl) ?_
          refine WO.y rfl rfl .no (Yl.loadV vtK (fun _ _ => trivial) rfl (Reads.own (by repeat constructor)) (by rw [Array.length_toList]; omega) (so_getK (by omega))) rfl ?_
          refine WD.take 16 rfl (by kernel_rfl) (by kernel_rfl) (by kernel_rfl) rfl rfl (Yl.indexF un22 sz30 rfl rfl hF rfl (by omega)) rfl ?_
          refine WD.one 17 (by kernel_rfl) ?_
          refine WO.sto rfl rfl .no (Sto.elemV (j := i0 + t) (u := G[a + o]!) (xs := G.toList) vtK (fun _ _ => trivial) trivial rfl rfl (by repeat constructor) (by rw [Array.length_toList]; omega) (by omega)) ⟨_, (by repeat' constructor)⟩ ?_
          refine WD.take 18 rfl (by kernel_rfl) (by kernel_rfl) (by kernel_rfl) rfl rfl (Yl.indexF un22 sz30 rfl rfl hF rfl (by omega)) rfl ?_
          refine WD.one 19 (by kernel_rfl) ?_
          refine WO.sto rfl rfl .no (Sto.elemV (j := a + o) (u := G[i0 + t]!) (xs := G.toList.set (i0 + t) G[a + o]!) vtK (fun _ _ => trivial) trivial rfl rfl (by repeat constructor) (by rw [List.length_set, Array.length_toList]; omega) (by omega)) ⟨_, (by repeat' constructor)⟩ ?_
          rw [so_swpK G (i0 + t) (a + o)]
          refine WD.done (by kernel_rfl) ?_
          refine WC.region ?_
          refine WL.y (Yl.move rfl) rfl ?_
          refine WL.y (Yl.add rfl rfl (IntWalk.i64_in _ (by omega))) rfl ?_
          refine WL.say (t := 37) (v' := .int .i64 ((i0 + (t + 1) : Nat) : Int)) rfl (by (refine congrArg _ ?_; omega)) ?_
          refine WL.y (Yl.assign rfl) rfl ?_
          refine WL.nil ?_
          exact ⟨rfl, (t + 1, xorNext r, swp G (i0 + t) (a + o)), ⟨by dsimp only; omega, by dsimp only; rw [swp_size]; exact hG, hTG⟩, by dsimp only; omega, (by repeat (first | exact Sub.nil | refine Sub.cons rfl ?_)), _, (by repeat' constructor)⟩
    · refine WC.exit ?_
      repeat (with_reducible (first | refine peelT ?_ | refine peelB ?_ | refine peelTX ?_ | refine peelBX ?_ | refine peelBN ?_ | refine peelBO rfl ?_))
      have ht3 : t = 3 := by omega
      subst ht3
      have hGT : G = T := hTG
      subst hGT
      exact ret0 (.inl rfl) Tryz.results99 fun w' h => ⟨(), trivial, rfl, h.sub (by repeat' constructor)⟩
  · refine WC.skip ?_
    repeat (with_reducible (first | refine peelT ?_ | refine peelB ?_ | refine peelTX ?_ | refine peelBX ?_ | refine peelBN ?_ | refine peelBO rfl ?_))
    have h8 : ¬ a + L - a ≥ 8 := by omega
    have hDT : D = T := by rw [← hT]; unfold breakPatterns; rw [if_neg h8]
    subst hDT
    exact ret0 (.inl rfl) Tryz.results99 fun w' h => ⟨(), trivial, rfl, h.sub (by repeat' constructor)⟩
end Go.Proofs.YtfobhdmhjjafcaaGreatDoorRR

namespace Go.Proofs.YtfobhdmhjjafcaaGreatDoorRR
open Go Go.RowKit Go.Sort

def hN : Hint → Int
  | .unknown => 0
  | .increasing => 1
  | .decreasing => 2
def cpR (D : Array Ky) (a L : Nat) : Nat × Nat :=
  if L ≥ 8 then
    if L ≥ 50 then
      median ltK D (medianAdjacent ltK D (a + L / 4 * 1) 0).1 (medianAdjacent ltK D (a + L / 4 * 2) (medianAdjacent ltK D (a + L / 4 * 1) 0).2).1 (medianAdjacent ltK D (a + L / 4 * 3) (medianAdjacent ltK D (a + L / 4 * 2) (medianAdjacent ltK D (a + L / 4 * 1) 0).2).2).1 (medianAdjacent ltK D (a + L / 4 * 3) (medianAdjacent ltK D (a + L / 4 * 2) (medianAdjacent ltK D (a + L / 4 * 1) 0).2).2).2
    else median ltK D (a + L / 4 * 1) (a + L / 4 * 2) (a + L / 4 * 3) 0
  else (a + L / 4 * 2, 0)
def hintF (s : Nat) : Hint := if s = 0 then .increasing else if s = 12 then .decreasing else .unknown
theorem cp_eq (D : Array Ky) (a L : Nat) : choosePivot ltK D a (a + L) = ((cpR D a L).1, hintF (cpR D a L).2) := by
  unfold choosePivot cpR hintF
  simp only [Nat.add_sub_cancel_left]

set_option maxHeartbeats 1600000 in
set_option maxRecDepth 100000 in
theorem choK_any (v : Value) (n : Nat) (D : Array Ky) (a L : Nat) (hD : D.size = n) (hn : n ≤ 1099511627776) (hb : a + L ≤ n) (w : World) (hw : OK w (fpL [rwK v n (D.toList)]) [rwK v n (D.toList)] w) :
    Fn Tryz.prog 100 [v, .int .i64 (a : Int), .int .i64 ((a + L : Nat) : Int), .func (.func 60) #[] #[]] [rwK v n (D.toList)] w (fun _ : Unit => True) (fun _ => .tuple #[.int .i64 ((choosePivot ltK D a (a + L)).1 : Int), .int .i64 (hN (choosePivot ltK D a (a + L)).2)]) (fun _ => [rwK v n (D.toList)]) := by
  rw [cp_eq]
  dsimp only
  obtain ⟨R, hR⟩ : ∃ R, cpR D a L = R := ⟨_, rfl⟩
  rw [hR]
  refine enterF Tryz.func100 rfl Tryz.ntmps100 rfl hw ?_
  refine WC.seq ?_
  refine WC.region ?_
  refine WL.y (Yl.assign rfl) rfl ?_
  refine WL.y (Yl.assign rfl) rfl ?_
  refine WL.nil ?_
  refine WC.seq ?_
  refine WC.region ?_
  refine WL.y (Yl.move rfl) rfl ?_
  refine WL.y (Yl.move rfl) rfl ?_
  refine WL.y (Yl.sub rfl rfl (IntWalk.i64_in _ (by omega))) rfl ?_
  refine WL.say (t := 17) (v' := .int .i64 (L : Int)) rfl (by (refine congrArg _ ?_; omega)) ?_
  refine WL.y (Yl.assign rfl) rfl ?_
  refine WL.nil ?_
  refine WC.seq ?_
  refine WC.region ?_
  refine WL.to (To.alloc (cs := [.int .i64 0]) zr3 rfl) rfl ?_
  intro b11
  refine WL.nil ?_
  refine WC.seq ?_
  refine WC.region ?_
  refine WL.y (Yl.move rfl) rfl ?_
  refine WL.y (Yl.move rfl) rfl ?_
  refine WL.y (Yl.quo rfl rfl (by omega) (i64_quo (by omega) (by omega))) rfl ?_
  refine WL.say (t := 20) (v' := .int .i64 ((L / 4 : Nat) : Int)) rfl (by (refine congrArg _ ?_; omega)) ?_
  refine WL.y (Yl.mul rfl rfl (IntWalk.i64_in _ (by omega))) rfl ?_
  refine WL.y (Yl.add rfl rfl (IntWalk.i64_in _ (by omega))) rfl ?_
  refine WL.say (t := 22) (v' := .int .i64 ((a + L / 4 * 1 : Nat) : Int)) rfl (by (refine congrArg _ ?_; omega)) ?_
  refine WL.y (Yl.assign rfl) rfl ?_
  refine WL.nil ?_
  refine WC.seq ?_
  refine WC.region ?_
  refine WL.y (Yl.move rfl) rfl ?_
  refine WL.y (Yl.move rfl) rfl ?_
  refine WL.y (Yl.quo rfl rfl (by omega) (i64_quo (by omega) (by omega))) rfl ?_
  refine WL.say (t := 25) (v' := .int .i64 ((L / 4 : Nat) : Int)) rfl (by (refine congrArg _ ?_; omega)) ?_
  refine WL.y (Yl.mul rfl rfl (IntWalk.i64_in _ (by omega))) rfl ?_
  refine WL.y (Yl.add rfl rfl (IntWalk.i64_in _ (by omega))) rfl ?_
  refine WL.say (t := 27) (v' := .int .i64 ((a + L / 4 * 2 : Nat) : Int)) rfl (by (refine congrArg _ ?_; omega)) ?_
  refine WL.y (Yl.assign rfl) rfl ?_
  refine WL.nil ?_
  refine WC.seq ?_
  refine WC.region ?_
  refine WL.y (Yl.move rfl) rfl ?_
  refine WL.y (Yl.move rfl) rfl ?_
  refine WL.y (Yl.quo rfl rfl (by omega) (i64_quo (by omega) (by omega))) rfl ?_
  refine WL.say (t := 30) (v' := .int .i64 ((L / 4 : Nat) : Int)) rfl (by (refine congrArg _ ?_; omega)) ?_
  refine WL.y (Yl.mul rfl rfl (IntWalk.i64_in _ (by omega))) rfl ?_
  refine WL.y (Yl.add rfl rfl (IntWalk.i64_in _ (by omega))) rfl ?_
  refine WL.say (t := 32) (v' := .int .i64 ((a + L / 4 * 3 : Nat) : Int)) rfl (by (refine congrArg _ ?_; omega)) ?_
  refine WL.y (Yl.assign rfl) rfl ?_
  refine WL.nil ?_
  refine WC.midX (α := Unit) (fun _ => [(11, .pointer (some ⟨b11, 0, none⟩)), (13, .int .i64 (R.1 : Int))]) (fun _ => [rwK v n (D.toList), blkR b11 3 [.int .i64 (R.2 : Int)]]) (fun _ => True) ?_ ?_
  · refine WC.seq ?_
    refine WC.region ?_
    refine WL.y (Yl.move rfl) rfl ?_
    refine WL.y (Yl.geq rfl rfl) rfl ?_
    refine WL.nil ?_
    refine WC.condD rfl (fun g34 => ?_) (fun g34 => ?_)
    · refine WC.seq ?_
      refine WC.seq ?_
      refine WC.region ?_
      refine WL.y (Yl.move rfl) rfl ?_
      refine WL.y (Yl.geq rfl rfl) rfl ?_
      refine WL.nil ?_
      refine WC.condD rfl (fun g36 => ?_) (fun g36 => ?_)
      · refine WC.seq ?_
        have h50 : 50 ≤ L := by omega
        have hRe : R = median ltK D (medianAdjacent ltK D (a + L / 4 * 1) 0).1 (medianAdjacent ltK D (a + L / 4 * 2) (medianAdjacent ltK D (a + L / 4 * 1) 0).2).1 (medianAdjacent ltK D (a + L / 4 * 3) (medianAdjacent ltK D (a + L / 4 * 2) (medianAdjacent ltK D (a + L / 4 * 1) 0).2).2).1 (medianAdjacent ltK D (a + L / 4 * 3) (medianAdjacent ltK D (a + L / 4 * 2) (medianAdjacent ltK D (a + L / 4 * 1) 0).2).2).2 := by
          rw [← hR]
          unfold cpR
          rw [if_pos (by omega), if_pos h50]
        have m1 : (medianAdjacent ltK D (a + L / 4 * 1) 0).1 < n ∧ (medianAdjacent ltK D (a + L / 4 * 1) 0).2 ≤ 0 + 3 := median_in (by omega) (by omega) (by omega)
        obtain ⟨r1, hr1⟩ : ∃ r, medianAdjacent ltK D (a + L / 4 * 1) 0 = r := ⟨_, rfl⟩
        rw [hr1] at hRe m1
        have m2 : (medianAdjacent ltK D (a + L / 4 * 2) r1.2).1 < n ∧ (medianAdjacent ltK D (a + L / 4 * 2) r1.2).2 ≤ r1.2 + 3 := median_in (by omega) (by omega) (by omega)
        obtain ⟨r2, hr2⟩ : ∃ r, medianAdjacent ltK D (a + L / 4 * 2) r1.2 = r := ⟨_, rfl⟩
        rw [hr2] at hRe m2
        have m3 : (medianAdjacent ltK D (a + L / 4 * 3) r2.2).1 < n ∧ (medianAdjacent ltK D (a + L / 4 * 3) r2.2).2 ≤ r2.2 + 3 := median_in (by omega) (by omega) (by omega)
        obtain ⟨r3, hr3⟩ : ∃ r, medianAdjacent ltK D (a + L / 4 * 3) r2.2 = r := ⟨_, rfl⟩
        rw [hr3] at hRe m3
        refine WC.region ?_
        refine WL.y (Yl.move rfl) rfl ?_
        refine WL.y (Yl.move rfl) rfl ?_
        refine WL.y (Yl.move rfl) rfl ?_
        refine WL.callC (xs := [.tmp 37, .tmp 38, .tmp 11, .tmp 39]) (cap := []) rfl rfl en119 (by repeat' constructor) (fun w hw => medAK_any v n D (a + L / 4 * 1) 0 b11 hD hn (by omega) (by omega) w hw.left.here) rfl ?_
        rintro ⟨⟩ -
        rw [hr1]
        dsimp only [List.cons_append, List.nil_append]
        refine WL.y (Yl.assign rfl) rfl ?_
        refine WL.nil ?_
        refine WC.seq ?_
        refine WC.region ?_
        refine WL.y (Yl.move rfl) rfl ?_
        refine WL.y (Yl.move rfl) rfl ?_
        refine WL.y (Yl.move rfl) rfl ?_
        refine WL.callC (xs := [.tmp 41, .tmp 42, .tmp 11, .tmp 43]) (cap := []) rfl rfl en119 (by repeat' constructor) (fun w hw => medAK_any v n D (a + L / 4 * 2) r1.2 b11 hD hn (by omega) (by omega) w hw.left.here) rfl ?_
        rintro ⟨⟩ -
        rw [hr2]
        dsimp only [List.cons_append, List.nil_append]
        refine WL.y (Yl.assign rfl) rfl ?_
        refine WL.nil ?_
        refine WC.region ?_
        refine WL.y (Yl.move rfl) rfl ?_
        refine WL.y (Yl.move rfl) rfl ?_
        refine WL.y (Yl.move rfl) rfl ?_
        refine WL.callC (xs := [.tmp 45, .tmp 46, .tmp 11, .tmp 47]) (cap := []) rfl rfl en119 (by repeat' constructor) (fun w hw => medAK_any v n D (a + L / 4 * 3) r2.2 b11 hD hn (by omega) (by omega) w hw.left.here) rfl ?_
        rintro ⟨⟩ -
        rw [hr3]
        dsimp only [List.cons_append, List.nil_append]
        refine WL.y (Yl.assign rfl) rfl ?_
        refine WL.nil ?_
        refine WC.region ?_
        refine WL.y (Yl.move rfl) rfl ?_
        refine WL.y (Yl.move rfl) rfl ?_
        refine WL.y (Yl.move rfl) rfl ?_
        refine WL.y (Yl.move rfl) rfl ?_
        refine WL.y (Yl.move rfl) rfl ?_
        refine WL.callC (xs := [.tmp 49, .tmp 50, .tmp 51, .tmp 52, .tmp 11, .tmp 53]) (cap := []) rfl rfl en120 (by repeat' constructor) (fun w hw => medK_any v n D r1.1 r2.1 r3.1 r3.2 b11 hD m1.1 m2.1 m3.1 (by omega) w hw.left.here) rfl ?_
        rintro ⟨⟩ -
        rw [← hRe]
        dsimp only [List.cons_append, List.nil_append]
        refine WL.y (Yl.assign rfl) rfl ?_
        refine WL.nil ?_
        exact ⟨rfl, (), trivial, (by repeat (first | exact Sub.nil | refine Sub.cons rfl ?_)), _, (by repeat' constructor)⟩
      · refine WC.skip ?_
        have hRe : R = median ltK D (a + L / 4 * 1) (a + L / 4 * 2) (a + L / 4 * 3) 0 := by
          rw [← hR]
          unfold cpR
          rw [if_pos (by omega), if_neg (by omega)]
        refine WC.region ?_
        refine WL.y (Yl.move rfl) rfl ?_
        refine WL.y (Yl.move rfl) rfl ?_
        refine WL.y (Yl.move rfl) rfl ?_
        refine WL.y (Yl.move rfl) rfl ?_
        refine WL.y (Yl.move rfl) rfl ?_
        refine WL.callC (xs := [.tmp 49, .tmp 50, .tmp 51, .tmp 52, .tmp 11, .tmp 53]) (cap := []) rfl rfl en120 (by repeat' constructor) (fun w hw => medK_any v n D (a + L / 4 * 1) (a + L / 4 * 2) (a + L / 4 * 3) 0 b11 hD (by omega) (by omega) (by omega) (by omega) w hw.left.here) rfl ?_
        rintro ⟨⟩ -
        rw [← hRe]
        dsimp only [List.cons_append, List.nil_append]
        refine WL.y (Yl.assign rfl) rfl ?_
        refine WL.nil ?_
        exact ⟨rfl, (), trivial, (by repeat (first | exact Sub.nil | refine Sub.cons rfl ?_)), _, (by repeat' constructor)⟩
    · refine WC.skip ?_
      have hRe : R = (a + L / 4 * 2, 0) := by
        rw [← hR]
        unfold cpR
        rw [if_neg (by omega)]
      rw [hRe]
      exact ⟨rfl, (), trivial, (by repeat (first | exact Sub.nil | refine Sub.cons rfl ?_)), _, (by repeat' constructor)⟩
  · rintro ⟨⟩ -
    refine WC.seq ?_
    refine WC.region ?_
    refine WL.y (Yl.load on3 rfl (by repeat constructor) (by rfl)) rfl ?_
    refine WL.nil ?_
    refine WC.block ?_
    refine WC.seq ?_
    refine WC.region ?_
    refine WL.y (Yl.eql rfl rfl) rfl ?_
    refine WL.y (Yl.assign rfl) rfl ?_
    refine WL.nil ?_
    refine WC.cond rfl (fun g57 => ?_) (fun g57 => ?_)
    · refine WC.seq ?_
      refine WC.region ?_
      refine WL.y (Yl.move rfl) rfl ?_
      refine WL.y (Yl.assign rfl) rfl ?_
      refine WL.y (Yl.assign rfl) rfl ?_
      refine WL.nil ?_
      refine WC.ret ?_
      repeat (with_reducible (first | refine peelT ?_ | refine peelB ?_ | refine peelTX ?_ | refine peelBX ?_ | refine peelBN ?_ | refine peelBO rfl ?_))
      have h0 : R.2 = 0 := by have := of_decide_eq_true g57; omega
      exact ret2 (.inr rfl) Tryz.results100 rfl rfl fun w' h => ⟨(), trivial, by unfold hintF; rw [if_pos h0]; rfl, h.sub (by repeat' constructor)⟩
    · refine WC.seq ?_
      refine WC.region ?_
      refine WL.y (Yl.eql rfl rfl) rfl ?_
      refine WL.y (Yl.assign rfl) rfl ?_
      refine WL.nil ?_
      refine WC.cond rfl (fun g60 => ?_) (fun g60 => ?_)
      · refine WC.seq ?_
        refine WC.region ?_
        refine WL.y (Yl.move rfl) rfl ?_
        refine WL.y (Yl.assign rfl) rfl ?_
        refine WL.y (Yl.assign rfl) rfl ?_
        refine WL.nil ?_
        refine WC.ret ?_
        repeat (with_reducible (first | refine peelT ?_ | refine peelB ?_ | refine peelTX ?_ | refine peelBX ?_ | refine peelBN ?_ | refine peelBO rfl ?_))
        have h0 : ¬ R.2 = 0 := by have := of_decide_eq_false g57; omega
        have h1 : R.2 = 12 := by have := of_decide_eq_true g60; omega
        exact ret2 (.inr rfl) Tryz.results100 rfl rfl fun w' h => ⟨(), trivial, by unfold hintF; rw [if_neg h0, if_pos h1]; rfl, h.sub (by repeat' constructor)⟩
      · refine WC.seq ?_
        refine WC.region ?_
        refine WL.y (Yl.move rfl) rfl ?_
        refine WL.y (Yl.assign rfl) rfl ?_
        refine WL.y (Yl.assign rfl) rfl ?_
        refine WL.nil ?_
        refine WC.ret ?_
        repeat (with_reducible (first | refine peelT ?_ | refine peelB ?_ | refine peelTX ?_ | refine peelBX ?_ | refine peelBN ?_ | refine peelBO rfl ?_))
        have h0 : ¬ R.2 = 0 := by have := of_decide_eq_false g57; omega
        have h1 : ¬ R.2 = 12 := by have := of_decide_eq_false g60; omega
        exact ret2 (.inr rfl) Tryz.results100 rfl rfl fun w' h => ⟨(), trivial, by unfold hintF; rw [if_neg h0, if_neg h1]; rfl, h.sub (by repeat' constructor)⟩
end Go.Proofs.YtfobhdmhjjafcaaGreatDoorRR

namespace Go.Proofs.YtfobhdmhjjafcaaGreatDoorRR
open Go Go.RowKit Go.Sort
/-- Behind the choice of the pivot and what is tried first. -/
def pdq4 (D : Array Ky) (a b limit : Nat) (wb wp : Bool) (pivot : Nat) : Array Ky :=
  if a > 0 && !ltK D[a - 1]! D[pivot]! then pdq ltK (partitionEqual ltK D a b pivot).2 (partitionEqual ltK D a b pivot).1 b limit wb wp
  else if (partition ltK D a b pivot).1 - a < b - (partition ltK D a b pivot).1 then
    pdq ltK (pdq ltK (partition ltK D a b pivot).2.2 a (partition ltK D a b pivot).1 limit true true) ((partition ltK D a b pivot).1 + 1) b limit (decide ((partition ltK D a b pivot).1 - a ≥ (b - a) / 8)) (partition ltK D a b pivot).2.1
  else
    pdq ltK (pdq ltK (partition ltK D a b pivot).2.2 ((partition ltK D a b pivot).1 + 1) b limit true true) a (partition ltK D a b pivot).1 limit (decide (b - (partition ltK D a b pivot).1 ≥ (b - a) / 8)) (partition ltK D a b pivot).2.1
def brkF (D : Array Ky) (a b : Nat) (wb : Bool) : Array Ky := if !wb then breakPatterns D a b else D
def limF (limit : Nat) (wb : Bool) : Nat := if !wb then limit - 1 else limit
def revF (D : Array Ky) (a b : Nat) : Array Ky := if (choosePivot ltK D a b).2 = .decreasing then reverseRange D a b else D
def pivF (D : Array Ky) (a b : Nat) : Nat := if (choosePivot ltK D a b).2 = .decreasing then (b - 1) - ((choosePivot ltK D a b).1 - a) else (choosePivot ltK D a b).1
def hinF (D : Array Ky) (a b : Nat) : Hint := if (choosePivot ltK D a b).2 = .decreasing then .increasing else (choosePivot ltK D a b).2
def pdq3 (D : Array Ky) (a b limit : Nat) (wb wp : Bool) (pivot : Nat) (h : Hint) : Array Ky :=
  if wb && wp && decide (h = .increasing) then (if (partialInsertionSort ltK D a b).2 then (partialInsertionSort ltK D a b).1 else pdq4 (partialInsertionSort ltK D a b).1 a b limit wb wp pivot) else pdq4 D a b limit wb wp pivot
theorem peq_range {D : Array Ky} {a b pivot : Nat} (h1 : a ≤ pivot) (h2 : pivot < b) (hb : b ≤ D.size) : a < (partitionEqual ltK D a b pivot).1 ∧ (partitionEqual ltK D a b pivot).1 ≤ b := by
  have hs := swp_size D a pivot
  have := partEqLoop_spec ltK a b _ (a + 1) (b - 1) (swp D a pivot) (Nat.le_refl _) (Nat.lt_succ_self a) (by omega) (by omega) (by omega) (fun t h1 h2 => by omega) (fun t h1 h2 => by omega)
  exact ⟨this.1, this.2.1⟩
theorem par_range {D : Array Ky} {a b pivot : Nat} (h1 : a ≤ pivot) (h2 : pivot < b) (hb : b ≤ D.size) : a ≤ (partition ltK D a b pivot).1 ∧ (partition ltK D a b pivot).1 < b := by
  have := partition_holds ltK swoK D a b pivot h1 h2 hb
  exact ⟨this.1, this.2.1⟩
theorem piv_range {D : Array Ky} {a b : Nat} (h : a < b) : a ≤ pivF D a b ∧ pivF D a b < b := by
  have := choosePivot_holds ltK D a b h
  unfold pivF
  split <;> omega
theorem pin_size (D : Array Ky) (a b : Nat) : (partialInsertionSort ltK D a b).1.size = D.size := by
  have key : ∀ (s i : Nat) (D : Array Ky), (partialIns ltK a b s i D).1.size = D.size := by
    intro s
    induction s with
    | zero => intro i D; rfl
    | succ s ih =>
      intro i D
      rw [pin_eq]
      split
      · rfl
      · split
        · rfl
        · rw [ih, pinU_size]
  exact key _ _ _
theorem pdq_ins {D : Array Ky} {a b limit : Nat} {wb wp : Bool} (h : b - a ≤ 12) : pdq ltK D a b limit wb wp = insertionSort ltK D a b := by rw [pdq, if_pos h]
theorem pdq_heap {D : Array Ky} {a b limit : Nat} {wb wp : Bool} (h : ¬ b - a ≤ 12) (hl : limit = 0) : pdq ltK D a b limit wb wp = heapSort ltK D a b := by rw [pdq, if_neg h, if_pos hl]
theorem brk_size {D : Array Ky} {a b : Nat} (wb : Bool) (hab : a ≤ b) (hb : b ≤ D.size) : (brkF D a b wb).size = D.size := by
  unfold brkF
  split
  · exact (breakPatterns_holds D a b hab hb).1
  · rfl
theorem rev_size {D : Array Ky} {a b : Nat} (hab : a ≤ b) (hb : b ≤ D.size) : (revF D a b).size = D.size := by
  unfold revF
  split
  · exact (reverseRange_holds D a b hab hb).1
  · rfl
theorem pdq_rest {D : Array Ky} {a b limit : Nat} {wb wp : Bool} (h : ¬ b - a ≤ 12) (hl : ¬ limit = 0) (hb : b ≤ D.size) :
    pdq ltK D a b limit wb wp = pdq3 (revF (brkF D a b wb) a b) a b (limF limit wb) wb wp (pivF (brkF D a b wb) a b) (hinF (brkF D a b wb) a b) := by
  have h1 := brk_size (D := D) (a := a) (b := b) wb (by omega) hb
  have h2 := rev_size (D := brkF D a b wb) (a := a) (b := b) (by omega) (by omega)
  have hp := piv_range (D := brkF D a b wb) (a := a) (b := b) (by omega)
  have key : ∀ E : Array Ky, E.size = D.size → (if a > 0 && !ltK E[a - 1]! E[pivF (brkF D a b wb) a b]! then
      match partitionEqual ltK E a b (pivF (brkF D a b wb) a b) with
      | (mid, d4) => if _h : a < mid ∧ mid ≤ b then pdq ltK d4 mid b (limF limit wb) wb wp else d4
    else
      match partition ltK E a b (pivF (brkF D a b wb) a b) with
      | (mid, alreadyPartitioned, d4) =>
        if _h : a ≤ mid ∧ mid < b then
          if mid - a < b - mid then pdq ltK (pdq ltK d4 a mid (limF limit wb) true true) (mid + 1) b (limF limit wb) (decide (mid - a ≥ (b - a) / 8)) alreadyPartitioned
          else pdq ltK (pdq ltK d4 (mid + 1) b (limF limit wb) true true) a mid (limF limit wb) (decide (b - mid ≥ (b - a) / 8)) alreadyPartitioned
        else d4) = pdq4 E a b (limF limit wb) wb wp (pivF (brkF D a b wb) a b) := by
    intro E hE
    have r1 := peq_range (D := E) hp.1 hp.2 (by omega)
    have r2 := par_range (D := E) hp.1 hp.2 (by omega)
    unfold pdq4
    split
    · dsimp only
      rw [dif_pos r1]
    · dsimp only
      rw [dif_pos r2]
  rw [pdq, if_neg h, if_neg hl]
  unfold pdq3
  have e3 : (wb && wp && decide (hinF (brkF D a b wb) a b = Hint.increasing)) = true ∨ ¬ (wb && wp && decide (hinF (brkF D a b wb) a b = Hint.increasing)) = true := Decidable.em _
  rcases e3 with e3 | e3
  · rw [if_pos e3]
    have hpi := pin_size (revF (brkF D a b wb) a b) a b
    rw [← key _ (by omega)]
    have e3' := e3
    unfold hinF brkF at e3'
    simp only [e3', if_true]
    rfl
  · rw [if_neg e3]
    rw [← key _ (by omega)]
    have e3' := e3
    unfold hinF brkF at e3'
    simp only [e3', if_false, Bool.false_eq_true]
    rfl
end Go.Proofs.YtfobhdmhjjafcaaGreatDoorRR

namespace Go.Proofs.YtfobhdmhjjafcaaGreatDoorRR
open Go Go.RowKit Go.Sort

theorem brkBK_any (v : Value) (n : Nat) (D : Array Ky) (a b : Nat) (hD : D.size = n) (hn : n ≤ 1099511627776) (hab : a ≤ b) (hb : b ≤ n) (w : World) (hw : OK w (fpL [rwK v n (D.toList)]) [rwK v n (D.toList)] w) :
    Fn Tryz.prog 99 [v, .int .i64 (a : Int), .int .i64 (b : Int), .func (.func 60) #[] #[]] [rwK v n (D.toList)] w (fun _ : Unit => True) (fun _ => .tuple #[]) (fun _ => [rwK v n ((breakPatterns D a b).toList)]) := by
  obtain ⟨L, rfl⟩ := Nat.exists_eq_add_of_le hab
  exact brkK_any v n D a L hD hn hb w hw
theorem choBK_any (v : Value) (n : Nat) (D : Array Ky) (a b : Nat) (hD : D.size = n) (hn : n ≤ 1099511627776) (hab : a ≤ b) (hb : b ≤ n) (w : World) (hw : OK w (fpL [rwK v n (D.toList)]) [rwK v n (D.toList)] w) :
    Fn Tryz.prog 100 [v, .int .i64 (a : Int), .int .i64 (b : Int), .func (.func 60) #[] #[]] [rwK v n (D.toList)] w (fun _ : Unit => True) (fun _ => .tuple #[.int .i64 ((choosePivot ltK D a b).1 : Int), .int .i64 (hN (choosePivot ltK D a b).2)]) (fun _ => [rwK v n (D.toList)]) := by
  obtain ⟨L, rfl⟩ := Nat.exists_eq_add_of_le hab
  exact choK_any v n D a L hD hn hb w hw
theorem hN_dec (h : Hint) : decide (hN h = 2) = decide (h = .decreasing) := by cases h <;> decide
theorem hN_inc (h : Hint) : decide (hN h = 1) = decide (h = .increasing) := by cases h <;> decide
theorem own_size {w : World} {v : Value} {n : Nat} {E : Array Ky} (h : (rwK v n E.toList).ok w) : E.size = n := by
  have h1 : (vcs kyV E.toList).length = n * 32 := (show Sown w 30 32 v n _ from h).1
  rw [vtK.size (fun _ _ => trivial), Array.length_toList] at h1
  omega
theorem pos_and {a : Nat} {c : Bool} : (decide ((0 : Int) < (a : Int)) && c) = (decide (a > 0) && c) := by
  congr 1
  rw [decide_eq_decide]
  omega

set_option maxHeartbeats 3200000 in
set_option maxRecDepth 100000 in
theorem pdqSK_any (v : Value) (n : Nat) (hn : n ≤ 1099511627776) (N : Nat)
    (ih : ∀ m, m < N → ∀ (D : Array Ky) (a b limit : Nat), b - a = m → D.size = n → a ≤ b → b ≤ n → limit ≤ 64 → ∀ w, OK w (fpL [rwK v n (D.toList)]) [rwK v n (D.toList)] w →
      Fn Tryz.prog 83 [v, .int .i64 (a : Int), .int .i64 (b : Int), .int .i64 (limit : Int), .func (.func 60) #[] #[]] [rwK v n (D.toList)] w (fun _ : Unit => True) (fun _ => .tuple #[]) (fun _ => [rwK v n ((pdq ltK D a b limit true true).toList)]))
    (D : Array Ky) (a b limit : Nat) (hN : b - a = N) (hD : D.size = n) (hab : a ≤ b) (hb : b ≤ n) (hl : limit ≤ 64) (w : World) (hw : OK w (fpL [rwK v n (D.toList)]) [rwK v n (D.toList)] w) :
    Fn Tryz.prog 83 [v, .int .i64 (a : Int), .int .i64 (b : Int), .int .i64 (limit : Int), .func (.func 60) #[] #[]] [rwK v n (D.toList)] w (fun _ : Unit => True) (fun _ => .tuple #[]) (fun _ => [rwK v n ((pdq ltK D a b limit true true).toList)]) := by
  have hF := sl_form (hw.get (r := rwK v n (D.toList)) .head)
  obtain ⟨T, hT⟩ : ∃ T, pdq ltK D a b limit true true = T := ⟨_, rfl⟩
  rw [hT]
  refine enterF Tryz.func83 rfl Tryz.ntmps83 rfl hw ?_
  refine WC.seq ?_
  refine WC.region ?_
  refine WL.y (Yl.assign rfl) rfl ?_
  refine WL.nil ?_
  refine WC.seq ?_
  refine WC.region ?_
  refine WL.y (Yl.assign rfl) rfl ?_
  refine WL.nil ?_
  refine WC.block ?_
  refine WC.loop (α := Nat × Nat × Nat × Bool × Bool × Array Ky) (fun p => [(0, v), (4, .func (.func 60) #[] #[]), (1, .int .i64 (p.1 : Int)), (2, .int .i64 (p.2.1 : Int)), (3, .int .i64 (p.2.2.1 : Int)), (10, .bool p.2.2.2.1), (11, .bool p.2.2.2.2.1)]) (fun p => [rwK v n (p.2.2.2.2.2.toList)]) (fun p => (p.1 ≤ p.2.1 ∧ p.2.1 ≤ n ∧ p.2.2.1 ≤ 64 ∧ p.2.1 - p.1 ≤ N) ∧ p.2.2.2.2.2.size = n ∧ pdq ltK p.2.2.2.2.2 p.1 p.2.1 p.2.2.1 p.2.2.2.1 p.2.2.2.2.1 = T) (fun p => p.2.1 - p.1) (a, b, limit, true, true, D) ⟨⟨hab, hb, hl, by dsimp only; omega⟩, hD, hT⟩ ⟨(by repeat (first | exact Sub.nil | refine Sub.cons rfl ?_)), _, (by repeat' constructor)⟩ ?_
  clear hT hD hab hb hl hN
  rintro ⟨a, b, limit, wb, wp, G⟩ ⟨⟨hab, hb, hl, hN⟩, hG, hT⟩
  dsimp only at hab hb hl hN hG hT ⊢
  refine WC.block ?_
  refine WC.seq ?_
  refine WC.region ?_
  refine WL.y (Yl.move rfl) rfl ?_
  refine WL.y (Yl.move rfl) rfl ?_
  refine WL.y (Yl.sub rfl rfl (IntWalk.i64_in _ (by omega))) rfl ?_
  refine WL.say (t := 23) (v' := .int .i64 ((b - a : Nat) : Int)) rfl (by (refine congrArg _ ?_; omega)) ?_
  refine WL.y (Yl.assign rfl) rfl ?_
  refine WL.nil ?_
  refine WC.seq ?_
  refine WC.seq ?_
  refine WC.region ?_
  refine WL.y (Yl.move rfl) rfl ?_
  refine WL.y (Yl.leq rfl rfl) rfl ?_
  refine WL.nil ?_
  refine WC.condD rfl (fun g25 => ?_) (fun g25 => ?_)
  · refine WC.seq ?_
    refine WC.region ?_
    refine WL.y (Yl.move rfl) rfl ?_
    refine WL.y (Yl.move rfl) rfl ?_
    refine WL.y (Yl.move rfl) rfl ?_
    refine WL.y (Yl.move rfl) rfl ?_
    refine WL.callC (xs := [.tmp 26, .tmp 27, .tmp 28, .tmp 29]) (cap := []) rfl rfl en97 (by repeat' constructor) (fun w hw => insK_any v n G a b hG hn hab hb w hw.left.here) rfl ?_
    rintro ⟨⟩ -
    dsimp only [List.cons_append, List.nil_append]
    refine WL.nil ?_
    refine WC.ret ?_
    repeat (with_reducible (first | refine peelT ?_ | refine peelB ?_ | refine peelTX ?_ | refine peelBX ?_ | refine peelBN ?_ | refine peelBO rfl ?_))
    have h12 : b - a ≤ 12 := by omega
    rw [pdq_ins h12] at hT
    subst hT
    exact ret0 (.inr rfl) Tryz.results83 fun w' h => ⟨(), trivial, rfl, h.sub (by repeat' constructor)⟩
  · refine WC.skip ?_
    refine WC.seq ?_
    refine WC.seq ?_
    refine WC.region ?_
    refine WL.y (Yl.move rfl) rfl ?_
    refine WL.y (Yl.eql rfl rfl) rfl ?_
    refine WL.nil ?_
    refine WC.condD rfl (fun g32 => ?_) (fun g32 => ?_)
    · refine WC.seq ?_
      refine WC.region ?_
      refine WL.y (Yl.move rfl) rfl ?_
      refine WL.y (Yl.move rfl) rfl ?_
      refine WL.y (Yl.move rfl) rfl ?_
      refine WL.y (Yl.move rfl) rfl ?_
      refine WL.callC (xs := [.tmp 33, .tmp 34, .tmp 35, .tmp 36]) (cap := []) rfl rfl en98 (by repeat' constructor) (fun w hw => heapK_any v n G a b hG hn hab hb w hw.left.here) rfl ?_
      rintro ⟨⟩ -
      dsimp only [List.cons_append, List.nil_append]
      refine WL.nil ?_
      refine WC.ret ?_
      repeat (with_reducible (first | refine peelT ?_ | refine peelB ?_ | refine peelTX ?_ | refine peelBX ?_ | refine peelBN ?_ | refine peelBO rfl ?_))
      have h12 : ¬ b - a ≤ 12 := by omega
      have hl0 : limit = 0 := by omega
      rw [pdq_heap h12 hl0] at hT
      subst hT
      exact ret0 (.inr rfl) Tryz.results83 fun w' h => ⟨(), trivial, rfl, h.sub (by repeat' constructor)⟩
    · refine WC.skip ?_
      refine WC.midX (α := Unit) (fun _ => [(0, v), (4, .func (.func 60) #[] #[]), (1, .int .i64 (a : Int)), (2, .int .i64 (b : Int)), (3, .int .i64 (limF limit wb : Int)), (10, .bool wb), (11, .bool wp), (12, .int .i64 ((b - a : Nat) : Int))]) (fun _ => [rwK v n ((brkF G a b wb).toList)]) (fun _ => True) ?_ ?_
      · refine WC.seq ?_
        refine WC.region ?_
        refine WL.y (Yl.move rfl) rfl ?_
        refine WL.y (Yl.not rfl) rfl ?_
        refine WL.nil ?_
        refine WC.cond rfl (fun g39 => ?_) (fun g39 => ?_)
        · refine WC.seq ?_
          refine WC.region ?_
          refine WL.y (Yl.move rfl) rfl ?_
          refine WL.y (Yl.move rfl) rfl ?_
          refine WL.y (Yl.move rfl) rfl ?_
          refine WL.y (Yl.move rfl) rfl ?_
          refine WL.callC (xs := [.tmp 40, .tmp 41, .tmp 42, .tmp 43]) (cap := []) rfl rfl en99 (by repeat' constructor) (fun w hw => brkBK_any v n G a b hG hn hab hb w hw.left.here) rfl ?_
          rintro ⟨⟩ -
          dsimp only [List.cons_append, List.nil_append]
          refine WL.nil ?_
          refine WC.region ?_
          refine WL.y (Yl.move rfl) rfl ?_
          refine WL.y (Yl.sub rfl rfl (IntWalk.i64_in _ (by omega))) rfl ?_
          refine WL.say (t := 46) (v' := .int .i64 ((limit - 1 : Nat) : Int)) rfl (by (refine congrArg _ ?_; omega)) ?_
          refine WL.y (Yl.assign rfl) rfl ?_
          refine WL.nil ?_
          rw [show brkF G a b wb = breakPatterns G a b from if_pos g39, show limF limit wb = limit - 1 from if_pos g39]
          exact ⟨rfl, (), trivial, (by repeat (first | exact Sub.nil | refine Sub.cons rfl ?_)), _, (by repeat' constructor)⟩
        · refine WC.skip ?_
          rw [show brkF G a b wb = G from if_neg (ne_true_of_eq_false g39), show limF limit wb = limit from if_neg (ne_true_of_eq_false g39)]
          exact ⟨rfl, (), trivial, (by repeat (first | exact Sub.nil | refine Sub.cons rfl ?_)), _, (by repeat' constructor)⟩
      · rintro ⟨⟩ -
        have h12 : ¬ b - a ≤ 12 := by omega
        have hl0 : ¬ limit = 0 := by omega
        rw [pdq_rest h12 hl0 (by omega)] at hT
        have hBs := brk_size (D := G) (a := a) (b := b) wb hab (by omega)
        have hLi : limF limit wb ≤ 64 := by unfold limF; split <;> omega
        obtain ⟨B, hB⟩ : ∃ B, brkF G a b wb = B := ⟨_, rfl⟩
        obtain ⟨li, hli⟩ : ∃ li, limF limit wb = li := ⟨_, rfl⟩
        rw [hB] at hT hBs ⊢
        rw [hli] at hT hLi ⊢
        have hpr := piv_range (D := B) (a := a) (b := b) (by omega)
        have hRs := rev_size (D := B) (a := a) (b := b) hab (by omega)
        have hch := choosePivot_holds ltK B a b (by omega)
        refine WC.seq ?_
        refine WC.region ?_
        refine WL.y (Yl.move rfl) rfl ?_
        refine WL.y (Yl.move rfl) rfl ?_
        refine WL.y (Yl.move rfl) rfl ?_
        refine WL.y (Yl.move rfl) rfl ?_
        refine WL.callC (xs := [.tmp 48, .tmp 49, .tmp 50, .tmp 51]) (cap := []) rfl rfl en100 (by repeat' constructor) (fun w hw => choBK_any v n B a b (by omega) hn hab hb w hw.left.here) rfl ?_
        rintro ⟨⟩ -
        dsimp only [List.cons_append, List.nil_append]
        refine WL.y (Yl.move rfl) rfl ?_
        refine WL.y (Yl.extract rfl rfl) rfl ?_
        refine WL.y (Yl.extract rfl rfl) rfl ?_
        refine WL.y (Yl.assign rfl) rfl ?_
        refine WL.y (Yl.assign rfl) rfl ?_
        refine WL.nil ?_
        refine WC.midX (α := Unit) (fun _ => [(0, v), (4, .func (.func 60) #[] #[]), (1, .int .i64 (a : Int)), (2, .int .i64 (b : Int)), (3, .int .i64 (li : Int)), (10, .bool wb), (11, .bool wp), (12, .int .i64 ((b - a : Nat) : Int)), (13, .int .i64 (pivF B a b : Int)), (14, .int .i64 (Go.Proofs.YtfobhdmhjjafcaaGreatDoorRR.hN (hinF B a b)))]) (fun _ => [rwK v n ((revF B a b).toList)]) (fun _ => True) ?_ ?_
        · refine WC.seq ?_
          refine WC.region ?_
          refine WL.y (Yl.move rfl) rfl ?_
          refine WL.y (Yl.eql rfl rfl) rfl ?_
          refine WL.say (t := 56) (v' := .bool (decide ((choosePivot ltK B a b).2 = .decreasing))) rfl (by rw [hN_dec]) ?_
          refine WL.nil ?_
          refine WC.cond rfl (fun g56 => ?_) (fun g56 => ?_)
          · refine WC.seq ?_
            refine WC.region ?_
            refine WL.y (Yl.move rfl) rfl ?_
            refine WL.y (Yl.move rfl) rfl ?_
            refine WL.y (Yl.move rfl) rfl ?_
            refine WL.y (Yl.move rfl) rfl ?_
            refine WL.callC (xs := [.tmp 57, .tmp 58, .tmp 59, .tmp 60]) (cap := []) rfl rfl en101 (by repeat' constructor) (fun w hw => revK_any v n B a b (by omega) hn (by omega) hb w hw.left.here) rfl ?_
            rintro ⟨⟩ -
            dsimp only [List.cons_append, List.nil_append]
            refine WL.nil ?_
            refine WC.seq ?_
            refine WC.region ?_
            refine WL.y (Yl.move rfl) rfl ?_
            refine WL.y (Yl.sub rfl rfl (IntWalk.i64_in _ (by omega))) rfl ?_
            refine WL.say (t := 63) (v' := .int .i64 ((b - 1 : Nat) : Int)) rfl (by (refine congrArg _ ?_; omega)) ?_
            refine WL.y (Yl.move rfl) rfl ?_
            refine WL.y (Yl.move rfl) rfl ?_
            refine WL.y (Yl.sub rfl rfl (IntWalk.i64_in _ (by omega))) rfl ?_
            refine WL.say (t := 66) (v' := .int .i64 (((choosePivot ltK B a b).1 - a : Nat) : Int)) rfl (by (refine congrArg _ ?_; omega)) ?_
            refine WL.y (Yl.sub rfl rfl (IntWalk.i64_in _ (by omega))) rfl ?_
            refine WL.say (t := 67) (v' := .int .i64 (((b - 1) - ((choosePivot ltK B a b).1 - a) : Nat) : Int)) rfl (by (refine congrArg _ ?_; omega)) ?_
            refine WL.y (Yl.assign rfl) rfl ?_
            refine WL.nil ?_
            refine WC.region ?_
            refine WL.y (Yl.assign rfl) rfl ?_
            refine WL.nil ?_
            have hd := of_decide_eq_true g56
            rw [show revF B a b = reverseRange B a b from if_pos hd, show pivF B a b = (b - 1) - ((choosePivot ltK B a b).1 - a) from if_pos hd, show hinF B a b = .increasing from if_pos hd]
            exact ⟨rfl, (), trivial, (by repeat (first | exact Sub.nil | refine Sub.cons rfl ?_)), _, (by repeat' constructor)⟩
          · refine WC.skip ?_
            have hd := of_decide_eq_false g56
            rw [show revF B a b = B from if_neg hd, show pivF B a b = (choosePivot ltK B a b).1 from if_neg hd, show hinF B a b = (choosePivot ltK B a b).2 from if_neg hd]
            exact ⟨rfl, (), trivial, (by repeat (first | exact Sub.nil | refine Sub.cons rfl ?_)), _, (by repeat' constructor)⟩
        · rintro ⟨⟩ -
          obtain ⟨R, hR⟩ : ∃ R, revF B a b = R := ⟨_, rfl⟩
          obtain ⟨pv, hpv⟩ : ∃ pv, pivF B a b = pv := ⟨_, rfl⟩
          obtain ⟨hi, hhi⟩ : ∃ hi, hinF B a b = hi := ⟨_, rfl⟩
          rw [hR] at hT hRs ⊢
          rw [hpv] at hT hpr ⊢
          rw [hhi] at hT ⊢
          have hRn : R.size = n := by omega
          have hps := pin_size R a b
          refine WC.midX (α := Array Ky) (fun _ => [(0, v), (4, .func (.func 60) #[] #[]), (1, .int .i64 (a : Int)), (2, .int .i64 (b : Int)), (3, .int .i64 (li : Int)), (10, .bool wb), (11, .bool wp), (12, .int .i64 ((b - a : Nat) : Int)), (13, .int .i64 (pv : Int))]) (fun E => [rwK v n (E.toList)]) (fun E => E.size = n ∧ pdq4 E a b li wb wp pv = T) ?_ ?_
          · refine WC.midX (α := Unit) (fun _ => [(0, v), (4, .func (.func 60) #[] #[]), (1, .int .i64 (a : Int)), (2, .int .i64 (b : Int)), (3, .int .i64 (li : Int)), (10, .bool wb), (11, .bool wp), (12, .int .i64 ((b - a : Nat) : Int)), (13, .int .i64 (pv : Int)), (75, .bool (wb && wp && decide (hi = .increasing)))]) (fun _ => [rwK v n (R.toList)]) (fun _ => True) ?_ ?_
            · refine WC.region ?_
              refine WL.y (Yl.move rfl) rfl ?_
              refine WL.y (Yl.move rfl) rfl ?_
              refine WL.both (t := 69) rfl (fun g69 => ?_) (fun g69 => ?_)
              · refine WL.on rfl rfl ?_
                refine WL.y (Yl.move rfl) rfl ?_
                refine WL.y (Yl.pickT rfl rfl) rfl ?_
                refine WL.y (Yl.move rfl) rfl ?_
                refine WL.both (t := 72) rfl (fun g72 => ?_) (fun g72 => ?_)
                · refine WL.on rfl rfl ?_
                  refine WL.y (Yl.move rfl) rfl ?_
                  refine WL.on rfl rfl ?_
                  refine WL.y (Yl.eql rfl rfl) rfl ?_
                  refine WL.say (t := 74) (v' := .bool (decide (hi = .increasing))) rfl (by rw [hN_inc]) ?_
                  refine WL.y (Yl.pickT rfl rfl) rfl ?_
                  refine WL.say (t := 75) (v' := .bool (wb && wp && decide (hi = .increasing))) rfl (by (simp_all)) ?_
                  refine WL.nil ?_
                  exact ⟨rfl, (), trivial, (by repeat (first | exact Sub.nil | refine Sub.cons rfl ?_)), _, (by repeat' constructor)⟩
                · refine WL.off rfl rfl rfl rfl ?_
                  refine WL.off rfl rfl rfl rfl ?_
                  refine WL.y (Yl.pickF rfl rfl) rfl ?_
                  refine WL.say (t := 75) (v' := .bool (wb && wp && decide (hi = .increasing))) rfl (by (simp_all)) ?_
                  refine WL.nil ?_
                  exact ⟨rfl, (), trivial, (by repeat (first | exact Sub.nil | refine Sub.cons rfl ?_)), _, (by repeat' constructor)⟩
              · refine WL.off rfl rfl rfl rfl ?_
                refine WL.y (Yl.pickF rfl rfl) rfl ?_
                refine WL.y (Yl.move rfl) rfl ?_
                refine WL.off rfl rfl rfl rfl ?_
                refine WL.off rfl rfl rfl rfl ?_
                refine WL.y (Yl.pickF rfl rfl) rfl ?_
                refine WL.say (t := 75) (v' := .bool (wb && wp && decide (hi = .increasing))) rfl (by (simp_all)) ?_
                refine WL.nil ?_
                exact ⟨rfl, (), trivial, (by repeat (first | exact Sub.nil | refine Sub.cons rfl ?_)), _, (by repeat' constructor)⟩
            · rintro ⟨⟩ -
              refine WC.cond rfl (fun g75 => ?_) (fun g75 => ?_)
              · refine WC.seq ?_
                refine WC.region ?_
                refine WL.y (Yl.move rfl) rfl ?_
                refine WL.y (Yl.move rfl) rfl ?_
                refine WL.y (Yl.move rfl) rfl ?_
                refine WL.y (Yl.move rfl) rfl ?_
                refine WL.callC (xs := [.tmp 76, .tmp 77, .tmp 78, .tmp 79]) (cap := []) rfl rfl en102 (by repeat' constructor) (fun w hw => pinK_any v n R a b hRn hn (by omega) hb w hw.left.here) rfl ?_
                rintro ⟨⟩ -
                dsimp only [List.cons_append, List.nil_append]
                refine WL.nil ?_
                refine WC.cond rfl (fun g80 => ?_) (fun g80 => ?_)
                · refine WC.ret ?_
                  repeat (with_reducible (first | refine peelT ?_ | refine peelB ?_ | refine peelTX ?_ | refine peelBX ?_ | refine peelBN ?_ | refine peelBO rfl ?_))
                  unfold pdq3 at hT
                  rw [if_pos g75, if_pos g80] at hT
                  subst hT
                  exact ret0 (.inr rfl) Tryz.results83 fun w' h => ⟨(), trivial, rfl, h.sub (by repeat' constructor)⟩
                · refine WC.skip ?_
                  unfold pdq3 at hT
                  rw [if_pos g75, if_neg (ne_true_of_eq_false g80)] at hT
                  exact ⟨rfl, (partialInsertionSort ltK R a b).1, ⟨by omega, hT⟩, (by repeat (first | exact Sub.nil | refine Sub.cons rfl ?_)), _, (by repeat' constructor)⟩
              · refine WC.skip ?_
                unfold pdq3 at hT
                rw [if_neg (ne_true_of_eq_false g75)] at hT
                exact ⟨rfl, R, ⟨hRn, hT⟩, (by repeat (first | exact Sub.nil | refine Sub.cons rfl ?_)), _, (by repeat' constructor)⟩
          · rintro E ⟨hEn, hT4⟩
            have hpq := peq_range (D := E) hpr.1 hpr.2 (by omega)
            have hpa := par_range (D := E) hpr.1 hpr.2 (by omega)
            unfold pdq4 at hT4
            refine WC.seq ?_
            refine WC.midX (α := Unit) (fun _ => [(0, v), (4, .func (.func 60) #[] #[]), (1, .int .i64 (a : Int)), (2, .int .i64 (b : Int)), (3, .int .i64 (li : Int)), (10, .bool wb), (11, .bool wp), (12, .int .i64 ((b - a : Nat) : Int)), (13, .int .i64 (pv : Int)), (97, .bool (decide ((0 : Int) < (a : Int)) && !ltK E[a - 1]! E[pv]!))]) (fun _ => [rwK v n (E.toList)]) (fun _ => True) ?_ ?_
            · refine WC.drawAny (Hs := [rwK v n (E.toList)]) mixed (by kernel_rfl) ⟨_, (by repeat' constructor)⟩ ?_
              refine WD.take 0 rfl (by kernel_rfl) (by kernel_rfl) (by kernel_rfl) rfl rfl (Yl.move rfl) rfl ?_
              refine WD.take 1 rfl (by kernel_rfl) (by kernel_rfl) (by kernel_rfl) rfl rfl (Yl.gtr rfl rfl) rfl ?_
              refine WD.take 2 rfl (by kernel_rfl) (by kernel_rfl) (by kernel_rfl) rfl rfl (Yl.move rfl) rfl ?_
              refine WD.both (t := 83) rfl (fun g83 => ?_) (fun g83 => ?_)
              · refine WD.takeOn 3 rfl (by kernel_rfl) (by kernel_rfl) (by kernel_rfl) rfl rfl rfl rfl (Yl.move rfl) rfl ?_
                have ha0 : 0 < a := by have := of_decide_eq_true g83; omega
                refine WD.takeOn 4 rfl (by kernel_rfl) (by kernel_rfl) (by kernel_rfl) rfl rfl rfl rfl (Yl.move rfl) rfl ?_
                refine WD.takeOn 5 rfl (by kernel_rfl) (by kernel_rfl) (by kernel_rfl) rfl rfl rfl rfl (Yl.move rfl) rfl ?_
                refine WD.takeOn 6 rfl (by kernel_rfl) (by kernel_rfl) (by kernel_rfl) rfl rfl rfl rfl (Yl.sub rfl rfl (IntWalk.i64_in _ (by omega))) rfl ?_
                refine WD.say (t := 87) (v' := .int .i64 ((a - 1 : Nat) : Int)) rfl (by (refine congrArg _ ?_; omega)) ?_
                refine WD.takeOn 7 rfl (by kernel_rfl) (by kernel_rfl) (by kernel_rfl) rfl rfl rfl rfl (Yl.indexF un22 sz30 rfl rfl hF rfl (by omega)) rfl ?_
                refine WD.takeOn 8 rfl (by kernel_rfl) (by kernel_rfl) (by kernel_rfl) rfl rfl rfl rfl (Yl.loadV vtK (fun _ _ => trivial) rfl (Reads.own (by repeat constructor)) (by rw [Array.length_toList]; omega) (so_getK (by omega))) rfl ?_
                refine WD.takeOn 9 rfl (by kernel_rfl) (by kernel_rfl) (by kernel_rfl) rfl rfl rfl rfl (Yl.move rfl) rfl ?_
                refine WD.takeOn 10 rfl (by kernel_rfl) (by kernel_rfl) (by kernel_rfl) rfl rfl rfl rfl (Yl.move rfl) rfl ?_
                refine WD.takeOn 11 rfl (by kernel_rfl) (by kernel_rfl) (by kernel_rfl) rfl rfl rfl rfl (Yl.indexF un22 sz30 rfl rfl hF rfl (by omega)) rfl ?_
                refine WD.takeOn 12 rfl (by kernel_rfl) (by kernel_rfl) (by kernel_rfl) rfl rfl rfl rfl (Yl.loadV vtK (fun _ _ => trivial) rfl (Reads.own (by repeat constructor)) (by rw [Array.length_toList]; omega) (so_getK (by omega))) rfl ?_
                refine WD.one 13 (by kernel_rfl) ?_
                refine WO.callC (f := .tmp 84) (xs := [.tmp 89, .tmp 93]) (cap := []) rfl (.on rfl rfl) rfl rfl en60 (by repeat' constructor) (fun w hw => order_any _ _ w hw.left.here) rfl (fun _ => ⟨_, (by repeat' constructor)⟩) ?_
                rintro ⟨⟩ -
                refine WD.takeOn 14 rfl (by kernel_rfl) (by kernel_rfl) (by kernel_rfl) rfl rfl rfl rfl (Yl.lss rfl rfl) rfl ?_
                refine WD.say (t := 95) (v' := .bool (ltK _ _)) rfl (by rfl) ?_
                refine WD.takeOn 15 rfl (by kernel_rfl) (by kernel_rfl) (by kernel_rfl) rfl rfl rfl rfl (Yl.not rfl) rfl ?_
                refine WD.take 16 rfl (by kernel_rfl) (by kernel_rfl) (by kernel_rfl) rfl rfl (Yl.pickT rfl rfl) rfl ?_
                refine WD.say (t := 97) (v' := .bool (decide ((0 : Int) < (a : Int)) && !ltK E[a - 1]! E[pv]!)) rfl (by (rw [g83]; rfl)) ?_
                refine WD.done (by kernel_rfl) ?_
                exact ⟨rfl, (), trivial, (by repeat (first | exact Sub.nil | refine Sub.cons rfl ?_)), _, (by repeat' constructor)⟩
              · refine WD.takeOff 3 rfl (by kernel_rfl) (by kernel_rfl) (by kernel_rfl) rfl rfl rfl rfl rfl rfl ?_
                refine WD.takeOff 4 rfl (by kernel_rfl) (by kernel_rfl) (by kernel_rfl) rfl rfl rfl rfl rfl rfl ?_
                refine WD.takeOff 5 rfl (by kernel_rfl) (by kernel_rfl) (by kernel_rfl) rfl rfl rfl rfl rfl rfl ?_
                refine WD.takeOff 6 rfl (by kernel_rfl) (by kernel_rfl) (by kernel_rfl) rfl rfl rfl rfl rfl rfl ?_
                refine WD.takeOff 7 rfl (by kernel_rfl) (by kernel_rfl) (by kernel_rfl) rfl rfl rfl rfl rfl rfl ?_
                refine WD.takeOff 8 rfl (by kernel_rfl) (by kernel_rfl) (by kernel_rfl) rfl rfl rfl rfl rfl rfl ?_
                refine WD.takeOff 9 rfl (by kernel_rfl) (by kernel_rfl) (by kernel_rfl) rfl rfl rfl rfl rfl rfl ?_
                refine WD.takeOff 10 rfl (by kernel_rfl) (by kernel_rfl) (by kernel_rfl) rfl rfl rfl rfl rfl rfl ?_
                refine WD.takeOff 11 rfl (by kernel_rfl) (by kernel_rfl) (by kernel_rfl) rfl rfl rfl rfl rfl rfl ?_
                refine WD.takeOff 12 rfl (by kernel_rfl) (by kernel_rfl) (by kernel_rfl) rfl rfl rfl rfl rfl rfl ?_
                refine WD.one 13 (by kernel_rfl) ?_
                refine WO.off rfl rfl rfl rfl rfl rfl rfl ?_
                refine WD.takeOff 14 rfl (by kernel_rfl) (by kernel_rfl) (by kernel_rfl) rfl rfl rfl rfl rfl rfl ?_
                refine WD.takeOff 15 rfl (by kernel_rfl) (by kernel_rfl) (by kernel_rfl) rfl rfl rfl rfl rfl rfl ?_
                refine WD.take 16 rfl (by kernel_rfl) (by kernel_rfl) (by kernel_rfl) rfl rfl (Yl.pickF rfl rfl) rfl ?_
                refine WD.say (t := 97) (v' := .bool (decide ((0 : Int) < (a : Int)) && !ltK E[a - 1]! E[pv]!)) rfl (by (rw [g83]; rfl)) ?_
                refine WD.done (by kernel_rfl) ?_
                exact ⟨rfl, (), trivial, (by repeat (first | exact Sub.nil | refine Sub.cons rfl ?_)), _, (by repeat' constructor)⟩
            · rintro ⟨⟩ -
              refine WC.cond rfl (fun g97 => ?_) (fun g97 => ?_)
              · refine WC.seq ?_
                refine WC.region ?_
                refine WL.y (Yl.move rfl) rfl ?_
                refine WL.y (Yl.move rfl) rfl ?_
                refine WL.y (Yl.move rfl) rfl ?_
                refine WL.y (Yl.move rfl) rfl ?_
                refine WL.y (Yl.move rfl) rfl ?_
                refine WL.callC (xs := [.tmp 98, .tmp 99, .tmp 100, .tmp 101, .tmp 102]) (cap := []) rfl rfl en103 (by repeat' constructor) (fun w hw => peqK_any v n E a b pv hEn hn hpr.1 hpr.2 hb w hw.left.here) rfl ?_
                rintro ⟨⟩ -
                dsimp only [List.cons_append, List.nil_append]
                refine WL.viewX (α := Unit) (φ := fun _ => (partitionEqual ltK E a b pv).2.size = n) (H' := fun _ => [rwK v n ((partitionEqual ltK E a b pv).2.toList)]) (fun w h => ⟨(), own_size (h.get .head), h⟩) ?_
                rintro ⟨⟩ hsz
                refine WL.y (Yl.assign rfl) rfl ?_
                refine WL.nil ?_
                refine WC.seq ?_
                refine WC.region ?_
                refine WL.y (Yl.move rfl) rfl ?_
                refine WL.y (Yl.assign rfl) rfl ?_
                refine WL.nil ?_
                refine WC.exit ?_
                rw [if_pos (by rw [pos_and] at g97; exact g97)] at hT4
                exact ⟨rfl, ((partitionEqual ltK E a b pv).1, b, li, wb, wp, (partitionEqual ltK E a b pv).2), ⟨⟨hpq.2, hb, hLi, by dsimp only; omega⟩, hsz, hT4⟩, by dsimp only; omega, (by repeat (first | exact Sub.nil | refine Sub.cons rfl ?_)), _, (by repeat' constructor)⟩
              · refine WC.skip ?_
                refine WC.seq ?_
                rw [if_neg (by rw [pos_and] at g97; exact ne_true_of_eq_false g97)] at hT4
                refine WC.region ?_
                refine WL.y (Yl.move rfl) rfl ?_
                refine WL.y (Yl.move rfl) rfl ?_
                refine WL.y (Yl.move rfl) rfl ?_
                refine WL.y (Yl.move rfl) rfl ?_
                refine WL.y (Yl.move rfl) rfl ?_
                refine WL.callC (xs := [.tmp 106, .tmp 107, .tmp 108, .tmp 109, .tmp 110]) (cap := []) rfl rfl en104 (by repeat' constructor) (fun w hw => parK_any v n E a b pv hEn hn hpr.1 hpr.2 hb w hw.left.here) rfl ?_
                rintro ⟨⟩ -
                dsimp only [List.cons_append, List.nil_append]
                refine WL.viewX (α := Unit) (φ := fun _ => (partition ltK E a b pv).2.2.size = n) (H' := fun _ => [rwK v n ((partition ltK E a b pv).2.2.toList)]) (fun w h => ⟨(), own_size (h.get .head), h⟩) ?_
                rintro ⟨⟩ hsz
                obtain ⟨P, hP⟩ : ∃ P, partition ltK E a b pv = P := ⟨_, rfl⟩
                rw [hP] at hpa hsz hT4 ⊢
                refine WL.y (Yl.move rfl) rfl ?_
                refine WL.y (Yl.extract rfl rfl) rfl ?_
                refine WL.y (Yl.extract rfl rfl) rfl ?_
                refine WL.y (Yl.assign rfl) rfl ?_
                refine WL.y (Yl.assign rfl) rfl ?_
                refine WL.nil ?_
                refine WC.seq ?_
                refine WC.region ?_
                refine WL.y (Yl.move rfl) rfl ?_
                refine WL.y (Yl.assign rfl) rfl ?_
                refine WL.nil ?_
                refine WC.seq ?_
                refine WC.region ?_
                refine WL.y (Yl.move rfl) rfl ?_
                refine WL.y (Yl.move rfl) rfl ?_
                refine WL.y (Yl.sub rfl rfl (IntWalk.i64_in _ (by omega))) rfl ?_
                refine WL.say (t := 117) (v' := .int .i64 ((P.1 - a : Nat) : Int)) rfl (by (refine congrArg _ ?_; omega)) ?_
                refine WL.y (Yl.move rfl) rfl ?_
                refine WL.y (Yl.move rfl) rfl ?_
                refine WL.y (Yl.sub rfl rfl (IntWalk.i64_in _ (by omega))) rfl ?_
                refine WL.say (t := 120) (v' := .int .i64 ((b - P.1 : Nat) : Int)) rfl (by (refine congrArg _ ?_; omega)) ?_
                refine WL.y (Yl.assign rfl) rfl ?_
                refine WL.y (Yl.assign rfl) rfl ?_
                refine WL.nil ?_
                refine WC.seq ?_
                refine WC.region ?_
                refine WL.y (Yl.move rfl) rfl ?_
                refine WL.y (Yl.quo rfl rfl (by omega) (i64_quo (by omega) (by omega))) rfl ?_
                refine WL.say (t := 122) (v' := .int .i64 (((b - a) / 8 : Nat) : Int)) rfl (by (refine congrArg _ ?_; omega)) ?_
                refine WL.y (Yl.assign rfl) rfl ?_
                refine WL.nil ?_
                refine WC.seq ?_
                refine WC.region ?_
                refine WL.y (Yl.move rfl) rfl ?_
                refine WL.y (Yl.move rfl) rfl ?_
                refine WL.y (Yl.lss rfl rfl) rfl ?_
                refine WL.nil ?_
                refine WC.condD rfl (fun g125 => ?_) (fun g125 => ?_)
                · refine WC.seq ?_
                  have hlt : P.1 - a < b - P.1 := by omega
                  rw [if_pos hlt] at hT4
                  refine WC.region ?_
                  refine WL.y (Yl.move rfl) rfl ?_
                  refine WL.y (Yl.move rfl) rfl ?_
                  refine WL.y (Yl.geq rfl rfl) rfl ?_
                  refine WL.say (t := 128) (v' := .bool (decide (P.1 - a ≥ (b - a) / 8))) rfl (by (refine congrArg _ ?_; rw [decide_eq_decide]; omega)) ?_
                  refine WL.y (Yl.assign rfl) rfl ?_
                  refine WL.nil ?_
                  refine WC.seq ?_
                  refine WC.region ?_
                  refine WL.y (Yl.move rfl) rfl ?_
                  refine WL.y (Yl.move rfl) rfl ?_
                  refine WL.y (Yl.move rfl) rfl ?_
                  refine WL.y (Yl.move rfl) rfl ?_
                  refine WL.y (Yl.move rfl) rfl ?_
                  refine WL.callC (xs := [.tmp 129, .tmp 130, .tmp 131, .tmp 132, .tmp 133]) (cap := []) rfl rfl en83 (by repeat' constructor) (fun w hw => ih (P.1 - a) (by omega) P.2.2 a P.1 li rfl hsz (by omega) (by omega) hLi w hw.left.here) rfl ?_
                  rintro ⟨⟩ -
                  dsimp only [List.cons_append, List.nil_append]
                  refine WL.viewX (α := Unit) (φ := fun _ => (pdq ltK P.2.2 a P.1 li true true).size = n) (H' := fun _ => [rwK v n ((pdq ltK P.2.2 a P.1 li true true).toList)]) (fun w h => ⟨(), own_size (h.get .head), h⟩) ?_
                  rintro ⟨⟩ hsz2
                  refine WL.nil ?_
                  refine WC.region ?_
                  refine WL.y (Yl.move rfl) rfl ?_
                  refine WL.y (Yl.add rfl rfl (IntWalk.i64_in _ (by omega))) rfl ?_
                  refine WL.y (Yl.assign rfl) rfl ?_
                  refine WL.nil ?_
                  exact ⟨rfl, (P.1 + 1, b, li, decide (P.1 - a ≥ (b - a) / 8), P.2.1, pdq ltK P.2.2 a P.1 li true true), ⟨⟨by dsimp only; omega, hb, hLi, by dsimp only; omega⟩, hsz2, hT4⟩, by dsimp only; omega, (by repeat (first | exact Sub.nil | refine Sub.cons rfl ?_)), _, (by repeat' constructor)⟩
                · refine WC.seq ?_
                  have hlt : ¬ P.1 - a < b - P.1 := by omega
                  rw [if_neg hlt] at hT4
                  refine WC.region ?_
                  refine WL.y (Yl.move rfl) rfl ?_
                  refine WL.y (Yl.move rfl) rfl ?_
                  refine WL.y (Yl.geq rfl rfl) rfl ?_
                  refine WL.say (t := 139) (v' := .bool (decide (b - P.1 ≥ (b - a) / 8))) rfl (by (refine congrArg _ ?_; rw [decide_eq_decide]; omega)) ?_
                  refine WL.y (Yl.assign rfl) rfl ?_
                  refine WL.nil ?_
                  refine WC.seq ?_
                  refine WC.region ?_
                  refine WL.y (Yl.move rfl) rfl ?_
                  refine WL.y (Yl.move rfl) rfl ?_
                  refine WL.y (Yl.add rfl rfl (IntWalk.i64_in _ (by omega))) rfl ?_
                  refine WL.say (t := 142) (v' := .int .i64 ((P.1 + 1 : Nat) : Int)) rfl (by (refine congrArg _ ?_; omega)) ?_
                  refine WL.y (Yl.move rfl) rfl ?_
                  refine WL.y (Yl.move rfl) rfl ?_
                  refine WL.y (Yl.move rfl) rfl ?_
                  refine WL.callC (xs := [.tmp 140, .tmp 142, .tmp 143, .tmp 144, .tmp 145]) (cap := []) rfl rfl en83 (by repeat' constructor) (fun w hw => ih (b - (P.1 + 1)) (by omega) P.2.2 (P.1 + 1) b li rfl hsz (by omega) hb hLi w hw.left.here) rfl ?_
                  rintro ⟨⟩ -
                  dsimp only [List.cons_append, List.nil_append]
                  refine WL.viewX (α := Unit) (φ := fun _ => (pdq ltK P.2.2 (P.1 + 1) b li true true).size = n) (H' := fun _ => [rwK v n ((pdq ltK P.2.2 (P.1 + 1) b li true true).toList)]) (fun w h => ⟨(), own_size (h.get .head), h⟩) ?_
                  rintro ⟨⟩ hsz2
                  refine WL.nil ?_
                  refine WC.region ?_
                  refine WL.y (Yl.move rfl) rfl ?_
                  refine WL.y (Yl.assign rfl) rfl ?_
                  refine WL.nil ?_
                  exact ⟨rfl, (a, P.1, li, decide (b - P.1 ≥ (b - a) / 8), P.2.1, pdq ltK P.2.2 (P.1 + 1) b li true true), ⟨⟨hpa.1, by dsimp only; omega, hLi, by dsimp only; omega⟩, hsz2, hT4⟩, by dsimp only; omega, (by repeat (first | exact Sub.nil | refine Sub.cons rfl ?_)), _, (by repeat' constructor)⟩
theorem pdqK_any (v : Value) (n : Nat) (hn : n ≤ 1099511627776) (D : Array Ky) (a b limit : Nat) (hD : D.size = n) (hab : a ≤ b) (hb : b ≤ n) (hl : limit ≤ 64) (w : World) (hw : OK w (fpL [rwK v n (D.toList)]) [rwK v n (D.toList)] w) :
    Fn Tryz.prog 83 [v, .int .i64 (a : Int), .int .i64 (b : Int), .int .i64 (limit : Int), .func (.func 60) #[] #[]] [rwK v n (D.toList)] w (fun _ : Unit => True) (fun _ => .tuple #[]) (fun _ => [rwK v n ((pdq ltK D a b limit true true).toList)]) := by
  have key : ∀ N, ∀ (D : Array Ky) (a b limit : Nat), b - a = N → D.size = n → a ≤ b → b ≤ n → limit ≤ 64 → ∀ w, OK w (fpL [rwK v n (D.toList)]) [rwK v n (D.toList)] w →
      Fn Tryz.prog 83 [v, .int .i64 (a : Int), .int .i64 (b : Int), .int .i64 (limit : Int), .func (.func 60) #[] #[]] [rwK v n (D.toList)] w (fun _ : Unit => True) (fun _ => .tuple #[]) (fun _ => [rwK v n ((pdq ltK D a b limit true true).toList)]) := by
    intro N
    induction N using Nat.strongRecOn with
    | ind N ih => exact fun D a b limit h1 h2 h3 h4 h5 w hw => pdqSK_any v n hn N ih D a b limit h1 h2 h3 h4 h5 w hw
  exact key (b - a) D a b limit rfl hD hab hb hl w hw
end Go.Proofs.YtfobhdmhjjafcaaGreatDoorRR
