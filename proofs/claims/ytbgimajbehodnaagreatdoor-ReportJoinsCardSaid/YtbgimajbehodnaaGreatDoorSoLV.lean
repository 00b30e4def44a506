/- Sorting rows of uint64: the partial insertion: the walk. -/
import Derived.Test.YtbgimajbehodnaaGreatDoorSoEV
import Derived.Test.YtbgimajbehodnaaGreatDoorSoG
namespace Go.Proofs.YtbgimajbehodnaaGreatDoor
open Go Go.RowKit Go.Sort

theorem ltB (i j : Nat) : decide ((i : Int) < (j : Int)) = decide (i < j) := by
  rw [decide_eq_decide]
  omega
theorem ss_go {D : Array Int} {b i : Nat} (h : (decide ((i : Int) < (b : Int)) && !ltInt D[i]! D[i - 1]!) = true) : scanSorted ltInt D b i = scanSorted ltInt D b (i + 1) := by
  rw [ltB] at h
  conv => lhs; rw [scanSorted]
  rw [if_pos h]
theorem ss_stop {D : Array Int} {b i : Nat} (h : (decide ((i : Int) < (b : Int)) && !ltInt D[i]! D[i - 1]!) = false) : scanSorted ltInt D b i = i := by
  rw [ltB] at h
  rw [scanSorted, if_neg (ne_true_of_eq_false h)]
theorem and_lt {i j : Nat} {c : Bool} (h : (decide ((i : Int) < (j : Int)) && c) = true) : i < j := by
  rw [Bool.and_eq_true] at h
  have := of_decide_eq_true h.1
  omega
theorem ss_ge (D : Array Int) (b i : Nat) : i ≤ scanSorted ltInt D b i := by
  induction h : b - i using Nat.strongRecOn generalizing i with
  | ind m ih =>
    by_cases hc : (decide ((i : Int) < (b : Int)) && !ltInt D[i]! D[i - 1]!) = true
    · rw [ss_go hc]
      have := ih (b - (i + 1)) (by have := and_lt hc; omega) (i + 1) rfl
      omega
    · rw [ss_stop (by simpa using hc)]
      exact Nat.le_refl _
theorem ss_le {D : Array Int} {b i : Nat} (hi : i ≤ b) : scanSorted ltInt D b i ≤ b := by
  induction h : b - i using Nat.strongRecOn generalizing i with
  | ind m ih =>
    by_cases hc : (decide ((i : Int) < (b : Int)) && !ltInt D[i]! D[i - 1]!) = true
    · have := and_lt hc
      rw [ss_go hc]
      exact ih (b - (i + 1)) (by omega) (by omega) rfl
    · rw [ss_stop (by simpa using hc)]
      exact hi
theorem sd_go {D : Array Int} {j : Nat} (h : 1 ≤ j) (hl : ltInt D[j]! D[j - 1]! = true) : shiftDown ltInt j D = shiftDown ltInt (j - 1) (swp D j (j - 1)) := by
  cases j with
  | zero => omega
  | succ j =>
    replace hl : ltInt D[j + 1]! D[j]! = true := hl
    rw [shiftDown, if_neg (by rw [hl]; decide)]
    rfl
theorem sd_stop {D : Array Int} {j : Nat} (h : ¬ (1 ≤ j ∧ ltInt D[j]! D[j - 1]! = true)) : shiftDown ltInt j D = D := by
  cases j with
  | zero => rfl
  | succ j =>
    have hl : ltInt D[j + 1]! D[j]! = false := by
      cases e : ltInt D[j + 1]! D[j]! with
      | false => rfl
      | true => exact absurd ⟨by omega, e⟩ h
    rw [shiftDown, if_pos (by rw [hl]; rfl)]
theorem su_go {D : Array Int} {b j : Nat} (h : j < b) (hl : ltInt D[j]! D[j - 1]! = true) : shiftUp ltInt b j D = shiftUp ltInt b (j + 1) (swp D j (j - 1)) := by
  conv => lhs; rw [shiftUp]
  rw [if_pos h, if_neg (by rw [hl]; decide)]
theorem su_stop {D : Array Int} {b j : Nat} (h : ¬ (j < b ∧ ltInt D[j]! D[j - 1]! = true)) : shiftUp ltInt b j D = D := by
  rw [shiftUp]
  split
  · rename_i e
    have hl : ltInt D[j]! D[j - 1]! = false := by
      cases e2 : ltInt D[j]! D[j - 1]! with
      | false => rfl
      | true => exact absurd ⟨e, e2⟩ h
    rw [if_pos (by rw [hl]; rfl)]
  · rfl
theorem sd_size : ∀ (j : Nat) (D : Array Int), (shiftDown ltInt j D).size = D.size
  | 0, D => rfl
  | j + 1, D => by
    rw [shiftDown]
    split
    · rfl
    · rw [sd_size j, swp_size]
theorem su_size (b j : Nat) (D : Array Int) : (shiftUp ltInt b j D).size = D.size := by
  induction h : b - j using Nat.strongRecOn generalizing j D with
  | ind m ih =>
    by_cases hc : j < b ∧ ltInt D[j]! D[j - 1]! = true
    · rw [su_go hc.1 hc.2, ih (b - (j + 1)) (by omega) _ _ rfl, swp_size]
    · rw [su_stop hc]
/-- One step of the five. -/
def pinD (a : Nat) (D : Array Int) (I : Nat) : Array Int := if I - a ≥ 2 then shiftDown ltInt (I - 1) (swp D I (I - 1)) else swp D I (I - 1)
def pinU (a b : Nat) (D : Array Int) (I : Nat) : Array Int := if b - I ≥ 2 then shiftUp ltInt b (I + 1) (pinD a D I) else pinD a D I
theorem pinD_size (a : Nat) (D : Array Int) (I : Nat) : (pinD a D I).size = D.size := by
  unfold pinD
  split
  · rw [sd_size, swp_size]
  · rw [swp_size]
theorem pinU_size (a b : Nat) (D : Array Int) (I : Nat) : (pinU a b D I).size = D.size := by
  unfold pinU
  split
  · rw [su_size, pinD_size]
  · rw [pinD_size]
theorem pin_eq (a b s i : Nat) (D : Array Int) : partialIns ltInt a b (s + 1) i D = if scanSorted ltInt D b i = b then (D, true) else if b - a < 50 then (D, false) else partialIns ltInt a b s (scanSorted ltInt D b i) (pinU a b D (scanSorted ltInt D b i)) := by
  rw [partialIns]
  rfl

set_option maxHeartbeats 3200000 in
set_option maxRecDepth 100000 in
theorem pinV_any (v : Value) (n : Nat) (D : Array Int) (a b : Nat) (hD : D.size = n) (hn : n ≤ 1099511627776) (hab : a < b) (hb : b ≤ n) (w : World) (hw : OK w (fpL [ownR v 34 1 n (ints .u64 D.toList)]) [ownR v 34 1 n (ints .u64 D.toList)] w) :
    Fn Tryz.prog 137 [v, .int .i64 (a : Int), .int .i64 (b : Int)] [ownR v 34 1 n (ints .u64 D.toList)] w (fun _ : Unit => True) (fun _ => .bool (partialInsertionSort ltInt D a b).2) (fun _ => [ownR v 34 1 n (ints .u64 (partialInsertionSort ltInt D a b).1.toList)]) := by
  have hF := sl_form (hw.get (r := ownR v 34 1 n (ints .u64 D.toList)) .head)
  unfold partialInsertionSort
  obtain ⟨T, hT⟩ : ∃ T, partialIns ltInt a b 5 (a + 1) D = T := ⟨_, rfl⟩
  rw [hT]
  refine enterF Tryz.func137 rfl Tryz.ntmps137 rfl hw ?_
  refine WC.seq ?_
  refine WC.region ?_
  refine WL.y (Yl.assign rfl) rfl ?_
  refine WL.nil ?_
  refine WC.seq ?_
  refine WC.region ?_
  refine WL.y (Yl.move rfl) rfl ?_
  refine WL.y (Yl.add rfl rfl (IntWalk.i64_in _ (by omega))) rfl ?_
  refine WL.y (Yl.assign rfl) rfl ?_
  refine WL.nil ?_
  refine WC.seq ?_
  refine WC.seq ?_
  refine WC.region ?_
  refine WL.y (Yl.assign rfl) rfl ?_
  refine WL.nil ?_
  refine WC.block ?_
  refine WC.loop (α := Nat × Nat × Array Int) (fun p => [(0, v), (1, .int .i64 (a : Int)), (2, .int .i64 (b : Int)), (7, .int .i64 (p.2.1 : Int)), (8, .int .i64 (p.1 : Int))]) (fun p => [ownR v 34 1 n (ints .u64 p.2.2.toList)]) (fun p => p.1 ≤ 5 ∧ (a < p.2.1 ∧ p.2.1 ≤ b) ∧ p.2.2.size = n ∧ partialIns ltInt a b (5 - p.1) p.2.1 p.2.2 = T) (fun p => 5 - p.1) (0, a + 1, D) ⟨by dsimp only; omega, by dsimp only; omega, hD, hT⟩ ⟨(by repeat' constructor), _, (by repeat' constructor)⟩ ?_
  rintro ⟨k, i, G⟩ ⟨hk, ⟨hai, hib⟩, hG, hTG⟩
  dsimp only at hk hai hib hG hTG ⊢
  refine WC.seq ?_
  refine WC.seq ?_
  refine WC.region ?_
  refine WL.y (Yl.move rfl) rfl ?_
  refine WL.y (Yl.lss rfl rfl) rfl ?_
  refine WL.nil ?_
  refine WC.condD rfl (fun g14 => ?_) (fun g14 => ?_)
  · refine WC.skip ?_
    refine WC.seq ?_
    refine WC.block ?_
    refine WC.seq ?_
    refine WC.block ?_
    have hk5 : k < 5 := by omega
    rw [show 5 - k = (5 - (k + 1)) + 1 by omega, pin_eq] at hTG
    have hge := ss_ge G b i
    have hle := ss_le (D := G) hib
    obtain ⟨I, hI⟩ : ∃ I, scanSorted ltInt G b i = I := ⟨_, rfl⟩
    rw [hI] at hTG hge hle
    have hpd := pinD_size a G I
    have hpu := pinU_size a b G I
    refine WC.loop (α := Nat) (fun p => [(0, v), (1, .int .i64 (a : Int)), (2, .int .i64 (b : Int)), (7, .int .i64 (p : Int)), (8, .int .i64 (k : Int))]) (fun _ => [ownR v 34 1 n (ints .u64 G.toList)]) (fun p => (a < p ∧ p ≤ b) ∧ scanSorted ltInt G b p = I) (fun p => b - p) i ⟨⟨hai, hib⟩, hI⟩ ⟨(by repeat' constructor), _, (by repeat' constructor)⟩ ?_
    rintro p ⟨⟨hap, hpb⟩, hpI⟩
    refine WC.seq ?_
    refine WC.midX (α := Unit) (fun _ => [(0, v), (1, .int .i64 (a : Int)), (2, .int .i64 (b : Int)), (7, .int .i64 (p : Int)), (8, .int .i64 (k : Int)), (32, .bool (decide ((p : Int) < (b : Int)) && !ltInt G[p]! G[p - 1]!))]) (fun _ => [ownR v 34 1 n (ints .u64 G.toList)]) (fun _ => True) ?_ ?_
    · refine WC.drawAny (Hs := [ownR v 34 1 n (ints .u64 G.toList)]) mixed (by kernel_rfl) ⟨_, (by repeat' constructor)⟩ ?_
      refine WD.tk 0 rfl (by kernel_rfl) rfl rfl (Yl.move rfl) rfl ?_
      refine WD.tk 1 rfl (by kernel_rfl) rfl rfl (Yl.move rfl) rfl ?_
      refine WD.tk 2 rfl (by kernel_rfl) rfl rfl (Yl.lss rfl rfl) rfl ?_
      refine WD.tk 3 rfl (by kernel_rfl) rfl rfl (Yl.move rfl) rfl ?_
      refine WD.both (t := 20) rfl (fun g20 => ?_) (fun g20 => ?_)
      · have hpj : p < b := by have := of_decide_eq_true g20; omega
        refine WD.takeOn 4 rfl (by kernel_rfl) (by kernel_rfl) (by kernel_rfl) rfl rfl rfl rfl (Yl.move rfl) rfl ?_
        refine WD.takeOn 5 rfl (by kernel_rfl) (by kernel_rfl) (by kernel_rfl) rfl rfl rfl rfl (Yl.move rfl) rfl ?_
        refine WD.takeOn 6 rfl (by kernel_rfl) (by kernel_rfl) (by kernel_rfl) rfl rfl rfl rfl (Yl.indexF un48 sz34 rfl rfl hF rfl (by omega)) rfl ?_
        refine WD.takeOn 7 rfl (by kernel_rfl) (by kernel_rfl) (by kernel_rfl) rfl rfl rfl rfl (Yl.loadE on34 rfl (Reads.own (by repeat constructor)) (so_getV (by omega))) rfl ?_
        refine WD.takeOn 8 rfl (by kernel_rfl) (by kernel_rfl) (by kernel_rfl) rfl rfl rfl rfl (Yl.move rfl) rfl ?_
        refine WD.takeOn 9 rfl (by kernel_rfl) (by kernel_rfl) (by kernel_rfl) rfl rfl rfl rfl (Yl.move rfl) rfl ?_
        refine WD.takeOn 10 rfl (by kernel_rfl) (by kernel_rfl) (by kernel_rfl) rfl rfl rfl rfl (Yl.sub rfl rfl (IntWalk.i64_in _ (by omega))) rfl ?_
        refine WD.say (t := 27) (v' := .int .i64 ((p - 1 : Nat) : Int)) rfl (by (refine congrArg _ ?_; omega)) ?_
        refine WD.takeOn 11 rfl (by kernel_rfl) (by kernel_rfl) (by kernel_rfl) rfl rfl rfl rfl (Yl.indexF un48 sz34 rfl rfl hF rfl (by omega)) rfl ?_
        refine WD.takeOn 12 rfl (by kernel_rfl) (by kernel_rfl) (by kernel_rfl) rfl rfl rfl rfl (Yl.loadE on34 rfl (Reads.own (by repeat constructor)) (so_getV (by omega))) rfl ?_
        refine WD.one 13 (by kernel_rfl) ?_
        refine WO.callC (xs := [.tmp 24, .tmp 29]) (cap := []) rfl (.on rfl rfl) rfl rfl en138 (by repeat' constructor) (fun w hw => lessV_any _ _ w hw.left.here) rfl (fun _ => ⟨_, (by repeat' constructor)⟩) ?_
        rintro ⟨⟩ -
        refine WD.takeOn 14 rfl (by kernel_rfl) (by kernel_rfl) (by kernel_rfl) rfl rfl rfl rfl (Yl.not rfl) rfl ?_
        refine WD.tk 15 rfl (by kernel_rfl) rfl rfl (Yl.pickT rfl rfl) rfl ?_
        refine WD.say (t := 32) (v' := .bool (decide ((p : Int) < (b : Int)) && !ltInt G[p]! G[p - 1]!)) rfl (by (rw [g20]; rfl)) ?_
        refine WD.done (by kernel_rfl) ?_
        exact ⟨rfl, (), trivial, (by repeat' constructor), _, (by repeat' constructor)⟩
      · refine WD.takeOff 4 rfl (by kernel_rfl) (by kernel_rfl) (by kernel_rfl) rfl rfl rfl rfl rfl rfl ?_
        refine WD.takeOff 5 rfl (by kernel_rfl) (by kernel_rfl) (by kernel_rfl) rfl rfl rfl rfl rfl rfl ?_
        refine WD.takeOff 6 rfl (by kernel_rfl) (by kernel_rfl) (by kernel_rfl) rfl rfl rfl rfl rfl rfl ?_
        refine WD.takeOff 7 rfl (by kernel_rfl) (by kernel_rfl) (by kernel_rfl) rfl rfl rfl rfl rfl rfl ?_
        refine WD.takeOff 8 rfl (by kernel_rfl) (by kernel_rfl) (by kernel_rfl) rfl rfl rfl rfl rfl rfl ?_
        refine WD.takeOff 9 rfl (by kernel_rfl) (by kernel_rfl) (by kernel_rfl) rfl rfl rfl rfl rfl rfl ?_
        refine WD.takeOff 10 rfl (by kernel_rfl) (by kernel_rfl) (by kernel_rfl) rfl rfl rfl rfl rfl rfl ?_
        refine WD.takeOff 11 rfl (by kernel_rfl) (by kernel_rfl) (by kernel_rfl) rfl rfl rfl rfl rfl rfl ?_
        refine WD.takeOff 12 rfl (by kernel_rfl) (by kernel_rfl) (by kernel_rfl) rfl rfl rfl rfl rfl rfl ?_
        refine WD.one 13 (by kernel_rfl) ?_
        refine WO.off rfl rfl rfl rfl rfl rfl rfl ?_
        refine WD.takeOff 14 rfl (by kernel_rfl) (by kernel_rfl) (by kernel_rfl) rfl rfl rfl rfl rfl rfl ?_
        refine WD.tk 15 rfl (by kernel_rfl) rfl rfl (Yl.pickF rfl rfl) rfl ?_
        refine WD.say (t := 32) (v' := .bool (decide ((p : Int) < (b : Int)) && !ltInt G[p]! G[p - 1]!)) rfl (by (rw [g20]; rfl)) ?_
        refine WD.done (by kernel_rfl) ?_
        exact ⟨rfl, (), trivial, (by repeat' constructor), _, (by repeat' constructor)⟩
    · rintro ⟨⟩ -
      refine WC.cond rfl (fun g32 => ?_) (fun g32 => ?_)
      · refine WC.skip ?_
        refine WC.block ?_
        have hpj := and_lt g32
        refine WC.region ?_
        refine WL.y (Yl.move rfl) rfl ?_
        refine WL.y (Yl.add rfl rfl (IntWalk.i64_in _ (by omega))) rfl ?_
        refine WL.y (Yl.assign rfl) rfl ?_
        refine WL.nil ?_
        exact ⟨rfl, p + 1, ⟨by omega, by rw [← ss_go g32]; exact hpI⟩, by omega, (by repeat' constructor), _, (by repeat' constructor)⟩
      · refine WC.exit ?_
        refine WC.seq ?_
        refine WC.seq ?_
        have hpe : p = I := by rw [← hpI]; exact (ss_stop g32).symm
        subst hpe
        refine WC.region ?_
        refine WL.y (Yl.move rfl) rfl ?_
        refine WL.y (Yl.move rfl) rfl ?_
        refine WL.y (Yl.eql rfl rfl) rfl ?_
        refine WL.nil ?_
        refine WC.condD rfl (fun g37 => ?_) (fun g37 => ?_)
        · refine WC.seq ?_
          have hpb2 : p = b := by omega
          rw [if_pos hpb2] at hTG
          subst hTG
          refine WC.region ?_
          refine WL.y (Yl.assign rfl) rfl ?_
          refine WL.nil ?_
          refine WC.ret ?_
          repeat (with_reducible (first | refine peelT ?_ | refine peelB ?_ | refine peelTX ?_ | refine peelBX ?_ | refine peelBN ?_ | refine peelBO rfl ?_))
          exact ret1 (.inr rfl) Tryz.results137 rfl fun w' h => ⟨(), trivial, rfl, h.sub (by repeat' constructor)⟩
        · refine WC.skip ?_
          refine WC.seq ?_
          refine WC.seq ?_
          have hpb2 : ¬ p = b := by omega
          rw [if_neg hpb2] at hTG
          refine WC.region ?_
          refine WL.y (Yl.move rfl) rfl ?_
          refine WL.y (Yl.move rfl) rfl ?_
          refine WL.y (Yl.sub rfl rfl (IntWalk.i64_in _ (by omega))) rfl ?_
          refine WL.y (Yl.lss rfl rfl) rfl ?_
          refine WL.nil ?_
          refine WC.condD rfl (fun g41 => ?_) (fun g41 => ?_)
          · refine WC.seq ?_
            have hb50 : b - a < 50 := by omega
            rw [if_pos hb50] at hTG
            subst hTG
            refine WC.region ?_
            refine WL.y (Yl.assign rfl) rfl ?_
            refine WL.nil ?_
            refine WC.ret ?_
            repeat (with_reducible (first | refine peelT ?_ | refine peelB ?_ | refine peelTX ?_ | refine peelBX ?_ | refine peelBN ?_ | refine peelBO rfl ?_))
            exact ret1 (.inr rfl) Tryz.results137 rfl fun w' h => ⟨(), trivial, rfl, h.sub (by repeat' constructor)⟩
          · refine WC.skip ?_
            refine WC.seq ?_
            have hb50 : ¬ b - a < 50 := by omega
            rw [if_neg hb50] at hTG
            have hsw := swp_size G p (p - 1)
            refine WC.drawAny (Hs := []) mixed (by kernel_rfl) ⟨_, (by repeat' constructor)⟩ ?_
            refine WD.tk 0 rfl (by kernel_rfl) rfl rfl (Yl.move rfl) rfl ?_
            refine WD.tk 1 rfl (by kernel_rfl) rfl rfl (Yl.move rfl) rfl ?_
            refine WD.tk 2 rfl (by kernel_rfl) rfl rfl (Yl.move rfl) rfl ?_
            refine WD.tk 3 rfl (by kernel_rfl) rfl rfl (Yl.move rfl) rfl ?_
            refine WD.tk 4 rfl (by kernel_rfl) rfl rfl (Yl.sub rfl rfl (IntWalk.i64_in _ (by omega))) rfl ?_
            refine WD.say (t := 46) (v' := .int .i64 ((p - 1 : Nat) : Int)) rfl (by (refine congrArg _ ?_; omega)) ?_
            refine WD.tk 5 rfl (by kernel_rfl) rfl rfl (Yl.move rfl) rfl ?_
            refine WD.tk 6 rfl (by kernel_rfl) rfl rfl (Yl.move rfl) rfl ?_
            refine WD.tk 7 rfl (by kernel_rfl) rfl rfl (Yl.sub rfl rfl (IntWalk.i64_in _ (by omega))) rfl ?_
            refine WD.say (t := 49) (v' := .int .i64 ((p - 1 : Nat) : Int)) rfl (by (refine congrArg _ ?_; omega)) ?_
            refine WD.tk 8 rfl (by kernel_rfl) rfl rfl (Yl.indexF un48 sz34 rfl rfl hF rfl (by omega)) rfl ?_
            refine WD.tk 10 rfl (by kernel_rfl) rfl rfl (Yl.move rfl) rfl ?_
            refine WD.tk 11 rfl (by kernel_rfl) rfl rfl (Yl.move rfl) rfl ?_
            refine WD.tk 12 rfl (by kernel_rfl) rfl rfl (Yl.indexF un48 sz34 rfl rfl hF rfl (by omega)) rfl ?_
            refine WD.two 9 13 (by kernel_rfl) ?_ ?_
            · refine WO.y rfl rfl .no (Yl.loadE on34 rfl (Reads.own (by repeat constructor)) (so_getV (by omega))) rfl ?_
              refine WD.one 13 (by kernel_rfl) ?_
              refine WO.y rfl rfl .no (Yl.loadE on34 rfl (Reads.own (by repeat constructor)) (so_getV (by omega))) rfl ?_
              refine WD.tk 14 rfl (by kernel_rfl) rfl rfl (Yl.indexF un48 sz34 rfl rfl hF rfl (by omega)) rfl ?_
              refine WD.one 15 (by kernel_rfl) ?_
              refine WO.sto rfl rfl .no (Sto.elem (j := p) sz34 rfl rfl (by repeat constructor) rfl (by omega) rfl) ⟨_, (by repeat' constructor)⟩ ?_
              refine WD.tk 16 rfl (by kernel_rfl) rfl rfl (Yl.indexF un48 sz34 rfl rfl hF rfl (by omega)) rfl ?_
              refine WD.one 17 (by kernel_rfl) ?_
              refine WO.sto rfl rfl .no (Sto.elem (j := p - 1) (cs' := ints .u64 (swp G (p) (p - 1)).toList) sz34 rfl rfl (by repeat constructor) rfl (by omega) (so_swpV G (p) (p - 1))) ⟨_, (by repeat' constructor)⟩ ?_
              refine WD.done (by kernel_rfl) ?_
              refine WC.midX (α := Unit) (fun _ => [(0, v), (1, .int .i64 (a : Int)), (2, .int .i64 (b : Int)), (7, .int .i64 (p : Int)), (8, .int .i64 (k : Int))]) (fun _ => [ownR v 34 1 n (ints .u64 (pinD a G p).toList)]) (fun _ => True) ?_ ?_
              · refine WC.seq ?_
                refine WC.region ?_
                refine WL.y (Yl.move rfl) rfl ?_
                refine WL.y (Yl.move rfl) rfl ?_
                refine WL.y (Yl.sub rfl rfl (IntWalk.i64_in _ (by omega))) rfl ?_
                refine WL.y (Yl.geq rfl rfl) rfl ?_
                refine WL.nil ?_
                refine WC.condD rfl (fun g61 => ?_) (fun g61 => ?_)
                · refine WC.seq ?_
                  refine WC.region ?_
                  refine WL.y (Yl.move rfl) rfl ?_
                  refine WL.y (Yl.sub rfl rfl (IntWalk.i64_in _ (by omega))) rfl ?_
                  refine WL.say (t := 63) (v' := .int .i64 ((p - 1 : Nat) : Int)) rfl (by (refine congrArg _ ?_; omega)) ?_
                  refine WL.y (Yl.assign rfl) rfl ?_
                  refine WL.nil ?_
                  refine WC.block ?_
                  have hia : p - a ≥ 2 := by omega
                  obtain ⟨V, hV⟩ : ∃ V, shiftDown ltInt (p - 1) (swp G p (p - 1)) = V := ⟨_, rfl⟩
                  have hVe : pinD a G p = V := by unfold pinD; rw [if_pos hia]; exact hV
                  rw [hVe]
                  refine WC.loop (α := Nat × Array Int) (fun z => [(0, v), (1, .int .i64 (a : Int)), (2, .int .i64 (b : Int)), (7, .int .i64 (p : Int)), (8, .int .i64 (k : Int)), (9, .int .i64 (z.1 : Int))]) (fun z => [ownR v 34 1 n (ints .u64 z.2.toList)]) (fun z => z.1 < n ∧ z.2.size = n ∧ shiftDown ltInt z.1 z.2 = V) (fun z => z.1) (p - 1, swp G p (p - 1)) ⟨by dsimp only; omega, by dsimp only; omega, hV⟩ ⟨(by repeat' constructor), _, (by repeat' constructor)⟩ ?_
                  rintro ⟨j, E⟩ ⟨hj, hE, hVE⟩
                  dsimp only at hj hE hVE ⊢
                  refine WC.seq ?_
                  refine WC.seq ?_
                  refine WC.region ?_
                  refine WL.y (Yl.move rfl) rfl ?_
                  refine WL.y (Yl.geq rfl rfl) rfl ?_
                  refine WL.nil ?_
                  refine WC.condD rfl (fun g65 => ?_) (fun g65 => ?_)
                  · refine WC.skip ?_
                    refine WC.seq ?_
                    refine WC.block ?_
                    refine WC.seq ?_
                    refine WC.seq ?_
                    have hj1 : 1 ≤ j := by omega
                    refine WC.drawAny (Hs := [ownR v 34 1 n (ints .u64 E.toList)]) mixed (by kernel_rfl) ⟨_, (by repeat' constructor)⟩ ?_
                    refine WD.tk 0 rfl (by kernel_rfl) rfl rfl (Yl.move rfl) rfl ?_
                    refine WD.tk 1 rfl (by kernel_rfl) rfl rfl (Yl.move rfl) rfl ?_
                    refine WD.tk 2 rfl (by kernel_rfl) rfl rfl (Yl.indexF un48 sz34 rfl rfl hF rfl (by omega)) rfl ?_
                    refine WD.tk 3 rfl (by kernel_rfl) rfl rfl (Yl.loadE on34 rfl (Reads.own (by repeat constructor)) (so_getV (by omega))) rfl ?_
                    refine WD.tk 4 rfl (by kernel_rfl) rfl rfl (Yl.move rfl) rfl ?_
                    refine WD.tk 5 rfl (by kernel_rfl) rfl rfl (Yl.move rfl) rfl ?_
                    refine WD.tk 6 rfl (by kernel_rfl) rfl rfl (Yl.sub rfl rfl (IntWalk.i64_in _ (by omega))) rfl ?_
                    refine WD.say (t := 74) (v' := .int .i64 ((j - 1 : Nat) : Int)) rfl (by (refine congrArg _ ?_; omega)) ?_
                    refine WD.tk 7 rfl (by kernel_rfl) rfl rfl (Yl.indexF un48 sz34 rfl rfl hF rfl (by omega)) rfl ?_
                    refine WD.tk 8 rfl (by kernel_rfl) rfl rfl (Yl.loadE on34 rfl (Reads.own (by repeat constructor)) (so_getV (by omega))) rfl ?_
                    refine WD.one 9 (by kernel_rfl) ?_
                    refine WO.callC (xs := [.tmp 71, .tmp 76]) (cap := []) rfl .no rfl rfl en138 (by repeat' constructor) (fun w hw => lessV_any _ _ w hw.left.here) rfl (fun _ => ⟨_, (by repeat' constructor)⟩) ?_
                    rintro ⟨⟩ -
                    refine WD.tk 10 rfl (by kernel_rfl) rfl rfl (Yl.not rfl) rfl ?_
                    refine WD.done (by kernel_rfl) ?_
                    refine WC.cond rfl (fun g78 => ?_) (fun g78 => ?_)
                    · refine WC.exit ?_
                      first
                      | (have hj0 : ¬ 1 ≤ j := by omega
                         have hst : shiftDown ltInt j E = E := sd_stop (fun e => hj0 e.1)
                         rw [hst] at hVE
                         subst hVE
                         exact ⟨rfl, (), trivial, (by repeat' constructor), _, (by repeat' constructor)⟩)
                      | (have hst : shiftDown ltInt j E = E := sd_stop (fun e => by rw [e.2] at g78; cases g78)
                         rw [hst] at hVE
                         subst hVE
                         exact ⟨rfl, (), trivial, (by repeat' constructor), _, (by repeat' constructor)⟩)
                      | (have hia : ¬ p - a ≥ 2 := by omega
                         rw [show pinD a G p = swp G p (p - 1) from if_neg hia]
                         exact ⟨rfl, (), trivial, (by repeat' constructor), _, (by repeat' constructor)⟩)
                    · refine WC.skip ?_
                      have hlt : ltInt E[j]! E[j - 1]! = true := by simpa using g78
                      rw [sd_go hj1 hlt] at hVE
                      refine WC.drawAny (Hs := []) mixed (by kernel_rfl) ⟨_, (by repeat' constructor)⟩ ?_
                      refine WD.tk 0 rfl (by kernel_rfl) rfl rfl (Yl.move rfl) rfl ?_
                      refine WD.tk 1 rfl (by kernel_rfl) rfl rfl (Yl.move rfl) rfl ?_
                      refine WD.tk 2 rfl (by kernel_rfl) rfl rfl (Yl.move rfl) rfl ?_
                      refine WD.tk 3 rfl (by kernel_rfl) rfl rfl (Yl.move rfl) rfl ?_
                      refine WD.tk 4 rfl (by kernel_rfl) rfl rfl (Yl.sub rfl rfl (IntWalk.i64_in _ (by omega))) rfl ?_
                      refine WD.say (t := 83) (v' := .int .i64 ((j - 1 : Nat) : Int)) rfl (by (refine congrArg _ ?_; omega)) ?_
                      refine WD.tk 5 rfl (by kernel_rfl) rfl rfl (Yl.move rfl) rfl ?_
                      refine WD.tk 6 rfl (by kernel_rfl) rfl rfl (Yl.move rfl) rfl ?_
                      refine WD.tk 7 rfl (by kernel_rfl) rfl rfl (Yl.sub rfl rfl (IntWalk.i64_in _ (by omega))) rfl ?_
                      refine WD.say (t := 86) (v' := .int .i64 ((j - 1 : Nat) : Int)) rfl (by (refine congrArg _ ?_; omega)) ?_
                      refine WD.tk 8 rfl (by kernel_rfl) rfl rfl (Yl.indexF un48 sz34 rfl rfl hF rfl (by omega)) rfl ?_
                      refine WD.tk 10 rfl (by kernel_rfl) rfl rfl (Yl.move rfl) rfl ?_
                      refine WD.tk 11 rfl (by kernel_rfl) rfl rfl (Yl.move rfl) rfl ?_
                      refine WD.tk 12 rfl (by kernel_rfl) rfl rfl (Yl.indexF un48 sz34 rfl rfl hF rfl (by omega)) rfl ?_
                      refine WD.two 9 13 (by kernel_rfl) ?_ ?_
                      · refine WO.y rfl rfl .no (Yl.loadE on34 rfl (Reads.own (by repeat constructor)) (so_getV (by omega))) rfl ?_
                        refine WD.one 13 (by kernel_rfl) ?_
                        refine WO.y rfl rfl .no (Yl.loadE on34 rfl (Reads.own (by repeat constructor)) (so_getV (by omega))) rfl ?_
                        refine WD.tk 14 rfl (by kernel_rfl) rfl rfl (Yl.indexF un48 sz34 rfl rfl hF rfl (by omega)) rfl ?_
                        refine WD.one 15 (by kernel_rfl) ?_
                        refine WO.sto rfl rfl .no (Sto.elem (j := j) sz34 rfl rfl (by repeat constructor) rfl (by omega) rfl) ⟨_, (by repeat' constructor)⟩ ?_
                        refine WD.tk 16 rfl (by kernel_rfl) rfl rfl (Yl.indexF un48 sz34 rfl rfl hF rfl (by omega)) rfl ?_
                        refine WD.one 17 (by kernel_rfl) ?_
                        refine WO.sto rfl rfl .no (Sto.elem (j := j - 1) (cs' := ints .u64 (swp E (j) (j - 1)).toList) sz34 rfl rfl (by repeat constructor) rfl (by omega) (so_swpV E (j) (j - 1))) ⟨_, (by repeat' constructor)⟩ ?_
                        refine WD.done (by kernel_rfl) ?_
                        refine WC.region ?_
                        refine WL.y (Yl.move rfl) rfl ?_
                        refine WL.y (Yl.sub rfl rfl (IntWalk.i64_in _ (by omega))) rfl ?_
                        refine WL.say (t := 67) (v' := .int .i64 ((j - 1 : Nat) : Int)) rfl (by (refine congrArg _ ?_; omega)) ?_
                        refine WL.y (Yl.assign rfl) rfl ?_
                        refine WL.nil ?_
                        exact ⟨rfl, (j - 1, swp E j (j - 1)), ⟨by dsimp only; omega, by dsimp only; rw [swp_size]; exact hE, hVE⟩, by dsimp only; omega, (by repeat' constructor), _, (by repeat' constructor)⟩
                      · refine WO.y rfl rfl .no (Yl.loadE on34 rfl (Reads.own (by repeat constructor)) (so_getV (by omega))) rfl ?_
                        refine WD.one 9 (by kernel_rfl) ?_
                        refine WO.y rfl rfl .no (Yl.loadE on34 rfl (Reads.own (by repeat constructor)) (so_getV (by omega))) rfl ?_
                        refine WD.tk 14 rfl (by kernel_rfl) rfl rfl (Yl.indexF un48 sz34 rfl rfl hF rfl (by omega)) rfl ?_
                        refine WD.one 15 (by kernel_rfl) ?_
                        refine WO.sto rfl rfl .no (Sto.elem (j := j) sz34 rfl rfl (by repeat constructor) rfl (by omega) rfl) ⟨_, (by repeat' constructor)⟩ ?_
                        refine WD.tk 16 rfl (by kernel_rfl) rfl rfl (Yl.indexF un48 sz34 rfl rfl hF rfl (by omega)) rfl ?_
                        refine WD.one 17 (by kernel_rfl) ?_
                        refine WO.sto rfl rfl .no (Sto.elem (j := j - 1) (cs' := ints .u64 (swp E (j) (j - 1)).toList) sz34 rfl rfl (by repeat constructor) rfl (by omega) (so_swpV E (j) (j - 1))) ⟨_, (by repeat' constructor)⟩ ?_
                        refine WD.done (by kernel_rfl) ?_
                        refine WC.region ?_
                        refine WL.y (Yl.move rfl) rfl ?_
                        refine WL.y (Yl.sub rfl rfl (IntWalk.i64_in _ (by omega))) rfl ?_
                        refine WL.say (t := 67) (v' := .int .i64 ((j - 1 : Nat) : Int)) rfl (by (refine congrArg _ ?_; omega)) ?_
                        refine WL.y (Yl.assign rfl) rfl ?_
                        refine WL.nil ?_
                        exact ⟨rfl, (j - 1, swp E j (j - 1)), ⟨by dsimp only; omega, by dsimp only; rw [swp_size]; exact hE, hVE⟩, by dsimp only; omega, (by repeat' constructor), _, (by repeat' constructor)⟩
                  · refine WC.exit ?_
                    first
                    | (have hj0 : ¬ 1 ≤ j := by omega
                       have hst : shiftDown ltInt j E = E := sd_stop (fun e => hj0 e.1)
                       rw [hst] at hVE
                       subst hVE
                       exact ⟨rfl, (), trivial, (by repeat' constructor), _, (by repeat' constructor)⟩)
                    | (have hst : shiftDown ltInt j E = E := sd_stop (fun e => by rw [e.2] at g78; cases g78)
                       rw [hst] at hVE
                       subst hVE
                       exact ⟨rfl, (), trivial, (by repeat' constructor), _, (by repeat' constructor)⟩)
                    | (have hia : ¬ p - a ≥ 2 := by omega
                       rw [show pinD a G p = swp G p (p - 1) from if_neg hia]
                       exact ⟨rfl, (), trivial, (by repeat' constructor), _, (by repeat' constructor)⟩)
                · refine WC.skip ?_
                  first
                  | (have hj0 : ¬ 1 ≤ j := by omega
                     have hst : shiftDown ltInt j E = E := sd_stop (fun e => hj0 e.1)
                     rw [hst] at hVE
                     subst hVE
                     exact ⟨rfl, (), trivial, (by repeat' constructor), _, (by repeat' constructor)⟩)
                  | (have hst : shiftDown ltInt j E = E := sd_stop (fun e => by rw [e.2] at g78; cases g78)
                     rw [hst] at hVE
                     subst hVE
                     exact ⟨rfl, (), trivial, (by repeat' constructor), _, (by repeat' constructor)⟩)
                  | (have hia : ¬ p - a ≥ 2 := by omega
                     rw [show pinD a G p = swp G p (p - 1) from if_neg hia]
                     exact ⟨rfl, (), trivial, (by repeat' constructor), _, (by repeat' constructor)⟩)
              · rintro ⟨⟩ -
                refine WC.seq ?_
                refine WC.region ?_
                refine WL.y (Yl.move rfl) rfl ?_
                refine WL.y (Yl.move rfl) rfl ?_
                refine WL.y (Yl.sub rfl rfl (IntWalk.i64_in _ (by omega))) rfl ?_
                refine WL.y (Yl.geq rfl rfl) rfl ?_
                refine WL.nil ?_
                refine WC.condD rfl (fun g98 => ?_) (fun g98 => ?_)
                · refine WC.seq ?_
                  refine WC.region ?_
                  refine WL.y (Yl.move rfl) rfl ?_
                  refine WL.y (Yl.add rfl rfl (IntWalk.i64_in _ (by omega))) rfl ?_
                  refine WL.y (Yl.assign rfl) rfl ?_
                  refine WL.nil ?_
                  refine WC.block ?_
                  have hbi : b - p ≥ 2 := by omega
                  obtain ⟨V, hV⟩ : ∃ V, shiftUp ltInt b (p + 1) (pinD a G p) = V := ⟨_, rfl⟩
                  have hVe : pinU a b G p = V := by unfold pinU; rw [if_pos hbi]; exact hV
                  rw [hVe] at hTG hpu
                  refine WC.loop (α := Nat × Array Int) (fun z => [(0, v), (1, .int .i64 (a : Int)), (2, .int .i64 (b : Int)), (7, .int .i64 (p : Int)), (8, .int .i64 (k : Int)), (10, .int .i64 (z.1 : Int))]) (fun z => [ownR v 34 1 n (ints .u64 z.2.toList)]) (fun z => (1 ≤ z.1 ∧ z.1 ≤ b) ∧ z.2.size = n ∧ shiftUp ltInt b z.1 z.2 = V) (fun z => b - z.1) (p + 1, pinD a G p) ⟨by dsimp only; omega, by dsimp only; omega, hV⟩ ⟨(by repeat' constructor), _, (by repeat' constructor)⟩ ?_
                  rintro ⟨j, E⟩ ⟨⟨hj1, hj⟩, hE, hVE⟩
                  dsimp only at hj1 hj hE hVE ⊢
                  refine WC.seq ?_
                  refine WC.seq ?_
                  refine WC.region ?_
                  refine WL.y (Yl.move rfl) rfl ?_
                  refine WL.y (Yl.move rfl) rfl ?_
                  refine WL.y (Yl.lss rfl rfl) rfl ?_
                  refine WL.nil ?_
                  refine WC.condD rfl (fun g103 => ?_) (fun g103 => ?_)
                  · refine WC.skip ?_
                    refine WC.seq ?_
                    refine WC.block ?_
                    refine WC.seq ?_
                    refine WC.seq ?_
                    have hjb : j < b := by omega
                    refine WC.drawAny (Hs := [ownR v 34 1 n (ints .u64 E.toList)]) mixed (by kernel_rfl) ⟨_, (by repeat' constructor)⟩ ?_
                    refine WD.tk 0 rfl (by kernel_rfl) rfl rfl (Yl.move rfl) rfl ?_
                    refine WD.tk 1 rfl (by kernel_rfl) rfl rfl (Yl.move rfl) rfl ?_
                    refine WD.tk 2 rfl (by kernel_rfl) rfl rfl (Yl.indexF un48 sz34 rfl rfl hF rfl (by omega)) rfl ?_
                    refine WD.tk 3 rfl (by kernel_rfl) rfl rfl (Yl.loadE on34 rfl (Reads.own (by repeat constructor)) (so_getV (by omega))) rfl ?_
                    refine WD.tk 4 rfl (by kernel_rfl) rfl rfl (Yl.move rfl) rfl ?_
                    refine WD.tk 5 rfl (by kernel_rfl) rfl rfl (Yl.move rfl) rfl ?_
                    refine WD.tk 6 rfl (by kernel_rfl) rfl rfl (Yl.sub rfl rfl (IntWalk.i64_in _ (by omega))) rfl ?_
                    refine WD.say (t := 112) (v' := .int .i64 ((j - 1 : Nat) : Int)) rfl (by (refine congrArg _ ?_; omega)) ?_
                    refine WD.tk 7 rfl (by kernel_rfl) rfl rfl (Yl.indexF un48 sz34 rfl rfl hF rfl (by omega)) rfl ?_
                    refine WD.tk 8 rfl (by kernel_rfl) rfl rfl (Yl.loadE on34 rfl (Reads.own (by repeat constructor)) (so_getV (by omega))) rfl ?_
                    refine WD.one 9 (by kernel_rfl) ?_
                    refine WO.callC (xs := [.tmp 109, .tmp 114]) (cap := []) rfl .no rfl rfl en138 (by repeat' constructor) (fun w hw => lessV_any _ _ w hw.left.here) rfl (fun _ => ⟨_, (by repeat' constructor)⟩) ?_
                    rintro ⟨⟩ -
                    refine WD.tk 10 rfl (by kernel_rfl) rfl rfl (Yl.not rfl) rfl ?_
                    refine WD.done (by kernel_rfl) ?_
                    refine WC.cond rfl (fun g116 => ?_) (fun g116 => ?_)
                    · refine WC.exit ?_
                      refine WC.region ?_
                      refine WL.y (Yl.move rfl) rfl ?_
                      refine WL.y (Yl.add rfl rfl (IntWalk.i64_in _ (by omega))) rfl ?_
                      refine WL.y (Yl.assign rfl) rfl ?_
                      refine WL.nil ?_
                      first
                      | (have hjb : ¬ j < b := by omega
                         have hst : shiftUp ltInt b j E = E := su_stop (fun e => hjb e.1)
                         rw [hst] at hVE
                         subst hVE
                         exact ⟨rfl, (k + 1, p, E), ⟨by dsimp only; omega, by dsimp only; omega, by dsimp only; omega, hTG⟩, by dsimp only; omega, (by repeat' constructor), _, (by repeat' constructor)⟩)
                      | (have hst : shiftUp ltInt b j E = E := su_stop (fun e => by rw [e.2] at g116; cases g116)
                         rw [hst] at hVE
                         subst hVE
                         exact ⟨rfl, (k + 1, p, E), ⟨by dsimp only; omega, by dsimp only; omega, by dsimp only; omega, hTG⟩, by dsimp only; omega, (by repeat' constructor), _, (by repeat' constructor)⟩)
                      | (have hbi : ¬ b - p ≥ 2 := by omega
                         rw [show pinU a b G p = pinD a G p from if_neg hbi] at hTG
                         exact ⟨rfl, (k + 1, p, pinD a G p), ⟨by dsimp only; omega, by dsimp only; omega, by dsimp only; omega, hTG⟩, by dsimp only; omega, (by repeat' constructor), _, (by repeat' constructor)⟩)
                    · refine WC.skip ?_
                      have hlt : ltInt E[j]! E[j - 1]! = true := by simpa using g116
                      rw [su_go hjb hlt] at hVE
                      refine WC.drawAny (Hs := []) mixed (by kernel_rfl) ⟨_, (by repeat' constructor)⟩ ?_
                      refine WD.tk 0 rfl (by kernel_rfl) rfl rfl (Yl.move rfl) rfl ?_
                      refine WD.tk 1 rfl (by kernel_rfl) rfl rfl (Yl.move rfl) rfl ?_
                      refine WD.tk 2 rfl (by kernel_rfl) rfl rfl (Yl.move rfl) rfl ?_
                      refine WD.tk 3 rfl (by kernel_rfl) rfl rfl (Yl.move rfl) rfl ?_
                      refine WD.tk 4 rfl (by kernel_rfl) rfl rfl (Yl.sub rfl rfl (IntWalk.i64_in _ (by omega))) rfl ?_
                      refine WD.say (t := 121) (v' := .int .i64 ((j - 1 : Nat) : Int)) rfl (by (refine congrArg _ ?_; omega)) ?_
                      refine WD.tk 5 rfl (by kernel_rfl) rfl rfl (Yl.move rfl) rfl ?_
                      refine WD.tk 6 rfl (by kernel_rfl) rfl rfl (Yl.move rfl) rfl ?_
                      refine WD.tk 7 rfl (by kernel_rfl) rfl rfl (Yl.sub rfl rfl (IntWalk.i64_in _ (by omega))) rfl ?_
                      refine WD.say (t := 124) (v' := .int .i64 ((j - 1 : Nat) : Int)) rfl (by (refine congrArg _ ?_; omega)) ?_
                      refine WD.tk 8 rfl (by kernel_rfl) rfl rfl (Yl.indexF un48 sz34 rfl rfl hF rfl (by omega)) rfl ?_
                      refine WD.tk 10 rfl (by kernel_rfl) rfl rfl (Yl.move rfl) rfl ?_
                      refine WD.tk 11 rfl (by kernel_rfl) rfl rfl (Yl.move rfl) rfl ?_
                      refine WD.tk 12 rfl (by kernel_rfl) rfl rfl (Yl.indexF un48 sz34 rfl rfl hF rfl (by omega)) rfl ?_
                      refine WD.two 9 13 (by kernel_rfl) ?_ ?_
                      · refine WO.y rfl rfl .no (Yl.loadE on34 rfl (Reads.own (by repeat constructor)) (so_getV (by omega))) rfl ?_
                        refine WD.one 13 (by kernel_rfl) ?_
                        refine WO.y rfl rfl .no (Yl.loadE on34 rfl (Reads.own (by repeat constructor)) (so_getV (by omega))) rfl ?_
                        refine WD.tk 14 rfl (by kernel_rfl) rfl rfl (Yl.indexF un48 sz34 rfl rfl hF rfl (by omega)) rfl ?_
                        refine WD.one 15 (by kernel_rfl) ?_
                        refine WO.sto rfl rfl .no (Sto.elem (j := j) sz34 rfl rfl (by repeat constructor) rfl (by omega) rfl) ⟨_, (by repeat' constructor)⟩ ?_
                        refine WD.tk 16 rfl (by kernel_rfl) rfl rfl (Yl.indexF un48 sz34 rfl rfl hF rfl (by omega)) rfl ?_
                        refine WD.one 17 (by kernel_rfl) ?_
                        refine WO.sto rfl rfl .no (Sto.elem (j := j - 1) (cs' := ints .u64 (swp E (j) (j - 1)).toList) sz34 rfl rfl (by repeat constructor) rfl (by omega) (so_swpV E (j) (j - 1))) ⟨_, (by repeat' constructor)⟩ ?_
                        refine WD.done (by kernel_rfl) ?_
                        refine WC.region ?_
                        refine WL.y (Yl.move rfl) rfl ?_
                        refine WL.y (Yl.add rfl rfl (IntWalk.i64_in _ (by omega))) rfl ?_
                        refine WL.y (Yl.assign rfl) rfl ?_
                        refine WL.nil ?_
                        exact ⟨rfl, (j + 1, swp E j (j - 1)), ⟨by dsimp only; omega, by dsimp only; rw [swp_size]; exact hE, hVE⟩, by dsimp only; omega, (by repeat' constructor), _, (by repeat' constructor)⟩
                      · refine WO.y rfl rfl .no (Yl.loadE on34 rfl (Reads.own (by repeat constructor)) (so_getV (by omega))) rfl ?_
                        refine WD.one 9 (by kernel_rfl) ?_
                        refine WO.y rfl rfl .no (Yl.loadE on34 rfl (Reads.own (by repeat constructor)) (so_getV (by omega))) rfl ?_
                        refine WD.tk 14 rfl (by kernel_rfl) rfl rfl (Yl.indexF un48 sz34 rfl rfl hF rfl (by omega)) rfl ?_
                        refine WD.one 15 (by kernel_rfl) ?_
                        refine WO.sto rfl rfl .no (Sto.elem (j := j) sz34 rfl rfl (by repeat constructor) rfl (by omega) rfl) ⟨_, (by repeat' constructor)⟩ ?_
                        refine WD.tk 16 rfl (by kernel_rfl) rfl rfl (Yl.indexF un48 sz34 rfl rfl hF rfl (by omega)) rfl ?_
                        refine WD.one 17 (by kernel_rfl) ?_
                        refine WO.sto rfl rfl .no (Sto.elem (j := j - 1) (cs' := ints .u64 (swp E (j) (j - 1)).toList) sz34 rfl rfl (by repeat constructor) rfl (by omega) (so_swpV E (j) (j - 1))) ⟨_, (by repeat' constructor)⟩ ?_
                        refine WD.done (by kernel_rfl) ?_
                        refine WC.region ?_
                        refine WL.y (Yl.move rfl) rfl ?_
                        refine WL.y (Yl.add rfl rfl (IntWalk.i64_in _ (by omega))) rfl ?_
                        refine WL.y (Yl.assign rfl) rfl ?_
                        refine WL.nil ?_
                        exact ⟨rfl, (j + 1, swp E j (j - 1)), ⟨by dsimp only; omega, by dsimp only; rw [swp_size]; exact hE, hVE⟩, by dsimp only; omega, (by repeat' constructor), _, (by repeat' constructor)⟩
                  · refine WC.exit ?_
                    refine WC.region ?_
                    refine WL.y (Yl.move rfl) rfl ?_
                    refine WL.y (Yl.add rfl rfl (IntWalk.i64_in _ (by omega))) rfl ?_
                    refine WL.y (Yl.assign rfl) rfl ?_
                    refine WL.nil ?_
                    first
                    | (have hjb : ¬ j < b := by omega
                       have hst : shiftUp ltInt b j E = E := su_stop (fun e => hjb e.1)
                       rw [hst] at hVE
                       subst hVE
                       exact ⟨rfl, (k + 1, p, E), ⟨by dsimp only; omega, by dsimp only; omega, by dsimp only; omega, hTG⟩, by dsimp only; omega, (by repeat' constructor), _, (by repeat' constructor)⟩)
                    | (have hst : shiftUp ltInt b j E = E := su_stop (fun e => by rw [e.2] at g116; cases g116)
                       rw [hst] at hVE
                       subst hVE
                       exact ⟨rfl, (k + 1, p, E), ⟨by dsimp only; omega, by dsimp only; omega, by dsimp only; omega, hTG⟩, by dsimp only; omega, (by repeat' constructor), _, (by repeat' constructor)⟩)
                    | (have hbi : ¬ b - p ≥ 2 := by omega
                       rw [show pinU a b G p = pinD a G p from if_neg hbi] at hTG
                       exact ⟨rfl, (k + 1, p, pinD a G p), ⟨by dsimp only; omega, by dsimp only; omega, by dsimp only; omega, hTG⟩, by dsimp only; omega, (by repeat' constructor), _, (by repeat' constructor)⟩)
                · refine WC.skip ?_
                  refine WC.region ?_
                  refine WL.y (Yl.move rfl) rfl ?_
                  refine WL.y (Yl.add rfl rfl (IntWalk.i64_in _ (by omega))) rfl ?_
                  refine WL.y (Yl.assign rfl) rfl ?_
                  refine WL.nil ?_
                  first
                  | (have hjb : ¬ j < b := by omega
                     have hst : shiftUp ltInt b j E = E := su_stop (fun e => hjb e.1)
                     rw [hst] at hVE
                     subst hVE
                     exact ⟨rfl, (k + 1, p, E), ⟨by dsimp only; omega, by dsimp only; omega, by dsimp only; omega, hTG⟩, by dsimp only; omega, (by repeat' constructor), _, (by repeat' constructor)⟩)
                  | (have hst : shiftUp ltInt b j E = E := su_stop (fun e => by rw [e.2] at g116; cases g116)
                     rw [hst] at hVE
                     subst hVE
                     exact ⟨rfl, (k + 1, p, E), ⟨by dsimp only; omega, by dsimp only; omega, by dsimp only; omega, hTG⟩, by dsimp only; omega, (by repeat' constructor), _, (by repeat' constructor)⟩)
                  | (have hbi : ¬ b - p ≥ 2 := by omega
                     rw [show pinU a b G p = pinD a G p from if_neg hbi] at hTG
                     exact ⟨rfl, (k + 1, p, pinD a G p), ⟨by dsimp only; omega, by dsimp only; omega, by dsimp only; omega, hTG⟩, by dsimp only; omega, (by repeat' constructor), _, (by repeat' constructor)⟩)
            · refine WO.y rfl rfl .no (Yl.loadE on34 rfl (Reads.own (by repeat constructor)) (so_getV (by omega))) rfl ?_
              refine WD.one 9 (by kernel_rfl) ?_
              refine WO.y rfl rfl .no (Yl.loadE on34 rfl (Reads.own (by repeat constructor)) (so_getV (by omega))) rfl ?_
              refine WD.tk 14 rfl (by kernel_rfl) rfl rfl (Yl.indexF un48 sz34 rfl rfl hF rfl (by omega)) rfl ?_
              refine WD.one 15 (by kernel_rfl) ?_
              refine WO.sto rfl rfl .no (Sto.elem (j := p) sz34 rfl rfl (by repeat constructor) rfl (by omega) rfl) ⟨_, (by repeat' constructor)⟩ ?_
              refine WD.tk 16 rfl (by kernel_rfl) rfl rfl (Yl.indexF un48 sz34 rfl rfl hF rfl (by omega)) rfl ?_
              refine WD.one 17 (by kernel_rfl) ?_
              refine WO.sto rfl rfl .no (Sto.elem (j := p - 1) (cs' := ints .u64 (swp G (p) (p - 1)).toList) sz34 rfl rfl (by repeat constructor) rfl (by omega) (so_swpV G (p) (p - 1))) ⟨_, (by repeat' constructor)⟩ ?_
              refine WD.done (by kernel_rfl) ?_
              refine WC.midX (α := Unit) (fun _ => [(0, v), (1, .int .i64 (a : Int)), (2, .int .i64 (b : Int)), (7, .int .i64 (p : Int)), (8, .int .i64 (k : Int))]) (fun _ => [ownR v 34 1 n (ints .u64 (pinD a G p).toList)]) (fun _ => True) ?_ ?_
              · refine WC.seq ?_
                refine WC.region ?_
                refine WL.y (Yl.move rfl) rfl ?_
                refine WL.y (Yl.move rfl) rfl ?_
                refine WL.y (Yl.sub rfl rfl (IntWalk.i64_in _ (by omega))) rfl ?_
                refine WL.y (Yl.geq rfl rfl) rfl ?_
                refine WL.nil ?_
                refine WC.condD rfl (fun g61 => ?_) (fun g61 => ?_)
                · refine WC.seq ?_
                  refine WC.region ?_
                  refine WL.y (Yl.move rfl) rfl ?_
                  refine WL.y (Yl.sub rfl rfl (IntWalk.i64_in _ (by omega))) rfl ?_
                  refine WL.say (t := 63) (v' := .int .i64 ((p - 1 : Nat) : Int)) rfl (by (refine congrArg _ ?_; omega)) ?_
                  refine WL.y (Yl.assign rfl) rfl ?_
                  refine WL.nil ?_
                  refine WC.block ?_
                  have hia : p - a ≥ 2 := by omega
                  obtain ⟨V, hV⟩ : ∃ V, shiftDown ltInt (p - 1) (swp G p (p - 1)) = V := ⟨_, rfl⟩
                  have hVe : pinD a G p = V := by unfold pinD; rw [if_pos hia]; exact hV
                  rw [hVe]
                  refine WC.loop (α := Nat × Array Int) (fun z => [(0, v), (1, .int .i64 (a : Int)), (2, .int .i64 (b : Int)), (7, .int .i64 (p : Int)), (8, .int .i64 (k : Int)), (9, .int .i64 (z.1 : Int))]) (fun z => [ownR v 34 1 n (ints .u64 z.2.toList)]) (fun z => z.1 < n ∧ z.2.size = n ∧ shiftDown ltInt z.1 z.2 = V) (fun z => z.1) (p - 1, swp G p (p - 1)) ⟨by dsimp only; omega, by dsimp only; omega, hV⟩ ⟨(by repeat' constructor), _, (by repeat' constructor)⟩ ?_
                  rintro ⟨j, E⟩ ⟨hj, hE, hVE⟩
                  dsimp only at hj hE hVE ⊢
                  refine WC.seq ?_
                  refine WC.seq ?_
                  refine WC.region ?_
                  refine WL.y (Yl.move rfl) rfl ?_
                  refine WL.y (Yl.geq rfl rfl) rfl ?_
                  refine WL.nil ?_
                  refine WC.condD rfl (fun g65 => ?_) (fun g65 => ?_)
                  · refine WC.skip ?_
                    refine WC.seq ?_
                    refine WC.block ?_
                    refine WC.seq ?_
                    refine WC.seq ?_
                    have hj1 : 1 ≤ j := by omega
                    refine WC.drawAny (Hs := [ownR v 34 1 n (ints .u64 E.toList)]) mixed (by kernel_rfl) ⟨_, (by repeat' constructor)⟩ ?_
                    refine WD.tk 0 rfl (by kernel_rfl) rfl rfl (Yl.move rfl) rfl ?_
                    refine WD.tk 1 rfl (by kernel_rfl) rfl rfl (Yl.move rfl) rfl ?_
                    refine WD.tk 2 rfl (by kernel_rfl) rfl rfl (Yl.indexF un48 sz34 rfl rfl hF rfl (by omega)) rfl ?_
                    refine WD.tk 3 rfl (by kernel_rfl) rfl rfl (Yl.loadE on34 rfl (Reads.own (by repeat constructor)) (so_getV (by omega))) rfl ?_
                    refine WD.tk 4 rfl (by kernel_rfl) rfl rfl (Yl.move rfl) rfl ?_
                    refine WD.tk 5 rfl (by kernel_rfl) rfl rfl (Yl.move rfl) rfl ?_
                    refine WD.tk 6 rfl (by kernel_rfl) rfl rfl (Yl.sub rfl rfl (IntWalk.i64_in _ (by omega))) rfl ?_
                    refine WD.say (t := 74) (v' := .int .i64 ((j - 1 : Nat) : Int)) rfl (by (refine congrArg _ ?_; omega)) ?_
                    refine WD.tk 7 rfl (by kernel_rfl) rfl rfl (Yl.indexF un48 sz34 rfl rfl hF rfl (by omega)) rfl ?_
                    refine WD.tk 8 rfl (by kernel_rfl) rfl rfl (Yl.loadE on34 rfl (Reads.own (by repeat constructor)) (so_getV (by omega))) rfl ?_
                    refine WD.one 9 (by kernel_rfl) ?_
                    refine WO.callC (xs := [.tmp 71, .tmp 76]) (cap := []) rfl .no rfl rfl en138 (by repeat' constructor) (fun w hw => lessV_any _ _ w hw.left.here) rfl (fun _ => ⟨_, (by repeat' constructor)⟩) ?_
                    rintro ⟨⟩ -
                    refine WD.tk 10 rfl (by kernel_rfl) rfl rfl (Yl.not rfl) rfl ?_
                    refine WD.done (by kernel_rfl) ?_
                    refine WC.cond rfl (fun g78 => ?_) (fun g78 => ?_)
                    · refine WC.exit ?_
                      first
                      | (have hj0 : ¬ 1 ≤ j := by omega
                         have hst : shiftDown ltInt j E = E := sd_stop (fun e => hj0 e.1)
                         rw [hst] at hVE
                         subst hVE
                         exact ⟨rfl, (), trivial, (by repeat' constructor), _, (by repeat' constructor)⟩)
                      | (have hst : shiftDown ltInt j E = E := sd_stop (fun e => by rw [e.2] at g78; cases g78)
                         rw [hst] at hVE
                         subst hVE
                         exact ⟨rfl, (), trivial, (by repeat' constructor), _, (by repeat' constructor)⟩)
                      | (have hia : ¬ p - a ≥ 2 := by omega
                         rw [show pinD a G p = swp G p (p - 1) from if_neg hia]
                         exact ⟨rfl, (), trivial, (by repeat' constructor), _, (by repeat' constructor)⟩)
                    · refine WC.skip ?_
                      have hlt : ltInt E[j]! E[j - 1]! = true := by simpa using g78
                      rw [sd_go hj1 hlt] at hVE
                      refine WC.drawAny (Hs := []) mixed (by kernel_rfl) ⟨_, (by repeat' constructor)⟩ ?_
                      refine WD.tk 0 rfl (by kernel_rfl) rfl rfl (Yl.move rfl) rfl ?_
                      refine WD.tk 1 rfl (by kernel_rfl) rfl rfl (Yl.move rfl) rfl ?_
                      refine WD.tk 2 rfl (by kernel_rfl) rfl rfl (Yl.move rfl) rfl ?_
                      refine WD.tk 3 rfl (by kernel_rfl) rfl rfl (Yl.move rfl) rfl ?_
                      refine WD.tk 4 rfl (by kernel_rfl) rfl rfl (Yl.sub rfl rfl (IntWalk.i64_in _ (by omega))) rfl ?_
                      refine WD.say (t := 83) (v' := .int .i64 ((j - 1 : Nat) : Int)) rfl (by (refine congrArg _ ?_; omega)) ?_
                      refine WD.tk 5 rfl (by kernel_rfl) rfl rfl (Yl.move rfl) rfl ?_
                      refine WD.tk 6 rfl (by kernel_rfl) rfl rfl (Yl.move rfl) rfl ?_
                      refine WD.tk 7 rfl (by kernel_rfl) rfl rfl (Yl.sub rfl rfl (IntWalk.i64_in _ (by omega))) rfl ?_
                      refine WD.say (t := 86) (v' := .int .i64 ((j - 1 : Nat) : Int)) rfl (by (refine congrArg _ ?_; omega)) ?_
                      refine WD.tk 8 rfl (by kernel_rfl) rfl rfl (Yl.indexF un48 sz34 rfl rfl hF rfl (by omega)) rfl ?_
                      refine WD.tk 10 rfl (by kernel_rfl) rfl rfl (Yl.move rfl) rfl ?_
                      refine WD.tk 11 rfl (by kernel_rfl) rfl rfl (Yl.move rfl) rfl ?_
                      refine WD.tk 12 rfl (by kernel_rfl) rfl rfl (Yl.indexF un48 sz34 rfl rfl hF rfl (by omega)) rfl ?_
                      refine WD.two 9 13 (by kernel_rfl) ?_ ?_
                      · refine WO.y rfl rfl .no (Yl.loadE on34 rfl (Reads.own (by repeat constructor)) (so_getV (by omega))) rfl ?_
                        refine WD.one 13 (by kernel_rfl) ?_
                        refine WO.y rfl rfl .no (Yl.loadE on34 rfl (Reads.own (by repeat constructor)) (so_getV (by omega))) rfl ?_
                        refine WD.tk 14 rfl (by kernel_rfl) rfl rfl (Yl.indexF un48 sz34 rfl rfl hF rfl (by omega)) rfl ?_
                        refine WD.one 15 (by kernel_rfl) ?_
                        refine WO.sto rfl rfl .no (Sto.elem (j := j) sz34 rfl rfl (by repeat constructor) rfl (by omega) rfl) ⟨_, (by repeat' constructor)⟩ ?_
                        refine WD.tk 16 rfl (by kernel_rfl) rfl rfl (Yl.indexF un48 sz34 rfl rfl hF rfl (by omega)) rfl ?_
                        refine WD.one 17 (by kernel_rfl) ?_
                        refine WO.sto rfl rfl .no (Sto.elem (j := j - 1) (cs' := ints .u64 (swp E (j) (j - 1)).toList) sz34 rfl rfl (by repeat constructor) rfl (by omega) (so_swpV E (j) (j - 1))) ⟨_, (by repeat' constructor)⟩ ?_
                        refine WD.done (by kernel_rfl) ?_
                        refine WC.region ?_
                        refine WL.y (Yl.move rfl) rfl ?_
                        refine WL.y (Yl.sub rfl rfl (IntWalk.i64_in _ (by omega))) rfl ?_
                        refine WL.say (t := 67) (v' := .int .i64 ((j - 1 : Nat) : Int)) rfl (by (refine congrArg _ ?_; omega)) ?_
                        refine WL.y (Yl.assign rfl) rfl ?_
                        refine WL.nil ?_
                        exact ⟨rfl, (j - 1, swp E j (j - 1)), ⟨by dsimp only; omega, by dsimp only; rw [swp_size]; exact hE, hVE⟩, by dsimp only; omega, (by repeat' constructor), _, (by repeat' constructor)⟩
                      · refine WO.y rfl rfl .no (Yl.loadE on34 rfl (Reads.own (by repeat constructor)) (so_getV (by omega))) rfl ?_
                        refine WD.one 9 (by kernel_rfl) ?_
                        refine WO.y rfl rfl .no (Yl.loadE on34 rfl (Reads.own (by repeat constructor)) (so_getV (by omega))) rfl ?_
                        refine WD.tk 14 rfl (by kernel_rfl) rfl rfl (Yl.indexF un48 sz34 rfl rfl hF rfl (by omega)) rfl ?_
                        refine WD.one 15 (by kernel_rfl) ?_
                        refine WO.sto rfl rfl .no (Sto.elem (j := j) sz34 rfl rfl (by repeat constructor) rfl (by omega) rfl) ⟨_, (by repeat' constructor)⟩ ?_
                        refine WD.tk 16 rfl (by kernel_rfl) rfl rfl (Yl.indexF un48 sz34 rfl rfl hF rfl (by omega)) rfl ?_
                        refine WD.one 17 (by kernel_rfl) ?_
                        refine WO.sto rfl rfl .no (Sto.elem (j := j - 1) (cs' := ints .u64 (swp E (j) (j - 1)).toList) sz34 rfl rfl (by repeat constructor) rfl (by omega) (so_swpV E (j) (j - 1))) ⟨_, (by repeat' constructor)⟩ ?_
                        refine WD.done (by kernel_rfl) ?_
                        refine WC.region ?_
                        refine WL.y (Yl.move rfl) rfl ?_
                        refine WL.y (Yl.sub rfl rfl (IntWalk.i64_in _ (by omega))) rfl ?_
                        refine WL.say (t := 67) (v' := .int .i64 ((j - 1 : Nat) : Int)) rfl (by (refine congrArg _ ?_; omega)) ?_
                        refine WL.y (Yl.assign rfl) rfl ?_
                        refine WL.nil ?_
                        exact ⟨rfl, (j - 1, swp E j (j - 1)), ⟨by dsimp only; omega, by dsimp only; rw [swp_size]; exact hE, hVE⟩, by dsimp only; omega, (by repeat' constructor), _, (by repeat' constructor)⟩
                  · refine WC.exit ?_
                    first
                    | (have hj0 : ¬ 1 ≤ j := by omega
                       have hst : shiftDown ltInt j E = E := sd_stop (fun e => hj0 e.1)
                       rw [hst] at hVE
                       subst hVE
                       exact ⟨rfl, (), trivial, (by repeat' constructor), _, (by repeat' constructor)⟩)
                    | (have hst : shiftDown ltInt j E = E := sd_stop (fun e => by rw [e.2] at g78; cases g78)
                       rw [hst] at hVE
                       subst hVE
                       exact ⟨rfl, (), trivial, (by repeat' constructor), _, (by repeat' constructor)⟩)
                    | (have hia : ¬ p - a ≥ 2 := by omega
                       rw [show pinD a G p = swp G p (p - 1) from if_neg hia]
                       exact ⟨rfl, (), trivial, (by repeat' constructor), _, (by repeat' constructor)⟩)
                · refine WC.skip ?_
                  first
                  | (have hj0 : ¬ 1 ≤ j := by omega
                     have hst : shiftDown ltInt j E = E := sd_stop (fun e => hj0 e.1)
                     rw [hst] at hVE
                     subst hVE
                     exact ⟨rfl, (), trivial, (by repeat' constructor), _, (by repeat' constructor)⟩)
                  | (have hst : shiftDown ltInt j E = E := sd_stop (fun e => by rw [e.2] at g78; cases g78)
                     rw [hst] at hVE
                     subst hVE
                     exact ⟨rfl, (), trivial, (by repeat' constructor), _, (by repeat' constructor)⟩)
                  | (have hia : ¬ p - a ≥ 2 := by omega
                     rw [show pinD a G p = swp G p (p - 1) from if_neg hia]
                     exact ⟨rfl, (), trivial, (by repeat' constructor), _, (by repeat' constructor)⟩)
              · rintro ⟨⟩ -
                refine WC.seq ?_
                refine WC.region ?_
                refine WL.y (Yl.move rfl) rfl ?_
                refine WL.y (Yl.move rfl) rfl ?_
                refine WL.y (Yl.sub rfl rfl (IntWalk.i64_in _ (by omega))) rfl ?_
                refine WL.y (Yl.geq rfl rfl) rfl ?_
                refine WL.nil ?_
                refine WC.condD rfl (fun g98 => ?_) (fun g98 => ?_)
                · refine WC.seq ?_
                  refine WC.region ?_
                  refine WL.y (Yl.move rfl) rfl ?_
                  refine WL.y (Yl.add rfl rfl (IntWalk.i64_in _ (by omega))) rfl ?_
                  refine WL.y (Yl.assign rfl) rfl ?_
                  refine WL.nil ?_
                  refine WC.block ?_
                  have hbi : b - p ≥ 2 := by omega
                  obtain ⟨V, hV⟩ : ∃ V, shiftUp ltInt b (p + 1) (pinD a G p) = V := ⟨_, rfl⟩
                  have hVe : pinU a b G p = V := by unfold pinU; rw [if_pos hbi]; exact hV
                  rw [hVe] at hTG hpu
                  refine WC.loop (α := Nat × Array Int) (fun z => [(0, v), (1, .int .i64 (a : Int)), (2, .int .i64 (b : Int)), (7, .int .i64 (p : Int)), (8, .int .i64 (k : Int)), (10, .int .i64 (z.1 : Int))]) (fun z => [ownR v 34 1 n (ints .u64 z.2.toList)]) (fun z => (1 ≤ z.1 ∧ z.1 ≤ b) ∧ z.2.size = n ∧ shiftUp ltInt b z.1 z.2 = V) (fun z => b - z.1) (p + 1, pinD a G p) ⟨by dsimp only; omega, by dsimp only; omega, hV⟩ ⟨(by repeat' constructor), _, (by repeat' constructor)⟩ ?_
                  rintro ⟨j, E⟩ ⟨⟨hj1, hj⟩, hE, hVE⟩
                  dsimp only at hj1 hj hE hVE ⊢
                  refine WC.seq ?_
                  refine WC.seq ?_
                  refine WC.region ?_
                  refine WL.y (Yl.move rfl) rfl ?_
                  refine WL.y (Yl.move rfl) rfl ?_
                  refine WL.y (Yl.lss rfl rfl) rfl ?_
                  refine WL.nil ?_
                  refine WC.condD rfl (fun g103 => ?_) (fun g103 => ?_)
                  · refine WC.skip ?_
                    refine WC.seq ?_
                    refine WC.block ?_
                    refine WC.seq ?_
                    refine WC.seq ?_
                    have hjb : j < b := by omega
                    refine WC.drawAny (Hs := [ownR v 34 1 n (ints .u64 E.toList)]) mixed (by kernel_rfl) ⟨_, (by repeat' constructor)⟩ ?_
                    refine WD.tk 0 rfl (by kernel_rfl) rfl rfl (Yl.move rfl) rfl ?_
                    refine WD.tk 1 rfl (by kernel_rfl) rfl rfl (Yl.move rfl) rfl ?_
                    refine WD.tk 2 rfl (by kernel_rfl) rfl rfl (Yl.indexF un48 sz34 rfl rfl hF rfl (by omega)) rfl ?_
                    refine WD.tk 3 rfl (by kernel_rfl) rfl rfl (Yl.loadE on34 rfl (Reads.own (by repeat constructor)) (so_getV (by omega))) rfl ?_
                    refine WD.tk 4 rfl (by kernel_rfl) rfl rfl (Yl.move rfl) rfl ?_
                    refine WD.tk 5 rfl (by kernel_rfl) rfl rfl (Yl.move rfl) rfl ?_
                    refine WD.tk 6 rfl (by kernel_rfl) rfl rfl (Yl.sub rfl rfl (IntWalk.i64_in _ (by omega))) rfl ?_
                    refine WD.say (t := 112) (v' := .int .i64 ((j - 1 : Nat) : Int)) rfl (by (refine congrArg _ ?_; omega)) ?_
                    refine WD.tk 7 rfl (by kernel_rfl) rfl rfl (Yl.indexF un48 sz34 rfl rfl hF rfl (by omega)) rfl ?_
                    refine WD.tk 8 rfl (by kernel_rfl) rfl rfl (Yl.loadE on34 rfl (Reads.own (by repeat constructor)) (so_getV (by omega))) rfl ?_
                    refine WD.one 9 (by kernel_rfl) ?_
                    refine WO.callC (xs := [.tmp 109, .tmp 114]) (cap := []) rfl .no rfl rfl en138 (by repeat' constructor) (fun w hw => lessV_any _ _ w hw.left.here) rfl (fun _ => ⟨_, (by repeat' constructor)⟩) ?_
                    rintro ⟨⟩ -
                    refine WD.tk 10 rfl (by kernel_rfl) rfl rfl (Yl.not rfl) rfl ?_
                    refine WD.done (by kernel_rfl) ?_
                    refine WC.cond rfl (fun g116 => ?_) (fun g116 => ?_)
                    · refine WC.exit ?_
                      refine WC.region ?_
                      refine WL.y (Yl.move rfl) rfl ?_
                      refine WL.y (Yl.add rfl rfl (IntWalk.i64_in _ (by omega))) rfl ?_
                      refine WL.y (Yl.assign rfl) rfl ?_
                      refine WL.nil ?_
                      first
                      | (have hjb : ¬ j < b := by omega
                         have hst : shiftUp ltInt b j E = E := su_stop (fun e => hjb e.1)
                         rw [hst] at hVE
                         subst hVE
                         exact ⟨rfl, (k + 1, p, E), ⟨by dsimp only; omega, by dsimp only; omega, by dsimp only; omega, hTG⟩, by dsimp only; omega, (by repeat' constructor), _, (by repeat' constructor)⟩)
                      | (have hst : shiftUp ltInt b j E = E := su_stop (fun e => by rw [e.2] at g116; cases g116)
                         rw [hst] at hVE
                         subst hVE
                         exact ⟨rfl, (k + 1, p, E), ⟨by dsimp only; omega, by dsimp only; omega, by dsimp only; omega, hTG⟩, by dsimp only; omega, (by repeat' constructor), _, (by repeat' constructor)⟩)
                      | (have hbi : ¬ b - p ≥ 2 := by omega
                         rw [show pinU a b G p = pinD a G p from if_neg hbi] at hTG
                         exact ⟨rfl, (k + 1, p, pinD a G p), ⟨by dsimp only; omega, by dsimp only; omega, by dsimp only; omega, hTG⟩, by dsimp only; omega, (by repeat' constructor), _, (by repeat' constructor)⟩)
                    · refine WC.skip ?_
                      have hlt : ltInt E[j]! E[j - 1]! = true := by simpa using g116
                      rw [su_go hjb hlt] at hVE
                      refine WC.drawAny (Hs := []) mixed (by kernel_rfl) ⟨_, (by repeat' constructor)⟩ ?_
                      refine WD.tk 0 rfl (by kernel_rfl) rfl rfl (Yl.move rfl) rfl ?_
                      refine WD.tk 1 rfl (by kernel_rfl) rfl rfl (Yl.move rfl) rfl ?_
                      refine WD.tk 2 rfl (by kernel_rfl) rfl rfl (Yl.move rfl) rfl ?_
                      refine WD.tk 3 rfl (by kernel_rfl) rfl rfl (Yl.move rfl) rfl ?_
                      refine WD.tk 4 rfl (by kernel_rfl) rfl rfl (Yl.sub rfl rfl (IntWalk.i64_in _ (by omega))) rfl ?_
                      refine WD.say (t := 121) (v' := .int .i64 ((j - 1 : Nat) : Int)) rfl (by (refine congrArg _ ?_; omega)) ?_
                      refine WD.tk 5 rfl (by kernel_rfl) rfl rfl (Yl.move rfl) rfl ?_
                      refine WD.tk 6 rfl (by kernel_rfl) rfl rfl (Yl.move rfl) rfl ?_
                      refine WD.tk 7 rfl (by kernel_rfl) rfl rfl (Yl.sub rfl rfl (IntWalk.i64_in _ (by omega))) rfl ?_
                      refine WD.say (t := 124) (v' := .int .i64 ((j - 1 : Nat) : Int)) rfl (by (refine congrArg _ ?_; omega)) ?_
                      refine WD.tk 8 rfl (by kernel_rfl) rfl rfl (Yl.indexF un48 sz34 rfl rfl hF rfl (by omega)) rfl ?_
                      refine WD.tk 10 rfl (by kernel_rfl) rfl rfl (Yl.move rfl) rfl ?_
                      refine WD.tk 11 rfl (by kernel_rfl) rfl rfl (Yl.move rfl) rfl ?_
                      refine WD.tk 12 rfl (by kernel_rfl) rfl rfl (Yl.indexF un48 sz34 rfl rfl hF rfl (by omega)) rfl ?_
                      refine WD.two 9 13 (by kernel_rfl) ?_ ?_
                      · refine WO.y rfl rfl .no (Yl.loadE on34 rfl (Reads.own (by repeat constructor)) (so_getV (by omega))) rfl ?_
                        refine WD.one 13 (by kernel_rfl) ?_
                        refine WO.y rfl rfl .no (Yl.loadE on34 rfl (Reads.own (by repeat constructor)) (so_getV (by omega))) rfl ?_
                        refine WD.tk 14 rfl (by kernel_rfl) rfl rfl (Yl.indexF un48 sz34 rfl rfl hF rfl (by omega)) rfl ?_
                        refine WD.one 15 (by kernel_rfl) ?_
                        refine WO.sto rfl rfl .no (Sto.elem (j := j) sz34 rfl rfl (by repeat constructor) rfl (by omega) rfl) ⟨_, (by repeat' constructor)⟩ ?_
                        refine WD.tk 16 rfl (by kernel_rfl) rfl rfl (Yl.indexF un48 sz34 rfl rfl hF rfl (by omega)) rfl ?_
                        refine WD.one 17 (by kernel_rfl) ?_
                        refine WO.sto rfl rfl .no (Sto.elem (j := j - 1) (cs' := ints .u64 (swp E (j) (j - 1)).toList) sz34 rfl rfl (by repeat constructor) rfl (by omega) (so_swpV E (j) (j - 1))) ⟨_, (by repeat' constructor)⟩ ?_
                        refine WD.done (by kernel_rfl) ?_
                        refine WC.region ?_
                        refine WL.y (Yl.move rfl) rfl ?_
                        refine WL.y (Yl.add rfl rfl (IntWalk.i64_in _ (by omega))) rfl ?_
                        refine WL.y (Yl.assign rfl) rfl ?_
                        refine WL.nil ?_
                        exact ⟨rfl, (j + 1, swp E j (j - 1)), ⟨by dsimp only; omega, by dsimp only; rw [swp_size]; exact hE, hVE⟩, by dsimp only; omega, (by repeat' constructor), _, (by repeat' constructor)⟩
                      · refine WO.y rfl rfl .no (Yl.loadE on34 rfl (Reads.own (by repeat constructor)) (so_getV (by omega))) rfl ?_
                        refine WD.one 9 (by kernel_rfl) ?_
                        refine WO.y rfl rfl .no (Yl.loadE on34 rfl (Reads.own (by repeat constructor)) (so_getV (by omega))) rfl ?_
                        refine WD.tk 14 rfl (by kernel_rfl) rfl rfl (Yl.indexF un48 sz34 rfl rfl hF rfl (by omega)) rfl ?_
                        refine WD.one 15 (by kernel_rfl) ?_
                        refine WO.sto rfl rfl .no (Sto.elem (j := j) sz34 rfl rfl (by repeat constructor) rfl (by omega) rfl) ⟨_, (by repeat' constructor)⟩ ?_
                        refine WD.tk 16 rfl (by kernel_rfl) rfl rfl (Yl.indexF un48 sz34 rfl rfl hF rfl (by omega)) rfl ?_
                        refine WD.one 17 (by kernel_rfl) ?_
                        refine WO.sto rfl rfl .no (Sto.elem (j := j - 1) (cs' := ints .u64 (swp E (j) (j - 1)).toList) sz34 rfl rfl (by repeat constructor) rfl (by omega) (so_swpV E (j) (j - 1))) ⟨_, (by repeat' constructor)⟩ ?_
                        refine WD.done (by kernel_rfl) ?_
                        refine WC.region ?_
                        refine WL.y (Yl.move rfl) rfl ?_
                        refine WL.y (Yl.add rfl rfl (IntWalk.i64_in _ (by omega))) rfl ?_
                        refine WL.y (Yl.assign rfl) rfl ?_
                        refine WL.nil ?_
                        exact ⟨rfl, (j + 1, swp E j (j - 1)), ⟨by dsimp only; omega, by dsimp only; rw [swp_size]; exact hE, hVE⟩, by dsimp only; omega, (by repeat' constructor), _, (by repeat' constructor)⟩
                  · refine WC.exit ?_
                    refine WC.region ?_
                    refine WL.y (Yl.move rfl) rfl ?_
                    refine WL.y (Yl.add rfl rfl (IntWalk.i64_in _ (by omega))) rfl ?_
                    refine WL.y (Yl.assign rfl) rfl ?_
                    refine WL.nil ?_
                    first
                    | (have hjb : ¬ j < b := by omega
                       have hst : shiftUp ltInt b j E = E := su_stop (fun e => hjb e.1)
                       rw [hst] at hVE
                       subst hVE
                       exact ⟨rfl, (k + 1, p, E), ⟨by dsimp only; omega, by dsimp only; omega, by dsimp only; omega, hTG⟩, by dsimp only; omega, (by repeat' constructor), _, (by repeat' constructor)⟩)
                    | (have hst : shiftUp ltInt b j E = E := su_stop (fun e => by rw [e.2] at g116; cases g116)
                       rw [hst] at hVE
                       subst hVE
                       exact ⟨rfl, (k + 1, p, E), ⟨by dsimp only; omega, by dsimp only; omega, by dsimp only; omega, hTG⟩, by dsimp only; omega, (by repeat' constructor), _, (by repeat' constructor)⟩)
                    | (have hbi : ¬ b - p ≥ 2 := by omega
                       rw [show pinU a b G p = pinD a G p from if_neg hbi] at hTG
                       exact ⟨rfl, (k + 1, p, pinD a G p), ⟨by dsimp only; omega, by dsimp only; omega, by dsimp only; omega, hTG⟩, by dsimp only; omega, (by repeat' constructor), _, (by repeat' constructor)⟩)
                · refine WC.skip ?_
                  refine WC.region ?_
                  refine WL.y (Yl.move rfl) rfl ?_
                  refine WL.y (Yl.add rfl rfl (IntWalk.i64_in _ (by omega))) rfl ?_
                  refine WL.y (Yl.assign rfl) rfl ?_
                  refine WL.nil ?_
                  first
                  | (have hjb : ¬ j < b := by omega
                     have hst : shiftUp ltInt b j E = E := su_stop (fun e => hjb e.1)
                     rw [hst] at hVE
                     subst hVE
                     exact ⟨rfl, (k + 1, p, E), ⟨by dsimp only; omega, by dsimp only; omega, by dsimp only; omega, hTG⟩, by dsimp only; omega, (by repeat' constructor), _, (by repeat' constructor)⟩)
                  | (have hst : shiftUp ltInt b j E = E := su_stop (fun e => by rw [e.2] at g116; cases g116)
                     rw [hst] at hVE
                     subst hVE
                     exact ⟨rfl, (k + 1, p, E), ⟨by dsimp only; omega, by dsimp only; omega, by dsimp only; omega, hTG⟩, by dsimp only; omega, (by repeat' constructor), _, (by repeat' constructor)⟩)
                  | (have hbi : ¬ b - p ≥ 2 := by omega
                     rw [show pinU a b G p = pinD a G p from if_neg hbi] at hTG
                     exact ⟨rfl, (k + 1, p, pinD a G p), ⟨by dsimp only; omega, by dsimp only; omega, by dsimp only; omega, hTG⟩, by dsimp only; omega, (by repeat' constructor), _, (by repeat' constructor)⟩)
  · refine WC.exit ?_
    refine WC.seq ?_
    have hk5 : k = 5 := by omega
    subst hk5
    have hTe : (G, false) = T := hTG
    subst hTe
    refine WC.region ?_
    refine WL.y (Yl.assign rfl) rfl ?_
    refine WL.nil ?_
    refine WC.ret ?_
    repeat (with_reducible (first | refine peelT ?_ | refine peelB ?_ | refine peelTX ?_ | refine peelBX ?_ | refine peelBN ?_ | refine peelBO rfl ?_))
    exact ret1 (.inr rfl) Tryz.results137 rfl fun w' h => ⟨(), trivial, rfl, h.sub (by repeat' constructor)⟩
end Go.Proofs.YtbgimajbehodnaaGreatDoor

namespace Go.Proofs.YtbgimajbehodnaaGreatDoor
open Go Go.RowKit Go.Sort

def othF (L M : Nat) (r : UInt64) : Nat := if (xorNext r).toNat &&& (M - 1) ≥ L then ((xorNext r).toNat &&& (M - 1)) - L else (xorNext r).toNat &&& (M - 1)
set_option maxHeartbeats 1600000 in
set_option maxRecDepth 100000 in
theorem brkV_any (v : Value) (n : Nat) (D : Array Int) (a L : Nat) (hD : D.size = n) (hn : n ≤ 1099511627776) (hb : a + L ≤ n) (w : World) (hw : OK w (fpL [ownR v 34 1 n (ints .u64 D.toList)]) [ownR v 34 1 n (ints .u64 D.toList)] w) :
    Fn Tryz.prog 134 [v, .int .i64 (a : Int), .int .i64 ((a + L : Nat) : Int)] [ownR v 34 1 n (ints .u64 D.toList)] w (fun _ : Unit => True) (fun _ => .tuple #[]) (fun _ => [ownR v 34 1 n (ints .u64 (breakPatterns D a (a + L)).toList)]) := by
  have hF := sl_form (hw.get (r := ownR v 34 1 n (ints .u64 D.toList)) .head)
  obtain ⟨M, hM⟩ : ∃ M, 1 <<< bitsLen L = M := ⟨_, rfl⟩
  obtain ⟨i0, hi0⟩ : ∃ i0, a + L / 4 * 2 - 1 = i0 := ⟨_, rfl⟩
  obtain ⟨T, hT⟩ : ∃ T, breakPatterns D a (a + L) = T := ⟨_, rfl⟩
  rw [hT]
  refine enterF Tryz.func134 rfl Tryz.ntmps134 rfl hw ?_
  refine WC.seq ?_
  refine WC.region ?_
  refine WL.y (Yl.move rfl) rfl ?_
  refine WL.y (Yl.move rfl) rfl ?_
  refine WL.y (Yl.sub rfl rfl (IntWalk.i64_in _ (by omega))) rfl ?_
  refine WL.say (t := 13) (v' := .int .i64 (L : Int)) rfl (by (refine congrArg _ ?_; omega)) ?_
  refine WL.y (Yl.assign rfl) rfl ?_
  refine WL.nil ?_
  refine WC.seq ?_
  refine WC.region ?_
  refine WL.y (Yl.move rfl) rfl ?_
  refine WL.y (Yl.geq rfl rfl) rfl ?_
  refine WL.nil ?_
  refine WC.condD rfl (fun g15 => ?_) (fun g15 => ?_)
  · refine WC.seq ?_
    have h8 : 8 ≤ L := by omega
    rw [breakPatterns_eq D a L h8, hM, hi0] at hT
    have hM2 : M ≤ 2 * L := by rw [← hM, Nat.one_shiftLeft]; exact two_pow_bitsLen_le (by omega)
    have hM1 : 1 ≤ M := by rw [← hM, Nat.one_shiftLeft]; exact Nat.one_le_two_pow
    have hL64 : (UInt64.ofNat L).toNat = L := by rw [UInt64.toNat_ofNat']; omega
    refine WC.region ?_
    refine WL.y (Yl.move rfl) rfl ?_
    refine WL.y (Yl.conv un3 un226 rfl (show IntKind.u64.wrap (L : Int) = (L : Int) by rw [IntKind.wrap_u64]; omega)) rfl ?_
    refine WL.to (To.alloc (cs := [.int .u64 0]) zr226 rfl) rfl ?_
    intro b7
    refine WL.sto (Sto.one sz226 rfl rfl (by repeat constructor) rfl (by rfl) (by rfl)) (fun _ h => nomatch h) ?_
    refine WL.nil ?_
    refine WC.seq ?_
    refine WC.region ?_
    refine WL.y (Yl.move rfl) rfl ?_
    refine WL.callC (xs := [.tmp 18]) (cap := []) rfl rfl en174 (by repeat' constructor) (fun w hw => npt_any L (by omega) w hw.left.here) rfl ?_
    rintro ⟨⟩ -
    rw [hM]
    refine WL.y (Yl.assign rfl) rfl ?_
    refine WL.nil ?_
    refine WC.seq ?_
    refine WC.region ?_
    refine WL.y (Yl.move rfl) rfl ?_
    refine WL.y (Yl.move rfl) rfl ?_
    refine WL.y (Yl.quo rfl rfl (by omega) (i64_quo (by omega) (by omega))) rfl ?_
    refine WL.say (t := 22) (v' := .int .i64 ((L / 4 : Nat) : Int)) rfl (by (refine congrArg _ ?_; omega)) ?_
    refine WL.y (Yl.mul rfl rfl (IntWalk.i64_in _ (by omega))) rfl ?_
    refine WL.say (t := 23) (v' := .int .i64 ((L / 4 * 2 : Nat) : Int)) rfl (by (refine congrArg _ ?_; omega)) ?_
    refine WL.y (Yl.add rfl rfl (IntWalk.i64_in _ (by omega))) rfl ?_
    refine WL.say (t := 24) (v' := .int .i64 ((a + L / 4 * 2 : Nat) : Int)) rfl (by (refine congrArg _ ?_; omega)) ?_
    refine WL.y (Yl.sub rfl rfl (IntWalk.i64_in _ (by omega))) rfl ?_
    refine WL.say (t := 25) (v' := .int .i64 (i0 : Int)) rfl (by (refine congrArg _ ?_; omega)) ?_
    refine WL.y (Yl.assign rfl) rfl ?_
    refine WL.nil ?_
    refine WC.block ?_
    refine WC.loop (α := Nat × UInt64 × Array Int) (fun p => [(0, v), (1, .int .i64 (a : Int)), (6, .int .i64 (L : Int)), (7, .pointer (some ⟨b7, 0, none⟩)), (8, .int .u64 (M : Int)), (9, .int .i64 ((i0 + p.1 : Nat) : Int))]) (fun p => [ownR v 34 1 n (ints .u64 p.2.2.toList), blkR b7 226 [.int .u64 (p.2.1.toNat : Int)]]) (fun p => p.1 ≤ 3 ∧ p.2.2.size = n ∧ bpRest a L M i0 (3 - p.1) p.1 (p.2.1, p.2.2) = T) (fun p => 3 - p.1) (0, UInt64.ofNat L, D) ⟨by dsimp only; omega, hD, hT⟩ ⟨(by repeat' constructor), _, (by dsimp only; rw [hL64]; exact (by repeat' constructor))⟩ ?_
    rintro ⟨t, r, G⟩ ⟨ht, hG, hTG⟩
    dsimp only at ht hG hTG ⊢
    refine WC.seq ?_
    refine WC.seq ?_
    refine WC.region ?_
    refine WL.y (Yl.move rfl) rfl ?_
    refine WL.y (Yl.move rfl) rfl ?_
    refine WL.y (Yl.move rfl) rfl ?_
    refine WL.y (Yl.quo rfl rfl (by omega) (i64_quo (by omega) (by omega))) rfl ?_
    refine WL.say (t := 29) (v' := .int .i64 ((L / 4 : Nat) : Int)) rfl (by (refine congrArg _ ?_; omega)) ?_
    refine WL.y (Yl.mul rfl rfl (IntWalk.i64_in _ (by omega))) rfl ?_
    refine WL.say (t := 30) (v' := .int .i64 ((L / 4 * 2 : Nat) : Int)) rfl (by (refine congrArg _ ?_; omega)) ?_
    refine WL.y (Yl.add rfl rfl (IntWalk.i64_in _ (by omega))) rfl ?_
    refine WL.say (t := 31) (v' := .int .i64 ((a + L / 4 * 2 : Nat) : Int)) rfl (by (refine congrArg _ ?_; omega)) ?_
    refine WL.y (Yl.add rfl rfl (IntWalk.i64_in _ (by omega))) rfl ?_
    refine WL.say (t := 32) (v' := .int .i64 ((a + L / 4 * 2 + 1 : Nat) : Int)) rfl (by (refine congrArg _ ?_; omega)) ?_
    refine WL.y (Yl.leq rfl rfl) rfl ?_
    refine WL.nil ?_
    refine WC.condD rfl (fun g33 => ?_) (fun g33 => ?_)
    · refine WC.skip ?_
      refine WC.seq ?_
      refine WC.block ?_
      refine WC.seq ?_
      have ht3 : t < 3 := by omega
      have hrl : r.toNat < 18446744073709551616 := r.toNat_lt
      have hxl : (xorNext r).toNat < 18446744073709551616 := (xorNext r).toNat_lt
      rw [bp_step a L M i0 t r G (othF L M r) ht3 rfl] at hTG
      have hol : (xorNext r).toNat &&& (M - 1) ≤ M - 1 := Nat.and_le_right
      have hoF : othF L M r = if (xorNext r).toNat &&& (M - 1) ≥ L then ((xorNext r).toNat &&& (M - 1)) - L else (xorNext r).toNat &&& (M - 1) := rfl
      have hand := bits_and_u64_nat (xorNext r).toNat (M - 1) hxl (by omega)
      obtain ⟨O, hO⟩ : ∃ O, (xorNext r).toNat &&& (M - 1) = O := ⟨_, rfl⟩
      rw [hO] at hol hoF hand
      obtain ⟨o, ho⟩ : ∃ o, othF L M r = o := ⟨_, rfl⟩
      rw [ho] at hoF hTG
      refine WC.region ?_
      refine WL.callC (xs := [.tmp 7]) (cap := []) rfl rfl en175 (by repeat' constructor) (fun w hw => xor_any b7 r.toNat hrl w hw.left.here) rfl ?_
      rintro ⟨⟩ -
      rw [← xorNext_toNat]
      dsimp only [List.cons_append, List.nil_append]
      refine WL.y (Yl.move rfl) rfl ?_
      refine WL.y (Yl.sub rfl rfl rfl) rfl ?_
      refine WL.say (t := 38) (v' := .int .u64 ((M - 1 : Nat) : Int)) rfl (by (refine congrArg _ ?_; rw [IntKind.wrap_u64]; omega)) ?_
      refine WL.y (Yl.and rfl rfl) rfl ?_
      refine WL.say (t := 39) (v' := .int .u64 (O : Int)) rfl (by rw [hand]) ?_
      refine WL.y (Yl.conv un180 un3 rfl (IntWalk.i64_in _ (by omega))) rfl ?_
      refine WL.y (Yl.assign rfl) rfl ?_
      refine WL.nil ?_
      refine WC.midX (α := Unit) (fun _ => [(0, v), (1, .int .i64 (a : Int)), (6, .int .i64 (L : Int)), (7, .pointer (some ⟨b7, 0, none⟩)), (8, .int .u64 (M : Int)), (9, .int .i64 ((i0 + t : Nat) : Int)), (10, .int .i64 (o : Int))]) (fun _ => [ownR v 34 1 n (ints .u64 G.toList), blkR b7 226 [.int .u64 ((xorNext r).toNat : Int)]]) (fun _ => True) ?_ ?_
      · refine WC.seq ?_
        refine WC.region ?_
        refine WL.y (Yl.move rfl) rfl ?_
        refine WL.y (Yl.move rfl) rfl ?_
        refine WL.y (Yl.geq rfl rfl) rfl ?_
        refine WL.nil ?_
        refine WC.condD rfl (fun g43 => ?_) (fun g43 => ?_)
        · refine WC.region ?_
          refine WL.y (Yl.move rfl) rfl ?_
          refine WL.y (Yl.move rfl) rfl ?_
          refine WL.y (Yl.sub rfl rfl (IntWalk.i64_in _ (by omega))) rfl ?_
          refine WL.say (t := 46) (v' := .int .i64 (o : Int)) rfl (by (have h2 : L ≤ O := (by omega); rw [if_pos h2] at hoF; refine congrArg _ ?_; omega)) ?_
          refine WL.y (Yl.assign rfl) rfl ?_
          refine WL.nil ?_
          exact ⟨rfl, (), trivial, (by repeat' constructor), _, (by repeat' constructor)⟩
        · refine WC.skip ?_
          have h2 : ¬ L ≤ O := by omega
          rw [if_neg h2] at hoF
          rw [hoF]
          exact ⟨rfl, (), trivial, (by repeat' constructor), _, (by repeat' constructor)⟩
      · rintro ⟨⟩ -
        have hoL : o < L := by
          rw [hoF]
          split <;> omega
        refine WC.drawAny (Hs := []) mixed (by kernel_rfl) ⟨_, (by repeat' constructor)⟩ ?_
        refine WD.tk 0 rfl (by kernel_rfl) rfl rfl (Yl.move rfl) rfl ?_
        refine WD.tk 1 rfl (by kernel_rfl) rfl rfl (Yl.move rfl) rfl ?_
        refine WD.tk 2 rfl (by kernel_rfl) rfl rfl (Yl.move rfl) rfl ?_
        refine WD.tk 3 rfl (by kernel_rfl) rfl rfl (Yl.move rfl) rfl ?_
        refine WD.tk 4 rfl (by kernel_rfl) rfl rfl (Yl.move rfl) rfl ?_
        refine WD.tk 5 rfl (by kernel_rfl) rfl rfl (Yl.add rfl rfl (IntWalk.i64_in _ (by omega))) rfl ?_
        refine WD.say (t := 52) (v' := .int .i64 ((a + o : Nat) : Int)) rfl (by (refine congrArg _ ?_; omega)) ?_
        refine WD.tk 6 rfl (by kernel_rfl) rfl rfl (Yl.move rfl) rfl ?_
        refine WD.tk 7 rfl (by kernel_rfl) rfl rfl (Yl.move rfl) rfl ?_
        refine WD.tk 8 rfl (by kernel_rfl) rfl rfl (Yl.move rfl) rfl ?_
        refine WD.tk 9 rfl (by kernel_rfl) rfl rfl (Yl.add rfl rfl (IntWalk.i64_in _ (by omega))) rfl ?_
        refine WD.say (t := 56) (v' := .int .i64 ((a + o : Nat) : Int)) rfl (by (refine congrArg _ ?_; omega)) ?_
        refine WD.tk 10 rfl (by kernel_rfl) rfl rfl (Yl.indexF un48 sz34 rfl rfl hF rfl (by omega)) rfl ?_
        refine WD.tk 12 rfl (by kernel_rfl) rfl rfl (Yl.move rfl) rfl ?_
        refine WD.tk 13 rfl (by kernel_rfl) rfl rfl (Yl.move rfl) rfl ?_
        refine WD.tk 14 rfl (by kernel_rfl) rfl rfl (Yl.indexF un48 sz34 rfl rfl hF rfl (by omega)) rfl ?_
        refine WD.two 11 15 (by kernel_rfl) ?_ ?_
        · refine WO.y rfl rfl .no (Yl.loadE on34 rfl (Reads.own (by repeat constructor)) (so_getV (by omega))) rfl ?_
          refine WD.one 15 (by kernel_rfl) ?_
          refine WO.y rfl rfl .no (Yl.loadE on34 rfl (Reads.own (by repeat constructor)) (so_getV (by omega))) rfl ?_
          refine WD.tk 16 rfl (by kernel_rfl) rfl rfl (Yl.indexF un48 sz34 rfl rfl hF rfl (by omega)) rfl ?_
          refine WD.one 17 (by kernel_rfl) ?_
          refine WO.sto rfl rfl .no (Sto.elem (j := i0 + t) sz34 rfl rfl (by repeat constructor) rfl (by omega) rfl) ⟨_, (by repeat' constructor)⟩ ?_
          refine WD.tk 18 rfl (by kernel_rfl) rfl rfl (Yl.indexF un48 sz34 rfl rfl hF rfl (by omega)) rfl ?_
          refine WD.one 19 (by kernel_rfl) ?_
          refine WO.sto rfl rfl .no (Sto.elem (j := a + o) (cs' := ints .u64 (swp G (i0 + t) (a + o)).toList) sz34 rfl rfl (by repeat constructor) rfl (by omega) (so_swpV G (i0 + t) (a + o))) ⟨_, (by repeat' constructor)⟩ ?_
          refine WD.done (by kernel_rfl) ?_
          refine WC.region ?_
          refine WL.y (Yl.move rfl) rfl ?_
          refine WL.y (Yl.add rfl rfl (IntWalk.i64_in _ (by omega))) rfl ?_
          refine WL.say (t := 35) (v' := .int .i64 ((i0 + (t + 1) : Nat) : Int)) rfl (by (refine congrArg _ ?_; omega)) ?_
          refine WL.y (Yl.assign rfl) rfl ?_
          refine WL.nil ?_
          exact ⟨rfl, (t + 1, xorNext r, swp G (i0 + t) (a + o)), ⟨by dsimp only; omega, by dsimp only; rw [swp_size]; exact hG, hTG⟩, by dsimp only; omega, (by repeat' constructor), _, (by repeat' constructor)⟩
        · refine WO.y rfl rfl .no (Yl.loadE on34 rfl (Reads.own (by repeat constructor)) (so_getV (by omega))) rfl ?_
          refine WD.one 11 (by kernel_rfl) ?_
          refine WO.y rfl rfl .no (Yl.loadE on34 rfl (Reads.own (by repeat constructor)) (so_getV (by omega))) rfl ?_
          refine WD.tk 16 rfl (by kernel_rfl) rfl rfl (Yl.indexF un48 sz34 rfl rfl hF rfl (by omega)) rfl ?_
          refine WD.one 17 (by kernel_rfl) ?_
          refine WO.sto rfl rfl .no (Sto.elem (j := i0 + t) sz34 rfl rfl (by repeat constructor) rfl (by omega) rfl) ⟨_, (by repeat' constructor)⟩ ?_
          refine WD.tk 18 rfl (by kernel_rfl) rfl rfl (Yl.indexF un48 sz34 rfl rfl hF rfl (by omega)) rfl ?_
          refine WD.one 19 (by kernel_rfl) ?_
          refine WO.sto rfl rfl .no (Sto.elem (j := a + o) (cs' := ints .u64 (swp G (i0 + t) (a + o)).toList) sz34 rfl rfl (by repeat constructor) rfl (by omega) (so_swpV G (i0 + t) (a + o))) ⟨_, (by repeat' constructor)⟩ ?_
          refine WD.done (by kernel_rfl) ?_
          refine WC.region ?_
          refine WL.y (Yl.move rfl) rfl ?_
          refine WL.y (Yl.add rfl rfl (IntWalk.i64_in _ (by omega))) rfl ?_
          refine WL.say (t := 35) (v' := .int .i64 ((i0 + (t + 1) : Nat) : Int)) rfl (by (refine congrArg _ ?_; omega)) ?_
          refine WL.y (Yl.assign rfl) rfl ?_
          refine WL.nil ?_
          exact ⟨rfl, (t + 1, xorNext r, swp G (i0 + t) (a + o)), ⟨by dsimp only; omega, by dsimp only; rw [swp_size]; exact hG, hTG⟩, by dsimp only; omega, (by repeat' constructor), _, (by repeat' constructor)⟩
    · refine WC.exit ?_
      repeat (with_reducible (first | refine peelT ?_ | refine peelB ?_ | refine peelTX ?_ | refine peelBX ?_ | refine peelBN ?_ | refine peelBO rfl ?_))
      have ht3 : t = 3 := by omega
      subst ht3
      have hGT : G = T := hTG
      subst hGT
      exact ret0 (.inl rfl) Tryz.results134 fun w' h => ⟨(), trivial, rfl, h.sub (by repeat' constructor)⟩
  · refine WC.skip ?_
    repeat (with_reducible (first | refine peelT ?_ | refine peelB ?_ | refine peelTX ?_ | refine peelBX ?_ | refine peelBN ?_ | refine peelBO rfl ?_))
    have h8 : ¬ a + L - a ≥ 8 := by omega
    have hDT : D = T := by rw [← hT]; unfold breakPatterns; rw [if_neg h8]
    subst hDT
    exact ret0 (.inl rfl) Tryz.results134 fun w' h => ⟨(), trivial, rfl, h.sub (by repeat' constructor)⟩
end Go.Proofs.YtbgimajbehodnaaGreatDoor

namespace Go.Proofs.YtbgimajbehodnaaGreatDoor
open Go Go.RowKit Go.Sort

def hN : Hint → Int
  | .unknown => 0
  | .increasing => 1
  | .decreasing => 2
def cpR (D : Array Int) (a L : Nat) : Nat × Nat :=
  if L ≥ 8 then
    if L ≥ 50 then
      median ltInt D (medianAdjacent ltInt D (a + L / 4 * 1) 0).1 (medianAdjacent ltInt D (a + L / 4 * 2) (medianAdjacent ltInt D (a + L / 4 * 1) 0).2).1 (medianAdjacent ltInt D (a + L / 4 * 3) (medianAdjacent ltInt D (a + L / 4 * 2) (medianAdjacent ltInt D (a + L / 4 * 1) 0).2).2).1 (medianAdjacent ltInt D (a + L / 4 * 3) (medianAdjacent ltInt D (a + L / 4 * 2) (medianAdjacent ltInt D (a + L / 4 * 1) 0).2).2).2
    else median ltInt D (a + L / 4 * 1) (a + L / 4 * 2) (a + L / 4 * 3) 0
  else (a + L / 4 * 2, 0)
def hintF (s : Nat) : Hint := if s = 0 then .increasing else if s = 12 then .decreasing else .unknown
theorem cp_eq (D : Array Int) (a L : Nat) : choosePivot ltInt D a (a + L) = ((cpR D a L).1, hintF (cpR D a L).2) := by
  unfold choosePivot cpR hintF
  simp only [Nat.add_sub_cancel_left]

set_option maxHeartbeats 1600000 in
set_option maxRecDepth 100000 in
theorem choV_any (v : Value) (n : Nat) (D : Array Int) (a L : Nat) (hD : D.size = n) (hn : n ≤ 1099511627776) (hb : a + L ≤ n) (w : World) (hw : OK w (fpL [ownR v 34 1 n (ints .u64 D.toList)]) [ownR v 34 1 n (ints .u64 D.toList)] w) :
    Fn Tryz.prog 135 [v, .int .i64 (a : Int), .int .i64 ((a + L : Nat) : Int)] [ownR v 34 1 n (ints .u64 D.toList)] w (fun _ : Unit => True) (fun _ => .tuple #[.int .i64 ((choosePivot ltInt D a (a + L)).1 : Int), .int .i64 (hN (choosePivot ltInt D a (a + L)).2)]) (fun _ => [ownR v 34 1 n (ints .u64 D.toList)]) := by
  rw [cp_eq]
  dsimp only
  obtain ⟨R, hR⟩ : ∃ R, cpR D a L = R := ⟨_, rfl⟩
  rw [hR]
  refine enterF Tryz.func135 rfl Tryz.ntmps135 rfl hw ?_
  refine WC.seq ?_
  refine WC.region ?_
  refine WL.y (Yl.assign rfl) rfl ?_
  refine WL.y (Yl.assign rfl) rfl ?_
  refine WL.nil ?_
  refine WC.seq ?_
  refine WC.region ?_
  refine WL.y (Yl.move rfl) rfl ?_
  refine WL.y (Yl.move rfl) rfl ?_
  refine WL.y (Yl.sub rfl rfl (IntWalk.i64_in _ (by omega))) rfl ?_
  refine WL.say (t := 15) (v' := .int .i64 (L : Int)) rfl (by (refine congrArg _ ?_; omega)) ?_
  refine WL.y (Yl.assign rfl) rfl ?_
  refine WL.nil ?_
  refine WC.seq ?_
  refine WC.region ?_
  refine WL.to (To.alloc (cs := [.int .i64 0]) zr3 rfl) rfl ?_
  intro b9
  refine WL.nil ?_
  refine WC.seq ?_
  refine WC.region ?_
  refine WL.y (Yl.move rfl) rfl ?_
  refine WL.y (Yl.move rfl) rfl ?_
  refine WL.y (Yl.quo rfl rfl (by omega) (i64_quo (by omega) (by omega))) rfl ?_
  refine WL.say (t := 18) (v' := .int .i64 ((L / 4 : Nat) : Int)) rfl (by (refine congrArg _ ?_; omega)) ?_
  refine WL.y (Yl.mul rfl rfl (IntWalk.i64_in _ (by omega))) rfl ?_
  refine WL.y (Yl.add rfl rfl (IntWalk.i64_in _ (by omega))) rfl ?_
  refine WL.say (t := 20) (v' := .int .i64 ((a + L / 4 * 1 : Nat) : Int)) rfl (by (refine congrArg _ ?_; omega)) ?_
  refine WL.y (Yl.assign rfl) rfl ?_
  refine WL.nil ?_
  refine WC.seq ?_
  refine WC.region ?_
  refine WL.y (Yl.move rfl) rfl ?_
  refine WL.y (Yl.move rfl) rfl ?_
  refine WL.y (Yl.quo rfl rfl (by omega) (i64_quo (by omega) (by omega))) rfl ?_
  refine WL.say (t := 23) (v' := .int .i64 ((L / 4 : Nat) : Int)) rfl (by (refine congrArg _ ?_; omega)) ?_
  refine WL.y (Yl.mul rfl rfl (IntWalk.i64_in _ (by omega))) rfl ?_
  refine WL.y (Yl.add rfl rfl (IntWalk.i64_in _ (by omega))) rfl ?_
  refine WL.say (t := 25) (v' := .int .i64 ((a + L / 4 * 2 : Nat) : Int)) rfl (by (refine congrArg _ ?_; omega)) ?_
  refine WL.y (Yl.assign rfl) rfl ?_
  refine WL.nil ?_
  refine WC.seq ?_
  refine WC.region ?_
  refine WL.y (Yl.move rfl) rfl ?_
  refine WL.y (Yl.move rfl) rfl ?_
  refine WL.y (Yl.quo rfl rfl (by omega) (i64_quo (by omega) (by omega))) rfl ?_
  refine WL.say (t := 28) (v' := .int .i64 ((L / 4 : Nat) : Int)) rfl (by (refine congrArg _ ?_; omega)) ?_
  refine WL.y (Yl.mul rfl rfl (IntWalk.i64_in _ (by omega))) rfl ?_
  refine WL.y (Yl.add rfl rfl (IntWalk.i64_in _ (by omega))) rfl ?_
  refine WL.say (t := 30) (v' := .int .i64 ((a + L / 4 * 3 : Nat) : Int)) rfl (by (refine congrArg _ ?_; omega)) ?_
  refine WL.y (Yl.assign rfl) rfl ?_
  refine WL.nil ?_
  refine WC.midX (α := Unit) (fun _ => [(9, .pointer (some ⟨b9, 0, none⟩)), (11, .int .i64 (R.1 : Int))]) (fun _ => [ownR v 34 1 n (ints .u64 D.toList), blkR b9 3 [.int .i64 (R.2 : Int)]]) (fun _ => True) ?_ ?_
  · refine WC.seq ?_
    refine WC.region ?_
    refine WL.y (Yl.move rfl) rfl ?_
    refine WL.y (Yl.geq rfl rfl) rfl ?_
    refine WL.nil ?_
    refine WC.condD rfl (fun g32 => ?_) (fun g32 => ?_)
    · refine WC.seq ?_
      refine WC.seq ?_
      refine WC.region ?_
      refine WL.y (Yl.move rfl) rfl ?_
      refine WL.y (Yl.geq rfl rfl) rfl ?_
      refine WL.nil ?_
      refine WC.condD rfl (fun g34 => ?_) (fun g34 => ?_)
      · refine WC.seq ?_
        have h50 : 50 ≤ L := by omega
        have hRe : R = median ltInt D (medianAdjacent ltInt D (a + L / 4 * 1) 0).1 (medianAdjacent ltInt D (a + L / 4 * 2) (medianAdjacent ltInt D (a + L / 4 * 1) 0).2).1 (medianAdjacent ltInt D (a + L / 4 * 3) (medianAdjacent ltInt D (a + L / 4 * 2) (medianAdjacent ltInt D (a + L / 4 * 1) 0).2).2).1 (medianAdjacent ltInt D (a + L / 4 * 3) (medianAdjacent ltInt D (a + L / 4 * 2) (medianAdjacent ltInt D (a + L / 4 * 1) 0).2).2).2 := by
          rw [← hR]
          unfold cpR
          rw [if_pos (by omega), if_pos h50]
        have m1 : (medianAdjacent ltInt D (a + L / 4 * 1) 0).1 < n ∧ (medianAdjacent ltInt D (a + L / 4 * 1) 0).2 ≤ 0 + 3 := median_in (by omega) (by omega) (by omega)
        obtain ⟨r1, hr1⟩ : ∃ r, medianAdjacent ltInt D (a + L / 4 * 1) 0 = r := ⟨_, rfl⟩
        rw [hr1] at hRe m1
        have m2 : (medianAdjacent ltInt D (a + L / 4 * 2) r1.2).1 < n ∧ (medianAdjacent ltInt D (a + L / 4 * 2) r1.2).2 ≤ r1.2 + 3 := median_in (by omega) (by omega) (by omega)
        obtain ⟨r2, hr2⟩ : ∃ r, medianAdjacent ltInt D (a + L / 4 * 2) r1.2 = r := ⟨_, rfl⟩
        rw [hr2] at hRe m2
        have m3 : (medianAdjacent ltInt D (a + L / 4 * 3) r2.2).1 < n ∧ (medianAdjacent ltInt D (a + L / 4 * 3) r2.2).2 ≤ r2.2 + 3 := median_in (by omega) (by omega) (by omega)
        obtain ⟨r3, hr3⟩ : ∃ r, medianAdjacent ltInt D (a + L / 4 * 3) r2.2 = r := ⟨_, rfl⟩
        rw [hr3] at hRe m3
        refine WC.region ?_
        refine WL.y (Yl.move rfl) rfl ?_
        refine WL.y (Yl.move rfl) rfl ?_
        refine WL.callC (xs := [.tmp 35, .tmp 36, .tmp 9]) (cap := []) rfl rfl en176 (by repeat' constructor) (fun w hw => medAV_any v n D (a + L / 4 * 1) 0 b9 hD hn (by omega) (by omega) w hw.left.here) rfl ?_
        rintro ⟨⟩ -
        rw [hr1]
        dsimp only [List.cons_append, List.nil_append]
        refine WL.y (Yl.assign rfl) rfl ?_
        refine WL.nil ?_
        refine WC.seq ?_
        refine WC.region ?_
        refine WL.y (Yl.move rfl) rfl ?_
        refine WL.y (Yl.move rfl) rfl ?_
        refine WL.callC (xs := [.tmp 38, .tmp 39, .tmp 9]) (cap := []) rfl rfl en176 (by repeat' constructor) (fun w hw => medAV_any v n D (a + L / 4 * 2) r1.2 b9 hD hn (by omega) (by omega) w hw.left.here) rfl ?_
        rintro ⟨⟩ -
        rw [hr2]
        dsimp only [List.cons_append, List.nil_append]
        refine WL.y (Yl.assign rfl) rfl ?_
        refine WL.nil ?_
        refine WC.region ?_
        refine WL.y (Yl.move rfl) rfl ?_
        refine WL.y (Yl.move rfl) rfl ?_
        refine WL.callC (xs := [.tmp 41, .tmp 42, .tmp 9]) (cap := []) rfl rfl en176 (by repeat' constructor) (fun w hw => medAV_any v n D (a + L / 4 * 3) r2.2 b9 hD hn (by omega) (by omega) w hw.left.here) rfl ?_
        rintro ⟨⟩ -
        rw [hr3]
        dsimp only [List.cons_append, List.nil_append]
        refine WL.y (Yl.assign rfl) rfl ?_
        refine WL.nil ?_
        refine WC.region ?_
        refine WL.y (Yl.move rfl) rfl ?_
        refine WL.y (Yl.move rfl) rfl ?_
        refine WL.y (Yl.move rfl) rfl ?_
        refine WL.y (Yl.move rfl) rfl ?_
        refine WL.callC (xs := [.tmp 44, .tmp 45, .tmp 46, .tmp 47, .tmp 9]) (cap := []) rfl rfl en177 (by repeat' constructor) (fun w hw => medV_any v n D r1.1 r2.1 r3.1 r3.2 b9 hD m1.1 m2.1 m3.1 (by omega) w hw.left.here) rfl ?_
        rintro ⟨⟩ -
        rw [← hRe]
        dsimp only [List.cons_append, List.nil_append]
        refine WL.y (Yl.assign rfl) rfl ?_
        refine WL.nil ?_
        exact ⟨rfl, (), trivial, (by repeat' constructor), _, (by repeat' constructor)⟩
      · refine WC.skip ?_
        have hRe : R = median ltInt D (a + L / 4 * 1) (a + L / 4 * 2) (a + L / 4 * 3) 0 := by
          rw [← hR]
          unfold cpR
          rw [if_pos (by omega), if_neg (by omega)]
        refine WC.region ?_
        refine WL.y (Yl.move rfl) rfl ?_
        refine WL.y (Yl.move rfl) rfl ?_
        refine WL.y (Yl.move rfl) rfl ?_
        refine WL.y (Yl.move rfl) rfl ?_
        refine WL.callC (xs := [.tmp 44, .tmp 45, .tmp 46, .tmp 47, .tmp 9]) (cap := []) rfl rfl en177 (by repeat' constructor) (fun w hw => medV_any v n D (a + L / 4 * 1) (a + L / 4 * 2) (a + L / 4 * 3) 0 b9 hD (by omega) (by omega) (by omega) (by omega) w hw.left.here) rfl ?_
        rintro ⟨⟩ -
        rw [← hRe]
        dsimp only [List.cons_append, List.nil_append]
        refine WL.y (Yl.assign rfl) rfl ?_
        refine WL.nil ?_
        exact ⟨rfl, (), trivial, (by repeat' constructor), _, (by repeat' constructor)⟩
    · refine WC.skip ?_
      have hRe : R = (a + L / 4 * 2, 0) := by
        rw [← hR]
        unfold cpR
        rw [if_neg (by omega)]
      rw [hRe]
      exact ⟨rfl, (), trivial, (by repeat' constructor), _, (by repeat' constructor)⟩
  · rintro ⟨⟩ -
    refine WC.seq ?_
    refine WC.region ?_
    refine WL.y (Yl.load on3 rfl (by repeat constructor) (by rfl)) rfl ?_
    refine WL.nil ?_
    refine WC.block ?_
    refine WC.seq ?_
    refine WC.region ?_
    refine WL.y (Yl.eql rfl rfl) rfl ?_
    refine WL.y (Yl.assign rfl) rfl ?_
    refine WL.nil ?_
    refine WC.cond rfl (fun g51 => ?_) (fun g51 => ?_)
    · refine WC.seq ?_
      refine WC.region ?_
      refine WL.y (Yl.move rfl) rfl ?_
      refine WL.y (Yl.assign rfl) rfl ?_
      refine WL.y (Yl.assign rfl) rfl ?_
      refine WL.nil ?_
      refine WC.ret ?_
      repeat (with_reducible (first | refine peelT ?_ | refine peelB ?_ | refine peelTX ?_ | refine peelBX ?_ | refine peelBN ?_ | refine peelBO rfl ?_))
      have h0 : R.2 = 0 := by have := of_decide_eq_true g51; omega
      exact ret2 (.inr rfl) Tryz.results135 rfl rfl fun w' h => ⟨(), trivial, by unfold hintF; rw [if_pos h0]; rfl, h.sub (by repeat' constructor)⟩
    · refine WC.seq ?_
      refine WC.region ?_
      refine WL.y (Yl.eql rfl rfl) rfl ?_
      refine WL.y (Yl.assign rfl) rfl ?_
      refine WL.nil ?_
      refine WC.cond rfl (fun g54 => ?_) (fun g54 => ?_)
      · refine WC.seq ?_
        refine WC.region ?_
        refine WL.y (Yl.move rfl) rfl ?_
        refine WL.y (Yl.assign rfl) rfl ?_
        refine WL.y (Yl.assign rfl) rfl ?_
        refine WL.nil ?_
        refine WC.ret ?_
        repeat (with_reducible (first | refine peelT ?_ | refine peelB ?_ | refine peelTX ?_ | refine peelBX ?_ | refine peelBN ?_ | refine peelBO rfl ?_))
        have h0 : ¬ R.2 = 0 := by have := of_decide_eq_false g51; omega
        have h1 : R.2 = 12 := by have := of_decide_eq_true g54; omega
        exact ret2 (.inr rfl) Tryz.results135 rfl rfl fun w' h => ⟨(), trivial, by unfold hintF; rw [if_neg h0, if_pos h1]; rfl, h.sub (by repeat' constructor)⟩
      · refine WC.seq ?_
        refine WC.region ?_
        refine WL.y (Yl.move rfl) rfl ?_
        refine WL.y (Yl.assign rfl) rfl ?_
        refine WL.y (Yl.assign rfl) rfl ?_
        refine WL.nil ?_
        refine WC.ret ?_
        repeat (with_reducible (first | refine peelT ?_ | refine peelB ?_ | refine peelTX ?_ | refine peelBX ?_ | refine peelBN ?_ | refine peelBO rfl ?_))
        have h0 : ¬ R.2 = 0 := by have := of_decide_eq_false g51; omega
        have h1 : ¬ R.2 = 12 := by have := of_decide_eq_false g54; omega
        exact ret2 (.inr rfl) Tryz.results135 rfl rfl fun w' h => ⟨(), trivial, by unfold hintF; rw [if_neg h0, if_neg h1]; rfl, h.sub (by repeat' constructor)⟩
end Go.Proofs.YtbgimajbehodnaaGreatDoor

namespace Go.Proofs.YtbgimajbehodnaaGreatDoor
open Go Go.RowKit Go.Sort
/-- Behind the choice of the pivot and what is tried first. -/
def pdq4 (D : Array Int) (a b limit : Nat) (wb wp : Bool) (pivot : Nat) : Array Int :=
  if a > 0 && !ltInt D[a - 1]! D[pivot]! then pdq ltInt (partitionEqual ltInt D a b pivot).2 (partitionEqual ltInt D a b pivot).1 b limit wb wp
  else if (partition ltInt D a b pivot).1 - a < b - (partition ltInt D a b pivot).1 then
    pdq ltInt (pdq ltInt (partition ltInt D a b pivot).2.2 a (partition ltInt D a b pivot).1 limit true true) ((partition ltInt D a b pivot).1 + 1) b limit (decide ((partition ltInt D a b pivot).1 - a ≥ (b - a) / 8)) (partition ltInt D a b pivot).2.1
  else
    pdq ltInt (pdq ltInt (partition ltInt D a b pivot).2.2 ((partition ltInt D a b pivot).1 + 1) b limit true true) a (partition ltInt D a b pivot).1 limit (decide (b - (partition ltInt D a b pivot).1 ≥ (b - a) / 8)) (partition ltInt D a b pivot).2.1
def brkF (D : Array Int) (a b : Nat) (wb : Bool) : Array Int := if !wb then breakPatterns D a b else D
def limF (limit : Nat) (wb : Bool) : Nat := if !wb then limit - 1 else limit
def revF (D : Array Int) (a b : Nat) : Array Int := if (choosePivot ltInt D a b).2 = .decreasing then reverseRange D a b else D
def pivF (D : Array Int) (a b : Nat) : Nat := if (choosePivot ltInt D a b).2 = .decreasing then (b - 1) - ((choosePivot ltInt D a b).1 - a) else (choosePivot ltInt D a b).1
def hinF (D : Array Int) (a b : Nat) : Hint := if (choosePivot ltInt D a b).2 = .decreasing then .increasing else (choosePivot ltInt D a b).2
def pdq3 (D : Array Int) (a b limit : Nat) (wb wp : Bool) (pivot : Nat) (h : Hint) : Array Int :=
  if wb && wp && decide (h = .increasing) then (if (partialInsertionSort ltInt D a b).2 then (partialInsertionSort ltInt D a b).1 else pdq4 (partialInsertionSort ltInt D a b).1 a b limit wb wp pivot) else pdq4 D a b limit wb wp pivot
theorem peq_range {D : Array Int} {a b pivot : Nat} (h1 : a ≤ pivot) (h2 : pivot < b) (hb : b ≤ D.size) : a < (partitionEqual ltInt D a b pivot).1 ∧ (partitionEqual ltInt D a b pivot).1 ≤ b := by
  have hs := swp_size D a pivot
  have := partEqLoop_spec ltInt a b _ (a + 1) (b - 1) (swp D a pivot) (Nat.le_refl _) (Nat.lt_succ_self a) (by omega) (by omega) (by omega) (fun t h1 h2 => by omega) (fun t h1 h2 => by omega)
  exact ⟨this.1, this.2.1⟩
theorem par_range {D : Array Int} {a b pivot : Nat} (h1 : a ≤ pivot) (h2 : pivot < b) (hb : b ≤ D.size) : a ≤ (partition ltInt D a b pivot).1 ∧ (partition ltInt D a b pivot).1 < b := by
  have := partition_holds ltInt swo_ltInt D a b pivot h1 h2 hb
  exact ⟨this.1, this.2.1⟩
theorem piv_range {D : Array Int} {a b : Nat} (h : a < b) : a ≤ pivF D a b ∧ pivF D a b < b := by
  have := choosePivot_holds ltInt D a b h
  unfold pivF
  split <;> omega
theorem pin_size (D : Array Int) (a b : Nat) : (partialInsertionSort ltInt D a b).1.size = D.size := by
  have key : ∀ (s i : Nat) (D : Array Int), (partialIns ltInt a b s i D).1.size = D.size := by
    intro s
    induction s with
    | zero => intro i D; rfl
    | succ s ih =>
      intro i D
      rw [pin_eq]
      split
      · rfl
      · split
        · rfl
        · rw [ih, pinU_size]
  exact key _ _ _
theorem pdq_ins {D : Array Int} {a b limit : Nat} {wb wp : Bool} (h : b - a ≤ 12) : pdq ltInt D a b limit wb wp = insertionSort ltInt D a b := by rw [pdq, if_pos h]
theorem pdq_heap {D : Array Int} {a b limit : Nat} {wb wp : Bool} (h : ¬ b - a ≤ 12) (hl : limit = 0) : pdq ltInt D a b limit wb wp = heapSort ltInt D a b := by rw [pdq, if_neg h, if_pos hl]
theorem brk_size {D : Array Int} {a b : Nat} (wb : Bool) (hab : a ≤ b) (hb : b ≤ D.size) : (brkF D a b wb).size = D.size := by
  unfold brkF
  split
  · exact (breakPatterns_holds D a b hab hb).1
  · rfl
theorem rev_size {D : Array Int} {a b : Nat} (hab : a ≤ b) (hb : b ≤ D.size) : (revF D a b).size = D.size := by
  unfold revF
  split
  · exact (reverseRange_holds D a b hab hb).1
  · rfl
theorem pdq_rest {D : Array Int} {a b limit : Nat} {wb wp : Bool} (h : ¬ b - a ≤ 12) (hl : ¬ limit = 0) (hb : b ≤ D.size) :
    pdq ltInt D a b limit wb wp = pdq3 (revF (brkF D a b wb) a b) a b (limF limit wb) wb wp (pivF (brkF D a b wb) a b) (hinF (brkF D a b wb) a b) := by
  have h1 := brk_size (D := D) (a := a) (b := b) wb (by omega) hb
  have h2 := rev_size (D := brkF D a b wb) (a := a) (b := b) (by omega) (by omega)
  have hp := piv_range (D := brkF D a b wb) (a := a) (b := b) (by omega)
  have key : ∀ E : Array Int, E.size = D.size → (if a > 0 && !ltInt E[a - 1]! E[pivF (brkF D a b wb) a b]! then
      match partitionEqual ltInt E a b (pivF (brkF D a b wb) a b) with
      | (mid, d4) => if _h : a < mid ∧ mid ≤ b then pdq ltInt d4 mid b (limF limit wb) wb wp else d4
    else
      match partition ltInt E a b (pivF (brkF D a b wb) a b) with
      | (mid, alreadyPartitioned, d4) =>
        if _h : a ≤ mid ∧ mid < b then
          if mid - a < b - mid then pdq ltInt (pdq ltInt d4 a mid (limF limit wb) true true) (mid + 1) b (limF limit wb) (decide (mid - a ≥ (b - a) / 8)) alreadyPartitioned
          else pdq ltInt (pdq ltInt d4 (mid + 1) b (limF limit wb) true true) a mid (limF limit wb) (decide (b - mid ≥ (b - a) / 8)) alreadyPartitioned
        else d4) = pdq4 E a b (limF limit wb) wb wp (pivF (brkF D a b wb) a b) := by
    intro E hE
    have r1 := peq_range (D := E) hp.1 hp.2 (by omega)
    have r2 := par_range (D := E) hp.1 hp.2 (by omega)
    unfold pdq4
    split
    · dsimp only
      rw [dif_pos r1]
    · dsimp only
      rw [dif_pos r2]
  rw [pdq, if_neg h, if_neg hl]
  unfold pdq3
  have e3 : (wb && wp && decide (hinF (brkF D a b wb) a b = Hint.increasing)) = true ∨ ¬ (wb && wp && decide (hinF (brkF D a b wb) a b = Hint.increasing)) = true := Decidable.em _
  rcases e3 with e3 | e3
  · rw [if_pos e3]
    have hpi := pin_size (revF (brkF D a b wb) a b) a b
    rw [← key _ (by omega)]
    have e3' := e3
    unfold hinF brkF at e3'
    simp only [e3', if_true]
    rfl
  · rw [if_neg e3]
    rw [← key _ (by omega)]
    have e3' := e3
    unfold hinF brkF at e3'
    simp only [e3', if_false, Bool.false_eq_true]
    rfl
end Go.Proofs.YtbgimajbehodnaaGreatDoor

namespace Go.Proofs.YtbgimajbehodnaaGreatDoor
open Go Go.RowKit Go.Sort

theorem brkBV_any (v : Value) (n : Nat) (D : Array Int) (a b : Nat) (hD : D.size = n) (hn : n ≤ 1099511627776) (hab : a ≤ b) (hb : b ≤ n) (w : World) (hw : OK w (fpL [ownR v 34 1 n (ints .u64 D.toList)]) [ownR v 34 1 n (ints .u64 D.toList)] w) :
    Fn Tryz.prog 134 [v, .int .i64 (a : Int), .int .i64 (b : Int)] [ownR v 34 1 n (ints .u64 D.toList)] w (fun _ : Unit => True) (fun _ => .tuple #[]) (fun _ => [ownR v 34 1 n (ints .u64 (breakPatterns D a b).toList)]) := by
  obtain ⟨L, rfl⟩ := Nat.exists_eq_add_of_le hab
  exact brkV_any v n D a L hD hn hb w hw
theorem choBV_any (v : Value) (n : Nat) (D : Array Int) (a b : Nat) (hD : D.size = n) (hn : n ≤ 1099511627776) (hab : a ≤ b) (hb : b ≤ n) (w : World) (hw : OK w (fpL [ownR v 34 1 n (ints .u64 D.toList)]) [ownR v 34 1 n (ints .u64 D.toList)] w) :
    Fn Tryz.prog 135 [v, .int .i64 (a : Int), .int .i64 (b : Int)] [ownR v 34 1 n (ints .u64 D.toList)] w (fun _ : Unit => True) (fun _ => .tuple #[.int .i64 ((choosePivot ltInt D a b).1 : Int), .int .i64 (hN (choosePivot ltInt D a b).2)]) (fun _ => [ownR v 34 1 n (ints .u64 D.toList)]) := by
  obtain ⟨L, rfl⟩ := Nat.exists_eq_add_of_le hab
  exact choV_any v n D a L hD hn hb w hw
theorem hN_dec (h : Hint) : decide (hN h = 2) = decide (h = .decreasing) := by cases h <;> decide
theorem hN_inc (h : Hint) : decide (hN h = 1) = decide (h = .increasing) := by cases h <;> decide
theorem own_sizeV {w : World} {v : Value} {e n : Nat} {E : Array Int} (h : (ownR v e 1 n (ints .u64 E.toList)).ok w) : E.size = n := by
  have h1 : (ints .u64 E.toList).length = n * 1 := (show Sown w e 1 v n _ from h).1
  rw [ints_length, Array.length_toList] at h1
  omega
theorem pos_and {a : Nat} {c : Bool} : (decide ((0 : Int) < (a : Int)) && c) = (decide (a > 0) && c) := by
  congr 1
  rw [decide_eq_decide]
  omega

set_option maxHeartbeats 3200000 in
set_option maxRecDepth 100000 in
theorem pdqSV_any (v : Value) (n : Nat) (hn : n ≤ 1099511627776) (N : Nat)
    (ih : ∀ m, m < N → ∀ (D : Array Int) (a b limit : Nat), b - a = m → D.size = n → a ≤ b → b ≤ n → limit ≤ 64 → ∀ w, OK w (fpL [ownR v 34 1 n (ints .u64 D.toList)]) [ownR v 34 1 n (ints .u64 D.toList)] w →
      Fn Tryz.prog 113 [v, .int .i64 (a : Int), .int .i64 (b : Int), .int .i64 (limit : Int)] [ownR v 34 1 n (ints .u64 D.toList)] w (fun _ : Unit => True) (fun _ => .tuple #[]) (fun _ => [ownR v 34 1 n (ints .u64 (pdq ltInt D a b limit true true).toList)]))
    (D : Array Int) (a b limit : Nat) (hN : b - a = N) (hD : D.size = n) (hab : a ≤ b) (hb : b ≤ n) (hl : limit ≤ 64) (w : World) (hw : OK w (fpL [ownR v 34 1 n (ints .u64 D.toList)]) [ownR v 34 1 n (ints .u64 D.toList)] w) :
    Fn Tryz.prog 113 [v, .int .i64 (a : Int), .int .i64 (b : Int), .int .i64 (limit : Int)] [ownR v 34 1 n (ints .u64 D.toList)] w (fun _ : Unit => True) (fun _ => .tuple #[]) (fun _ => [ownR v 34 1 n (ints .u64 (pdq ltInt D a b limit true true).toList)]) := by
  have hF := sl_form (hw.get (r := ownR v 34 1 n (ints .u64 D.toList)) .head)
  obtain ⟨T, hT⟩ : ∃ T, pdq ltInt D a b limit true true = T := ⟨_, rfl⟩
  rw [hT]
  refine enterF Tryz.func113 rfl Tryz.ntmps113 rfl hw ?_
  refine WC.seq ?_
  refine WC.region ?_
  refine WL.y (Yl.assign rfl) rfl ?_
  refine WL.nil ?_
  refine WC.seq ?_
  refine WC.region ?_
  refine WL.y (Yl.assign rfl) rfl ?_
  refine WL.nil ?_
  refine WC.block ?_
  refine WC.loop (α := Nat × Nat × Nat × Bool × Bool × Array Int) (fun p => [(0, v), (1, .int .i64 (p.1 : Int)), (2, .int .i64 (p.2.1 : Int)), (3, .int .i64 (p.2.2.1 : Int)), (8, .bool p.2.2.2.1), (9, .bool p.2.2.2.2.1)]) (fun p => [ownR v 34 1 n (ints .u64 p.2.2.2.2.2.toList)]) (fun p => (p.1 ≤ p.2.1 ∧ p.2.1 ≤ n ∧ p.2.2.1 ≤ 64 ∧ p.2.1 - p.1 ≤ N) ∧ p.2.2.2.2.2.size = n ∧ pdq ltInt p.2.2.2.2.2 p.1 p.2.1 p.2.2.1 p.2.2.2.1 p.2.2.2.2.1 = T) (fun p => p.2.1 - p.1) (a, b, limit, true, true, D) ⟨⟨hab, hb, hl, by dsimp only; omega⟩, hD, hT⟩ ⟨(by repeat' constructor), _, (by repeat' constructor)⟩ ?_
  clear hT hD hab hb hl hN
  rintro ⟨a, b, limit, wb, wp, G⟩ ⟨⟨hab, hb, hl, hN⟩, hG, hT⟩
  dsimp only at hab hb hl hN hG hT ⊢
  refine WC.block ?_
  refine WC.seq ?_
  refine WC.region ?_
  refine WL.y (Yl.move rfl) rfl ?_
  refine WL.y (Yl.move rfl) rfl ?_
  refine WL.y (Yl.sub rfl rfl (IntWalk.i64_in _ (by omega))) rfl ?_
  refine WL.say (t := 21) (v' := .int .i64 ((b - a : Nat) : Int)) rfl (by (refine congrArg _ ?_; omega)) ?_
  refine WL.y (Yl.assign rfl) rfl ?_
  refine WL.nil ?_
  refine WC.seq ?_
  refine WC.seq ?_
  refine WC.region ?_
  refine WL.y (Yl.move rfl) rfl ?_
  refine WL.y (Yl.leq rfl rfl) rfl ?_
  refine WL.nil ?_
  refine WC.condD rfl (fun g23 => ?_) (fun g23 => ?_)
  · refine WC.seq ?_
    refine WC.region ?_
    refine WL.y (Yl.move rfl) rfl ?_
    refine WL.y (Yl.move rfl) rfl ?_
    refine WL.y (Yl.move rfl) rfl ?_
    refine WL.callC (xs := [.tmp 24, .tmp 25, .tmp 26]) (cap := []) rfl rfl en132 (by repeat' constructor) (fun w hw => insV_any v n G a b hG hn hab hb w hw.left.here) rfl ?_
    rintro ⟨⟩ -
    dsimp only [List.cons_append, List.nil_append]
    refine WL.nil ?_
    refine WC.ret ?_
    repeat (with_reducible (first | refine peelT ?_ | refine peelB ?_ | refine peelTX ?_ | refine peelBX ?_ | refine peelBN ?_ | refine peelBO rfl ?_))
    have h12 : b - a ≤ 12 := by omega
    rw [pdq_ins h12] at hT
    subst hT
    exact ret0 (.inr rfl) Tryz.results113 fun w' h => ⟨(), trivial, rfl, h.sub (by repeat' constructor)⟩
  · refine WC.skip ?_
    refine WC.seq ?_
    refine WC.seq ?_
    refine WC.region ?_
    refine WL.y (Yl.move rfl) rfl ?_
    refine WL.y (Yl.eql rfl rfl) rfl ?_
    refine WL.nil ?_
    refine WC.condD rfl (fun g29 => ?_) (fun g29 => ?_)
    · refine WC.seq ?_
      refine WC.region ?_
      refine WL.y (Yl.move rfl) rfl ?_
      refine WL.y (Yl.move rfl) rfl ?_
      refine WL.y (Yl.move rfl) rfl ?_
      refine WL.callC (xs := [.tmp 30, .tmp 31, .tmp 32]) (cap := []) rfl rfl en133 (by repeat' constructor) (fun w hw => heapV_any v n G a b hG hn hab hb w hw.left.here) rfl ?_
      rintro ⟨⟩ -
      dsimp only [List.cons_append, List.nil_append]
      refine WL.nil ?_
      refine WC.ret ?_
      repeat (with_reducible (first | refine peelT ?_ | refine peelB ?_ | refine peelTX ?_ | refine peelBX ?_ | refine peelBN ?_ | refine peelBO rfl ?_))
      have h12 : ¬ b - a ≤ 12 := by omega
      have hl0 : limit = 0 := by omega
      rw [pdq_heap h12 hl0] at hT
      subst hT
      exact ret0 (.inr rfl) Tryz.results113 fun w' h => ⟨(), trivial, rfl, h.sub (by repeat' constructor)⟩
    · refine WC.skip ?_
      refine WC.midX (α := Unit) (fun _ => [(0, v), (1, .int .i64 (a : Int)), (2, .int .i64 (b : Int)), (3, .int .i64 (limF limit wb : Int)), (8, .bool wb), (9, .bool wp), (10, .int .i64 ((b - a : Nat) : Int))]) (fun _ => [ownR v 34 1 n (ints .u64 (brkF G a b wb).toList)]) (fun _ => True) ?_ ?_
      · refine WC.seq ?_
        refine WC.region ?_
        refine WL.y (Yl.move rfl) rfl ?_
        refine WL.y (Yl.not rfl) rfl ?_
        refine WL.nil ?_
        refine WC.cond rfl (fun g35 => ?_) (fun g35 => ?_)
        · refine WC.seq ?_
          refine WC.region ?_
          refine WL.y (Yl.move rfl) rfl ?_
          refine WL.y (Yl.move rfl) rfl ?_
          refine WL.y (Yl.move rfl) rfl ?_
          refine WL.callC (xs := [.tmp 36, .tmp 37, .tmp 38]) (cap := []) rfl rfl en134 (by repeat' constructor) (fun w hw => brkBV_any v n G a b hG hn hab hb w hw.left.here) rfl ?_
          rintro ⟨⟩ -
          dsimp only [List.cons_append, List.nil_append]
          refine WL.nil ?_
          refine WC.region ?_
          refine WL.y (Yl.move rfl) rfl ?_
          refine WL.y (Yl.sub rfl rfl (IntWalk.i64_in _ (by omega))) rfl ?_
          refine WL.say (t := 41) (v' := .int .i64 ((limit - 1 : Nat) : Int)) rfl (by (refine congrArg _ ?_; omega)) ?_
          refine WL.y (Yl.assign rfl) rfl ?_
          refine WL.nil ?_
          rw [show brkF G a b wb = breakPatterns G a b from if_pos g35, show limF limit wb = limit - 1 from if_pos g35]
          exact ⟨rfl, (), trivial, (by repeat' constructor), _, (by repeat' constructor)⟩
        · refine WC.skip ?_
          rw [show brkF G a b wb = G from if_neg (ne_true_of_eq_false g35), show limF limit wb = limit from if_neg (ne_true_of_eq_false g35)]
          exact ⟨rfl, (), trivial, (by repeat' constructor), _, (by repeat' constructor)⟩
      · rintro ⟨⟩ -
        have h12 : ¬ b - a ≤ 12 := by omega
        have hl0 : ¬ limit = 0 := by omega
        rw [pdq_rest h12 hl0 (by omega)] at hT
        have hBs := brk_size (D := G) (a := a) (b := b) wb hab (by omega)
        have hLi : limF limit wb ≤ 64 := by unfold limF; split <;> omega
        obtain ⟨B, hB⟩ : ∃ B, brkF G a b wb = B := ⟨_, rfl⟩
        obtain ⟨li, hli⟩ : ∃ li, limF limit wb = li := ⟨_, rfl⟩
        rw [hB] at hT hBs ⊢
        rw [hli] at hT hLi ⊢
        have hpr := piv_range (D := B) (a := a) (b := b) (by omega)
        have hRs := rev_size (D := B) (a := a) (b := b) hab (by omega)
        have hch := choosePivot_holds ltInt B a b (by omega)
        refine WC.seq ?_
        refine WC.region ?_
        refine WL.y (Yl.move rfl) rfl ?_
        refine WL.y (Yl.move rfl) rfl ?_
        refine WL.y (Yl.move rfl) rfl ?_
        refine WL.callC (xs := [.tmp 43, .tmp 44, .tmp 45]) (cap := []) rfl rfl en135 (by repeat' constructor) (fun w hw => choBV_any v n B a b (by omega) hn hab hb w hw.left.here) rfl ?_
        rintro ⟨⟩ -
        dsimp only [List.cons_append, List.nil_append]
        refine WL.y (Yl.move rfl) rfl ?_
        refine WL.y (Yl.extract rfl rfl) rfl ?_
        refine WL.y (Yl.extract rfl rfl) rfl ?_
        refine WL.y (Yl.assign rfl) rfl ?_
        refine WL.y (Yl.assign rfl) rfl ?_
        refine WL.nil ?_
        refine WC.midX (α := Unit) (fun _ => [(0, v), (1, .int .i64 (a : Int)), (2, .int .i64 (b : Int)), (3, .int .i64 (li : Int)), (8, .bool wb), (9, .bool wp), (10, .int .i64 ((b - a : Nat) : Int)), (11, .int .i64 (pivF B a b : Int)), (12, .int .i64 (Go.Proofs.YtbgimajbehodnaaGreatDoor.hN (hinF B a b)))]) (fun _ => [ownR v 34 1 n (ints .u64 (revF B a b).toList)]) (fun _ => True) ?_ ?_
        · refine WC.seq ?_
          refine WC.region ?_
          refine WL.y (Yl.move rfl) rfl ?_
          refine WL.y (Yl.eql rfl rfl) rfl ?_
          refine WL.say (t := 50) (v' := .bool (decide ((choosePivot ltInt B a b).2 = .decreasing))) rfl (by rw [hN_dec]) ?_
          refine WL.nil ?_
          refine WC.cond rfl (fun g50 => ?_) (fun g50 => ?_)
          · refine WC.seq ?_
            refine WC.region ?_
            refine WL.y (Yl.move rfl) rfl ?_
            refine WL.y (Yl.move rfl) rfl ?_
            refine WL.y (Yl.move rfl) rfl ?_
            refine WL.callC (xs := [.tmp 51, .tmp 52, .tmp 53]) (cap := []) rfl rfl en136 (by repeat' constructor) (fun w hw => revV_any v n B a b (by omega) hn (by omega) hb w hw.left.here) rfl ?_
            rintro ⟨⟩ -
            dsimp only [List.cons_append, List.nil_append]
            refine WL.nil ?_
            refine WC.seq ?_
            refine WC.region ?_
            refine WL.y (Yl.move rfl) rfl ?_
            refine WL.y (Yl.sub rfl rfl (IntWalk.i64_in _ (by omega))) rfl ?_
            refine WL.say (t := 56) (v' := .int .i64 ((b - 1 : Nat) : Int)) rfl (by (refine congrArg _ ?_; omega)) ?_
            refine WL.y (Yl.move rfl) rfl ?_
            refine WL.y (Yl.move rfl) rfl ?_
            refine WL.y (Yl.sub rfl rfl (IntWalk.i64_in _ (by omega))) rfl ?_
            refine WL.say (t := 59) (v' := .int .i64 (((choosePivot ltInt B a b).1 - a : Nat) : Int)) rfl (by (refine congrArg _ ?_; omega)) ?_
            refine WL.y (Yl.sub rfl rfl (IntWalk.i64_in _ (by omega))) rfl ?_
            refine WL.say (t := 60) (v' := .int .i64 (((b - 1) - ((choosePivot ltInt B a b).1 - a) : Nat) : Int)) rfl (by (refine congrArg _ ?_; omega)) ?_
            refine WL.y (Yl.assign rfl) rfl ?_
            refine WL.nil ?_
            refine WC.region ?_
            refine WL.y (Yl.assign rfl) rfl ?_
            refine WL.nil ?_
            have hd := of_decide_eq_true g50
            rw [show revF B a b = reverseRange B a b from if_pos hd, show pivF B a b = (b - 1) - ((choosePivot ltInt B a b).1 - a) from if_pos hd, show hinF B a b = .increasing from if_pos hd]
            exact ⟨rfl, (), trivial, (by repeat' constructor), _, (by repeat' constructor)⟩
          · refine WC.skip ?_
            have hd := of_decide_eq_false g50
            rw [show revF B a b = B from if_neg hd, show pivF B a b = (choosePivot ltInt B a b).1 from if_neg hd, show hinF B a b = (choosePivot ltInt B a b).2 from if_neg hd]
            exact ⟨rfl, (), trivial, (by repeat' constructor), _, (by repeat' constructor)⟩
        · rintro ⟨⟩ -
          obtain ⟨R, hR⟩ : ∃ R, revF B a b = R := ⟨_, rfl⟩
          obtain ⟨pv, hpv⟩ : ∃ pv, pivF B a b = pv := ⟨_, rfl⟩
          obtain ⟨hi, hhi⟩ : ∃ hi, hinF B a b = hi := ⟨_, rfl⟩
          rw [hR] at hT hRs ⊢
          rw [hpv] at hT hpr ⊢
          rw [hhi] at hT ⊢
          have hRn : R.size = n := by omega
          have hps := pin_size R a b
          refine WC.midX (α := Array Int) (fun _ => [(0, v), (1, .int .i64 (a : Int)), (2, .int .i64 (b : Int)), (3, .int .i64 (li : Int)), (8, .bool wb), (9, .bool wp), (10, .int .i64 ((b - a : Nat) : Int)), (11, .int .i64 (pv : Int))]) (fun E => [ownR v 34 1 n (ints .u64 E.toList)]) (fun E => E.size = n ∧ pdq4 E a b li wb wp pv = T) ?_ ?_
          · refine WC.midX (α := Unit) (fun _ => [(0, v), (1, .int .i64 (a : Int)), (2, .int .i64 (b : Int)), (3, .int .i64 (li : Int)), (8, .bool wb), (9, .bool wp), (10, .int .i64 ((b - a : Nat) : Int)), (11, .int .i64 (pv : Int)), (68, .bool (wb && wp && decide (hi = .increasing)))]) (fun _ => [ownR v 34 1 n (ints .u64 R.toList)]) (fun _ => True) ?_ ?_
            · refine WC.region ?_
              refine WL.y (Yl.move rfl) rfl ?_
              refine WL.y (Yl.move rfl) rfl ?_
              refine WL.both (t := 62) rfl (fun g62 => ?_) (fun g62 => ?_)
              · refine WL.on rfl rfl ?_
                refine WL.y (Yl.move rfl) rfl ?_
                refine WL.y (Yl.pickT rfl rfl) rfl ?_
                refine WL.y (Yl.move rfl) rfl ?_
                refine WL.both (t := 65) rfl (fun g65 => ?_) (fun g65 => ?_)
                · refine WL.on rfl rfl ?_
                  refine WL.y (Yl.move rfl) rfl ?_
                  refine WL.on rfl rfl ?_
                  refine WL.y (Yl.eql rfl rfl) rfl ?_
                  refine WL.say (t := 67) (v' := .bool (decide (hi = .increasing))) rfl (by rw [hN_inc]) ?_
                  refine WL.y (Yl.pickT rfl rfl) rfl ?_
                  refine WL.say (t := 68) (v' := .bool (wb && wp && decide (hi = .increasing))) rfl (by (simp_all)) ?_
                  refine WL.nil ?_
                  exact ⟨rfl, (), trivial, (by repeat' constructor), _, (by repeat' constructor)⟩
                · refine WL.off rfl rfl rfl rfl ?_
                  refine WL.off rfl rfl rfl rfl ?_
                  refine WL.y (Yl.pickF rfl rfl) rfl ?_
                  refine WL.say (t := 68) (v' := .bool (wb && wp && decide (hi = .increasing))) rfl (by (simp_all)) ?_
                  refine WL.nil ?_
                  exact ⟨rfl, (), trivial, (by repeat' constructor), _, (by repeat' constructor)⟩
              · refine WL.off rfl rfl rfl rfl ?_
                refine WL.y (Yl.pickF rfl rfl) rfl ?_
                refine WL.y (Yl.move rfl) rfl ?_
                refine WL.off rfl rfl rfl rfl ?_
                refine WL.off rfl rfl rfl rfl ?_
                refine WL.y (Yl.pickF rfl rfl) rfl ?_
                refine WL.say (t := 68) (v' := .bool (wb && wp && decide (hi = .increasing))) rfl (by (simp_all)) ?_
                refine WL.nil ?_
                exact ⟨rfl, (), trivial, (by repeat' constructor), _, (by repeat' constructor)⟩
            · rintro ⟨⟩ -
              refine WC.cond rfl (fun g68 => ?_) (fun g68 => ?_)
              · refine WC.seq ?_
                refine WC.region ?_
                refine WL.y (Yl.move rfl) rfl ?_
                refine WL.y (Yl.move rfl) rfl ?_
                refine WL.y (Yl.move rfl) rfl ?_
                refine WL.callC (xs := [.tmp 69, .tmp 70, .tmp 71]) (cap := []) rfl rfl en137 (by repeat' constructor) (fun w hw => pinV_any v n R a b hRn hn (by omega) hb w hw.left.here) rfl ?_
                rintro ⟨⟩ -
                dsimp only [List.cons_append, List.nil_append]
                refine WL.nil ?_
                refine WC.cond rfl (fun g72 => ?_) (fun g72 => ?_)
                · refine WC.ret ?_
                  repeat (with_reducible (first | refine peelT ?_ | refine peelB ?_ | refine peelTX ?_ | refine peelBX ?_ | refine peelBN ?_ | refine peelBO rfl ?_))
                  unfold pdq3 at hT
                  rw [if_pos g68, if_pos g72] at hT
                  subst hT
                  exact ret0 (.inr rfl) Tryz.results113 fun w' h => ⟨(), trivial, rfl, h.sub (by repeat' constructor)⟩
                · refine WC.skip ?_
                  unfold pdq3 at hT
                  rw [if_pos g68, if_neg (ne_true_of_eq_false g72)] at hT
                  exact ⟨rfl, (partialInsertionSort ltInt R a b).1, ⟨by omega, hT⟩, (by repeat' constructor), _, (by repeat' constructor)⟩
              · refine WC.skip ?_
                unfold pdq3 at hT
                rw [if_neg (ne_true_of_eq_false g68)] at hT
                exact ⟨rfl, R, ⟨hRn, hT⟩, (by repeat' constructor), _, (by repeat' constructor)⟩
          · rintro E ⟨hEn, hT4⟩
            have hpq := peq_range (D := E) hpr.1 hpr.2 (by omega)
            have hpa := par_range (D := E) hpr.1 hpr.2 (by omega)
            unfold pdq4 at hT4
            refine WC.seq ?_
            refine WC.midX (α := Unit) (fun _ => [(0, v), (1, .int .i64 (a : Int)), (2, .int .i64 (b : Int)), (3, .int .i64 (li : Int)), (8, .bool wb), (9, .bool wp), (10, .int .i64 ((b - a : Nat) : Int)), (11, .int .i64 (pv : Int)), (87, .bool (decide ((0 : Int) < (a : Int)) && !ltInt E[a - 1]! E[pv]!))]) (fun _ => [ownR v 34 1 n (ints .u64 E.toList)]) (fun _ => True) ?_ ?_
            · refine WC.drawAny (Hs := [ownR v 34 1 n (ints .u64 E.toList)]) mixed (by kernel_rfl) ⟨_, (by repeat' constructor)⟩ ?_
              refine WD.tk 0 rfl (by kernel_rfl) rfl rfl (Yl.move rfl) rfl ?_
              refine WD.tk 1 rfl (by kernel_rfl) rfl rfl (Yl.gtr rfl rfl) rfl ?_
              refine WD.tk 2 rfl (by kernel_rfl) rfl rfl (Yl.move rfl) rfl ?_
              refine WD.both (t := 75) rfl (fun g75 => ?_) (fun g75 => ?_)
              · have ha0 : 0 < a := by have := of_decide_eq_true g75; omega
                refine WD.takeOn 3 rfl (by kernel_rfl) (by kernel_rfl) (by kernel_rfl) rfl rfl rfl rfl (Yl.move rfl) rfl ?_
                refine WD.takeOn 4 rfl (by kernel_rfl) (by kernel_rfl) (by kernel_rfl) rfl rfl rfl rfl (Yl.move rfl) rfl ?_
                refine WD.takeOn 5 rfl (by kernel_rfl) (by kernel_rfl) (by kernel_rfl) rfl rfl rfl rfl (Yl.sub rfl rfl (IntWalk.i64_in _ (by omega))) rfl ?_
                refine WD.say (t := 78) (v' := .int .i64 ((a - 1 : Nat) : Int)) rfl (by (refine congrArg _ ?_; omega)) ?_
                refine WD.takeOn 6 rfl (by kernel_rfl) (by kernel_rfl) (by kernel_rfl) rfl rfl rfl rfl (Yl.indexF un48 sz34 rfl rfl hF rfl (by omega)) rfl ?_
                refine WD.takeOn 7 rfl (by kernel_rfl) (by kernel_rfl) (by kernel_rfl) rfl rfl rfl rfl (Yl.loadE on34 rfl (Reads.own (by repeat constructor)) (so_getV (by omega))) rfl ?_
                refine WD.takeOn 8 rfl (by kernel_rfl) (by kernel_rfl) (by kernel_rfl) rfl rfl rfl rfl (Yl.move rfl) rfl ?_
                refine WD.takeOn 9 rfl (by kernel_rfl) (by kernel_rfl) (by kernel_rfl) rfl rfl rfl rfl (Yl.move rfl) rfl ?_
                refine WD.takeOn 10 rfl (by kernel_rfl) (by kernel_rfl) (by kernel_rfl) rfl rfl rfl rfl (Yl.indexF un48 sz34 rfl rfl hF rfl (by omega)) rfl ?_
                refine WD.takeOn 11 rfl (by kernel_rfl) (by kernel_rfl) (by kernel_rfl) rfl rfl rfl rfl (Yl.loadE on34 rfl (Reads.own (by repeat constructor)) (so_getV (by omega))) rfl ?_
                refine WD.one 12 (by kernel_rfl) ?_
                refine WO.callC (xs := [.tmp 80, .tmp 84]) (cap := []) rfl (.on rfl rfl) rfl rfl en138 (by repeat' constructor) (fun w hw => lessV_any _ _ w hw.left.here) rfl (fun _ => ⟨_, (by repeat' constructor)⟩) ?_
                rintro ⟨⟩ -
                refine WD.takeOn 13 rfl (by kernel_rfl) (by kernel_rfl) (by kernel_rfl) rfl rfl rfl rfl (Yl.not rfl) rfl ?_
                refine WD.tk 14 rfl (by kernel_rfl) rfl rfl (Yl.pickT rfl rfl) rfl ?_
                refine WD.say (t := 87) (v' := .bool (decide ((0 : Int) < (a : Int)) && !ltInt E[a - 1]! E[pv]!)) rfl (by (rw [g75]; rfl)) ?_
                refine WD.done (by kernel_rfl) ?_
                exact ⟨rfl, (), trivial, (by repeat' constructor), _, (by repeat' constructor)⟩
              · refine WD.takeOff 3 rfl (by kernel_rfl) (by kernel_rfl) (by kernel_rfl) rfl rfl rfl rfl rfl rfl ?_
                refine WD.takeOff 4 rfl (by kernel_rfl) (by kernel_rfl) (by kernel_rfl) rfl rfl rfl rfl rfl rfl ?_
                refine WD.takeOff 5 rfl (by kernel_rfl) (by kernel_rfl) (by kernel_rfl) rfl rfl rfl rfl rfl rfl ?_
                refine WD.takeOff 6 rfl (by kernel_rfl) (by kernel_rfl) (by kernel_rfl) rfl rfl rfl rfl rfl rfl ?_
                refine WD.takeOff 7 rfl (by kernel_rfl) (by kernel_rfl) (by kernel_rfl) rfl rfl rfl rfl rfl rfl ?_
                refine WD.takeOff 8 rfl (by kernel_rfl) (by kernel_rfl) (by kernel_rfl) rfl rfl rfl rfl rfl rfl ?_
                refine WD.takeOff 9 rfl (by kernel_rfl) (by kernel_rfl) (by kernel_rfl) rfl rfl rfl rfl rfl rfl ?_
                refine WD.takeOff 10 rfl (by kernel_rfl) (by kernel_rfl) (by kernel_rfl) rfl rfl rfl rfl rfl rfl ?_
                refine WD.takeOff 11 rfl (by kernel_rfl) (by kernel_rfl) (by kernel_rfl) rfl rfl rfl rfl rfl rfl ?_
                refine WD.one 12 (by kernel_rfl) ?_
                refine WO.off rfl rfl rfl rfl rfl rfl rfl ?_
                refine WD.takeOff 13 rfl (by kernel_rfl) (by kernel_rfl) (by kernel_rfl) rfl rfl rfl rfl rfl rfl ?_
                refine WD.tk 14 rfl (by kernel_rfl) rfl rfl (Yl.pickF rfl rfl) rfl ?_
                refine WD.say (t := 87) (v' := .bool (decide ((0 : Int) < (a : Int)) && !ltInt E[a - 1]! E[pv]!)) rfl (by (rw [g75]; rfl)) ?_
                refine WD.done (by kernel_rfl) ?_
                exact ⟨rfl, (), trivial, (by repeat' constructor), _, (by repeat' constructor)⟩
            · rintro ⟨⟩ -
              refine WC.cond rfl (fun g87 => ?_) (fun g87 => ?_)
              · refine WC.seq ?_
                refine WC.region ?_
                refine WL.y (Yl.move rfl) rfl ?_
                refine WL.y (Yl.move rfl) rfl ?_
                refine WL.y (Yl.move rfl) rfl ?_
                refine WL.y (Yl.move rfl) rfl ?_
                refine WL.callC (xs := [.tmp 88, .tmp 89, .tmp 90, .tmp 91]) (cap := []) rfl rfl en139 (by repeat' constructor) (fun w hw => peqV_any v n E a b pv hEn hn hpr.1 hpr.2 hb w hw.left.here) rfl ?_
                rintro ⟨⟩ -
                dsimp only [List.cons_append, List.nil_append]
                refine WL.viewX (α := Unit) (φ := fun _ => (partitionEqual ltInt E a b pv).2.size = n) (H' := fun _ => [ownR v 34 1 n (ints .u64 (partitionEqual ltInt E a b pv).2.toList)]) (fun w h => ⟨(), own_sizeV (h.get .head), h⟩) ?_
                rintro ⟨⟩ hsz
                refine WL.y (Yl.assign rfl) rfl ?_
                refine WL.nil ?_
                refine WC.seq ?_
                refine WC.region ?_
                refine WL.y (Yl.move rfl) rfl ?_
                refine WL.y (Yl.assign rfl) rfl ?_
                refine WL.nil ?_
                refine WC.exit ?_
                rw [if_pos (by rw [pos_and] at g87; exact g87)] at hT4
                exact ⟨rfl, ((partitionEqual ltInt E a b pv).1, b, li, wb, wp, (partitionEqual ltInt E a b pv).2), ⟨⟨hpq.2, hb, hLi, by dsimp only; omega⟩, hsz, hT4⟩, by dsimp only; omega, (by repeat' constructor), _, (by repeat' constructor)⟩
              · refine WC.skip ?_
                refine WC.seq ?_
                rw [if_neg (by rw [pos_and] at g87; exact ne_true_of_eq_false g87)] at hT4
                refine WC.region ?_
                refine WL.y (Yl.move rfl) rfl ?_
                refine WL.y (Yl.move rfl) rfl ?_
                refine WL.y (Yl.move rfl) rfl ?_
                refine WL.y (Yl.move rfl) rfl ?_
                refine WL.callC (xs := [.tmp 95, .tmp 96, .tmp 97, .tmp 98]) (cap := []) rfl rfl en140 (by repeat' constructor) (fun w hw => parV_any v n E a b pv hEn hn hpr.1 hpr.2 hb w hw.left.here) rfl ?_
                rintro ⟨⟩ -
                dsimp only [List.cons_append, List.nil_append]
                refine WL.viewX (α := Unit) (φ := fun _ => (partition ltInt E a b pv).2.2.size = n) (H' := fun _ => [ownR v 34 1 n (ints .u64 (partition ltInt E a b pv).2.2.toList)]) (fun w h => ⟨(), own_sizeV (h.get .head), h⟩) ?_
                rintro ⟨⟩ hsz
                obtain ⟨P, hP⟩ : ∃ P, partition ltInt E a b pv = P := ⟨_, rfl⟩
                rw [hP] at hpa hsz hT4 ⊢
                refine WL.y (Yl.move rfl) rfl ?_
                refine WL.y (Yl.extract rfl rfl) rfl ?_
                refine WL.y (Yl.extract rfl rfl) rfl ?_
                refine WL.y (Yl.assign rfl) rfl ?_
                refine WL.y (Yl.assign rfl) rfl ?_
                refine WL.nil ?_
                refine WC.seq ?_
                refine WC.region ?_
                refine WL.y (Yl.move rfl) rfl ?_
                refine WL.y (Yl.assign rfl) rfl ?_
                refine WL.nil ?_
                refine WC.seq ?_
                refine WC.region ?_
                refine WL.y (Yl.move rfl) rfl ?_
                refine WL.y (Yl.move rfl) rfl ?_
                refine WL.y (Yl.sub rfl rfl (IntWalk.i64_in _ (by omega))) rfl ?_
                refine WL.say (t := 105) (v' := .int .i64 ((P.1 - a : Nat) : Int)) rfl (by (refine congrArg _ ?_; omega)) ?_
                refine WL.y (Yl.move rfl) rfl ?_
                refine WL.y (Yl.move rfl) rfl ?_
                refine WL.y (Yl.sub rfl rfl (IntWalk.i64_in _ (by omega))) rfl ?_
                refine WL.say (t := 108) (v' := .int .i64 ((b - P.1 : Nat) : Int)) rfl (by (refine congrArg _ ?_; omega)) ?_
                refine WL.y (Yl.assign rfl) rfl ?_
                refine WL.y (Yl.assign rfl) rfl ?_
                refine WL.nil ?_
                refine WC.seq ?_
                refine WC.region ?_
                refine WL.y (Yl.move rfl) rfl ?_
                refine WL.y (Yl.quo rfl rfl (by omega) (i64_quo (by omega) (by omega))) rfl ?_
                refine WL.say (t := 110) (v' := .int .i64 (((b - a) / 8 : Nat) : Int)) rfl (by (refine congrArg _ ?_; omega)) ?_
                refine WL.y (Yl.assign rfl) rfl ?_
                refine WL.nil ?_
                refine WC.seq ?_
                refine WC.region ?_
                refine WL.y (Yl.move rfl) rfl ?_
                refine WL.y (Yl.move rfl) rfl ?_
                refine WL.y (Yl.lss rfl rfl) rfl ?_
                refine WL.nil ?_
                refine WC.condD rfl (fun g113 => ?_) (fun g113 => ?_)
                · refine WC.seq ?_
                  have hlt : P.1 - a < b - P.1 := by omega
                  rw [if_pos hlt] at hT4
                  refine WC.region ?_
                  refine WL.y (Yl.move rfl) rfl ?_
                  refine WL.y (Yl.move rfl) rfl ?_
                  refine WL.y (Yl.geq rfl rfl) rfl ?_
                  refine WL.say (t := 116) (v' := .bool (decide (P.1 - a ≥ (b - a) / 8))) rfl (by (refine congrArg _ ?_; rw [decide_eq_decide]; omega)) ?_
                  refine WL.y (Yl.assign rfl) rfl ?_
                  refine WL.nil ?_
                  refine WC.seq ?_
                  refine WC.region ?_
                  refine WL.y (Yl.move rfl) rfl ?_
                  refine WL.y (Yl.move rfl) rfl ?_
                  refine WL.y (Yl.move rfl) rfl ?_
                  refine WL.y (Yl.move rfl) rfl ?_
                  refine WL.callC (xs := [.tmp 117, .tmp 118, .tmp 119, .tmp 120]) (cap := []) rfl rfl en113 (by repeat' constructor) (fun w hw => ih (P.1 - a) (by omega) P.2.2 a P.1 li rfl hsz (by omega) (by omega) hLi w hw.left.here) rfl ?_
                  rintro ⟨⟩ -
                  dsimp only [List.cons_append, List.nil_append]
                  refine WL.viewX (α := Unit) (φ := fun _ => (pdq ltInt P.2.2 a P.1 li true true).size = n) (H' := fun _ => [ownR v 34 1 n (ints .u64 (pdq ltInt P.2.2 a P.1 li true true).toList)]) (fun w h => ⟨(), own_sizeV (h.get .head), h⟩) ?_
                  rintro ⟨⟩ hsz2
                  refine WL.nil ?_
                  refine WC.region ?_
                  refine WL.y (Yl.move rfl) rfl ?_
                  refine WL.y (Yl.add rfl rfl (IntWalk.i64_in _ (by omega))) rfl ?_
                  refine WL.y (Yl.assign rfl) rfl ?_
                  refine WL.nil ?_
                  exact ⟨rfl, (P.1 + 1, b, li, decide (P.1 - a ≥ (b - a) / 8), P.2.1, pdq ltInt P.2.2 a P.1 li true true), ⟨⟨by dsimp only; omega, hb, hLi, by dsimp only; omega⟩, hsz2, hT4⟩, by dsimp only; omega, (by repeat' constructor), _, (by repeat' constructor)⟩
                · refine WC.seq ?_
                  have hlt : ¬ P.1 - a < b - P.1 := by omega
                  rw [if_neg hlt] at hT4
                  refine WC.region ?_
                  refine WL.y (Yl.move rfl) rfl ?_
                  refine WL.y (Yl.move rfl) rfl ?_
                  refine WL.y (Yl.geq rfl rfl) rfl ?_
                  refine WL.say (t := 126) (v' := .bool (decide (b - P.1 ≥ (b - a) / 8))) rfl (by (refine congrArg _ ?_; rw [decide_eq_decide]; omega)) ?_
                  refine WL.y (Yl.assign rfl) rfl ?_
                  refine WL.nil ?_
                  refine WC.seq ?_
                  refine WC.region ?_
                  refine WL.y (Yl.move rfl) rfl ?_
                  refine WL.y (Yl.move rfl) rfl ?_
                  refine WL.y (Yl.add rfl rfl (IntWalk.i64_in _ (by omega))) rfl ?_
                  refine WL.say (t := 129) (v' := .int .i64 ((P.1 + 1 : Nat) : Int)) rfl (by (refine congrArg _ ?_; omega)) ?_
                  refine WL.y (Yl.move rfl) rfl ?_
                  refine WL.y (Yl.move rfl) rfl ?_
                  refine WL.callC (xs := [.tmp 127, .tmp 129, .tmp 130, .tmp 131]) (cap := []) rfl rfl en113 (by repeat' constructor) (fun w hw => ih (b - (P.1 + 1)) (by omega) P.2.2 (P.1 + 1) b li rfl hsz (by omega) hb hLi w hw.left.here) rfl ?_
                  rintro ⟨⟩ -
                  dsimp only [List.cons_append, List.nil_append]
                  refine WL.viewX (α := Unit) (φ := fun _ => (pdq ltInt P.2.2 (P.1 + 1) b li true true).size = n) (H' := fun _ => [ownR v 34 1 n (ints .u64 (pdq ltInt P.2.2 (P.1 + 1) b li true true).toList)]) (fun w h => ⟨(), own_sizeV (h.get .head), h⟩) ?_
                  rintro ⟨⟩ hsz2
                  refine WL.nil ?_
                  refine WC.region ?_
                  refine WL.y (Yl.move rfl) rfl ?_
                  refine WL.y (Yl.assign rfl) rfl ?_
                  refine WL.nil ?_
                  exact ⟨rfl, (a, P.1, li, decide (b - P.1 ≥ (b - a) / 8), P.2.1, pdq ltInt P.2.2 (P.1 + 1) b li true true), ⟨⟨hpa.1, by dsimp only; omega, hLi, by dsimp only; omega⟩, hsz2, hT4⟩, by dsimp only; omega, (by repeat' constructor), _, (by repeat' constructor)⟩
theorem pdqV_any (v : Value) (n : Nat) (hn : n ≤ 1099511627776) (D : Array Int) (a b limit : Nat) (hD : D.size = n) (hab : a ≤ b) (hb : b ≤ n) (hl : limit ≤ 64) (w : World) (hw : OK w (fpL [ownR v 34 1 n (ints .u64 D.toList)]) [ownR v 34 1 n (ints .u64 D.toList)] w) :
    Fn Tryz.prog 113 [v, .int .i64 (a : Int), .int .i64 (b : Int), .int .i64 (limit : Int)] [ownR v 34 1 n (ints .u64 D.toList)] w (fun _ : Unit => True) (fun _ => .tuple #[]) (fun _ => [ownR v 34 1 n (ints .u64 (pdq ltInt D a b limit true true).toList)]) := by
  have key : ∀ N, ∀ (D : Array Int) (a b limit : Nat), b - a = N → D.size = n → a ≤ b → b ≤ n → limit ≤ 64 → ∀ w, OK w (fpL [ownR v 34 1 n (ints .u64 D.toList)]) [ownR v 34 1 n (ints .u64 D.toList)] w →
      Fn Tryz.prog 113 [v, .int .i64 (a : Int), .int .i64 (b : Int), .int .i64 (limit : Int)] [ownR v 34 1 n (ints .u64 D.toList)] w (fun _ : Unit => True) (fun _ => .tuple #[]) (fun _ => [ownR v 34 1 n (ints .u64 (pdq ltInt D a b limit true true).toList)]) := by
    intro N
    induction N using Nat.strongRecOn with
    | ind N ih => exact fun D a b limit h1 h2 h3 h4 h5 w hw => pdqSV_any v n hn N ih D a b limit h1 h2 h3 h4 h5 w hw
  exact key (b - a) D a b limit rfl hD hab hb hl w hw
end Go.Proofs.YtbgimajbehodnaaGreatDoor

namespace Go.Proofs.YtbgimajbehodnaaGreatDoor
open Go Go.RowKit Go.Sort

/-- The list, ascending. -/
def asc (zs : List Int) : List Int := zs.mergeSort (fun x y => decide (x ≤ y))
theorem asc_perm (zs : List Int) : (asc zs).Perm zs := List.mergeSort_perm _ _
theorem asc_len (zs : List Int) : (asc zs).length = zs.length := (asc_perm zs).length_eq
theorem asc_sorted (zs : List Int) : (asc zs).Pairwise (fun x y => x ≤ y) := by
  have := List.pairwise_mergeSort (le := fun (x y : Int) => decide (x ≤ y)) (fun a b c h1 h2 => by simp at *; omega) (fun a b => by simp; omega) zs
  exact this.imp (fun h => by simpa using h)
theorem sortV_any (ao : Option Addr) (cap : Nat) (zs : List Int) (hn : zs.length ≤ 1099511627776) (w : World) (hw : OK w (fpL [ownR (.slice ao zs.length cap) 34 1 zs.length (ints .u64 zs)]) [ownR (.slice ao zs.length cap) 34 1 zs.length (ints .u64 zs)] w) :
    Fn Tryz.prog 89 [.slice ao zs.length cap] [ownR (.slice ao zs.length cap) 34 1 zs.length (ints .u64 zs)] w (fun _ : Unit => True) (fun _ => .tuple #[]) (fun _ => [ownR (.slice ao zs.length cap) 34 1 zs.length (ints .u64 (asc zs))]) := by
  have hs := sortInt zs
  unfold Go.Sort.sort at hs
  rw [List.size_toArray] at hs
  have hk : bitsLen zs.length ≤ 62 := (bitsLen_le_iff zs.length 62).2 (by omega)
  have key := fun w (h : OK w (fpL [ownR (.slice ao zs.length cap) 34 1 zs.length (ints .u64 zs)]) [ownR (.slice ao zs.length cap) 34 1 zs.length (ints .u64 zs)] w) => pdqV_any (.slice ao zs.length cap) zs.length hn zs.toArray 0 zs.length (bitsLen zs.length) (by simp) (Nat.zero_le _) (Nat.le_refl _) (by omega) w h
  rw [hs] at key
  refine enterF Tryz.func89 rfl Tryz.ntmps89 rfl hw ?_
  refine WC.seq ?_
  refine WC.region ?_
  refine WL.y (Yl.move rfl) rfl ?_
  refine WL.y (Yl.len un48 rfl) rfl ?_
  refine WL.y (Yl.assign rfl) rfl ?_
  refine WL.nil ?_
  refine WC.region ?_
  refine WL.y (Yl.move rfl) rfl ?_
  refine WL.y (Yl.move rfl) rfl ?_
  refine WL.y (Yl.move rfl) rfl ?_
  refine WL.y (Yl.conv un3 un180 rfl (show IntKind.u64.wrap (zs.length : Int) = (zs.length : Int) by rw [IntKind.wrap_u64]; omega)) rfl ?_
  refine WL.callC (xs := [.tmp 8]) (cap := []) rfl rfl en114 (by repeat' constructor) (fun w hw => len_any zs.length (by omega) w hw.left.here) rfl ?_
  rintro ⟨⟩ -
  refine WL.callC (xs := [.tmp 5, _, .tmp 6, .tmp 9]) (cap := []) rfl rfl en113 (by repeat' constructor) (fun w hw => key w hw.left.here) rfl ?_
  rintro ⟨⟩ -
  refine WL.nil ?_
  repeat (with_reducible (first | refine peelT ?_ | refine peelB ?_ | refine peelTX ?_ | refine peelBX ?_ | refine peelBN ?_ | refine peelBO rfl ?_))
  exact ret0 (.inl rfl) Tryz.results89 fun w' h => ⟨(), trivial, rfl, h.sub (by repeat' constructor)⟩
end Go.Proofs.YtbgimajbehodnaaGreatDoor
