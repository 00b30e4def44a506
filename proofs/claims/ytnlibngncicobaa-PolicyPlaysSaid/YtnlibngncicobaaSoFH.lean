/- Sorting rows of uint16: the partial insertion: the walk. -/
import Derived.Test.YtnlibngncicobaaSoEH
namespace Go.Proofs.Ytnlibngncicobaa
open Go Go.RowKit Go.Sort

theorem ltB (i j : Nat) : decide ((i : Int) < (j : Int)) = decide (i < j) := by
  rw [decide_eq_decide]
  omega
theorem ss_go {D : Array Int} {b i : Nat} (h : (decide ((i : Int) < (b : Int)) && !ltInt D[i]! D[i - 1]!) = true) : scanSorted ltInt D b i = scanSorted ltInt D b (i + 1) := by
  rw [ltB] at h
  conv => lhs; rw [scanSorted]
  rw [if_pos h]
theorem ss_stop {D : Array Int} {b i : Nat} (h : (decide ((i : Int) < (b : Int)) && !ltInt D[i]! D[i - 1]!) = false) : scanSorted ltInt D b i = i := by
  rw [ltB] at h
  rw [scanSorted, if_neg (ne_true_of_eq_false h)]
theorem and_lt {i j : Nat} {c : Bool} (h : (decide ((i : Int) < (j : Int)) && c) = true) : i < j := by
  rw [Bool.and_eq_true] at h
  have := of_decide_eq_true h.1
  omega
theorem ss_ge (D : Array Int) (b i : Nat) : i ≤ scanSorted ltInt D b i := by
  induction h : b - i using Nat.strongRecOn generalizing i with
  | ind m ih =>
    by_cases hc : (decide ((i : Int) < (b : Int)) && !ltInt D[i]! D[i - 1]!) = true
    · rw [ss_go hc]
      have := ih (b - (i + 1)) (by have := and_lt hc; omega) (i + 1) rfl
      omega
    · rw [ss_stop (by simpa using hc)]
      exact Nat.le_refl _
theorem ss_le {D : Array Int} {b i : Nat} (hi : i ≤ b) : scanSorted ltInt D b i ≤ b := by
  induction h : b - i using Nat.strongRecOn generalizing i with
  | ind m ih =>
    by_cases hc : (decide ((i : Int) < (b : Int)) && !ltInt D[i]! D[i - 1]!) = true
    · have := and_lt hc
      rw [ss_go hc]
      exact ih (b - (i + 1)) (by omega) (by omega) rfl
    · rw [ss_stop (by simpa using hc)]
      exact hi
theorem sd_go {D : Array Int} {j : Nat} (h : 1 ≤ j) (hl : ltInt D[j]! D[j - 1]! = true) : shiftDown ltInt j D = shiftDown ltInt (j - 1) (swp D j (j - 1)) := by
  cases j with
  | zero => omega
  | succ j =>
    replace hl : ltInt D[j + 1]! D[j]! = true := hl
    rw [shiftDown, if_neg (by rw [hl]; decide)]
    rfl
theorem sd_stop {D : Array Int} {j : Nat} (h : ¬ (1 ≤ j ∧ ltInt D[j]! D[j - 1]! = true)) : shiftDown ltInt j D = D := by
  cases j with
  | zero => rfl
  | succ j =>
    have hl : ltInt D[j + 1]! D[j]! = false := by
      cases e : ltInt D[j + 1]! D[j]! with
      | false => rfl
      | true => exact absurd ⟨by omega, e⟩ h
    rw [shiftDown, if_pos (by rw [hl]; rfl)]
theorem su_go {D : Array Int} {b j : Nat} (h : j < b) (hl : ltInt D[j]! D[j - 1]! = true) : shiftUp ltInt b j D = shiftUp ltInt b (j + 1) (swp D j (j - 1)) := by
  conv => lhs; rw [shiftUp]
  rw [if_pos h, if_neg (by rw [hl]; decide)]
theorem su_stop {D : Array Int} {b j : Nat} (h : ¬ (j < b ∧ ltInt D[j]! D[j - 1]! = true)) : shiftUp ltInt b j D = D := by
  rw [shiftUp]
  split
  · rename_i e
    have hl : ltInt D[j]! D[j - 1]! = false := by
      cases e2 : ltInt D[j]! D[j - 1]! with
      | false => rfl
      | true => exact absurd ⟨e, e2⟩ h
    rw [if_pos (by rw [hl]; rfl)]
  · rfl
theorem sd_size : ∀ (j : Nat) (D : Array Int), (shiftDown ltInt j D).size = D.size
  | 0, D => rfl
  | j + 1, D => by
    rw [shiftDown]
    split
    · rfl
    · rw [sd_size j, swp_size]
theorem su_size (b j : Nat) (D : Array Int) : (shiftUp ltInt b j D).size = D.size := by
  induction h : b - j using Nat.strongRecOn generalizing j D with
  | ind m ih =>
    by_cases hc : j < b ∧ ltInt D[j]! D[j - 1]! = true
    · rw [su_go hc.1 hc.2, ih (b - (j + 1)) (by omega) _ _ rfl, swp_size]
    · rw [su_stop hc]
/-- One step of the five. -/
def pinD (a : Nat) (D : Array Int) (I : Nat) : Array Int := if I - a ≥ 2 then shiftDown ltInt (I - 1) (swp D I (I - 1)) else swp D I (I - 1)
def pinU (a b : Nat) (D : Array Int) (I : Nat) : Array Int := if b - I ≥ 2 then shiftUp ltInt b (I + 1) (pinD a D I) else pinD a D I
theorem pinD_size (a : Nat) (D : Array Int) (I : Nat) : (pinD a D I).size = D.size := by
  unfold pinD
  split
  · rw [sd_size, swp_size]
  · rw [swp_size]
theorem pinU_size (a b : Nat) (D : Array Int) (I : Nat) : (pinU a b D I).size = D.size := by
  unfold pinU
  split
  · rw [su_size, pinD_size]
  · rw [pinD_size]
theorem pin_eq (a b s i : Nat) (D : Array Int) : partialIns ltInt a b (s + 1) i D = if scanSorted ltInt D b i = b then (D, true) else if b - a < 50 then (D, false) else partialIns ltInt a b s (scanSorted ltInt D b i) (pinU a b D (scanSorted ltInt D b i)) := by
  rw [partialIns]
  rfl

set_option maxHeartbeats 3200000 in
set_option maxRecDepth 100000 in
theorem pinH_any (v : Value) (n : Nat) (D : Array Int) (a b : Nat) (hD : D.size = n) (hn : n ≤ 1099511627776) (hab : a < b) (hb : b ≤ n) (w : World) (hw : OK w (fpL [ownR v 22 1 n (ints .u16 D.toList)]) [ownR v 22 1 n (ints .u16 D.toList)] w) :
    Fn Try.prog 87 [v, .int .i64 (a : Int), .int .i64 (b : Int)] [ownR v 22 1 n (ints .u16 D.toList)] w (fun _ : Unit => True) (fun _ => .bool (partialInsertionSort ltInt D a b).2) (fun _ => [ownR v 22 1 n (ints .u16 (partialInsertionSort ltInt D a b).1.toList)]) := by
  have hF := sl_form (hw.get (r := ownR v 22 1 n (ints .u16 D.toList)) .head)
  unfold partialInsertionSort
  obtain ⟨T, hT⟩ : ∃ T, partialIns ltInt a b 5 (a + 1) D = T := ⟨_, rfl⟩
  rw [hT]
  refine enterF Try.func87 rfl Try.ntmps87 rfl hw ?_
  refine WC.seq ?_
  refine WC.region ?_
  refine WL.y (Yl.assign rfl) rfl ?_
  refine WL.nil ?_
  refine WC.seq ?_
  refine WC.region ?_
  refine WL.y (Yl.move rfl) rfl ?_
  refine WL.y (Yl.add rfl rfl (IntWalk.i64_in _ (by omega))) rfl ?_
  refine WL.y (Yl.assign rfl) rfl ?_
  refine WL.nil ?_
  refine WC.seq ?_
  refine WC.seq ?_
  refine WC.region ?_
  refine WL.y (Yl.assign rfl) rfl ?_
  refine WL.nil ?_
  refine WC.block ?_
  refine WC.loop (α := Nat × Nat × Array Int) (fun p => [(0, v), (1, .int .i64 (a : Int)), (2, .int .i64 (b : Int)), (7, .int .i64 (p.2.1 : Int)), (8, .int .i64 (p.1 : Int))]) (fun p => [ownR v 22 1 n (ints .u16 p.2.2.toList)]) (fun p => p.1 ≤ 5 ∧ (a < p.2.1 ∧ p.2.1 ≤ b) ∧ p.2.2.size = n ∧ partialIns ltInt a b (5 - p.1) p.2.1 p.2.2 = T) (fun p => 5 - p.1) (0, a + 1, D) ⟨by dsimp only; omega, by dsimp only; omega, hD, hT⟩ ⟨(by repeat (first | exact Sub.nil | refine Sub.cons rfl ?_)), _, (by repeat (first | exact TakeL.nil | (apply TakeL.cons; · repeat (first | exact Take1.head | apply Take1.tail))))⟩ ?_
  rintro ⟨k, i, G⟩ ⟨hk, ⟨hai, hib⟩, hG, hTG⟩
  dsimp only at hk hai hib hG hTG ⊢
  refine WC.seq ?_
  refine WC.seq ?_
  refine WC.region ?_
  refine WL.y (Yl.move rfl) rfl ?_
  refine WL.y (Yl.lss rfl rfl) rfl ?_
  refine WL.nil ?_
  refine WC.condD rfl (fun g14 => ?_) (fun g14 => ?_)
  · refine WC.skip ?_
    refine WC.seq ?_
    refine WC.block ?_
    refine WC.seq ?_
    refine WC.block ?_
    have hk5 : k < 5 := by omega
    rw [show 5 - k = (5 - (k + 1)) + 1 by omega, pin_eq] at hTG
    have hge := ss_ge G b i
    have hle := ss_le (D := G) hib
    obtain ⟨I, hI⟩ : ∃ I, scanSorted ltInt G b i = I := ⟨_, rfl⟩
    rw [hI] at hTG hge hle
    have hpd := pinD_size a G I
    have hpu := pinU_size a b G I
    refine WC.loop (α := Nat) (fun p => [(0, v), (1, .int .i64 (a : Int)), (2, .int .i64 (b : Int)), (7, .int .i64 (p : Int)), (8, .int .i64 (k : Int))]) (fun _ => [ownR v 22 1 n (ints .u16 G.toList)]) (fun p => (a < p ∧ p ≤ b) ∧ scanSorted ltInt G b p = I) (fun p => b - p) i ⟨⟨hai, hib⟩, hI⟩ ⟨(by repeat (first | exact Sub.nil | refine Sub.cons rfl ?_)), _, (by repeat (first | exact TakeL.nil | (apply TakeL.cons; · repeat (first | exact Take1.head | apply Take1.tail))))⟩ ?_
    rintro p ⟨⟨hap, hpb⟩, hpI⟩
    refine WC.seq ?_
    refine WC.midX (α := Unit) (fun _ => [(0, v), (1, .int .i64 (a : Int)), (2, .int .i64 (b : Int)), (7, .int .i64 (p : Int)), (8, .int .i64 (k : Int)), (32, .bool (decide ((p : Int) < (b : Int)) && !ltInt G[p]! G[p - 1]!))]) (fun _ => [ownR v 22 1 n (ints .u16 G.toList)]) (fun _ => True) ?_ ?_
    · refine WC.drawAny (Hs := [ownR v 22 1 n (ints .u16 G.toList)]) mixed (by kernel_rfl) ⟨_, (by repeat (first | exact TakeL.nil | (apply TakeL.cons; · repeat (first | exact Take1.head | apply Take1.tail))))⟩ ?_
      refine WD.take 0 rfl (by kernel_rfl) (by kernel_rfl) (by kernel_rfl) rfl rfl (Yl.move rfl) rfl ?_
      refine WD.take 1 rfl (by kernel_rfl) (by kernel_rfl) (by kernel_rfl) rfl rfl (Yl.move rfl) rfl ?_
      refine WD.take 2 rfl (by kernel_rfl) (by kernel_rfl) (by kernel_rfl) rfl rfl (Yl.lss rfl rfl) rfl ?_
      refine WD.take 3 rfl (by kernel_rfl) (by kernel_rfl) (by kernel_rfl) rfl rfl (Yl.move rfl) rfl ?_
      refine WD.both (t := 20) rfl (fun g20 => ?_) (fun g20 => ?_)
      · have hpj : p < b := by have := of_decide_eq_true g20; omega
        refine WD.takeOn 4 rfl (by kernel_rfl) (by kernel_rfl) (by kernel_rfl) rfl rfl rfl rfl (Yl.move rfl) rfl ?_
        refine WD.takeOn 5 rfl (by kernel_rfl) (by kernel_rfl) (by kernel_rfl) rfl rfl rfl rfl (Yl.move rfl) rfl ?_
        refine WD.takeOn 6 rfl (by kernel_rfl) (by kernel_rfl) (by kernel_rfl) rfl rfl rfl rfl (Yl.indexF un65 sz22 rfl rfl hF rfl (by omega)) rfl ?_
        refine WD.takeOn 7 rfl (by kernel_rfl) (by kernel_rfl) (by kernel_rfl) rfl rfl rfl rfl (Yl.loadE on22 rfl (Reads.own (by repeat (first | exact Take1.head | apply Take1.tail))) (so_getH (by omega))) rfl ?_
        refine WD.takeOn 8 rfl (by kernel_rfl) (by kernel_rfl) (by kernel_rfl) rfl rfl rfl rfl (Yl.move rfl) rfl ?_
        refine WD.takeOn 9 rfl (by kernel_rfl) (by kernel_rfl) (by kernel_rfl) rfl rfl rfl rfl (Yl.move rfl) rfl ?_
        refine WD.takeOn 10 rfl (by kernel_rfl) (by kernel_rfl) (by kernel_rfl) rfl rfl rfl rfl (Yl.sub rfl rfl (IntWalk.i64_in _ (by omega))) rfl ?_
        refine WD.say (t := 27) (v' := .int .i64 ((p - 1 : Nat) : Int)) rfl (by (refine congrArg _ ?_; omega)) ?_
        refine WD.takeOn 11 rfl (by kernel_rfl) (by kernel_rfl) (by kernel_rfl) rfl rfl rfl rfl (Yl.indexF un65 sz22 rfl rfl hF rfl (by omega)) rfl ?_
        refine WD.takeOn 12 rfl (by kernel_rfl) (by kernel_rfl) (by kernel_rfl) rfl rfl rfl rfl (Yl.loadE on22 rfl (Reads.own (by repeat (first | exact Take1.head | apply Take1.tail))) (so_getH (by omega))) rfl ?_
        refine WD.one 13 (by kernel_rfl) ?_
        refine WO.callC (xs := [.tmp 24, .tmp 29]) (cap := []) rfl (.on rfl rfl) rfl rfl en88 (by repeat (first | exact TakeL.nil | (apply TakeL.cons; · repeat (first | exact Take1.head | apply Take1.tail)))) (fun w hw => lessH_any _ _ w hw.left.here) rfl (fun _ => ⟨_, (by repeat (first | exact TakeL.nil | (apply TakeL.cons; · repeat (first | exact Take1.head | apply Take1.tail))))⟩) ?_
        rintro ⟨⟩ -
        refine WD.takeOn 14 rfl (by kernel_rfl) (by kernel_rfl) (by kernel_rfl) rfl rfl rfl rfl (Yl.not rfl) rfl ?_
        refine WD.take 15 rfl (by kernel_rfl) (by kernel_rfl) (by kernel_rfl) rfl rfl (Yl.pickT rfl rfl) rfl ?_
        refine WD.say (t := 32) (v' := .bool (decide ((p : Int) < (b : Int)) && !ltInt G[p]! G[p - 1]!)) rfl (by (rw [g20]; rfl)) ?_
        refine WD.done (by kernel_rfl) ?_
        exact ⟨rfl, (), trivial, (by repeat (first | exact Sub.nil | refine Sub.cons rfl ?_)), _, (by repeat (first | exact TakeL.nil | (apply TakeL.cons; · repeat (first | exact Take1.head | apply Take1.tail))))⟩
      · refine WD.takeOff 4 rfl (by kernel_rfl) (by kernel_rfl) (by kernel_rfl) rfl rfl rfl rfl rfl rfl ?_
        refine WD.takeOff 5 rfl (by kernel_rfl) (by kernel_rfl) (by kernel_rfl) rfl rfl rfl rfl rfl rfl ?_
        refine WD.takeOff 6 rfl (by kernel_rfl) (by kernel_rfl) (by kernel_rfl) rfl rfl rfl rfl rfl rfl ?_
        refine WD.takeOff 7 rfl (by kernel_rfl) (by kernel_rfl) (by kernel_rfl) rfl rfl rfl rfl rfl rfl ?_
        refine WD.takeOff 8 rfl (by kernel_rfl) (by kernel_rfl) (by kernel_rfl) rfl rfl rfl rfl rfl rfl ?_
        refine WD.takeOff 9 rfl (by kernel_rfl) (by kernel_rfl) (by kernel_rfl) rfl rfl rfl rfl rfl rfl ?_
        refine WD.takeOff 10 rfl (by kernel_rfl) (by kernel_rfl) (by kernel_rfl) rfl rfl rfl rfl rfl rfl ?_
        refine WD.takeOff 11 rfl (by kernel_rfl) (by kernel_rfl) (by kernel_rfl) rfl rfl rfl rfl rfl rfl ?_
        refine WD.takeOff 12 rfl (by kernel_rfl) (by kernel_rfl) (by kernel_rfl) rfl rfl rfl rfl rfl rfl ?_
        refine WD.one 13 (by kernel_rfl) ?_
        refine WO.off rfl rfl rfl rfl rfl rfl rfl ?_
        refine WD.takeOff 14 rfl (by kernel_rfl) (by kernel_rfl) (by kernel_rfl) rfl rfl rfl rfl rfl rfl ?_
        refine WD.take 15 rfl (by kernel_rfl) (by kernel_rfl) (by kernel_rfl) rfl rfl (Yl.pickF rfl rfl) rfl ?_
        refine WD.say (t := 32) (v' := .bool (decide ((p : Int) < (b : Int)) && !ltInt G[p]! G[p - 1]!)) rfl (by (rw [g20]; rfl)) ?_
        refine WD.done (by kernel_rfl) ?_
        exact ⟨rfl, (), trivial, (by repeat (first | exact Sub.nil | refine Sub.cons rfl ?_)), _, (by repeat (first | exact TakeL.nil | (apply TakeL.cons; · repeat (first | exact Take1.head | apply Take1.tail))))⟩
    · rintro ⟨⟩ -
      refine WC.cond rfl (fun g32 => ?_) (fun g32 => ?_)
      · refine WC.skip ?_
        refine WC.block ?_
        have hpj := and_lt g32
        refine WC.region ?_
        refine WL.y (Yl.move rfl) rfl ?_
        refine WL.y (Yl.add rfl rfl (IntWalk.i64_in _ (by omega))) rfl ?_
        refine WL.y (Yl.assign rfl) rfl ?_
        refine WL.nil ?_
        exact ⟨rfl, p + 1, ⟨by omega, by rw [← ss_go g32]; exact hpI⟩, by omega, (by repeat (first | exact Sub.nil | refine Sub.cons rfl ?_)), _, (by repeat (first | exact TakeL.nil | (apply TakeL.cons; · repeat (first | exact Take1.head | apply Take1.tail))))⟩
      · refine WC.exit ?_
        refine WC.seq ?_
        refine WC.seq ?_
        have hpe : p = I := by rw [← hpI]; exact (ss_stop g32).symm
        subst hpe
        refine WC.region ?_
        refine WL.y (Yl.move rfl) rfl ?_
        refine WL.y (Yl.move rfl) rfl ?_
        refine WL.y (Yl.eql rfl rfl) rfl ?_
        refine WL.nil ?_
        refine WC.condD rfl (fun g37 => ?_) (fun g37 => ?_)
        · refine WC.seq ?_
          have hpb2 : p = b := by omega
          rw [if_pos hpb2] at hTG
          subst hTG
          refine WC.region ?_
          refine WL.y (Yl.assign rfl) rfl ?_
          refine WL.nil ?_
          refine WC.ret ?_
          repeat (first | (with_reducible refine peelT ?_) | (with_reducible refine peelB ?_) | (with_reducible refine peelTX ?_) | (with_reducible refine peelBX ?_) | (with_reducible refine peelBN ?_) | (with_reducible refine peelBO rfl ?_))
          exact ret1 (.inr rfl) Try.results87 rfl fun w' h => ⟨(), trivial, rfl, h.sub (by repeat (first | exact TakeL.nil | (apply TakeL.cons; · repeat (first | exact Take1.head | apply Take1.tail))))⟩
        · refine WC.skip ?_
          refine WC.seq ?_
          refine WC.seq ?_
          have hpb2 : ¬ p = b := by omega
          rw [if_neg hpb2] at hTG
          refine WC.region ?_
          refine WL.y (Yl.move rfl) rfl ?_
          refine WL.y (Yl.move rfl) rfl ?_
          refine WL.y (Yl.sub rfl rfl (IntWalk.i64_in _ (by omega))) rfl ?_
          refine WL.y (Yl.lss rfl rfl) rfl ?_
          refine WL.nil ?_
          refine WC.condD rfl (fun g41 => ?_) (fun g41 => ?_)
          · refine WC.seq ?_
            have hb50 : b - a < 50 := by omega
            rw [if_pos hb50] at hTG
            subst hTG
            refine WC.region ?_
            refine WL.y (Yl.assign rfl) rfl ?_
            refine WL.nil ?_
            refine WC.ret ?_
            repeat (first | (with_reducible refine peelT ?_) | (with_reducible refine peelB ?_) | (with_reducible refine peelTX ?_) | (with_reducible refine peelBX ?_) | (with_reducible refine peelBN ?_) | (with_reducible refine peelBO rfl ?_))
            exact ret1 (.inr rfl) Try.results87 rfl fun w' h => ⟨(), trivial, rfl, h.sub (by repeat (first | exact TakeL.nil | (apply TakeL.cons; · repeat (first | exact Take1.head | apply Take1.tail))))⟩
          · refine WC.skip ?_
            refine WC.seq ?_
            have hb50 : ¬ b - a < 50 := by omega
            rw [if_neg hb50] at hTG
            have hsw := swp_size G p (p - 1)
            refine WC.drawAny (Hs := []) mixed (by kernel_rfl) ⟨_, (by repeat (first | exact TakeL.nil | (apply TakeL.cons; · repeat (first | exact Take1.head | apply Take1.tail))))⟩ ?_
            refine WD.take 0 rfl (by kernel_rfl) (by kernel_rfl) (by kernel_rfl) rfl rfl (Yl.move rfl) rfl ?_
            refine WD.take 1 rfl (by kernel_rfl) (by kernel_rfl) (by kernel_rfl) rfl rfl (Yl.move rfl) rfl ?_
            refine WD.take 2 rfl (by kernel_rfl) (by kernel_rfl) (by kernel_rfl) rfl rfl (Yl.move rfl) rfl ?_
            refine WD.take 3 rfl (by kernel_rfl) (by kernel_rfl) (by kernel_rfl) rfl rfl (Yl.move rfl) rfl ?_
            refine WD.take 4 rfl (by kernel_rfl) (by kernel_rfl) (by kernel_rfl) rfl rfl (Yl.sub rfl rfl (IntWalk.i64_in _ (by omega))) rfl ?_
            refine WD.say (t := 46) (v' := .int .i64 ((p - 1 : Nat) : Int)) rfl (by (refine congrArg _ ?_; omega)) ?_
            refine WD.take 5 rfl (by kernel_rfl) (by kernel_rfl) (by kernel_rfl) rfl rfl (Yl.move rfl) rfl ?_
            refine WD.take 6 rfl (by kernel_rfl) (by kernel_rfl) (by kernel_rfl) rfl rfl (Yl.move rfl) rfl ?_
            refine WD.take 7 rfl (by kernel_rfl) (by kernel_rfl) (by kernel_rfl) rfl rfl (Yl.sub rfl rfl (IntWalk.i64_in _ (by omega))) rfl ?_
            refine WD.say (t := 49) (v' := .int .i64 ((p - 1 : Nat) : Int)) rfl (by (refine congrArg _ ?_; omega)) ?_
            refine WD.take 8 rfl (by kernel_rfl) (by kernel_rfl) (by kernel_rfl) rfl rfl (Yl.indexF un65 sz22 rfl rfl hF rfl (by omega)) rfl ?_
            refine WD.take 10 rfl (by kernel_rfl) (by kernel_rfl) (by kernel_rfl) rfl rfl (Yl.move rfl) rfl ?_
            refine WD.take 11 rfl (by kernel_rfl) (by kernel_rfl) (by kernel_rfl) rfl rfl (Yl.move rfl) rfl ?_
            refine WD.take 12 rfl (by kernel_rfl) (by kernel_rfl) (by kernel_rfl) rfl rfl (Yl.indexF un65 sz22 rfl rfl hF rfl (by omega)) rfl ?_
            refine WD.two 9 13 (by kernel_rfl) ?_ ?_
            · refine WO.y rfl rfl .no (Yl.loadE on22 rfl (Reads.own (by repeat (first | exact Take1.head | apply Take1.tail))) (so_getH (by omega))) rfl ?_
              refine WD.one 13 (by kernel_rfl) ?_
              refine WO.y rfl rfl .no (Yl.loadE on22 rfl (Reads.own (by repeat (first | exact Take1.head | apply Take1.tail))) (so_getH (by omega))) rfl ?_
              refine WD.take 14 rfl (by kernel_rfl) (by kernel_rfl) (by kernel_rfl) rfl rfl (Yl.indexF un65 sz22 rfl rfl hF rfl (by omega)) rfl ?_
              refine WD.one 15 (by kernel_rfl) ?_
              refine WO.sto rfl rfl .no (Sto.elem (j := p) sz22 rfl rfl (by repeat (first | exact Take1.head | apply Take1.tail)) rfl (by omega) rfl) ⟨_, (by repeat (first | exact TakeL.nil | (apply TakeL.cons; · repeat (first | exact Take1.head | apply Take1.tail))))⟩ ?_
              refine WD.take 16 rfl (by kernel_rfl) (by kernel_rfl) (by kernel_rfl) rfl rfl (Yl.indexF un65 sz22 rfl rfl hF rfl (by omega)) rfl ?_
              refine WD.one 17 (by kernel_rfl) ?_
              refine WO.sto rfl rfl .no (Sto.elem (j := p - 1) (cs' := ints .u16 (swp G (p) (p - 1)).toList) sz22 rfl rfl (by repeat (first | exact Take1.head | apply Take1.tail)) rfl (by omega) (so_swpH G (p) (p - 1))) ⟨_, (by repeat (first | exact TakeL.nil | (apply TakeL.cons; · repeat (first | exact Take1.head | apply Take1.tail))))⟩ ?_
              refine WD.done (by kernel_rfl) ?_
              refine WC.midX (α := Unit) (fun _ => [(0, v), (1, .int .i64 (a : Int)), (2, .int .i64 (b : Int)), (7, .int .i64 (p : Int)), (8, .int .i64 (k : Int))]) (fun _ => [ownR v 22 1 n (ints .u16 (pinD a G p).toList)]) (fun _ => True) ?_ ?_
              · refine WC.seq ?_
                refine WC.region ?_
                refine WL.y (Yl.move rfl) rfl ?_
                refine WL.y (Yl.move rfl) rfl ?_
                refine WL.y (Yl.sub rfl rfl (IntWalk.i64_in _ (by omega))) rfl ?_
                refine WL.y (Yl.geq rfl rfl) rfl ?_
                refine WL.nil ?_
                refine WC.condD rfl (fun g61 => ?_) (fun g61 => ?_)
                · refine WC.seq ?_
                  refine WC.region ?_
                  refine WL.y (Yl.move rfl) rfl ?_
                  refine WL.y (Yl.sub rfl rfl (IntWalk.i64_in _ (by omega))) rfl ?_
                  refine WL.say (t := 63) (v' := .int .i64 ((p - 1 : Nat) : Int)) rfl (by (refine congrArg _ ?_; omega)) ?_
                  refine WL.y (Yl.assign rfl) rfl ?_
                  refine WL.nil ?_
                  refine WC.block ?_
                  have hia : p - a ≥ 2 := by omega
                  obtain ⟨V, hV⟩ : ∃ V, shiftDown ltInt (p - 1) (swp G p (p - 1)) = V := ⟨_, rfl⟩
                  have hVe : pinD a G p = V := by unfold pinD; rw [if_pos hia]; exact hV
                  rw [hVe]
                  refine WC.loop (α := Nat × Array Int) (fun z => [(0, v), (1, .int .i64 (a : Int)), (2, .int .i64 (b : Int)), (7, .int .i64 (p : Int)), (8, .int .i64 (k : Int)), (9, .int .i64 (z.1 : Int))]) (fun z => [ownR v 22 1 n (ints .u16 z.2.toList)]) (fun z => z.1 < n ∧ z.2.size = n ∧ shiftDown ltInt z.1 z.2 = V) (fun z => z.1) (p - 1, swp G p (p - 1)) ⟨by dsimp only; omega, by dsimp only; omega, hV⟩ ⟨(by repeat (first | exact Sub.nil | refine Sub.cons rfl ?_)), _, (by repeat (first | exact TakeL.nil | (apply TakeL.cons; · repeat (first | exact Take1.head | apply Take1.tail))))⟩ ?_
                  rintro ⟨j, E⟩ ⟨hj, hE, hVE⟩
                  dsimp only at hj hE hVE ⊢
                  refine WC.seq ?_
                  refine WC.seq ?_
                  refine WC.region ?_
                  refine WL.y (Yl.move rfl) rfl ?_
                  refine WL.y (Yl.geq rfl rfl) rfl ?_
                  refine WL.nil ?_
                  refine WC.condD rfl (fun g65 => ?_) (fun g65 => ?_)
                  · refine WC.skip ?_
                    refine WC.seq ?_
                    refine WC.block ?_
                    refine WC.seq ?_
                    refine WC.seq ?_
                    have hj1 : 1 ≤ j := by omega
                    refine WC.drawAny (Hs := [ownR v 22 1 n (ints .u16 E.toList)]) mixed (by kernel_rfl) ⟨_, (by repeat (first | exact TakeL.nil | (apply TakeL.cons; · repeat (first | exact Take1.head | apply Take1.tail))))⟩ ?_
                    refine WD.take 0 rfl (by kernel_rfl) (by kernel_rfl) (by kernel_rfl) rfl rfl (Yl.move rfl) rfl ?_
                    refine WD.take 1 rfl (by kernel_rfl) (by kernel_rfl) (by kernel_rfl) rfl rfl (Yl.move rfl) rfl ?_
                    refine WD.take 2 rfl (by kernel_rfl) (by kernel_rfl) (by kernel_rfl) rfl rfl (Yl.indexF un65 sz22 rfl rfl hF rfl (by omega)) rfl ?_
                    refine WD.take 3 rfl (by kernel_rfl) (by kernel_rfl) (by kernel_rfl) rfl rfl (Yl.loadE on22 rfl (Reads.own (by repeat (first | exact Take1.head | apply Take1.tail))) (so_getH (by omega))) rfl ?_
                    refine WD.take 4 rfl (by kernel_rfl) (by kernel_rfl) (by kernel_rfl) rfl rfl (Yl.move rfl) rfl ?_
                    refine WD.take 5 rfl (by kernel_rfl) (by kernel_rfl) (by kernel_rfl) rfl rfl (Yl.move rfl) rfl ?_
                    refine WD.take 6 rfl (by kernel_rfl) (by kernel_rfl) (by kernel_rfl) rfl rfl (Yl.sub rfl rfl (IntWalk.i64_in _ (by omega))) rfl ?_
                    refine WD.say (t := 74) (v' := .int .i64 ((j - 1 : Nat) : Int)) rfl (by (refine congrArg _ ?_; omega)) ?_
                    refine WD.take 7 rfl (by kernel_rfl) (by kernel_rfl) (by kernel_rfl) rfl rfl (Yl.indexF un65 sz22 rfl rfl hF rfl (by omega)) rfl ?_
                    refine WD.take 8 rfl (by kernel_rfl) (by kernel_rfl) (by kernel_rfl) rfl rfl (Yl.loadE on22 rfl (Reads.own (by repeat (first | exact Take1.head | apply Take1.tail))) (so_getH (by omega))) rfl ?_
                    refine WD.one 9 (by kernel_rfl) ?_
                    refine WO.callC (xs := [.tmp 71, .tmp 76]) (cap := []) rfl .no rfl rfl en88 (by repeat (first | exact TakeL.nil | (apply TakeL.cons; · repeat (first | exact Take1.head | apply Take1.tail)))) (fun w hw => lessH_any _ _ w hw.left.here) rfl (fun _ => ⟨_, (by repeat (first | exact TakeL.nil | (apply TakeL.cons; · repeat (first | exact Take1.head | apply Take1.tail))))⟩) ?_
                    rintro ⟨⟩ -
                    refine WD.take 10 rfl (by kernel_rfl) (by kernel_rfl) (by kernel_rfl) rfl rfl (Yl.not rfl) rfl ?_
                    refine WD.done (by kernel_rfl) ?_
                    refine WC.cond rfl (fun g78 => ?_) (fun g78 => ?_)
                    · refine WC.exit ?_
                      first
                      | (have hj0 : ¬ 1 ≤ j := by omega
                         have hst : shiftDown ltInt j E = E := sd_stop (fun e => hj0 e.1)
                         rw [hst] at hVE
                         subst hVE
                         exact ⟨rfl, (), trivial, (by repeat (first | exact Sub.nil | refine Sub.cons rfl ?_)), _, (by repeat (first | exact TakeL.nil | (apply TakeL.cons; · repeat (first | exact Take1.head | apply Take1.tail))))⟩)
                      | (have hst : shiftDown ltInt j E = E := sd_stop (fun e => by rw [e.2] at g78; cases g78)
                         rw [hst] at hVE
                         subst hVE
                         exact ⟨rfl, (), trivial, (by repeat (first | exact Sub.nil | refine Sub.cons rfl ?_)), _, (by repeat (first | exact TakeL.nil | (apply TakeL.cons; · repeat (first | exact Take1.head | apply Take1.tail))))⟩)
                      | (have hia : ¬ p - a ≥ 2 := by omega
                         rw [show pinD a G p = swp G p (p - 1) from if_neg hia]
                         exact ⟨rfl, (), trivial, (by repeat (first | exact Sub.nil | refine Sub.cons rfl ?_)), _, (by repeat (first | exact TakeL.nil | (apply TakeL.cons; · repeat (first | exact Take1.head | apply Take1.tail))))⟩)
                    · refine WC.skip ?_
                      have hlt : ltInt E[j]! E[j - 1]! = true := by simpa using g78
                      rw [sd_go hj1 hlt] at hVE
                      refine WC.drawAny (Hs := []) mixed (by kernel_rfl) ⟨_, (by repeat (first | exact TakeL.nil | (apply TakeL.cons; · repeat (first | exact Take1.head | apply Take1.tail))))⟩ ?_
                      refine WD.take 0 rfl (by kernel_rfl) (by kernel_rfl) (by kernel_rfl) rfl rfl (Yl.move rfl) rfl ?_
                      refine WD.take 1 rfl (by kernel_rfl) (by kernel_rfl) (by kernel_rfl) rfl rfl (Yl.move rfl) rfl ?_
                      refine WD.take 2 rfl (by kernel_rfl) (by kernel_rfl) (by kernel_rfl) rfl rfl (Yl.move rfl) rfl ?_
                      refine WD.take 3 rfl (by kernel_rfl) (by kernel_rfl) (by kernel_rfl) rfl rfl (Yl.move rfl) rfl ?_
                      refine WD.take 4 rfl (by kernel_rfl) (by kernel_rfl) (by kernel_rfl) rfl rfl (Yl.sub rfl rfl (IntWalk.i64_in _ (by omega))) rfl ?_
                      refine WD.say (t := 83) (v' := .int .i64 ((j - 1 : Nat) : Int)) rfl (by (refine congrArg _ ?_; omega)) ?_
                      refine WD.take 5 rfl (by kernel_rfl) (by kernel_rfl) (by kernel_rfl) rfl rfl (Yl.move rfl) rfl ?_
                      refine WD.take 6 rfl (by kernel_rfl) (by kernel_rfl) (by kernel_rfl) rfl rfl (Yl.move rfl) rfl ?_
                      refine WD.take 7 rfl (by kernel_rfl) (by kernel_rfl) (by kernel_rfl) rfl rfl (Yl.sub rfl rfl (IntWalk.i64_in _ (by omega))) rfl ?_
                      refine WD.say (t := 86) (v' := .int .i64 ((j - 1 : Nat) : Int)) rfl (by (refine congrArg _ ?_; omega)) ?_
                      refine WD.take 8 rfl (by kernel_rfl) (by kernel_rfl) (by kernel_rfl) rfl rfl (Yl.indexF un65 sz22 rfl rfl hF rfl (by omega)) rfl ?_
                      refine WD.take 10 rfl (by kernel_rfl) (by kernel_rfl) (by kernel_rfl) rfl rfl (Yl.move rfl) rfl ?_
                      refine WD.take 11 rfl (by kernel_rfl) (by kernel_rfl) (by kernel_rfl) rfl rfl (Yl.move rfl) rfl ?_
                      refine WD.take 12 rfl (by kernel_rfl) (by kernel_rfl) (by kernel_rfl) rfl rfl (Yl.indexF un65 sz22 rfl rfl hF rfl (by omega)) rfl ?_
                      refine WD.two 9 13 (by kernel_rfl) ?_ ?_
                      · refine WO.y rfl rfl .no (Yl.loadE on22 rfl (Reads.own (by repeat (first | exact Take1.head | apply Take1.tail))) (so_getH (by omega))) rfl ?_
                        refine WD.one 13 (by kernel_rfl) ?_
                        refine WO.y rfl rfl .no (Yl.loadE on22 rfl (Reads.own (by repeat (first | exact Take1.head | apply Take1.tail))) (so_getH (by omega))) rfl ?_
                        refine WD.take 14 rfl (by kernel_rfl) (by kernel_rfl) (by kernel_rfl) rfl rfl (Yl.indexF un65 sz22 rfl rfl hF rfl (by omega)) rfl ?_
                        refine WD.one 15 (by kernel_rfl) ?_
                        refine WO.sto rfl rfl .no (Sto.elem (j := j) sz22 rfl rfl (by repeat (first | exact Take1.head | apply Take1.tail)) rfl (by omega) rfl) ⟨_, (by repeat (first | exact TakeL.nil | (apply TakeL.cons; · repeat (first | exact Take1.head | apply Take1.tail))))⟩ ?_
                        refine WD.take 16 rfl (by kernel_rfl) (by kernel_rfl) (by kernel_rfl) rfl rfl (Yl.indexF un65 sz22 rfl rfl hF rfl (by omega)) rfl ?_
                        refine WD.one 17 (by kernel_rfl) ?_
                        refine WO.sto rfl rfl .no (Sto.elem (j := j - 1) (cs' := ints .u16 (swp E (j) (j - 1)).toList) sz22 rfl rfl (by repeat (first | exact Take1.head | apply Take1.tail)) rfl (by omega) (so_swpH E (j) (j - 1))) ⟨_, (by repeat (first | exact TakeL.nil | (apply TakeL.cons; · repeat (first | exact Take1.head | apply Take1.tail))))⟩ ?_
                        refine WD.done (by kernel_rfl) ?_
                        refine WC.region ?_
                        refine WL.y (Yl.move rfl) rfl ?_
                        refine WL.y (Yl.sub rfl rfl (IntWalk.i64_in _ (by omega))) rfl ?_
                        refine WL.say (t := 67) (v' := .int .i64 ((j - 1 : Nat) : Int)) rfl (by (refine congrArg _ ?_; omega)) ?_
                        refine WL.y (Yl.assign rfl) rfl ?_
                        refine WL.nil ?_
                        exact ⟨rfl, (j - 1, swp E j (j - 1)), ⟨by dsimp only; omega, by dsimp only; rw [swp_size]; exact hE, hVE⟩, by dsimp only; omega, (by repeat (first | exact Sub.nil | refine Sub.cons rfl ?_)), _, (by repeat (first | exact TakeL.nil | (apply TakeL.cons; · repeat (first | exact Take1.head | apply Take1.tail))))⟩
                      · refine WO.y rfl rfl .no (Yl.loadE on22 rfl (Reads.own (by repeat (first | exact Take1.head | apply Take1.tail))) (so_getH (by omega))) rfl ?_
                        refine WD.one 9 (by kernel_rfl) ?_
                        refine WO.y rfl rfl .no (Yl.loadE on22 rfl (Reads.own (by repeat (first | exact Take1.head | apply Take1.tail))) (so_getH (by omega))) rfl ?_
                        refine WD.take 14 rfl (by kernel_rfl) (by kernel_rfl) (by kernel_rfl) rfl rfl (Yl.indexF un65 sz22 rfl rfl hF rfl (by omega)) rfl ?_
                        refine WD.one 15 (by kernel_rfl) ?_
                        refine WO.sto rfl rfl .no (Sto.elem (j := j) sz22 rfl rfl (by repeat (first | exact Take1.head | apply Take1.tail)) rfl (by omega) rfl) ⟨_, (by repeat (first | exact TakeL.nil | (apply TakeL.cons; · repeat (first | exact Take1.head | apply Take1.tail))))⟩ ?_
                        refine WD.take 16 rfl (by kernel_rfl) (by kernel_rfl) (by kernel_rfl) rfl rfl (Yl.indexF un65 sz22 rfl rfl hF rfl (by omega)) rfl ?_
                        refine WD.one 17 (by kernel_rfl) ?_
                        refine WO.sto rfl rfl .no (Sto.elem (j := j - 1) (cs' := ints .u16 (swp E (j) (j - 1)).toList) sz22 rfl rfl (by repeat (first | exact Take1.head | apply Take1.tail)) rfl (by omega) (so_swpH E (j) (j - 1))) ⟨_, (by repeat (first | exact TakeL.nil | (apply TakeL.cons; · repeat (first | exact Take1.head | apply Take1.tail))))⟩ ?_
                        refine WD.done (by kernel_rfl) ?_
                        refine WC.region ?_
                        refine WL.y (Yl.move rfl) rfl ?_
                        refine WL.y (Yl.sub rfl rfl (IntWalk.i64_in _ (by omega))) rfl ?_
                        refine WL.say (t := 67) (v' := .int .i64 ((j - 1 : Nat) : Int)) rfl (by (refine congrArg _ ?_; omega)) ?_
                        refine WL.y (Yl.assign rfl) rfl ?_
                        refine WL.nil ?_
                        exact ⟨rfl, (j - 1, swp E j (j - 1)), ⟨by dsimp only; omega, by dsimp only; rw [swp_size]; exact hE, hVE⟩, by dsimp only; omega, (by repeat (first | exact Sub.nil | refine Sub.cons rfl ?_)), _, (by repeat (first | exact TakeL.nil | (apply TakeL.cons; · repeat (first | exact Take1.head | apply Take1.tail))))⟩
                  · refine WC.exit ?_
                    first
                    | (have hj0 : ¬ 1 ≤ j := by omega
                       have hst : shiftDown ltInt j E = E := sd_stop (fun e => hj0 e.1)
                       rw [hst] at hVE
                       subst hVE
                       exact ⟨rfl, (), trivial, (by repeat (first | exact Sub.nil | refine Sub.cons rfl ?_)), _, (by repeat (first | exact TakeL.nil | (apply TakeL.cons; · repeat (first | exact Take1.head | apply Take1.tail))))⟩)
                    | (have hst : shiftDown ltInt j E = E := sd_stop (fun e => by rw [e.2] at g78; cases g78)
                       rw [hst] at hVE
                       subst hVE
                       exact ⟨rfl, (), trivial, (by repeat (first | exact Sub.nil | refine Sub.cons rfl ?_)), _, (by repeat (first | exact TakeL.nil | (apply TakeL.cons; · repeat (first | exact Take1.head | apply Take1.tail))))⟩)
                    | (have hia : ¬ p - a ≥ 2 := by omega
                       rw [show pinD a G p = swp G p (p - 1) from if_neg hia]
                       exact ⟨rfl, (), trivial, (by repeat (first | exact Sub.nil | refine Sub.cons rfl ?_)), _, (by repeat (first | exact TakeL.nil | (apply TakeL.cons; · repeat (first | exact Take1.head | apply Take1.tail))))⟩)
                · refine WC.skip ?_
                  first
                  | (have hj0 : ¬ 1 ≤ j := by omega
                     have hst : shiftDown ltInt j E = E := sd_stop (fun e => hj0 e.1)
                     rw [hst] at hVE
                     subst hVE
                     exact ⟨rfl, (), trivial, (by repeat (first | exact Sub.nil | refine Sub.cons rfl ?_)), _, (by repeat (first | exact TakeL.nil | (apply TakeL.cons; · repeat (first | exact Take1.head | apply Take1.tail))))⟩)
                  | (have hst : shiftDown ltInt j E = E := sd_stop (fun e => by rw [e.2] at g78; cases g78)
                     rw [hst] at hVE
                     subst hVE
                     exact ⟨rfl, (), trivial, (by repeat (first | exact Sub.nil | refine Sub.cons rfl ?_)), _, (by repeat (first | exact TakeL.nil | (apply TakeL.cons; · repeat (first | exact Take1.head | apply Take1.tail))))⟩)
                  | (have hia : ¬ p - a ≥ 2 := by omega
                     rw [show pinD a G p = swp G p (p - 1) from if_neg hia]
                     exact ⟨rfl, (), trivial, (by repeat (first | exact Sub.nil | refine Sub.cons rfl ?_)), _, (by repeat (first | exact TakeL.nil | (apply TakeL.cons; · repeat (first | exact Take1.head | apply Take1.tail))))⟩)
              · rintro ⟨⟩ -
                refine WC.seq ?_
                refine WC.region ?_
                refine WL.y (Yl.move rfl) rfl ?_
                refine WL.y (Yl.move rfl) rfl ?_
                refine WL.y (Yl.sub rfl rfl (IntWalk.i64_in _ (by omega))) rfl ?_
                refine WL.y (Yl.geq rfl rfl) rfl ?_
                refine WL.nil ?_
                refine WC.condD rfl (fun g98 => ?_) (fun g98 => ?_)
                · refine WC.seq ?_
                  refine WC.region ?_
                  refine WL.y (Yl.move rfl) rfl ?_
                  refine WL.y (Yl.add rfl rfl (IntWalk.i64_in _ (by omega))) rfl ?_
                  refine WL.y (Yl.assign rfl) rfl ?_
                  refine WL.nil ?_
                  refine WC.block ?_
                  have hbi : b - p ≥ 2 := by omega
                  obtain ⟨V, hV⟩ : ∃ V, shiftUp ltInt b (p + 1) (pinD a G p) = V := ⟨_, rfl⟩
                  have hVe : pinU a b G p = V := by unfold pinU; rw [if_pos hbi]; exact hV
                  rw [hVe] at hTG hpu
                  refine WC.loop (α := Nat × Array Int) (fun z => [(0, v), (1, .int .i64 (a : Int)), (2, .int .i64 (b : Int)), (7, .int .i64 (p : Int)), (8, .int .i64 (k : Int)), (10, .int .i64 (z.1 : Int))]) (fun z => [ownR v 22 1 n (ints .u16 z.2.toList)]) (fun z => (1 ≤ z.1 ∧ z.1 ≤ b) ∧ z.2.size = n ∧ shiftUp ltInt b z.1 z.2 = V) (fun z => b - z.1) (p + 1, pinD a G p) ⟨by dsimp only; omega, by dsimp only; omega, hV⟩ ⟨(by repeat (first | exact Sub.nil | refine Sub.cons rfl ?_)), _, (by repeat (first | exact TakeL.nil | (apply TakeL.cons; · repeat (first | exact Take1.head | apply Take1.tail))))⟩ ?_
                  rintro ⟨j, E⟩ ⟨⟨hj1, hj⟩, hE, hVE⟩
                  dsimp only at hj1 hj hE hVE ⊢
                  refine WC.seq ?_
                  refine WC.seq ?_
                  refine WC.region ?_
                  refine WL.y (Yl.move rfl) rfl ?_
                  refine WL.y (Yl.move rfl) rfl ?_
                  refine WL.y (Yl.lss rfl rfl) rfl ?_
                  refine WL.nil ?_
                  refine WC.condD rfl (fun g103 => ?_) (fun g103 => ?_)
                  · refine WC.skip ?_
                    refine WC.seq ?_
                    refine WC.block ?_
                    refine WC.seq ?_
                    refine WC.seq ?_
                    have hjb : j < b := by omega
                    refine WC.drawAny (Hs := [ownR v 22 1 n (ints .u16 E.toList)]) mixed (by kernel_rfl) ⟨_, (by repeat (first | exact TakeL.nil | (apply TakeL.cons; · repeat (first | exact Take1.head | apply Take1.tail))))⟩ ?_
                    refine WD.take 0 rfl (by kernel_rfl) (by kernel_rfl) (by kernel_rfl) rfl rfl (Yl.move rfl) rfl ?_
                    refine WD.take 1 rfl (by kernel_rfl) (by kernel_rfl) (by kernel_rfl) rfl rfl (Yl.move rfl) rfl ?_
                    refine WD.take 2 rfl (by kernel_rfl) (by kernel_rfl) (by kernel_rfl) rfl rfl (Yl.indexF un65 sz22 rfl rfl hF rfl (by omega)) rfl ?_
                    refine WD.take 3 rfl (by kernel_rfl) (by kernel_rfl) (by kernel_rfl) rfl rfl (Yl.loadE on22 rfl (Reads.own (by repeat (first | exact Take1.head | apply Take1.tail))) (so_getH (by omega))) rfl ?_
                    refine WD.take 4 rfl (by kernel_rfl) (by kernel_rfl) (by kernel_rfl) rfl rfl (Yl.move rfl) rfl ?_
                    refine WD.take 5 rfl (by kernel_rfl) (by kernel_rfl) (by kernel_rfl) rfl rfl (Yl.move rfl) rfl ?_
                    refine WD.take 6 rfl (by kernel_rfl) (by kernel_rfl) (by kernel_rfl) rfl rfl (Yl.sub rfl rfl (IntWalk.i64_in _ (by omega))) rfl ?_
                    refine WD.say (t := 112) (v' := .int .i64 ((j - 1 : Nat) : Int)) rfl (by (refine congrArg _ ?_; omega)) ?_
                    refine WD.take 7 rfl (by kernel_rfl) (by kernel_rfl) (by kernel_rfl) rfl rfl (Yl.indexF un65 sz22 rfl rfl hF rfl (by omega)) rfl ?_
                    refine WD.take 8 rfl (by kernel_rfl) (by kernel_rfl) (by kernel_rfl) rfl rfl (Yl.loadE on22 rfl (Reads.own (by repeat (first | exact Take1.head | apply Take1.tail))) (so_getH (by omega))) rfl ?_
                    refine WD.one 9 (by kernel_rfl) ?_
                    refine WO.callC (xs := [.tmp 109, .tmp 114]) (cap := []) rfl .no rfl rfl en88 (by repeat (first | exact TakeL.nil | (apply TakeL.cons; · repeat (first | exact Take1.head | apply Take1.tail)))) (fun w hw => lessH_any _ _ w hw.left.here) rfl (fun _ => ⟨_, (by repeat (first | exact TakeL.nil | (apply TakeL.cons; · repeat (first | exact Take1.head | apply Take1.tail))))⟩) ?_
                    rintro ⟨⟩ -
                    refine WD.take 10 rfl (by kernel_rfl) (by kernel_rfl) (by kernel_rfl) rfl rfl (Yl.not rfl) rfl ?_
                    refine WD.done (by kernel_rfl) ?_
                    refine WC.cond rfl (fun g116 => ?_) (fun g116 => ?_)
                    · refine WC.exit ?_
                      refine WC.region ?_
                      refine WL.y (Yl.move rfl) rfl ?_
                      refine WL.y (Yl.add rfl rfl (IntWalk.i64_in _ (by omega))) rfl ?_
                      refine WL.y (Yl.assign rfl) rfl ?_
                      refine WL.nil ?_
                      first
                      | (have hjb : ¬ j < b := by omega
                         have hst : shiftUp ltInt b j E = E := su_stop (fun e => hjb e.1)
                         rw [hst] at hVE
                         subst hVE
                         exact ⟨rfl, (k + 1, p, E), ⟨by dsimp only; omega, by dsimp only; omega, by dsimp only; omega, hTG⟩, by dsimp only; omega, (by repeat (first | exact Sub.nil | refine Sub.cons rfl ?_)), _, (by repeat (first | exact TakeL.nil | (apply TakeL.cons; · repeat (first | exact Take1.head | apply Take1.tail))))⟩)
                      | (have hst : shiftUp ltInt b j E = E := su_stop (fun e => by rw [e.2] at g116; cases g116)
                         rw [hst] at hVE
                         subst hVE
                         exact ⟨rfl, (k + 1, p, E), ⟨by dsimp only; omega, by dsimp only; omega, by dsimp only; omega, hTG⟩, by dsimp only; omega, (by repeat (first | exact Sub.nil | refine Sub.cons rfl ?_)), _, (by repeat (first | exact TakeL.nil | (apply TakeL.cons; · repeat (first | exact Take1.head | apply Take1.tail))))⟩)
                      | (have hbi : ¬ b - p ≥ 2 := by omega
                         rw [show pinU a b G p = pinD a G p from if_neg hbi] at hTG
                         exact ⟨rfl, (k + 1, p, pinD a G p), ⟨by dsimp only; omega, by dsimp only; omega, by dsimp only; omega, hTG⟩, by dsimp only; omega, (by repeat (first | exact Sub.nil | refine Sub.cons rfl ?_)), _, (by repeat (first | exact TakeL.nil | (apply TakeL.cons; · repeat (first | exact Take1.head | apply Take1.tail))))⟩)
                    · refine WC.skip ?_
                      have hlt : ltInt E[j]! E[j - 1]! = true := by simpa using g116
                      rw [su_go hjb hlt] at hVE
                      refine WC.drawAny (Hs := []) mixed (by kernel_rfl) ⟨_, (by repeat (first | exact TakeL.nil | (apply TakeL.cons; · repeat (first | exact Take1.head | apply Take1.tail))))⟩ ?_
                      refine WD.take 0 rfl (by kernel_rfl) (by kernel_rfl) (by kernel_rfl) rfl rfl (Yl.move rfl) rfl ?_
                      refine WD.take 1 rfl (by kernel_rfl) (by kernel_rfl) (by kernel_rfl) rfl rfl (Yl.move rfl) rfl ?_
                      refine WD.take 2 rfl (by kernel_rfl) (by kernel_rfl) (by kernel_rfl) rfl rfl (Yl.move rfl) rfl ?_
                      refine WD.take 3 rfl (by kernel_rfl) (by kernel_rfl) (by kernel_rfl) rfl rfl (Yl.move rfl) rfl ?_
                      refine WD.take 4 rfl (by kernel_rfl) (by kernel_rfl) (by kernel_rfl) rfl rfl (Yl.sub rfl rfl (IntWalk.i64_in _ (by omega))) rfl ?_
                      refine WD.say (t := 121) (v' := .int .i64 ((j - 1 : Nat) : Int)) rfl (by (refine congrArg _ ?_; omega)) ?_
                      refine WD.take 5 rfl (by kernel_rfl) (by kernel_rfl) (by kernel_rfl) rfl rfl (Yl.move rfl) rfl ?_
                      refine WD.take 6 rfl (by kernel_rfl) (by kernel_rfl) (by kernel_rfl) rfl rfl (Yl.move rfl) rfl ?_
                      refine WD.take 7 rfl (by kernel_rfl) (by kernel_rfl) (by kernel_rfl) rfl rfl (Yl.sub rfl rfl (IntWalk.i64_in _ (by omega))) rfl ?_
                      refine WD.say (t := 124) (v' := .int .i64 ((j - 1 : Nat) : Int)) rfl (by (refine congrArg _ ?_; omega)) ?_
                      refine WD.take 8 rfl (by kernel_rfl) (by kernel_rfl) (by kernel_rfl) rfl rfl (Yl.indexF un65 sz22 rfl rfl hF rfl (by omega)) rfl ?_
                      refine WD.take 10 rfl (by kernel_rfl) (by kernel_rfl) (by kernel_rfl) rfl rfl (Yl.move rfl) rfl ?_
                      refine WD.take 11 rfl (by kernel_rfl) (by kernel_rfl) (by kernel_rfl) rfl rfl (Yl.move rfl) rfl ?_
                      refine WD.take 12 rfl (by kernel_rfl) (by kernel_rfl) (by kernel_rfl) rfl rfl (Yl.indexF un65 sz22 rfl rfl hF rfl (by omega)) rfl ?_
                      refine WD.two 9 13 (by kernel_rfl) ?_ ?_
                      · refine WO.y rfl rfl .no (Yl.loadE on22 rfl (Reads.own (by repeat (first | exact Take1.head | apply Take1.tail))) (so_getH (by omega))) rfl ?_
                        refine WD.one 13 (by kernel_rfl) ?_
                        refine WO.y rfl rfl .no (Yl.loadE on22 rfl (Reads.own (by repeat (first | exact Take1.head | apply Take1.tail))) (so_getH (by omega))) rfl ?_
                        refine WD.take 14 rfl (by kernel_rfl) (by kernel_rfl) (by kernel_rfl) rfl rfl (Yl.indexF un65 sz22 rfl rfl hF rfl (by omega)) rfl ?_
                        refine WD.one 15 (by kernel_rfl) ?_
                        refine WO.sto rfl rfl .no (Sto.elem (j := j) sz22 rfl rfl (by repeat (first | exact Take1.head | apply Take1.tail)) rfl (by omega) rfl) ⟨_, (by repeat (first | exact TakeL.nil | (apply TakeL.cons; · repeat (first | exact Take1.head | apply Take1.tail))))⟩ ?_
                        refine WD.take 16 rfl (by kernel_rfl) (by kernel_rfl) (by kernel_rfl) rfl rfl (Yl.indexF un65 sz22 rfl rfl hF rfl (by omega)) rfl ?_
                        refine WD.one 17 (by kernel_rfl) ?_
                        refine WO.sto rfl rfl .no (Sto.elem (j := j - 1) (cs' := ints .u16 (swp E (j) (j - 1)).toList) sz22 rfl rfl (by repeat (first | exact Take1.head | apply Take1.tail)) rfl (by omega) (so_swpH E (j) (j - 1))) ⟨_, (by repeat (first | exact TakeL.nil | (apply TakeL.cons; · repeat (first | exact Take1.head | apply Take1.tail))))⟩ ?_
                        refine WD.done (by kernel_rfl) ?_
                        refine WC.region ?_
                        refine WL.y (Yl.move rfl) rfl ?_
                        refine WL.y (Yl.add rfl rfl (IntWalk.i64_in _ (by omega))) rfl ?_
                        refine WL.y (Yl.assign rfl) rfl ?_
                        refine WL.nil ?_
                        exact ⟨rfl, (j + 1, swp E j (j - 1)), ⟨by dsimp only; omega, by dsimp only; rw [swp_size]; exact hE, hVE⟩, by dsimp only; omega, (by repeat (first | exact Sub.nil | refine Sub.cons rfl ?_)), _, (by repeat (first | exact TakeL.nil | (apply TakeL.cons; · repeat (first | exact Take1.head | apply Take1.tail))))⟩
                      · refine WO.y rfl rfl .no (Yl.loadE on22 rfl (Reads.own (by repeat (first | exact Take1.head | apply Take1.tail))) (so_getH (by omega))) rfl ?_
                        refine WD.one 9 (by kernel_rfl) ?_
                        refine WO.y rfl rfl .no (Yl.loadE on22 rfl (Reads.own (by repeat (first | exact Take1.head | apply Take1.tail))) (so_getH (by omega))) rfl ?_
                        refine WD.take 14 rfl (by kernel_rfl) (by kernel_rfl) (by kernel_rfl) rfl rfl (Yl.indexF un65 sz22 rfl rfl hF rfl (by omega)) rfl ?_
                        refine WD.one 15 (by kernel_rfl) ?_
                        refine WO.sto rfl rfl .no (Sto.elem (j := j) sz22 rfl rfl (by repeat (first | exact Take1.head | apply Take1.tail)) rfl (by omega) rfl) ⟨_, (by repeat (first | exact TakeL.nil | (apply TakeL.cons; · repeat (first | exact Take1.head | apply Take1.tail))))⟩ ?_
                        refine WD.take 16 rfl (by kernel_rfl) (by kernel_rfl) (by kernel_rfl) rfl rfl (Yl.indexF un65 sz22 rfl rfl hF rfl (by omega)) rfl ?_
                        refine WD.one 17 (by kernel_rfl) ?_
                        refine WO.sto rfl rfl .no (Sto.elem (j := j - 1) (cs' := ints .u16 (swp E (j) (j - 1)).toList) sz22 rfl rfl (by repeat (first | exact Take1.head | apply Take1.tail)) rfl (by omega) (so_swpH E (j) (j - 1))) ⟨_, (by repeat (first | exact TakeL.nil | (apply TakeL.cons; · repeat (first | exact Take1.head | apply Take1.tail))))⟩ ?_
                        refine WD.done (by kernel_rfl) ?_
                        refine WC.region ?_
                        refine WL.y (Yl.move rfl) rfl ?_
                        refine WL.y (Yl.add rfl rfl (IntWalk.i64_in _ (by omega))) rfl ?_
                        refine WL.y (Yl.assign rfl) rfl ?_
                        refine WL.nil ?_
                        exact ⟨rfl, (j + 1, swp E j (j - 1)), ⟨by dsimp only; omega, by dsimp only; rw [swp_size]; exact hE, hVE⟩, by dsimp only; omega, (by repeat (first | exact Sub.nil | refine Sub.cons rfl ?_)), _, (by repeat (first | exact TakeL.nil | (apply TakeL.cons; · repeat (first | exact Take1.head | apply Take1.tail))))⟩
                  · refine WC.exit ?_
                    refine WC.region ?_
                    refine WL.y (Yl.move rfl) rfl ?_
                    refine WL.y (Yl.add rfl rfl (IntWalk.i64_in _ (by omega))) rfl ?_
                    refine WL.y (Yl.assign rfl) rfl ?_
                    refine WL.nil ?_
                    first
                    | (have hjb : ¬ j < b := by omega
                       have hst : shiftUp ltInt b j E = E := su_stop (fun e => hjb e.1)
                       rw [hst] at hVE
                       subst hVE
                       exact ⟨rfl, (k + 1, p, E), ⟨by dsimp only; omega, by dsimp only; omega, by dsimp only; omega, hTG⟩, by dsimp only; omega, (by repeat (first | exact Sub.nil | refine Sub.cons rfl ?_)), _, (by repeat (first | exact TakeL.nil | (apply TakeL.cons; · repeat (first | exact Take1.head | apply Take1.tail))))⟩)
                    | (have hst : shiftUp ltInt b j E = E := su_stop (fun e => by rw [e.2] at g116; cases g116)
                       rw [hst] at hVE
                       subst hVE
                       exact ⟨rfl, (k + 1, p, E), ⟨by dsimp only; omega, by dsimp only; omega, by dsimp only; omega, hTG⟩, by dsimp only; omega, (by repeat (first | exact Sub.nil | refine Sub.cons rfl ?_)), _, (by repeat (first | exact TakeL.nil | (apply TakeL.cons; · repeat (first | exact Take1.head | apply Take1.tail))))⟩)
                    | (have hbi : ¬ b - p ≥ 2 := by omega
                       rw [show pinU a b G p = pinD a G p from if_neg hbi] at hTG
                       exact ⟨rfl, (k + 1, p, pinD a G p), ⟨by dsimp only; omega, by dsimp only; omega, by dsimp only; omega, hTG⟩, by dsimp only; omega, (by repeat (first | exact Sub.nil | refine Sub.cons rfl ?_)), _, (by repeat (first | exact TakeL.nil | (apply TakeL.cons; · repeat (first | exact Take1.head | apply Take1.tail))))⟩)
                · refine WC.skip ?_
                  refine WC.region ?_
                  refine WL.y (Yl.move rfl) rfl ?_
                  refine WL.y (Yl.add rfl rfl (IntWalk.i64_in _ (by omega))) rfl ?_
                  refine WL.y (Yl.assign rfl) rfl ?_
                  refine WL.nil ?_
                  first
                  | (have hjb : ¬ j < b := by omega
                     have hst : shiftUp ltInt b j E = E := su_stop (fun e => hjb e.1)
                     rw [hst] at hVE
                     subst hVE
                     exact ⟨rfl, (k + 1, p, E), ⟨by dsimp only; omega, by dsimp only; omega, by dsimp only; omega, hTG⟩, by dsimp only; omega, (by repeat (first | exact Sub.nil | refine Sub.cons rfl ?_)), _, (by repeat (first | exact TakeL.nil | (apply TakeL.cons; · repeat (first | exact Take1.head | apply Take1.tail))))⟩)
                  | (have hst : shiftUp ltInt b j E = E := su_stop (fun e => by rw [e.2] at g116; cases g116)
                     rw [hst] at hVE
                     subst hVE
                     exact ⟨rfl, (k + 1, p, E), ⟨by dsimp only; omega, by dsimp only; omega, by dsimp only; omega, hTG⟩, by dsimp only; omega, (by repeat (first | exact Sub.nil | refine Sub.cons rfl ?_)), _, (by repeat (first | exact TakeL.nil | (apply TakeL.cons; · repeat (first | exact Take1.head | apply Take1.tail))))⟩)
                  | (have hbi : ¬ b - p ≥ 2 := by omega
                     rw [show pinU a b G p = pinD a G p from if_neg hbi] at hTG
                     exact ⟨rfl, (k + 1, p, pinD a G p), ⟨by dsimp only; omega, by dsimp only; omega, by dsimp only; omega, hTG⟩, by dsimp only; omega, (by repeat (first | exact Sub.nil | refine Sub.cons rfl ?_)), _, (by repeat (first | exact TakeL.nil | (apply TakeL.cons; · repeat (first | exact Take1.head | apply Take1.tail))))⟩)
            · refine WO.y rfl rfl .no (Yl.loadE on22 rfl (Reads.own (by repeat (first | exact Take1.head | apply Take1.tail))) (so_getH (by omega))) rfl ?_
              refine WD.one 9 (by kernel_rfl) ?_
              refine WO.y rfl rfl .no (Yl.loadE on22 rfl (Reads.own (by repeat (first | exact Take1.head | apply Take1.tail))) (so_getH (by omega))) rfl ?_
              refine WD.take 14 rfl (by kernel_rfl) (by kernel_rfl) (by kernel_rfl) rfl rfl (Yl.indexF un65 sz22 rfl rfl hF rfl (by omega)) rfl ?_
              refine WD.one 15 (by kernel_rfl) ?_
              refine WO.sto rfl rfl .no (Sto.elem (j := p) sz22 rfl rfl (by repeat (first | exact Take1.head | apply Take1.tail)) rfl (by omega) rfl) ⟨_, (by repeat (first | exact TakeL.nil | (apply TakeL.cons; · repeat (first | exact Take1.head | apply Take1.tail))))⟩ ?_
              refine WD.take 16 rfl (by kernel_rfl) (by kernel_rfl) (by kernel_rfl) rfl rfl (Yl.indexF un65 sz22 rfl rfl hF rfl (by omega)) rfl ?_
              refine WD.one 17 (by kernel_rfl) ?_
              refine WO.sto rfl rfl .no (Sto.elem (j := p - 1) (cs' := ints .u16 (swp G (p) (p - 1)).toList) sz22 rfl rfl (by repeat (first | exact Take1.head | apply Take1.tail)) rfl (by omega) (so_swpH G (p) (p - 1))) ⟨_, (by repeat (first | exact TakeL.nil | (apply TakeL.cons; · repeat (first | exact Take1.head | apply Take1.tail))))⟩ ?_
              refine WD.done (by kernel_rfl) ?_
              refine WC.midX (α := Unit) (fun _ => [(0, v), (1, .int .i64 (a : Int)), (2, .int .i64 (b : Int)), (7, .int .i64 (p : Int)), (8, .int .i64 (k : Int))]) (fun _ => [ownR v 22 1 n (ints .u16 (pinD a G p).toList)]) (fun _ => True) ?_ ?_
              · refine WC.seq ?_
                refine WC.region ?_
                refine WL.y (Yl.move rfl) rfl ?_
                refine WL.y (Yl.move rfl) rfl ?_
                refine WL.y (Yl.sub rfl rfl (IntWalk.i64_in _ (by omega))) rfl ?_
                refine WL.y (Yl.geq rfl rfl) rfl ?_
                refine WL.nil ?_
                refine WC.condD rfl (fun g61 => ?_) (fun g61 => ?_)
                · refine WC.seq ?_
                  refine WC.region ?_
                  refine WL.y (Yl.move rfl) rfl ?_
                  refine WL.y (Yl.sub rfl rfl (IntWalk.i64_in _ (by omega))) rfl ?_
                  refine WL.say (t := 63) (v' := .int .i64 ((p - 1 : Nat) : Int)) rfl (by (refine congrArg _ ?_; omega)) ?_
                  refine WL.y (Yl.assign rfl) rfl ?_
                  refine WL.nil ?_
                  refine WC.block ?_
                  have hia : p - a ≥ 2 := by omega
                  obtain ⟨V, hV⟩ : ∃ V, shiftDown ltInt (p - 1) (swp G p (p - 1)) = V := ⟨_, rfl⟩
                  have hVe : pinD a G p = V := by unfold pinD; rw [if_pos hia]; exact hV
                  rw [hVe]
                  refine WC.loop (α := Nat × Array Int) (fun z => [(0, v), (1, .int .i64 (a : Int)), (2, .int .i64 (b : Int)), (7, .int .i64 (p : Int)), (8, .int .i64 (k : Int)), (9, .int .i64 (z.1 : Int))]) (fun z => [ownR v 22 1 n (ints .u16 z.2.toList)]) (fun z => z.1 < n ∧ z.2.size = n ∧ shiftDown ltInt z.1 z.2 = V) (fun z => z.1) (p - 1, swp G p (p - 1)) ⟨by dsimp only; omega, by dsimp only; omega, hV⟩ ⟨(by repeat (first | exact Sub.nil | refine Sub.cons rfl ?_)), _, (by repeat (first | exact TakeL.nil | (apply TakeL.cons; · repeat (first | exact Take1.head | apply Take1.tail))))⟩ ?_
                  rintro ⟨j, E⟩ ⟨hj, hE, hVE⟩
                  dsimp only at hj hE hVE ⊢
                  refine WC.seq ?_
                  refine WC.seq ?_
                  refine WC.region ?_
                  refine WL.y (Yl.move rfl) rfl ?_
                  refine WL.y (Yl.geq rfl rfl) rfl ?_
                  refine WL.nil ?_
                  refine WC.condD rfl (fun g65 => ?_) (fun g65 => ?_)
                  · refine WC.skip ?_
                    refine WC.seq ?_
                    refine WC.block ?_
                    refine WC.seq ?_
                    refine WC.seq ?_
                    have hj1 : 1 ≤ j := by omega
                    refine WC.drawAny (Hs := [ownR v 22 1 n (ints .u16 E.toList)]) mixed (by kernel_rfl) ⟨_, (by repeat (first | exact TakeL.nil | (apply TakeL.cons; · repeat (first | exact Take1.head | apply Take1.tail))))⟩ ?_
                    refine WD.take 0 rfl (by kernel_rfl) (by kernel_rfl) (by kernel_rfl) rfl rfl (Yl.move rfl) rfl ?_
                    refine WD.take 1 rfl (by kernel_rfl) (by kernel_rfl) (by kernel_rfl) rfl rfl (Yl.move rfl) rfl ?_
                    refine WD.take 2 rfl (by kernel_rfl) (by kernel_rfl) (by kernel_rfl) rfl rfl (Yl.indexF un65 sz22 rfl rfl hF rfl (by omega)) rfl ?_
                    refine WD.take 3 rfl (by kernel_rfl) (by kernel_rfl) (by kernel_rfl) rfl rfl (Yl.loadE on22 rfl (Reads.own (by repeat (first | exact Take1.head | apply Take1.tail))) (so_getH (by omega))) rfl ?_
                    refine WD.take 4 rfl (by kernel_rfl) (by kernel_rfl) (by kernel_rfl) rfl rfl (Yl.move rfl) rfl ?_
                    refine WD.take 5 rfl (by kernel_rfl) (by kernel_rfl) (by kernel_rfl) rfl rfl (Yl.move rfl) rfl ?_
                    refine WD.take 6 rfl (by kernel_rfl) (by kernel_rfl) (by kernel_rfl) rfl rfl (Yl.sub rfl rfl (IntWalk.i64_in _ (by omega))) rfl ?_
                    refine WD.say (t := 74) (v' := .int .i64 ((j - 1 : Nat) : Int)) rfl (by (refine congrArg _ ?_; omega)) ?_
                    refine WD.take 7 rfl (by kernel_rfl) (by kernel_rfl) (by kernel_rfl) rfl rfl (Yl.indexF un65 sz22 rfl rfl hF rfl (by omega)) rfl ?_
                    refine WD.take 8 rfl (by kernel_rfl) (by kernel_rfl) (by kernel_rfl) rfl rfl (Yl.loadE on22 rfl (Reads.own (by repeat (first | exact Take1.head | apply Take1.tail))) (so_getH (by omega))) rfl ?_
                    refine WD.one 9 (by kernel_rfl) ?_
                    refine WO.callC (xs := [.tmp 71, .tmp 76]) (cap := []) rfl .no rfl rfl en88 (by repeat (first | exact TakeL.nil | (apply TakeL.cons; · repeat (first | exact Take1.head | apply Take1.tail)))) (fun w hw => lessH_any _ _ w hw.left.here) rfl (fun _ => ⟨_, (by repeat (first | exact TakeL.nil | (apply TakeL.cons; · repeat (first | exact Take1.head | apply Take1.tail))))⟩) ?_
                    rintro ⟨⟩ -
                    refine WD.take 10 rfl (by kernel_rfl) (by kernel_rfl) (by kernel_rfl) rfl rfl (Yl.not rfl) rfl ?_
                    refine WD.done (by kernel_rfl) ?_
                    refine WC.cond rfl (fun g78 => ?_) (fun g78 => ?_)
                    · refine WC.exit ?_
                      first
                      | (have hj0 : ¬ 1 ≤ j := by omega
                         have hst : shiftDown ltInt j E = E := sd_stop (fun e => hj0 e.1)
                         rw [hst] at hVE
                         subst hVE
                         exact ⟨rfl, (), trivial, (by repeat (first | exact Sub.nil | refine Sub.cons rfl ?_)), _, (by repeat (first | exact TakeL.nil | (apply TakeL.cons; · repeat (first | exact Take1.head | apply Take1.tail))))⟩)
                      | (have hst : shiftDown ltInt j E = E := sd_stop (fun e => by rw [e.2] at g78; cases g78)
                         rw [hst] at hVE
                         subst hVE
                         exact ⟨rfl, (), trivial, (by repeat (first | exact Sub.nil | refine Sub.cons rfl ?_)), _, (by repeat (first | exact TakeL.nil | (apply TakeL.cons; · repeat (first | exact Take1.head | apply Take1.tail))))⟩)
                      | (have hia : ¬ p - a ≥ 2 := by omega
                         rw [show pinD a G p = swp G p (p - 1) from if_neg hia]
                         exact ⟨rfl, (), trivial, (by repeat (first | exact Sub.nil | refine Sub.cons rfl ?_)), _, (by repeat (first | exact TakeL.nil | (apply TakeL.cons; · repeat (first | exact Take1.head | apply Take1.tail))))⟩)
                    · refine WC.skip ?_
                      have hlt : ltInt E[j]! E[j - 1]! = true := by simpa using g78
                      rw [sd_go hj1 hlt] at hVE
                      refine WC.drawAny (Hs := []) mixed (by kernel_rfl) ⟨_, (by repeat (first | exact TakeL.nil | (apply TakeL.cons; · repeat (first | exact Take1.head | apply Take1.tail))))⟩ ?_
                      refine WD.take 0 rfl (by kernel_rfl) (by kernel_rfl) (by kernel_rfl) rfl rfl (Yl.move rfl) rfl ?_
                      refine WD.take 1 rfl (by kernel_rfl) (by kernel_rfl) (by kernel_rfl) rfl rfl (Yl.move rfl) rfl ?_
                      refine WD.take 2 rfl (by kernel_rfl) (by kernel_rfl) (by kernel_rfl) rfl rfl (Yl.move rfl) rfl ?_
                      refine WD.take 3 rfl (by kernel_rfl) (by kernel_rfl) (by kernel_rfl) rfl rfl (Yl.move rfl) rfl ?_
                      refine WD.take 4 rfl (by kernel_rfl) (by kernel_rfl) (by kernel_rfl) rfl rfl (Yl.sub rfl rfl (IntWalk.i64_in _ (by omega))) rfl ?_
                      refine WD.say (t := 83) (v' := .int .i64 ((j - 1 : Nat) : Int)) rfl (by (refine congrArg _ ?_; omega)) ?_
                      refine WD.take 5 rfl (by kernel_rfl) (by kernel_rfl) (by kernel_rfl) rfl rfl (Yl.move rfl) rfl ?_
                      refine WD.take 6 rfl (by kernel_rfl) (by kernel_rfl) (by kernel_rfl) rfl rfl (Yl.move rfl) rfl ?_
                      refine WD.take 7 rfl (by kernel_rfl) (by kernel_rfl) (by kernel_rfl) rfl rfl (Yl.sub rfl rfl (IntWalk.i64_in _ (by omega))) rfl ?_
                      refine WD.say (t := 86) (v' := .int .i64 ((j - 1 : Nat) : Int)) rfl (by (refine congrArg _ ?_; omega)) ?_
                      refine WD.take 8 rfl (by kernel_rfl) (by kernel_rfl) (by kernel_rfl) rfl rfl (Yl.indexF un65 sz22 rfl rfl hF rfl (by omega)) rfl ?_
                      refine WD.take 10 rfl (by kernel_rfl) (by kernel_rfl) (by kernel_rfl) rfl rfl (Yl.move rfl) rfl ?_
                      refine WD.take 11 rfl (by kernel_rfl) (by kernel_rfl) (by kernel_rfl) rfl rfl (Yl.move rfl) rfl ?_
                      refine WD.take 12 rfl (by kernel_rfl) (by kernel_rfl) (by kernel_rfl) rfl rfl (Yl.indexF un65 sz22 rfl rfl hF rfl (by omega)) rfl ?_
                      refine WD.two 9 13 (by kernel_rfl) ?_ ?_
                      · refine WO.y rfl rfl .no (Yl.loadE on22 rfl (Reads.own (by repeat (first | exact Take1.head | apply Take1.tail))) (so_getH (by omega))) rfl ?_
                        refine WD.one 13 (by kernel_rfl) ?_
                        refine WO.y rfl rfl .no (Yl.loadE on22 rfl (Reads.own (by repeat (first | exact Take1.head | apply Take1.tail))) (so_getH (by omega))) rfl ?_
                        refine WD.take 14 rfl (by kernel_rfl) (by kernel_rfl) (by kernel_rfl) rfl rfl (Yl.indexF un65 sz22 rfl rfl hF rfl (by omega)) rfl ?_
                        refine WD.one 15 (by kernel_rfl) ?_
                        refine WO.sto rfl rfl .no (Sto.elem (j := j) sz22 rfl rfl (by repeat (first | exact Take1.head | apply Take1.tail)) rfl (by omega) rfl) ⟨_, (by repeat (first | exact TakeL.nil | (apply TakeL.cons; · repeat (first | exact Take1.head | apply Take1.tail))))⟩ ?_
                        refine WD.take 16 rfl (by kernel_rfl) (by kernel_rfl) (by kernel_rfl) rfl rfl (Yl.indexF un65 sz22 rfl rfl hF rfl (by omega)) rfl ?_
                        refine WD.one 17 (by kernel_rfl) ?_
                        refine WO.sto rfl rfl .no (Sto.elem (j := j - 1) (cs' := ints .u16 (swp E (j) (j - 1)).toList) sz22 rfl rfl (by repeat (first | exact Take1.head | apply Take1.tail)) rfl (by omega) (so_swpH E (j) (j - 1))) ⟨_, (by repeat (first | exact TakeL.nil | (apply TakeL.cons; · repeat (first | exact Take1.head | apply Take1.tail))))⟩ ?_
                        refine WD.done (by kernel_rfl) ?_
                        refine WC.region ?_
                        refine WL.y (Yl.move rfl) rfl ?_
                        refine WL.y (Yl.sub rfl rfl (IntWalk.i64_in _ (by omega))) rfl ?_
                        refine WL.say (t := 67) (v' := .int .i64 ((j - 1 : Nat) : Int)) rfl (by (refine congrArg _ ?_; omega)) ?_
                        refine WL.y (Yl.assign rfl) rfl ?_
                        refine WL.nil ?_
                        exact ⟨rfl, (j - 1, swp E j (j - 1)), ⟨by dsimp only; omega, by dsimp only; rw [swp_size]; exact hE, hVE⟩, by dsimp only; omega, (by repeat (first | exact Sub.nil | refine Sub.cons rfl ?_)), _, (by repeat (first | exact TakeL.nil | (apply TakeL.cons; · repeat (first | exact Take1.head | apply Take1.tail))))⟩
                      · refine WO.y rfl rfl .no (Yl.loadE on22 rfl (Reads.own (by repeat (first | exact Take1.head | apply Take1.tail))) (so_getH (by omega))) rfl ?_
                        refine WD.one 9 (by kernel_rfl) ?_
                        refine WO.y rfl rfl .no (Yl.loadE on22 rfl (Reads.own (by repeat (first | exact Take1.head | apply Take1.tail))) (so_getH (by omega))) rfl ?_
                        refine WD.take 14 rfl (by kernel_rfl) (by kernel_rfl) (by kernel_rfl) rfl rfl (Yl.indexF un65 sz22 rfl rfl hF rfl (by omega)) rfl ?_
                        refine WD.one 15 (by kernel_rfl) ?_
                        refine WO.sto rfl rfl .no (Sto.elem (j := j) sz22 rfl rfl (by repeat (first | exact Take1.head | apply Take1.tail)) rfl (by omega) rfl) ⟨_, (by repeat (first | exact TakeL.nil | (apply TakeL.cons; · repeat (first | exact Take1.head | apply Take1.tail))))⟩ ?_
                        refine WD.take 16 rfl (by kernel_rfl) (by kernel_rfl) (by kernel_rfl) rfl rfl (Yl.indexF un65 sz22 rfl rfl hF rfl (by omega)) rfl ?_
                        refine WD.one 17 (by kernel_rfl) ?_
                        refine WO.sto rfl rfl .no (Sto.elem (j := j - 1) (cs' := ints .u16 (swp E (j) (j - 1)).toList) sz22 rfl rfl (by repeat (first | exact Take1.head | apply Take1.tail)) rfl (by omega) (so_swpH E (j) (j - 1))) ⟨_, (by repeat (first | exact TakeL.nil | (apply TakeL.cons; · repeat (first | exact Take1.head | apply Take1.tail))))⟩ ?_
                        refine WD.done (by kernel_rfl) ?_
                        refine WC.region ?_
                        refine WL.y (Yl.move rfl) rfl ?_
                        refine WL.y (Yl.sub rfl rfl (IntWalk.i64_in _ (by omega))) rfl ?_
                        refine WL.say (t := 67) (v' := .int .i64 ((j - 1 : Nat) : Int)) rfl (by (refine congrArg _ ?_; omega)) ?_
                        refine WL.y (Yl.assign rfl) rfl ?_
                        refine WL.nil ?_
                        exact ⟨rfl, (j - 1, swp E j (j - 1)), ⟨by dsimp only; omega, by dsimp only; rw [swp_size]; exact hE, hVE⟩, by dsimp only; omega, (by repeat (first | exact Sub.nil | refine Sub.cons rfl ?_)), _, (by repeat (first | exact TakeL.nil | (apply TakeL.cons; · repeat (first | exact Take1.head | apply Take1.tail))))⟩
                  · refine WC.exit ?_
                    first
                    | (have hj0 : ¬ 1 ≤ j := by omega
                       have hst : shiftDown ltInt j E = E := sd_stop (fun e => hj0 e.1)
                       rw [hst] at hVE
                       subst hVE
                       exact ⟨rfl, (), trivial, (by repeat (first | exact Sub.nil | refine Sub.cons rfl ?_)), _, (by repeat (first | exact TakeL.nil | (apply TakeL.cons; · repeat (first | exact Take1.head | apply Take1.tail))))⟩)
                    | (have hst : shiftDown ltInt j E = E := sd_stop (fun e => by rw [e.2] at g78; cases g78)
                       rw [hst] at hVE
                       subst hVE
                       exact ⟨rfl, (), trivial, (by repeat (first | exact Sub.nil | refine Sub.cons rfl ?_)), _, (by repeat (first | exact TakeL.nil | (apply TakeL.cons; · repeat (first | exact Take1.head | apply Take1.tail))))⟩)
                    | (have hia : ¬ p - a ≥ 2 := by omega
                       rw [show pinD a G p = swp G p (p - 1) from if_neg hia]
                       exact ⟨rfl, (), trivial, (by repeat (first | exact Sub.nil | refine Sub.cons rfl ?_)), _, (by repeat (first | exact TakeL.nil | (apply TakeL.cons; · repeat (first | exact Take1.head | apply Take1.tail))))⟩)
                · refine WC.skip ?_
                  first
                  | (have hj0 : ¬ 1 ≤ j := by omega
                     have hst : shiftDown ltInt j E = E := sd_stop (fun e => hj0 e.1)
                     rw [hst] at hVE
                     subst hVE
                     exact ⟨rfl, (), trivial, (by repeat (first | exact Sub.nil | refine Sub.cons rfl ?_)), _, (by repeat (first | exact TakeL.nil | (apply TakeL.cons; · repeat (first | exact Take1.head | apply Take1.tail))))⟩)
                  | (have hst : shiftDown ltInt j E = E := sd_stop (fun e => by rw [e.2] at g78; cases g78)
                     rw [hst] at hVE
                     subst hVE
                     exact ⟨rfl, (), trivial, (by repeat (first | exact Sub.nil | refine Sub.cons rfl ?_)), _, (by repeat (first | exact TakeL.nil | (apply TakeL.cons; · repeat (first | exact Take1.head | apply Take1.tail))))⟩)
                  | (have hia : ¬ p - a ≥ 2 := by omega
                     rw [show pinD a G p = swp G p (p - 1) from if_neg hia]
                     exact ⟨rfl, (), trivial, (by repeat (first | exact Sub.nil | refine Sub.cons rfl ?_)), _, (by repeat (first | exact TakeL.nil | (apply TakeL.cons; · repeat (first | exact Take1.head | apply Take1.tail))))⟩)
              · rintro ⟨⟩ -
                refine WC.seq ?_
                refine WC.region ?_
                refine WL.y (Yl.move rfl) rfl ?_
                refine WL.y (Yl.move rfl) rfl ?_
                refine WL.y (Yl.sub rfl rfl (IntWalk.i64_in _ (by omega))) rfl ?_
                refine WL.y (Yl.geq rfl rfl) rfl ?_
                refine WL.nil ?_
                refine WC.condD rfl (fun g98 => ?_) (fun g98 => ?_)
                · refine WC.seq ?_
                  refine WC.region ?_
                  refine WL.y (Yl.move rfl) rfl ?_
                  refine WL.y (Yl.add rfl rfl (IntWalk.i64_in _ (by omega))) rfl ?_
                  refine WL.y (Yl.assign rfl) rfl ?_
                  refine WL.nil ?_
                  refine WC.block ?_
                  have hbi : b - p ≥ 2 := by omega
                  obtain ⟨V, hV⟩ : ∃ V, shiftUp ltInt b (p + 1) (pinD a G p) = V := ⟨_, rfl⟩
                  have hVe : pinU a b G p = V := by unfold pinU; rw [if_pos hbi]; exact hV
                  rw [hVe] at hTG hpu
                  refine WC.loop (α := Nat × Array Int) (fun z => [(0, v), (1, .int .i64 (a : Int)), (2, .int .i64 (b : Int)), (7, .int .i64 (p : Int)), (8, .int .i64 (k : Int)), (10, .int .i64 (z.1 : Int))]) (fun z => [ownR v 22 1 n (ints .u16 z.2.toList)]) (fun z => (1 ≤ z.1 ∧ z.1 ≤ b) ∧ z.2.size = n ∧ shiftUp ltInt b z.1 z.2 = V) (fun z => b - z.1) (p + 1, pinD a G p) ⟨by dsimp only; omega, by dsimp only; omega, hV⟩ ⟨(by repeat (first | exact Sub.nil | refine Sub.cons rfl ?_)), _, (by repeat (first | exact TakeL.nil | (apply TakeL.cons; · repeat (first | exact Take1.head | apply Take1.tail))))⟩ ?_
                  rintro ⟨j, E⟩ ⟨⟨hj1, hj⟩, hE, hVE⟩
                  dsimp only at hj1 hj hE hVE ⊢
                  refine WC.seq ?_
                  refine WC.seq ?_
                  refine WC.region ?_
                  refine WL.y (Yl.move rfl) rfl ?_
                  refine WL.y (Yl.move rfl) rfl ?_
                  refine WL.y (Yl.lss rfl rfl) rfl ?_
                  refine WL.nil ?_
                  refine WC.condD rfl (fun g103 => ?_) (fun g103 => ?_)
                  · refine WC.skip ?_
                    refine WC.seq ?_
                    refine WC.block ?_
                    refine WC.seq ?_
                    refine WC.seq ?_
                    have hjb : j < b := by omega
                    refine WC.drawAny (Hs := [ownR v 22 1 n (ints .u16 E.toList)]) mixed (by kernel_rfl) ⟨_, (by repeat (first | exact TakeL.nil | (apply TakeL.cons; · repeat (first | exact Take1.head | apply Take1.tail))))⟩ ?_
                    refine WD.take 0 rfl (by kernel_rfl) (by kernel_rfl) (by kernel_rfl) rfl rfl (Yl.move rfl) rfl ?_
                    refine WD.take 1 rfl (by kernel_rfl) (by kernel_rfl) (by kernel_rfl) rfl rfl (Yl.move rfl) rfl ?_
                    refine WD.take 2 rfl (by kernel_rfl) (by kernel_rfl) (by kernel_rfl) rfl rfl (Yl.indexF un65 sz22 rfl rfl hF rfl (by omega)) rfl ?_
                    refine WD.take 3 rfl (by kernel_rfl) (by kernel_rfl) (by kernel_rfl) rfl rfl (Yl.loadE on22 rfl (Reads.own (by repeat (first | exact Take1.head | apply Take1.tail))) (so_getH (by omega))) rfl ?_
                    refine WD.take 4 rfl (by kernel_rfl) (by kernel_rfl) (by kernel_rfl) rfl rfl (Yl.move rfl) rfl ?_
                    refine WD.take 5 rfl (by kernel_rfl) (by kernel_rfl) (by kernel_rfl) rfl rfl (Yl.move rfl) rfl ?_
                    refine WD.take 6 rfl (by kernel_rfl) (by kernel_rfl) (by kernel_rfl) rfl rfl (Yl.sub rfl rfl (IntWalk.i64_in _ (by omega))) rfl ?_
                    refine WD.say (t := 112) (v' := .int .i64 ((j - 1 : Nat) : Int)) rfl (by (refine congrArg _ ?_; omega)) ?_
                    refine WD.take 7 rfl (by kernel_rfl) (by kernel_rfl) (by kernel_rfl) rfl rfl (Yl.indexF un65 sz22 rfl rfl hF rfl (by omega)) rfl ?_
                    refine WD.take 8 rfl (by kernel_rfl) (by kernel_rfl) (by kernel_rfl) rfl rfl (Yl.loadE on22 rfl (Reads.own (by repeat (first | exact Take1.head | apply Take1.tail))) (so_getH (by omega))) rfl ?_
                    refine WD.one 9 (by kernel_rfl) ?_
                    refine WO.callC (xs := [.tmp 109, .tmp 114]) (cap := []) rfl .no rfl rfl en88 (by repeat (first | exact TakeL.nil | (apply TakeL.cons; · repeat (first | exact Take1.head | apply Take1.tail)))) (fun w hw => lessH_any _ _ w hw.left.here) rfl (fun _ => ⟨_, (by repeat (first | exact TakeL.nil | (apply TakeL.cons; · repeat (first | exact Take1.head | apply Take1.tail))))⟩) ?_
                    rintro ⟨⟩ -
                    refine WD.take 10 rfl (by kernel_rfl) (by kernel_rfl) (by kernel_rfl) rfl rfl (Yl.not rfl) rfl ?_
                    refine WD.done (by kernel_rfl) ?_
                    refine WC.cond rfl (fun g116 => ?_) (fun g116 => ?_)
                    · refine WC.exit ?_
                      refine WC.region ?_
                      refine WL.y (Yl.move rfl) rfl ?_
                      refine WL.y (Yl.add rfl rfl (IntWalk.i64_in _ (by omega))) rfl ?_
                      refine WL.y (Yl.assign rfl) rfl ?_
                      refine WL.nil ?_
                      first
                      | (have hjb : ¬ j < b := by omega
                         have hst : shiftUp ltInt b j E = E := su_stop (fun e => hjb e.1)
                         rw [hst] at hVE
                         subst hVE
                         exact ⟨rfl, (k + 1, p, E), ⟨by dsimp only; omega, by dsimp only; omega, by dsimp only; omega, hTG⟩, by dsimp only; omega, (by repeat (first | exact Sub.nil | refine Sub.cons rfl ?_)), _, (by repeat (first | exact TakeL.nil | (apply TakeL.cons; · repeat (first | exact Take1.head | apply Take1.tail))))⟩)
                      | (have hst : shiftUp ltInt b j E = E := su_stop (fun e => by rw [e.2] at g116; cases g116)
                         rw [hst] at hVE
                         subst hVE
                         exact ⟨rfl, (k + 1, p, E), ⟨by dsimp only; omega, by dsimp only; omega, by dsimp only; omega, hTG⟩, by dsimp only; omega, (by repeat (first | exact Sub.nil | refine Sub.cons rfl ?_)), _, (by repeat (first | exact TakeL.nil | (apply TakeL.cons; · repeat (first | exact Take1.head | apply Take1.tail))))⟩)
                      | (have hbi : ¬ b - p ≥ 2 := by omega
                         rw [show pinU a b G p = pinD a G p from if_neg hbi] at hTG
                         exact ⟨rfl, (k + 1, p, pinD a G p), ⟨by dsimp only; omega, by dsimp only; omega, by dsimp only; omega, hTG⟩, by dsimp only; omega, (by repeat (first | exact Sub.nil | refine Sub.cons rfl ?_)), _, (by repeat (first | exact TakeL.nil | (apply TakeL.cons; · repeat (first | exact Take1.head | apply Take1.tail))))⟩)
                    · refine WC.skip ?_
                      have hlt : ltInt E[j]! E[j - 1]! = true := by simpa using g116
                      rw [su_go hjb hlt] at hVE
                      refine WC.drawAny (Hs := []) mixed (by kernel_rfl) ⟨_, (by repeat (first | exact TakeL.nil | (apply TakeL.cons; · repeat (first | exact Take1.head | apply Take1.tail))))⟩ ?_
                      refine WD.take 0 rfl (by kernel_rfl) (by kernel_rfl) (by kernel_rfl) rfl rfl (Yl.move rfl) rfl ?_
                      refine WD.take 1 rfl (by kernel_rfl) (by kernel_rfl) (by kernel_rfl) rfl rfl (Yl.move rfl) rfl ?_
                      refine WD.take 2 rfl (by kernel_rfl) (by kernel_rfl) (by kernel_rfl) rfl rfl (Yl.move rfl) rfl ?_
                      refine WD.take 3 rfl (by kernel_rfl) (by kernel_rfl) (by kernel_rfl) rfl rfl (Yl.move rfl) rfl ?_
                      refine WD.take 4 rfl (by kernel_rfl) (by kernel_rfl) (by kernel_rfl) rfl rfl (Yl.sub rfl rfl (IntWalk.i64_in _ (by omega))) rfl ?_
                      refine WD.say (t := 121) (v' := .int .i64 ((j - 1 : Nat) : Int)) rfl (by (refine congrArg _ ?_; omega)) ?_
                      refine WD.take 5 rfl (by kernel_rfl) (by kernel_rfl) (by kernel_rfl) rfl rfl (Yl.move rfl) rfl ?_
                      refine WD.take 6 rfl (by kernel_rfl) (by kernel_rfl) (by kernel_rfl) rfl rfl (Yl.move rfl) rfl ?_
                      refine WD.take 7 rfl (by kernel_rfl) (by kernel_rfl) (by kernel_rfl) rfl rfl (Yl.sub rfl rfl (IntWalk.i64_in _ (by omega))) rfl ?_
                      refine WD.say (t := 124) (v' := .int .i64 ((j - 1 : Nat) : Int)) rfl (by (refine congrArg _ ?_; omega)) ?_
                      refine WD.take 8 rfl (by kernel_rfl) (by kernel_rfl) (by kernel_rfl) rfl rfl (Yl.indexF un65 sz22 rfl rfl hF rfl (by omega)) rfl ?_
                      refine WD.take 10 rfl (by kernel_rfl) (by kernel_rfl) (by kernel_rfl) rfl rfl (Yl.move rfl) rfl ?_
                      refine WD.take 11 rfl (by kernel_rfl) (by kernel_rfl) (by kernel_rfl) rfl rfl (Yl.move rfl) rfl ?_
                      refine WD.take 12 rfl (by kernel_rfl) (by kernel_rfl) (by kernel_rfl) rfl rfl (Yl.indexF un65 sz22 rfl rfl hF rfl (by omega)) rfl ?_
                      refine WD.two 9 13 (by kernel_rfl) ?_ ?_
                      · refine WO.y rfl rfl .no (Yl.loadE on22 rfl (Reads.own (by repeat (first | exact Take1.head | apply Take1.tail))) (so_getH (by omega))) rfl ?_
                        refine WD.one 13 (by kernel_rfl) ?_
                        refine WO.y rfl rfl .no (Yl.loadE on22 rfl (Reads.own (by repeat (first | exact Take1.head | apply Take1.tail))) (so_getH (by omega))) rfl ?_
                        refine WD.take 14 rfl (by kernel_rfl) (by kernel_rfl) (by kernel_rfl) rfl rfl (Yl.indexF un65 sz22 rfl rfl hF rfl (by omega)) rfl ?_
                        refine WD.one 15 (by kernel_rfl) ?_
                        refine WO.sto rfl rfl .no (Sto.elem (j := j) sz22 rfl rfl (by repeat (first | exact Take1.head | apply Take1.tail)) rfl (by omega) rfl) ⟨_, (by repeat (first | exact TakeL.nil | (apply TakeL.cons; · repeat (first | exact Take1.head | apply Take1.tail))))⟩ ?_
                        refine WD.take 16 rfl (by kernel_rfl) (by kernel_rfl) (by kernel_rfl) rfl rfl (Yl.indexF un65 sz22 rfl rfl hF rfl (by omega)) rfl ?_
                        refine WD.one 17 (by kernel_rfl) ?_
                        refine WO.sto rfl rfl .no (Sto.elem (j := j - 1) (cs' := ints .u16 (swp E (j) (j - 1)).toList) sz22 rfl rfl (by repeat (first | exact Take1.head | apply Take1.tail)) rfl (by omega) (so_swpH E (j) (j - 1))) ⟨_, (by repeat (first | exact TakeL.nil | (apply TakeL.cons; · repeat (first | exact Take1.head | apply Take1.tail))))⟩ ?_
                        refine WD.done (by kernel_rfl) ?_
                        refine WC.region ?_
                        refine WL.y (Yl.move rfl) rfl ?_
                        refine WL.y (Yl.add rfl rfl (IntWalk.i64_in _ (by omega))) rfl ?_
                        refine WL.y (Yl.assign rfl) rfl ?_
                        refine WL.nil ?_
                        exact ⟨rfl, (j + 1, swp E j (j - 1)), ⟨by dsimp only; omega, by dsimp only; rw [swp_size]; exact hE, hVE⟩, by dsimp only; omega, (by repeat (first | exact Sub.nil | refine Sub.cons rfl ?_)), _, (by repeat (first | exact TakeL.nil | (apply TakeL.cons; · repeat (first | exact Take1.head | apply Take1.tail))))⟩
                      · refine WO.y rfl rfl .no (Yl.loadE on22 rfl (Reads.own (by repeat (first | exact Take1.head | apply Take1.tail))) (so_getH (by omega))) rfl ?_
                        refine WD.one 9 (by kernel_rfl) ?_
                        refine WO.y rfl rfl .no (Yl.loadE on22 rfl (Reads.own (by repeat (first | exact Take1.head | apply Take1.tail))) (so_getH (by omega))) rfl ?_
                        refine WD.take 14 rfl (by kernel_rfl) (by kernel_rfl) (by kernel_rfl) rfl rfl (Yl.indexF un65 sz22 rfl rfl hF rfl (by omega)) rfl ?_
                        refine WD.one 15 (by kernel_rfl) ?_
                        refine WO.sto rfl rfl .no (Sto.elem (j := j) sz22 rfl rfl (by repeat (first | exact Take1.head | apply Take1.tail)) rfl (by omega) rfl) ⟨_, (by repeat (first | exact TakeL.nil | (apply TakeL.cons; · repeat (first | exact Take1.head | apply Take1.tail))))⟩ ?_
                        refine WD.take 16 rfl (by kernel_rfl) (by kernel_rfl) (by kernel_rfl) rfl rfl (Yl.indexF un65 sz22 rfl rfl hF rfl (by omega)) rfl ?_
                        refine WD.one 17 (by kernel_rfl) ?_
                        refine WO.sto rfl rfl .no (Sto.elem (j := j - 1) (cs' := ints .u16 (swp E (j) (j - 1)).toList) sz22 rfl rfl (by repeat (first | exact Take1.head | apply Take1.tail)) rfl (by omega) (so_swpH E (j) (j - 1))) ⟨_, (by repeat (first | exact TakeL.nil | (apply TakeL.cons; · repeat (first | exact Take1.head | apply Take1.tail))))⟩ ?_
                        refine WD.done (by kernel_rfl) ?_
                        refine WC.region ?_
                        refine WL.y (Yl.move rfl) rfl ?_
                        refine WL.y (Yl.add rfl rfl (IntWalk.i64_in _ (by omega))) rfl ?_
                        refine WL.y (Yl.assign rfl) rfl ?_
                        refine WL.nil ?_
                        exact ⟨rfl, (j + 1, swp E j (j - 1)), ⟨by dsimp only; omega, by dsimp only; rw [swp_size]; exact hE, hVE⟩, by dsimp only; omega, (by repeat (first | exact Sub.nil | refine Sub.cons rfl ?_)), _, (by repeat (first | exact TakeL.nil | (apply TakeL.cons; · repeat (first | exact Take1.head | apply Take1.tail))))⟩
                  · refine WC.exit ?_
                    refine WC.region ?_
                    refine WL.y (Yl.move rfl) rfl ?_
                    refine WL.y (Yl.add rfl rfl (IntWalk.i64_in _ (by omega))) rfl ?_
                    refine WL.y (Yl.assign rfl) rfl ?_
                    refine WL.nil ?_
                    first
                    | (have hjb : ¬ j < b := by omega
                       have hst : shiftUp ltInt b j E = E := su_stop (fun e => hjb e.1)
                       rw [hst] at hVE
                       subst hVE
                       exact ⟨rfl, (k + 1, p, E), ⟨by dsimp only; omega, by dsimp only; omega, by dsimp only; omega, hTG⟩, by dsimp only; omega, (by repeat (first | exact Sub.nil | refine Sub.cons rfl ?_)), _, (by repeat (first | exact TakeL.nil | (apply TakeL.cons; · repeat (first | exact Take1.head | apply Take1.tail))))⟩)
                    | (have hst : shiftUp ltInt b j E = E := su_stop (fun e => by rw [e.2] at g116; cases g116)
                       rw [hst] at hVE
                       subst hVE
                       exact ⟨rfl, (k + 1, p, E), ⟨by dsimp only; omega, by dsimp only; omega, by dsimp only; omega, hTG⟩, by dsimp only; omega, (by repeat (first | exact Sub.nil | refine Sub.cons rfl ?_)), _, (by repeat (first | exact TakeL.nil | (apply TakeL.cons; · repeat (first | exact Take1.head | apply Take1.tail))))⟩)
                    | (have hbi : ¬ b - p ≥ 2 := by omega
                       rw [show pinU a b G p = pinD a G p from if_neg hbi] at hTG
                       exact ⟨rfl, (k + 1, p, pinD a G p), ⟨by dsimp only; omega, by dsimp only; omega, by dsimp only; omega, hTG⟩, by dsimp only; omega, (by repeat (first | exact Sub.nil | refine Sub.cons rfl ?_)), _, (by repeat (first | exact TakeL.nil | (apply TakeL.cons; · repeat (first | exact Take1.head | apply Take1.tail))))⟩)
                · refine WC.skip ?_
                  refine WC.region ?_
                  refine WL.y (Yl.move rfl) rfl ?_
                  refine WL.y (Yl.add rfl rfl (IntWalk.i64_in _ (by omega))) rfl ?_
                  refine WL.y (Yl.assign rfl) rfl ?_
                  refine WL.nil ?_
                  first
                  | (have hjb : ¬ j < b := by omega
                     have hst : shiftUp ltInt b j E = E := su_stop (fun e => hjb e.1)
                     rw [hst] at hVE
                     subst hVE
                     exact ⟨rfl, (k + 1, p, E), ⟨by dsimp only; omega, by dsimp only; omega, by dsimp only; omega, hTG⟩, by dsimp only; omega, (by repeat (first | exact Sub.nil | refine Sub.cons rfl ?_)), _, (by repeat (first | exact TakeL.nil | (apply TakeL.cons; · repeat (first | exact Take1.head | apply Take1.tail))))⟩)
                  | (have hst : shiftUp ltInt b j E = E := su_stop (fun e => by rw [e.2] at g116; cases g116)
                     rw [hst] at hVE
                     subst hVE
                     exact ⟨rfl, (k + 1, p, E), ⟨by dsimp only; omega, by dsimp only; omega, by dsimp only; omega, hTG⟩, by dsimp only; omega, (by repeat (first | exact Sub.nil | refine Sub.cons rfl ?_)), _, (by repeat (first | exact TakeL.nil | (apply TakeL.cons; · repeat (first | exact Take1.head | apply Take1.tail))))⟩)
                  | (have hbi : ¬ b - p ≥ 2 := by omega
                     rw [show pinU a b G p = pinD a G p from if_neg hbi] at hTG
                     exact ⟨rfl, (k + 1, p, pinD a G p), ⟨by dsimp only; omega, by dsimp only; omega, by dsimp only; omega, hTG⟩, by dsimp only; omega, (by repeat (first | exact Sub.nil | refine Sub.cons rfl ?_)), _, (by repeat (first | exact TakeL.nil | (apply TakeL.cons; · repeat (first | exact Take1.head | apply Take1.tail))))⟩)
  · refine WC.exit ?_
    refine WC.seq ?_
    have hk5 : k = 5 := by omega
    subst hk5
    have hTe : (G, false) = T := hTG
    subst hTe
    refine WC.region ?_
    refine WL.y (Yl.assign rfl) rfl ?_
    refine WL.nil ?_
    refine WC.ret ?_
    repeat (first | (with_reducible refine peelT ?_) | (with_reducible refine peelB ?_) | (with_reducible refine peelTX ?_) | (with_reducible refine peelBX ?_) | (with_reducible refine peelBN ?_) | (with_reducible refine peelBO rfl ?_))
    exact ret1 (.inr rfl) Try.results87 rfl fun w' h => ⟨(), trivial, rfl, h.sub (by repeat (first | exact TakeL.nil | (apply TakeL.cons; · repeat (first | exact Take1.head | apply Take1.tail))))⟩
end Go.Proofs.Ytnlibngncicobaa
