/- Sorting keys: comparing, the middle of three, insertion: the walks. -/
import Derived.Test.YtfobhdmhjjafcaaGreatDoorRRFacts
import Derived.Test.YtfobhdmhjjafcaaGreatDoorRRTruB
import Derived.Sort.AssemblyPlain
namespace Go.Proofs.YtfobhdmhjjafcaaGreatDoorRR
open Go Go.RowKit Go.Sort

theorem ordK_any (v : Value) (n : Nat) (D : Array Ky) (a b sw bs : Nat) (hD : D.size = n) (ha : a < n) (hb : b < n) (hs : sw ≤ 1000) (w : World) (hw : OK w (fpL [rwK v n (D.toList), blkR bs 3 [.int .i64 (sw : Int)]]) [rwK v n (D.toList), blkR bs 3 [.int .i64 (sw : Int)]] w) :
    Fn Tryz.prog 126 [v, .int .i64 (a : Int), .int .i64 (b : Int), .pointer (some ⟨bs, 0, none⟩), .func (.func 60) #[] #[]] [rwK v n (D.toList), blkR bs 3 [.int .i64 (sw : Int)]] w (fun _ : Unit => True) (fun _ => .tuple #[.int .i64 ((order2 ltK D a b sw).1 : Int), .int .i64 ((order2 ltK D a b sw).2.1 : Int)]) (fun _ => [rwK v n (D.toList), blkR bs 3 [.int .i64 ((order2 ltK D a b sw).2.2 : Int)]]) := by
  refine enterF Tryz.func126 rfl Tryz.ntmps126 rfl hw ?_
  refine WC.seq ?_
  refine WC.region ?_
  refine WL.y (Yl.assign rfl) rfl ?_
  refine WL.y (Yl.assign rfl) rfl ?_
  refine WL.nil ?_
  refine WC.seq ?_
  refine WC.seq ?_
  refine WC.drawAny (Hs := [rwK v n (D.toList), blkR bs 3 [.int .i64 (sw : Int)]]) mixed (by kernel_rfl) ⟨_, (by repeat' constructor)⟩ ?_
  refine WD.take 0 rfl (by kernel_rfl) (by kernel_rfl) (by kernel_rfl) rfl rfl (Yl.move rfl) rfl ?_
  refine WD.take 1 rfl (by kernel_rfl) (by kernel_rfl) (by kernel_rfl) rfl rfl (Yl.move rfl) rfl ?_
  refine WD.take 2 rfl (by kernel_rfl) (by kernel_rfl) (by kernel_rfl) rfl rfl (Yl.move rfl) rfl ?_
  refine WD.take 3 rfl (by kernel_rfl) (by kernel_rfl) (by kernel_rfl) rfl rfl (Yl.index un22 sz30 rfl rfl (Reads.own (by repeat constructor)) rfl (by omega)) rfl ?_
  refine WD.take 4 rfl (by kernel_rfl) (by kernel_rfl) (by kernel_rfl) rfl rfl (Yl.loadV vtK (fun _ _ => trivial) rfl (Reads.own (by repeat constructor)) (by rw [Array.length_toList]; omega) (so_getK (by omega))) rfl ?_
  refine WD.take 5 rfl (by kernel_rfl) (by kernel_rfl) (by kernel_rfl) rfl rfl (Yl.move rfl) rfl ?_
  refine WD.take 6 rfl (by kernel_rfl) (by kernel_rfl) (by kernel_rfl) rfl rfl (Yl.move rfl) rfl ?_
  refine WD.take 7 rfl (by kernel_rfl) (by kernel_rfl) (by kernel_rfl) rfl rfl (Yl.index un22 sz30 rfl rfl (Reads.own (by repeat constructor)) rfl (by omega)) rfl ?_
  refine WD.take 8 rfl (by kernel_rfl) (by kernel_rfl) (by kernel_rfl) rfl rfl (Yl.loadV vtK (fun _ _ => trivial) rfl (Reads.own (by repeat constructor)) (by rw [Array.length_toList]; omega) (so_getK (by omega))) rfl ?_
  refine WD.one 9 (by kernel_rfl) ?_
  refine WO.callC (f := .tmp 12) (xs := [.tmp 16, .tmp 20]) (cap := []) rfl .no rfl rfl en60 (by repeat' constructor) (fun w hw => order_any _ _ w hw.left.here) rfl (fun _ => ⟨_, (by repeat' constructor)⟩) ?_
  rintro ⟨⟩ -
  refine WD.take 10 rfl (by kernel_rfl) (by kernel_rfl) (by kernel_rfl) rfl rfl (Yl.lss rfl rfl) rfl ?_
  refine WD.say (t := 22) (v' := .bool (ltK _ _)) rfl (by rfl) ?_
  refine WD.done (by kernel_rfl) ?_
  refine WC.cond rfl (fun g22 => ?_) (fun g22 => ?_)
  · refine WC.seq ?_
    refine WC.region ?_
    refine WL.y (Yl.move rfl) rfl ?_
    refine WL.y (Yl.nilCheck rfl) rfl ?_
    refine WL.y (Yl.load on3 rfl (by repeat constructor) (by rfl)) rfl ?_
    refine WL.y (Yl.add rfl rfl (IntWalk.i64_in _ (by omega))) rfl ?_
    refine WL.y (Yl.nilCheck rfl) rfl ?_
    refine WL.sto (Sto.one sz3 rfl rfl (by repeat constructor) rfl (by rfl) (by rfl)) (fun _ h => nomatch h) ?_
    refine WL.nil ?_
    refine WC.seq ?_
    refine WC.region ?_
    refine WL.y (Yl.move rfl) rfl ?_
    refine WL.y (Yl.move rfl) rfl ?_
    refine WL.y (Yl.assign rfl) rfl ?_
    refine WL.y (Yl.assign rfl) rfl ?_
    refine WL.nil ?_
    refine WC.ret ?_
    repeat (with_reducible (first | refine peelT ?_ | refine peelB ?_ | refine peelTX ?_ | refine peelBX ?_ | refine peelBN ?_ | refine peelBO rfl ?_))
    exact ret2 (.inr rfl) Tryz.results126 rfl rfl fun w' h => ⟨(), trivial, by unfold order2; rw [if_pos g22], by unfold order2; rw [if_pos g22]; exact h.sub (by repeat' constructor)⟩
  · refine WC.skip ?_
    refine WC.seq ?_
    refine WC.region ?_
    refine WL.y (Yl.move rfl) rfl ?_
    refine WL.y (Yl.move rfl) rfl ?_
    refine WL.y (Yl.assign rfl) rfl ?_
    refine WL.y (Yl.assign rfl) rfl ?_
    refine WL.nil ?_
    refine WC.ret ?_
    repeat (with_reducible (first | refine peelT ?_ | refine peelB ?_ | refine peelTX ?_ | refine peelBX ?_ | refine peelBN ?_ | refine peelBO rfl ?_))
    exact ret2 (.inr rfl) Tryz.results126 rfl rfl fun w' h => ⟨(), trivial, by unfold order2; rw [if_neg (ne_true_of_eq_false g22)], by unfold order2; rw [if_neg (ne_true_of_eq_false g22)]; exact h.sub (by repeat' constructor)⟩
theorem order2_in {D : Array Ky} {a b sw n : Nat} (ha : a < n) (hb : b < n) : (order2 ltK D a b sw).1 < n ∧ (order2 ltK D a b sw).2.1 < n ∧ (order2 ltK D a b sw).2.2 ≤ sw + 1 := by
  unfold order2
  split
  · exact ⟨hb, ha, Nat.le_refl _⟩
  · exact ⟨ha, hb, Nat.le_succ _⟩
theorem medK_any (v : Value) (n : Nat) (D : Array Ky) (a b c sw bs : Nat) (hD : D.size = n) (ha : a < n) (hb : b < n) (hc : c < n) (hs : sw ≤ 900) (w : World) (hw : OK w (fpL [rwK v n (D.toList), blkR bs 3 [.int .i64 (sw : Int)]]) [rwK v n (D.toList), blkR bs 3 [.int .i64 (sw : Int)]] w) :
    Fn Tryz.prog 120 [v, .int .i64 (a : Int), .int .i64 (b : Int), .int .i64 (c : Int), .pointer (some ⟨bs, 0, none⟩), .func (.func 60) #[] #[]] [rwK v n (D.toList), blkR bs 3 [.int .i64 (sw : Int)]] w (fun _ : Unit => True) (fun _ => .int .i64 ((median ltK D a b c sw).1 : Int)) (fun _ => [rwK v n (D.toList), blkR bs 3 [.int .i64 ((median ltK D a b c sw).2 : Int)]]) := by
  unfold median
  dsimp only
  obtain ⟨p1, p2, p3⟩ := order2_in (D := D) (sw := sw) ha hb
  obtain ⟨r1, hr1⟩ : ∃ r, order2 ltK D a b sw = r := ⟨_, rfl⟩
  rw [hr1] at p1 p2 p3 ⊢
  obtain ⟨q1, q2, q3⟩ := order2_in (D := D) (sw := r1.2.2) p2 hc
  obtain ⟨r2, hr2⟩ : ∃ r, order2 ltK D r1.2.1 c r1.2.2 = r := ⟨_, rfl⟩
  rw [hr2] at q1 q2 q3 ⊢
  refine enterF Tryz.func120 rfl Tryz.ntmps120 rfl hw ?_
  refine WC.seq ?_
  refine WC.region ?_
  refine WL.y (Yl.assign rfl) rfl ?_
  refine WL.nil ?_
  refine WC.seq ?_
  refine WC.region ?_
  refine WL.y (Yl.move rfl) rfl ?_
  refine WL.y (Yl.move rfl) rfl ?_
  refine WL.y (Yl.move rfl) rfl ?_
  refine WL.y (Yl.move rfl) rfl ?_
  refine WL.y (Yl.move rfl) rfl ?_
  refine WL.callC (xs := [.tmp 14, .tmp 15, .tmp 16, .tmp 17, .tmp 18]) (cap := []) rfl rfl en126 (by repeat' constructor) (fun w hw => ordK_any v n D a b sw bs hD ha hb (by omega) w hw.left.here) rfl ?_
  rintro ⟨⟩ -
  rw [hr1]
  dsimp only [List.cons_append, List.nil_append]
  refine WL.y (Yl.move rfl) rfl ?_
  refine WL.y (Yl.extract rfl rfl) rfl ?_
  refine WL.y (Yl.extract rfl rfl) rfl ?_
  refine WL.y (Yl.assign rfl) rfl ?_
  refine WL.y (Yl.assign rfl) rfl ?_
  refine WL.nil ?_
  refine WC.seq ?_
  refine WC.region ?_
  refine WL.y (Yl.move rfl) rfl ?_
  refine WL.y (Yl.move rfl) rfl ?_
  refine WL.y (Yl.move rfl) rfl ?_
  refine WL.y (Yl.move rfl) rfl ?_
  refine WL.y (Yl.move rfl) rfl ?_
  refine WL.callC (xs := [.tmp 23, .tmp 24, .tmp 25, .tmp 26, .tmp 27]) (cap := []) rfl rfl en126 (by repeat' constructor) (fun w hw => ordK_any v n D r1.2.1 c r1.2.2 bs hD p2 hc (by omega) w hw.left.here) rfl ?_
  rintro ⟨⟩ -
  rw [hr2]
  dsimp only [List.cons_append, List.nil_append]
  refine WL.y (Yl.move rfl) rfl ?_
  refine WL.y (Yl.extract rfl rfl) rfl ?_
  refine WL.y (Yl.extract rfl rfl) rfl ?_
  refine WL.y (Yl.assign rfl) rfl ?_
  refine WL.y (Yl.assign rfl) rfl ?_
  refine WL.nil ?_
  refine WC.seq ?_
  refine WC.region ?_
  refine WL.y (Yl.move rfl) rfl ?_
  refine WL.y (Yl.move rfl) rfl ?_
  refine WL.y (Yl.move rfl) rfl ?_
  refine WL.y (Yl.move rfl) rfl ?_
  refine WL.y (Yl.move rfl) rfl ?_
  refine WL.callC (xs := [.tmp 32, .tmp 33, .tmp 34, .tmp 35, .tmp 36]) (cap := []) rfl rfl en126 (by repeat' constructor) (fun w hw => ordK_any v n D r1.1 r2.1 r2.2.2 bs hD p1 q1 (by omega) w hw.left.here) rfl ?_
  rintro ⟨⟩ -
  dsimp only [List.cons_append, List.nil_append]
  refine WL.y (Yl.move rfl) rfl ?_
  refine WL.y (Yl.extract rfl rfl) rfl ?_
  refine WL.y (Yl.extract rfl rfl) rfl ?_
  refine WL.y (Yl.assign rfl) rfl ?_
  refine WL.y (Yl.assign rfl) rfl ?_
  refine WL.nil ?_
  refine WC.seq ?_
  refine WC.region ?_
  refine WL.y (Yl.move rfl) rfl ?_
  refine WL.y (Yl.assign rfl) rfl ?_
  refine WL.nil ?_
  refine WC.ret ?_
  repeat (with_reducible (first | refine peelT ?_ | refine peelB ?_ | refine peelTX ?_ | refine peelBX ?_ | refine peelBN ?_ | refine peelBO rfl ?_))
  exact ret1 (.inr rfl) Tryz.results120 rfl fun w' h => ⟨(), trivial, rfl, h.sub (by repeat' constructor)⟩
theorem median_in {D : Array Ky} {a b c sw n : Nat} (ha : a < n) (hb : b < n) (hc : c < n) : (median ltK D a b c sw).1 < n ∧ (median ltK D a b c sw).2 ≤ sw + 3 := by
  unfold median
  dsimp only
  obtain ⟨p1, p2, p3⟩ := order2_in (D := D) (sw := sw) ha hb
  obtain ⟨q1, q2, q3⟩ := order2_in (D := D) (sw := (order2 ltK D a b sw).2.2) p2 hc
  obtain ⟨s1, s2, s3⟩ := order2_in (D := D) (sw := (order2 ltK D (order2 ltK D a b sw).2.1 c (order2 ltK D a b sw).2.2).2.2) p1 q1
  exact ⟨s2, by omega⟩
theorem medAK_any (v : Value) (n : Nat) (D : Array Ky) (a sw bs : Nat) (hD : D.size = n) (hn : n ≤ 1099511627776) (ha : 1 ≤ a ∧ a + 1 < n) (hs : sw ≤ 900) (w : World) (hw : OK w (fpL [rwK v n (D.toList), blkR bs 3 [.int .i64 (sw : Int)]]) [rwK v n (D.toList), blkR bs 3 [.int .i64 (sw : Int)]] w) :
    Fn Tryz.prog 119 [v, .int .i64 (a : Int), .pointer (some ⟨bs, 0, none⟩), .func (.func 60) #[] #[]] [rwK v n (D.toList), blkR bs 3 [.int .i64 (sw : Int)]] w (fun _ : Unit => True) (fun _ => .int .i64 ((medianAdjacent ltK D a sw).1 : Int)) (fun _ => [rwK v n (D.toList), blkR bs 3 [.int .i64 ((medianAdjacent ltK D a sw).2 : Int)]]) := by
  unfold medianAdjacent
  refine enterF Tryz.func119 rfl Tryz.ntmps119 rfl hw ?_
  refine WC.seq ?_
  refine WC.region ?_
  refine WL.y (Yl.assign rfl) rfl ?_
  refine WL.nil ?_
  refine WC.seq ?_
  refine WC.region ?_
  refine WL.y (Yl.move rfl) rfl ?_
  refine WL.y (Yl.move rfl) rfl ?_
  refine WL.y (Yl.sub rfl rfl (IntWalk.i64_in _ (by omega))) rfl ?_
  refine WL.say (t := 11) (v' := .int .i64 ((a - 1 : Nat) : Int)) rfl (by (refine congrArg _ ?_; omega)) ?_
  refine WL.y (Yl.move rfl) rfl ?_
  refine WL.y (Yl.move rfl) rfl ?_
  refine WL.y (Yl.add rfl rfl (IntWalk.i64_in _ (by omega))) rfl ?_
  refine WL.y (Yl.move rfl) rfl ?_
  refine WL.y (Yl.move rfl) rfl ?_
  refine WL.callC (xs := [.tmp 9, .tmp 11, .tmp 12, .tmp 14, .tmp 15, .tmp 16]) (cap := []) rfl rfl en120 (by repeat' constructor) (fun w hw => medK_any v n D (a - 1) a (a + 1) sw bs hD (by omega) (by omega) (by omega) hs w hw.left.here) rfl ?_
  rintro ⟨⟩ -
  dsimp only [List.cons_append, List.nil_append]
  refine WL.y (Yl.assign rfl) rfl ?_
  refine WL.nil ?_
  refine WC.ret ?_
  repeat (with_reducible (first | refine peelT ?_ | refine peelB ?_ | refine peelTX ?_ | refine peelBX ?_ | refine peelBN ?_ | refine peelBO rfl ?_))
  exact ret1 (.inr rfl) Tryz.results119 rfl fun w' h => ⟨(), trivial, rfl, h.sub (by repeat' constructor)⟩

end Go.Proofs.YtfobhdmhjjafcaaGreatDoorRR

namespace Go.Proofs.YtfobhdmhjjafcaaGreatDoorRR
open Go Go.RowKit Go.Sort

def chF (hi first root : Nat) (D : Array Ky) : Nat := if decide (((2 * root + 2 : Nat) : Int) < (hi : Int)) && ltK D[first + (2 * root + 1)]! D[first + (2 * root + 2)]! then 2 * root + 2 else 2 * root + 1
theorem chF_in {hi first root : Nat} {D : Array Ky} (h : 2 * root + 1 < hi) : chF hi first root D < hi ∧ root < chF hi first root D ∧ chF hi first root D ≤ 2 * root + 2 := by
  unfold chF
  split
  · rename_i e
    rw [Bool.and_eq_true] at e
    have := of_decide_eq_true e.1
    omega
  · omega
theorem sift_stop1 {hi first root : Nat} {D : Array Ky} (h : ¬ 2 * root + 1 < hi) : siftDown ltK hi first root D = D := by rw [siftDown, dif_pos (by omega)]
theorem chF_T {hi first root : Nat} {D : Array Ky} (h : (decide (2 * root + 1 + 1 < hi) && ltK D[first + (2 * root + 1)]! D[first + (2 * root + 1) + 1]!) = true) : chF hi first root D = 2 * root + 2 := by
  unfold chF
  rw [Bool.and_eq_true] at h
  rw [if_pos]
  rw [Bool.and_eq_true]
  exact ⟨decide_eq_true (by have := of_decide_eq_true h.1; omega), h.2⟩
theorem chF_F {hi first root : Nat} {D : Array Ky} (h : ¬ (decide (2 * root + 1 + 1 < hi) && ltK D[first + (2 * root + 1)]! D[first + (2 * root + 1) + 1]!) = true) : chF hi first root D = 2 * root + 1 := by
  unfold chF
  rw [if_neg]
  intro e
  rw [Bool.and_eq_true] at e
  exact h (by rw [Bool.and_eq_true]; exact ⟨decide_eq_true (by have := of_decide_eq_true e.1; omega), e.2⟩)
theorem sift_stop2 {hi first root : Nat} {D : Array Ky} (h : 2 * root + 1 < hi) (hl : ltK D[first + root]! D[first + chF hi first root D]! = false) : siftDown ltK hi first root D = D := by
  rw [siftDown, dif_neg (by omega)]
  split
  · rename_i e
    rw [chF_T e] at hl
    rw [if_pos (by rw [hl]; rfl)]
  · rename_i e
    rw [chF_F e] at hl
    rw [if_pos (by rw [hl]; rfl)]
theorem sift_go {hi first root : Nat} {D : Array Ky} (h : 2 * root + 1 < hi) (hl : ltK D[first + root]! D[first + chF hi first root D]! = true) : siftDown ltK hi first root D = siftDown ltK hi first (chF hi first root D) (swp D (first + root) (first + chF hi first root D)) := by
  have hc := chF_in (first := first) (D := D) h
  rw [siftDown, dif_neg (by omega)]
  split
  · rename_i e
    rw [chF_T e] at hl hc ⊢
    rw [if_neg (by rw [hl]; decide), dif_pos hc.1]
  · rename_i e
    rw [chF_F e] at hl hc ⊢
    rw [if_neg (by rw [hl]; decide)]

set_option maxRecDepth 100000 in
theorem siftK_any (v : Value) (n : Nat) (D : Array Ky) (lo hi first : Nat) (hD : D.size = n) (hn : n ≤ 1099511627776) (hlo : lo ≤ n) (hfi : first + hi ≤ n) (w : World) (hw : OK w (fpL [rwK v n (D.toList)]) [rwK v n (D.toList)] w) :
    Fn Tryz.prog 116 [v, .int .i64 (lo : Int), .int .i64 (hi : Int), .int .i64 (first : Int), .func (.func 60) #[] #[]] [rwK v n (D.toList)] w (fun _ : Unit => True) (fun _ => .tuple #[]) (fun _ => [rwK v n ((siftDown ltK hi first lo D).toList)]) := by
  have hF := sl_form (hw.get (r := rwK v n (D.toList)) .head)
  obtain ⟨T, hT⟩ : ∃ T, siftDown ltK hi first lo D = T := ⟨_, rfl⟩
  rw [hT]
  refine enterF Tryz.func116 rfl Tryz.ntmps116 rfl hw ?_
  refine WC.seq ?_
  refine WC.region ?_
  refine WL.y (Yl.move rfl) rfl ?_
  refine WL.y (Yl.assign rfl) rfl ?_
  refine WL.nil ?_
  refine WC.block ?_
  refine WC.loop (α := Nat × Array Ky) (fun p => [(0, v), (4, .func (.func 60) #[] #[]), (2, .int .i64 (hi : Int)), (3, .int .i64 (first : Int)), (10, .int .i64 (p.1 : Int))]) (fun p => [rwK v n (p.2.toList)]) (fun p => p.1 ≤ n ∧ p.2.size = n ∧ siftDown ltK hi first p.1 p.2 = T) (fun p => hi - p.1) (lo, D) ⟨hlo, hD, hT⟩ ⟨(by repeat (first | exact Sub.nil | refine Sub.cons rfl ?_)), _, (by repeat' constructor)⟩ ?_
  rintro ⟨root, G⟩ ⟨hr, hG, hTG⟩
  dsimp only at hr hG hTG ⊢
  refine WC.block ?_
  refine WC.seq ?_
  refine WC.region ?_
  refine WL.y (Yl.move rfl) rfl ?_
  refine WL.y (Yl.mul rfl rfl (IntWalk.i64_in _ (by omega))) rfl ?_
  refine WL.y (Yl.add rfl rfl (IntWalk.i64_in _ (by omega))) rfl ?_
  refine WL.say (t := 15) (v' := .int .i64 ((2 * root + 1 : Nat) : Int)) rfl (by (refine congrArg _ ?_; omega)) ?_
  refine WL.y (Yl.assign rfl) rfl ?_
  refine WL.nil ?_
  refine WC.seq ?_
  refine WC.seq ?_
  refine WC.region ?_
  refine WL.y (Yl.move rfl) rfl ?_
  refine WL.y (Yl.move rfl) rfl ?_
  refine WL.y (Yl.geq rfl rfl) rfl ?_
  refine WL.nil ?_
  refine WC.condD rfl (fun g18 => ?_) (fun g18 => ?_)
  · refine WC.exit ?_
    repeat (with_reducible (first | refine peelT ?_ | refine peelB ?_ | refine peelTX ?_ | refine peelBX ?_ | refine peelBN ?_ | refine peelBO rfl ?_))
    have hst : siftDown ltK hi first root G = G := sift_stop1 (by omega)
    rw [hst] at hTG
    subst hTG
    exact ret0 (.inl rfl) Tryz.results116 fun w' h => ⟨(), trivial, rfl, h.sub (by repeat' constructor)⟩
  · refine WC.skip ?_
    refine WC.midX (α := Unit) (fun _ => [(0, v), (4, .func (.func 60) #[] #[]), (2, .int .i64 (hi : Int)), (3, .int .i64 (first : Int)), (10, .int .i64 (root : Int)), (11, .int .i64 ((chF hi first root G : Nat) : Int))]) (fun _ => [rwK v n (G.toList)]) (fun _ => True) ?_ ?_
    · refine WC.seq ?_
      have hch : 2 * root + 1 < hi := by omega
      refine WC.drawAny (Hs := [rwK v n (G.toList)]) mixed (by kernel_rfl) ⟨_, (by repeat' constructor)⟩ ?_
      refine WD.take 0 rfl (by kernel_rfl) (by kernel_rfl) (by kernel_rfl) rfl rfl (Yl.move rfl) rfl ?_
      refine WD.take 1 rfl (by kernel_rfl) (by kernel_rfl) (by kernel_rfl) rfl rfl (Yl.add rfl rfl (IntWalk.i64_in _ (by omega))) rfl ?_
      refine WD.say (t := 20) (v' := .int .i64 ((2 * root + 2 : Nat) : Int)) rfl (by (refine congrArg _ ?_; omega)) ?_
      refine WD.take 2 rfl (by kernel_rfl) (by kernel_rfl) (by kernel_rfl) rfl rfl (Yl.move rfl) rfl ?_
      refine WD.take 3 rfl (by kernel_rfl) (by kernel_rfl) (by kernel_rfl) rfl rfl (Yl.lss rfl rfl) rfl ?_
      refine WD.take 4 rfl (by kernel_rfl) (by kernel_rfl) (by kernel_rfl) rfl rfl (Yl.move rfl) rfl ?_
      refine WD.both (t := 23) rfl (fun g23 => ?_) (fun g23 => ?_)
      · refine WD.takeOn 5 rfl (by kernel_rfl) (by kernel_rfl) (by kernel_rfl) rfl rfl rfl rfl (Yl.move rfl) rfl ?_
        have h21 : 2 * root + 2 < hi := by have := of_decide_eq_true g23; omega
        refine WD.takeOn 6 rfl (by kernel_rfl) (by kernel_rfl) (by kernel_rfl) rfl rfl rfl rfl (Yl.move rfl) rfl ?_
        refine WD.takeOn 7 rfl (by kernel_rfl) (by kernel_rfl) (by kernel_rfl) rfl rfl rfl rfl (Yl.move rfl) rfl ?_
        refine WD.takeOn 8 rfl (by kernel_rfl) (by kernel_rfl) (by kernel_rfl) rfl rfl rfl rfl (Yl.move rfl) rfl ?_
        refine WD.takeOn 9 rfl (by kernel_rfl) (by kernel_rfl) (by kernel_rfl) rfl rfl rfl rfl (Yl.add rfl rfl (IntWalk.i64_in _ (by omega))) rfl ?_
        refine WD.say (t := 28) (v' := .int .i64 ((first + (2 * root + 1) : Nat) : Int)) rfl (by (refine congrArg _ ?_; omega)) ?_
        refine WD.takeOn 10 rfl (by kernel_rfl) (by kernel_rfl) (by kernel_rfl) rfl rfl rfl rfl (Yl.indexF un22 sz30 rfl rfl hF rfl (by omega)) rfl ?_
        refine WD.takeOn 11 rfl (by kernel_rfl) (by kernel_rfl) (by kernel_rfl) rfl rfl rfl rfl (Yl.loadV vtK (fun _ _ => trivial) rfl (Reads.own (by repeat constructor)) (by rw [Array.length_toList]; omega) (so_getK (by omega))) rfl ?_
        refine WD.takeOn 12 rfl (by kernel_rfl) (by kernel_rfl) (by kernel_rfl) rfl rfl rfl rfl (Yl.move rfl) rfl ?_
        refine WD.takeOn 13 rfl (by kernel_rfl) (by kernel_rfl) (by kernel_rfl) rfl rfl rfl rfl (Yl.move rfl) rfl ?_
        refine WD.takeOn 14 rfl (by kernel_rfl) (by kernel_rfl) (by kernel_rfl) rfl rfl rfl rfl (Yl.move rfl) rfl ?_
        refine WD.takeOn 15 rfl (by kernel_rfl) (by kernel_rfl) (by kernel_rfl) rfl rfl rfl rfl (Yl.add rfl rfl (IntWalk.i64_in _ (by omega))) rfl ?_
        refine WD.say (t := 34) (v' := .int .i64 ((first + (2 * root + 1) : Nat) : Int)) rfl (by (refine congrArg _ ?_; omega)) ?_
        refine WD.takeOn 16 rfl (by kernel_rfl) (by kernel_rfl) (by kernel_rfl) rfl rfl rfl rfl (Yl.add rfl rfl (IntWalk.i64_in _ (by omega))) rfl ?_
        refine WD.say (t := 35) (v' := .int .i64 ((first + (2 * root + 2) : Nat) : Int)) rfl (by (refine congrArg _ ?_; omega)) ?_
        refine WD.takeOn 17 rfl (by kernel_rfl) (by kernel_rfl) (by kernel_rfl) rfl rfl rfl rfl (Yl.indexF un22 sz30 rfl rfl hF rfl (by omega)) rfl ?_
        refine WD.takeOn 18 rfl (by kernel_rfl) (by kernel_rfl) (by kernel_rfl) rfl rfl rfl rfl (Yl.loadV vtK (fun _ _ => trivial) rfl (Reads.own (by repeat constructor)) (by rw [Array.length_toList]; omega) (so_getK (by omega))) rfl ?_
        refine WD.one 19 (by kernel_rfl) ?_
        refine WO.callC (f := .tmp 24) (xs := [.tmp 30, .tmp 37]) (cap := []) rfl (.on rfl rfl) rfl rfl en60 (by repeat' constructor) (fun w hw => order_any _ _ w hw.left.here) rfl (fun _ => ⟨_, (by repeat' constructor)⟩) ?_
        rintro ⟨⟩ -
        refine WD.takeOn 20 rfl (by kernel_rfl) (by kernel_rfl) (by kernel_rfl) rfl rfl rfl rfl (Yl.lss rfl rfl) rfl ?_
        refine WD.say (t := 39) (v' := .bool (ltK _ _)) rfl (by rfl) ?_
        refine WD.take 21 rfl (by kernel_rfl) (by kernel_rfl) (by kernel_rfl) rfl rfl (Yl.pickT rfl rfl) rfl ?_
        refine WD.say (t := 40) (v' := .bool (decide (((2 * root + 2 : Nat) : Int) < (hi : Int)) && ltK G[first + (2 * root + 1)]! G[first + (2 * root + 2)]!)) rfl (by (rw [g23]; rfl)) ?_
        refine WD.done (by kernel_rfl) ?_
        refine WC.cond rfl (fun g40 => ?_) (fun g40 => ?_)
        · refine WC.region ?_
          refine WL.y (Yl.move rfl) rfl ?_
          refine WL.y (Yl.add rfl rfl (IntWalk.i64_in _ (by omega))) rfl ?_
          refine WL.say (t := 42) (v' := .int .i64 ((2 * root + 2 : Nat) : Int)) rfl (by (refine congrArg _ ?_; omega)) ?_
          refine WL.y (Yl.assign rfl) rfl ?_
          refine WL.nil ?_
          first
          | (rw [show chF hi first root G = 2 * root + 2 from if_pos g40]; exact ⟨rfl, (), trivial, (by repeat (first | exact Sub.nil | refine Sub.cons rfl ?_)), _, (by repeat' constructor)⟩)
          | (rw [show chF hi first root G = 2 * root + 1 from if_neg (ne_true_of_eq_false g40)]; exact ⟨rfl, (), trivial, (by repeat (first | exact Sub.nil | refine Sub.cons rfl ?_)), _, (by repeat' constructor)⟩)
        · refine WC.skip ?_
          first
          | (rw [show chF hi first root G = 2 * root + 2 from if_pos g40]; exact ⟨rfl, (), trivial, (by repeat (first | exact Sub.nil | refine Sub.cons rfl ?_)), _, (by repeat' constructor)⟩)
          | (rw [show chF hi first root G = 2 * root + 1 from if_neg (ne_true_of_eq_false g40)]; exact ⟨rfl, (), trivial, (by repeat (first | exact Sub.nil | refine Sub.cons rfl ?_)), _, (by repeat' constructor)⟩)
      · refine WD.takeOff 5 rfl (by kernel_rfl) (by kernel_rfl) (by kernel_rfl) rfl rfl rfl rfl rfl rfl ?_
        refine WD.takeOff 6 rfl (by kernel_rfl) (by kernel_rfl) (by kernel_rfl) rfl rfl rfl rfl rfl rfl ?_
        refine WD.takeOff 7 rfl (by kernel_rfl) (by kernel_rfl) (by kernel_rfl) rfl rfl rfl rfl rfl rfl ?_
        refine WD.takeOff 8 rfl (by kernel_rfl) (by kernel_rfl) (by kernel_rfl) rfl rfl rfl rfl rfl rfl ?_
        refine WD.takeOff 9 rfl (by kernel_rfl) (by kernel_rfl) (by kernel_rfl) rfl rfl rfl rfl rfl rfl ?_
        refine WD.takeOff 10 rfl (by kernel_rfl) (by kernel_rfl) (by kernel_rfl) rfl rfl rfl rfl rfl rfl ?_
        refine WD.takeOff 11 rfl (by kernel_rfl) (by kernel_rfl) (by kernel_rfl) rfl rfl rfl rfl rfl rfl ?_
        refine WD.takeOff 12 rfl (by kernel_rfl) (by kernel_rfl) (by kernel_rfl) rfl rfl rfl rfl rfl rfl ?_
        refine WD.takeOff 13 rfl (by kernel_rfl) (by kernel_rfl) (by kernel_rfl) rfl rfl rfl rfl rfl rfl ?_
        refine WD.takeOff 14 rfl (by kernel_rfl) (by kernel_rfl) (by kernel_rfl) rfl rfl rfl rfl rfl rfl ?_
        refine WD.takeOff 15 rfl (by kernel_rfl) (by kernel_rfl) (by kernel_rfl) rfl rfl rfl rfl rfl rfl ?_
        refine WD.takeOff 16 rfl (by kernel_rfl) (by kernel_rfl) (by kernel_rfl) rfl rfl rfl rfl rfl rfl ?_
        refine WD.takeOff 17 rfl (by kernel_rfl) (by kernel_rfl) (by kernel_rfl) rfl rfl rfl rfl rfl rfl ?_
        refine WD.takeOff 18 rfl (by kernel_rfl) (by kernel_rfl) (by kernel_rfl) rfl rfl rfl rfl rfl rfl ?_
        refine WD.one 19 (by kernel_rfl) ?_
        refine WO.off rfl rfl rfl rfl rfl rfl rfl ?_
        refine WD.takeOff 20 rfl (by kernel_rfl) (by kernel_rfl) (by kernel_rfl) rfl rfl rfl rfl rfl rfl ?_
        refine WD.take 21 rfl (by kernel_rfl) (by kernel_rfl) (by kernel_rfl) rfl rfl (Yl.pickF rfl rfl) rfl ?_
        refine WD.say (t := 40) (v' := .bool (decide (((2 * root + 2 : Nat) : Int) < (hi : Int)) && ltK G[first + (2 * root + 1)]! G[first + (2 * root + 2)]!)) rfl (by (rw [g23]; rfl)) ?_
        refine WD.done (by kernel_rfl) ?_
        refine WC.cond rfl (fun g40 => ?_) (fun g40 => ?_)
        · refine WC.region ?_
          refine WL.y (Yl.move rfl) rfl ?_
          refine WL.y (Yl.add rfl rfl (IntWalk.i64_in _ (by omega))) rfl ?_
          refine WL.say (t := 42) (v' := .int .i64 ((2 * root + 2 : Nat) : Int)) rfl (by (refine congrArg _ ?_; omega)) ?_
          refine WL.y (Yl.assign rfl) rfl ?_
          refine WL.nil ?_
          first
          | (rw [show chF hi first root G = 2 * root + 2 from if_pos g40]; exact ⟨rfl, (), trivial, (by repeat (first | exact Sub.nil | refine Sub.cons rfl ?_)), _, (by repeat' constructor)⟩)
          | (rw [show chF hi first root G = 2 * root + 1 from if_neg (ne_true_of_eq_false g40)]; exact ⟨rfl, (), trivial, (by repeat (first | exact Sub.nil | refine Sub.cons rfl ?_)), _, (by repeat' constructor)⟩)
        · refine WC.skip ?_
          first
          | (rw [show chF hi first root G = 2 * root + 2 from if_pos g40]; exact ⟨rfl, (), trivial, (by repeat (first | exact Sub.nil | refine Sub.cons rfl ?_)), _, (by repeat' constructor)⟩)
          | (rw [show chF hi first root G = 2 * root + 1 from if_neg (ne_true_of_eq_false g40)]; exact ⟨rfl, (), trivial, (by repeat (first | exact Sub.nil | refine Sub.cons rfl ?_)), _, (by repeat' constructor)⟩)
    · rintro ⟨⟩ -
      have hch : 2 * root + 1 < hi := by omega
      obtain ⟨hc1, hc2, hc3⟩ := chF_in (first := first) (D := G) hch
      have hs2 := sift_stop2 (first := first) (D := G) hch
      have hg2 := sift_go (first := first) (D := G) hch
      obtain ⟨ch, hce⟩ : ∃ ch, chF hi first root G = ch := ⟨_, rfl⟩
      rw [hce] at hc1 hc2 hc3 hs2 hg2 ⊢
      refine WC.seq ?_
      refine WC.seq ?_
      refine WC.drawAny (Hs := [rwK v n (G.toList)]) mixed (by kernel_rfl) ⟨_, (by repeat' constructor)⟩ ?_
      refine WD.take 0 rfl (by kernel_rfl) (by kernel_rfl) (by kernel_rfl) rfl rfl (Yl.move rfl) rfl ?_
      refine WD.take 1 rfl (by kernel_rfl) (by kernel_rfl) (by kernel_rfl) rfl rfl (Yl.move rfl) rfl ?_
      refine WD.take 2 rfl (by kernel_rfl) (by kernel_rfl) (by kernel_rfl) rfl rfl (Yl.move rfl) rfl ?_
      refine WD.take 3 rfl (by kernel_rfl) (by kernel_rfl) (by kernel_rfl) rfl rfl (Yl.move rfl) rfl ?_
      refine WD.take 4 rfl (by kernel_rfl) (by kernel_rfl) (by kernel_rfl) rfl rfl (Yl.add rfl rfl (IntWalk.i64_in _ (by omega))) rfl ?_
      refine WD.say (t := 47) (v' := .int .i64 ((first + root : Nat) : Int)) rfl (by (refine congrArg _ ?_; omega)) ?_
      refine WD.take 5 rfl (by kernel_rfl) (by kernel_rfl) (by kernel_rfl) rfl rfl (Yl.indexF un22 sz30 rfl rfl hF rfl (by omega)) rfl ?_
      refine WD.take 6 rfl (by kernel_rfl) (by kernel_rfl) (by kernel_rfl) rfl rfl (Yl.loadV vtK (fun _ _ => trivial) rfl (Reads.own (by repeat constructor)) (by rw [Array.length_toList]; omega) (so_getK (by omega))) rfl ?_
      refine WD.take 7 rfl (by kernel_rfl) (by kernel_rfl) (by kernel_rfl) rfl rfl (Yl.move rfl) rfl ?_
      refine WD.take 8 rfl (by kernel_rfl) (by kernel_rfl) (by kernel_rfl) rfl rfl (Yl.move rfl) rfl ?_
      refine WD.take 9 rfl (by kernel_rfl) (by kernel_rfl) (by kernel_rfl) rfl rfl (Yl.move rfl) rfl ?_
      refine WD.take 10 rfl (by kernel_rfl) (by kernel_rfl) (by kernel_rfl) rfl rfl (Yl.add rfl rfl (IntWalk.i64_in _ (by omega))) rfl ?_
      refine WD.say (t := 53) (v' := .int .i64 ((first + ch : Nat) : Int)) rfl (by (refine congrArg _ ?_; omega)) ?_
      refine WD.take 11 rfl (by kernel_rfl) (by kernel_rfl) (by kernel_rfl) rfl rfl (Yl.indexF un22 sz30 rfl rfl hF rfl (by omega)) rfl ?_
      refine WD.take 12 rfl (by kernel_rfl) (by kernel_rfl) (by kernel_rfl) rfl rfl (Yl.loadV vtK (fun _ _ => trivial) rfl (Reads.own (by repeat constructor)) (by rw [Array.length_toList]; omega) (so_getK (by omega))) rfl ?_
      refine WD.one 13 (by kernel_rfl) ?_
      refine WO.callC (f := .tmp 43) (xs := [.tmp 49, .tmp 55]) (cap := []) rfl .no rfl rfl en60 (by repeat' constructor) (fun w hw => order_any _ _ w hw.left.here) rfl (fun _ => ⟨_, (by repeat' constructor)⟩) ?_
      rintro ⟨⟩ -
      refine WD.take 14 rfl (by kernel_rfl) (by kernel_rfl) (by kernel_rfl) rfl rfl (Yl.lss rfl rfl) rfl ?_
      refine WD.say (t := 57) (v' := .bool (ltK _ _)) rfl (by rfl) ?_
      refine WD.take 15 rfl (by kernel_rfl) (by kernel_rfl) (by kernel_rfl) rfl rfl (Yl.not rfl) rfl ?_
      refine WD.done (by kernel_rfl) ?_
      refine WC.cond rfl (fun g58 => ?_) (fun g58 => ?_)
      · refine WC.ret ?_
        repeat (with_reducible (first | refine peelT ?_ | refine peelB ?_ | refine peelTX ?_ | refine peelBX ?_ | refine peelBN ?_ | refine peelBO rfl ?_))
        rw [hs2 (by simpa using g58)] at hTG
        subst hTG
        exact ret0 (.inr rfl) Tryz.results116 fun w' h => ⟨(), trivial, rfl, h.sub (by repeat' constructor)⟩
      · refine WC.skip ?_
        refine WC.seq ?_
        refine WC.drawAny (Hs := []) mixed (by kernel_rfl) ⟨_, (by repeat' constructor)⟩ ?_
        refine WD.take 0 rfl (by kernel_rfl) (by kernel_rfl) (by kernel_rfl) rfl rfl (Yl.move rfl) rfl ?_
        refine WD.take 1 rfl (by kernel_rfl) (by kernel_rfl) (by kernel_rfl) rfl rfl (Yl.move rfl) rfl ?_
        refine WD.take 2 rfl (by kernel_rfl) (by kernel_rfl) (by kernel_rfl) rfl rfl (Yl.move rfl) rfl ?_
        refine WD.take 3 rfl (by kernel_rfl) (by kernel_rfl) (by kernel_rfl) rfl rfl (Yl.add rfl rfl (IntWalk.i64_in _ (by omega))) rfl ?_
        refine WD.say (t := 62) (v' := .int .i64 ((first + root : Nat) : Int)) rfl (by (refine congrArg _ ?_; omega)) ?_
        refine WD.take 4 rfl (by kernel_rfl) (by kernel_rfl) (by kernel_rfl) rfl rfl (Yl.move rfl) rfl ?_
        refine WD.take 5 rfl (by kernel_rfl) (by kernel_rfl) (by kernel_rfl) rfl rfl (Yl.move rfl) rfl ?_
        refine WD.take 6 rfl (by kernel_rfl) (by kernel_rfl) (by kernel_rfl) rfl rfl (Yl.move rfl) rfl ?_
        refine WD.take 7 rfl (by kernel_rfl) (by kernel_rfl) (by kernel_rfl) rfl rfl (Yl.add rfl rfl (IntWalk.i64_in _ (by omega))) rfl ?_
        refine WD.say (t := 66) (v' := .int .i64 ((first + ch : Nat) : Int)) rfl (by (refine congrArg _ ?_; omega)) ?_
        refine WD.take 8 rfl (by kernel_rfl) (by kernel_rfl) (by kernel_rfl) rfl rfl (Yl.move rfl) rfl ?_
        refine WD.take 9 rfl (by kernel_rfl) (by kernel_rfl) (by kernel_rfl) rfl rfl (Yl.move rfl) rfl ?_
        refine WD.take 10 rfl (by kernel_rfl) (by kernel_rfl) (by kernel_rfl) rfl rfl (Yl.move rfl) rfl ?_
        refine WD.take 11 rfl (by kernel_rfl) (by kernel_rfl) (by kernel_rfl) rfl rfl (Yl.add rfl rfl (IntWalk.i64_in _ (by omega))) rfl ?_
        refine WD.say (t := 70) (v' := .int .i64 ((first + ch : Nat) : Int)) rfl (by (refine congrArg _ ?_; omega)) ?_
        refine WD.take 12 rfl (by kernel_rfl) (by kernel_rfl) (by kernel_rfl) rfl rfl (Yl.indexF un22 sz30 rfl rfl hF rfl (by omega)) rfl ?_
        refine WD.take 14 rfl (by kernel_rfl) (by kernel_rfl) (by kernel_rfl) rfl rfl (Yl.move rfl) rfl ?_
        refine WD.take 15 rfl (by kernel_rfl) (by kernel_rfl) (by kernel_rfl) rfl rfl (Yl.move rfl) rfl ?_
        refine WD.take 16 rfl (by kernel_rfl) (by kernel_rfl) (by kernel_rfl) rfl rfl (Yl.move rfl) rfl ?_
        refine WD.take 17 rfl (by kernel_rfl) (by kernel_rfl) (by kernel_rfl) rfl rfl (Yl.add rfl rfl (IntWalk.i64_in _ (by omega))) rfl ?_
        refine WD.say (t := 76) (v' := .int .i64 ((first + root : Nat) : Int)) rfl (by (refine congrArg _ ?_; omega)) ?_
        refine WD.take 18 rfl (by kernel_rfl) (by kernel_rfl) (by kernel_rfl) rfl rfl (Yl.indexF un22 sz30 rfl rfl hF rfl (by omega)) rfl ?_
        refine WD.two 13 19 (by kernel_rfl) ?_ ?_
        · refine WO.y rfl rfl .no (Yl.loadV vtK (fun _ _ => trivial) rfl (Reads.own (by repeat constructor)) (by rw [Array.length_toList]; omega) (so_getK (by omega))) rfl ?_
          refine WD.one 19 (by kernel_rfl) ?_
          refine WO.y rfl rfl .no (Yl.loadV vtK (fun _ _ => trivial) rfl (Reads.own (by repeat constructor)) (by rw [Array.length_toList]; omega) (so_getK (by omega))) rfl ?_
          refine WD.take 20 rfl (by kernel_rfl) (by kernel_rfl) (by kernel_rfl) rfl rfl (Yl.indexF un22 sz30 rfl rfl hF rfl (by omega)) rfl ?_
          refine WD.one 21 (by kernel_rfl) ?_
          refine WO.sto rfl rfl .no (Sto.elemV (j := first + root) (u := G[first + ch]!) (xs := G.toList) vtK (fun _ _ => trivial) trivial rfl rfl (by repeat constructor) (by rw [Array.length_toList]; omega) (by omega)) ⟨_, (by repeat' constructor)⟩ ?_
          refine WD.take 22 rfl (by kernel_rfl) (by kernel_rfl) (by kernel_rfl) rfl rfl (Yl.indexF un22 sz30 rfl rfl hF rfl (by omega)) rfl ?_
          refine WD.one 23 (by kernel_rfl) ?_
          refine WO.sto rfl rfl .no (Sto.elemV (j := first + ch) (u := G[first + root]!) (xs := G.toList.set (first + root) G[first + ch]!) vtK (fun _ _ => trivial) trivial rfl rfl (by repeat constructor) (by rw [List.length_set, Array.length_toList]; omega) (by omega)) ⟨_, (by repeat' constructor)⟩ ?_
          rw [so_swpK G (first + root) (first + ch)]
          refine WD.done (by kernel_rfl) ?_
          refine WC.region ?_
          refine WL.y (Yl.move rfl) rfl ?_
          refine WL.y (Yl.assign rfl) rfl ?_
          refine WL.nil ?_
          rw [hg2 (by simpa using g58)] at hTG
          exact ⟨rfl, (ch, swp G (first + root) (first + ch)), ⟨by dsimp only; omega, by dsimp only; rw [swp_size]; exact hG, hTG⟩, by dsimp only; omega, (by repeat (first | exact Sub.nil | refine Sub.cons rfl ?_)), _, (by repeat' constructor)⟩
        · refine WO.y rfl rfl .no (Yl.loadV vtK (fun _ _ => trivial) rfl (Reads.own (by repeat constructor)) (by rw [Array.length_toList]; omega) (so_getK (by omega))) rfl ?_
          refine WD.one 13 (by kernel_rfl) ?_
          refine WO.y rfl rfl .no (Yl.loadV vtK (fun _ _ => trivial) rfl (Reads.own (by repeat constructor)) (by rw [Array.length_toList]; omega) (so_getK (by omega))) rfl ?_
          refine WD.take 20 rfl (by kernel_rfl) (by kernel_rfl) (by kernel_rfl) rfl rfl (Yl.indexF un22 sz30 rfl rfl hF rfl (by omega)) rfl ?_
          refine WD.one 21 (by kernel_rfl) ?_
          refine WO.sto rfl rfl .no (Sto.elemV (j := first + root) (u := G[first + ch]!) (xs := G.toList) vtK (fun _ _ => trivial) trivial rfl rfl (by repeat constructor) (by rw [Array.length_toList]; omega) (by omega)) ⟨_, (by repeat' constructor)⟩ ?_
          refine WD.take 22 rfl (by kernel_rfl) (by kernel_rfl) (by kernel_rfl) rfl rfl (Yl.indexF un22 sz30 rfl rfl hF rfl (by omega)) rfl ?_
          refine WD.one 23 (by kernel_rfl) ?_
          refine WO.sto rfl rfl .no (Sto.elemV (j := first + ch) (u := G[first + root]!) (xs := G.toList.set (first + root) G[first + ch]!) vtK (fun _ _ => trivial) trivial rfl rfl (by repeat constructor) (by rw [List.length_set, Array.length_toList]; omega) (by omega)) ⟨_, (by repeat' constructor)⟩ ?_
          rw [so_swpK G (first + root) (first + ch)]
          refine WD.done (by kernel_rfl) ?_
          refine WC.region ?_
          refine WL.y (Yl.move rfl) rfl ?_
          refine WL.y (Yl.assign rfl) rfl ?_
          refine WL.nil ?_
          rw [hg2 (by simpa using g58)] at hTG
          exact ⟨rfl, (ch, swp G (first + root) (first + ch)), ⟨by dsimp only; omega, by dsimp only; rw [swp_size]; exact hG, hTG⟩, by dsimp only; omega, (by repeat (first | exact Sub.nil | refine Sub.cons rfl ?_)), _, (by repeat' constructor)⟩
theorem sift_size (hi first root : Nat) (D : Array Ky) : (siftDown ltK hi first root D).size = D.size := by
  induction h : hi - root using Nat.strongRecOn generalizing root D with
  | ind m ih =>
    by_cases h1 : 2 * root + 1 < hi
    · by_cases h2 : ltK D[first + root]! D[first + chF hi first root D]! = true
      · rw [sift_go h1 h2, ih (hi - chF hi first root D) (by have := chF_in (first := first) (D := D) h1; omega) _ _ rfl, swp_size]
      · rw [sift_stop2 h1 (by simpa using h2)]
    · rw [sift_stop1 h1]
end Go.Proofs.YtfobhdmhjjafcaaGreatDoorRR

namespace Go.Proofs.YtfobhdmhjjafcaaGreatDoorRR
open Go Go.RowKit Go.Sort

theorem half_in {h : Nat} (hh : h ≤ 1099511627776) : IntKind.i64.wrap (((h : Int) - 1).tdiv 2) = (((h - 1) / 2 + 1 : Nat) : Int) - 1 := by
  cases h with
  | zero => decide
  | succ h =>
    rw [Int.tdiv_eq_ediv_of_nonneg (by omega), IntWalk.i64_in _ (by omega)]
    omega
theorem hb_size (hi first : Nat) : ∀ (k : Nat) (D : Array Ky), (heapBuild ltK hi first k D).size = D.size
  | 0, D => rfl
  | k + 1, D => by rw [heapBuild, hb_size hi first k, sift_size]
set_option maxRecDepth 100000 in
theorem heapK_any (v : Value) (n : Nat) (D : Array Ky) (a b : Nat) (hD : D.size = n) (hn : n ≤ 1099511627776) (hab : a ≤ b) (hb : b ≤ n) (w : World) (hw : OK w (fpL [rwK v n (D.toList)]) [rwK v n (D.toList)] w) :
    Fn Tryz.prog 98 [v, .int .i64 (a : Int), .int .i64 (b : Int), .func (.func 60) #[] #[]] [rwK v n (D.toList)] w (fun _ : Unit => True) (fun _ => .tuple #[]) (fun _ => [rwK v n ((heapSort ltK D a b).toList)]) := by
  have hF := sl_form (hw.get (r := rwK v n (D.toList)) .head)
  unfold heapSort
  obtain ⟨H, hH⟩ : ∃ H, b - a = H := ⟨_, rfl⟩
  rw [hH]
  obtain ⟨B, hBe⟩ : ∃ B, heapBuild ltK H a ((H - 1) / 2 + 1) D = B := ⟨_, rfl⟩
  have hBs : B.size = n := by rw [← hBe, hb_size, hD]
  obtain ⟨T, hT⟩ : ∃ T, heapPop ltK a H B = T := ⟨_, rfl⟩
  rw [hBe, hT]
  refine enterF Tryz.func98 rfl Tryz.ntmps98 rfl hw ?_
  refine WC.seq ?_
  refine WC.region ?_
  refine WL.y (Yl.move rfl) rfl ?_
  refine WL.y (Yl.assign rfl) rfl ?_
  refine WL.nil ?_
  refine WC.seq ?_
  refine WC.region ?_
  refine WL.y (Yl.assign rfl) rfl ?_
  refine WL.nil ?_
  refine WC.seq ?_
  refine WC.region ?_
  refine WL.y (Yl.move rfl) rfl ?_
  refine WL.y (Yl.move rfl) rfl ?_
  refine WL.y (Yl.sub rfl rfl (IntWalk.i64_in _ (by omega))) rfl ?_
  refine WL.say (t := 16) (v' := .int .i64 (H : Int)) rfl (by (refine congrArg _ ?_; omega)) ?_
  refine WL.y (Yl.assign rfl) rfl ?_
  refine WL.nil ?_
  refine WC.seq ?_
  refine WC.seq ?_
  refine WC.region ?_
  refine WL.y (Yl.move rfl) rfl ?_
  refine WL.y (Yl.sub rfl rfl (IntWalk.i64_in _ (by omega))) rfl ?_
  refine WL.y (Yl.quo rfl rfl (by omega) (half_in (by omega))) rfl ?_
  refine WL.y (Yl.assign rfl) rfl ?_
  refine WL.nil ?_
  refine WC.block ?_
  refine WC.loop (α := Nat × Array Ky) (fun p => [(0, v), (3, .func (.func 60) #[] #[]), (8, .int .i64 (a : Int)), (9, .int .i64 0), (10, .int .i64 (H : Int)), (11, .int .i64 ((p.1 : Int) - 1))]) (fun p => [rwK v n (p.2.toList)]) (fun p => p.1 ≤ (H - 1) / 2 + 1 ∧ p.2.size = n ∧ heapBuild ltK H a p.1 p.2 = B) (fun p => p.1) ((H - 1) / 2 + 1, D) ⟨Nat.le_refl _, hD, hBe⟩ ⟨(by repeat (first | exact Sub.nil | refine Sub.cons rfl ?_)), _, (by repeat' constructor)⟩ ?_
  rintro ⟨k, G⟩ ⟨hk, hG, hTG⟩
  dsimp only at hk hG hTG ⊢
  refine WC.seq ?_
  refine WC.seq ?_
  refine WC.region ?_
  refine WL.y (Yl.move rfl) rfl ?_
  refine WL.y (Yl.geq rfl rfl) rfl ?_
  refine WL.nil ?_
  refine WC.condD rfl (fun g21 => ?_) (fun g21 => ?_)
  · refine WC.skip ?_
    refine WC.seq ?_
    refine WC.block ?_
    obtain ⟨k, rfl⟩ : ∃ k', k = k' + 1 := ⟨k - 1, by omega⟩
    have hsz := sift_size H a k G
    refine WC.region ?_
    refine WL.y (Yl.move rfl) rfl ?_
    refine WL.y (Yl.move rfl) rfl ?_
    refine WL.say (t := 25) (v' := .int .i64 (k : Int)) rfl (by (refine congrArg _ ?_; omega)) ?_
    refine WL.y (Yl.move rfl) rfl ?_
    refine WL.y (Yl.move rfl) rfl ?_
    refine WL.y (Yl.move rfl) rfl ?_
    refine WL.callC (xs := [.tmp 24, .tmp 25, .tmp 26, .tmp 27, .tmp 28]) (cap := []) rfl rfl en116 (by repeat' constructor) (fun w hw => siftK_any v n G k H a hG hn (by omega) (by omega) w hw.left.here) rfl ?_
    rintro ⟨⟩ -
    dsimp only [List.cons_append, List.nil_append]
    refine WL.nil ?_
    refine WC.region ?_
    refine WL.y (Yl.move rfl) rfl ?_
    refine WL.y (Yl.sub rfl rfl (IntWalk.i64_in _ (by omega))) rfl ?_
    refine WL.say (t := 23) (v' := .int .i64 ((k : Int) - 1)) rfl (by (refine congrArg _ ?_; omega)) ?_
    refine WL.y (Yl.assign rfl) rfl ?_
    refine WL.nil ?_
    exact ⟨rfl, (k, siftDown ltK H a k G), ⟨by dsimp only; omega, by dsimp only; omega, hTG⟩, by dsimp only; omega, (by repeat (first | exact Sub.nil | refine Sub.cons rfl ?_)), _, (by repeat' constructor)⟩
  · refine WC.exit ?_
    refine WC.seq ?_
    have hk0 : k = 0 := by omega
    subst hk0
    have hGB : G = B := hTG
    subst hGB
    refine WC.region ?_
    refine WL.y (Yl.move rfl) rfl ?_
    refine WL.y (Yl.sub rfl rfl (IntWalk.i64_in _ (by omega))) rfl ?_
    refine WL.y (Yl.assign rfl) rfl ?_
    refine WL.nil ?_
    refine WC.block ?_
    refine WC.loop (α := Nat × Array Ky) (fun p => [(0, v), (3, .func (.func 60) #[] #[]), (8, .int .i64 (a : Int)), (9, .int .i64 0), (12, .int .i64 ((p.1 : Int) - 1))]) (fun p => [rwK v n (p.2.toList)]) (fun p => p.1 ≤ H ∧ p.2.size = n ∧ heapPop ltK a p.1 p.2 = T) (fun p => p.1) (H, G) ⟨Nat.le_refl _, hG, hT⟩ ⟨(by repeat (first | exact Sub.nil | refine Sub.cons rfl ?_)), _, (by repeat' constructor)⟩ ?_
    rintro ⟨k, E⟩ ⟨hk, hE, hTE⟩
    dsimp only at hk hE hTE ⊢
    refine WC.seq ?_
    refine WC.seq ?_
    refine WC.region ?_
    refine WL.y (Yl.move rfl) rfl ?_
    refine WL.y (Yl.geq rfl rfl) rfl ?_
    refine WL.nil ?_
    refine WC.condD rfl (fun g33 => ?_) (fun g33 => ?_)
    · refine WC.skip ?_
      refine WC.seq ?_
      refine WC.block ?_
      refine WC.seq ?_
      obtain ⟨k, rfl⟩ : ∃ k', k = k' + 1 := ⟨k - 1, by omega⟩
      have hsw := swp_size E a (a + k)
      have hsz := sift_size k a 0 (swp E a (a + k))
      refine WC.drawAny (Hs := []) mixed (by kernel_rfl) ⟨_, (by repeat' constructor)⟩ ?_
      refine WD.take 0 rfl (by kernel_rfl) (by kernel_rfl) (by kernel_rfl) rfl rfl (Yl.move rfl) rfl ?_
      refine WD.take 1 rfl (by kernel_rfl) (by kernel_rfl) (by kernel_rfl) rfl rfl (Yl.move rfl) rfl ?_
      refine WD.take 2 rfl (by kernel_rfl) (by kernel_rfl) (by kernel_rfl) rfl rfl (Yl.move rfl) rfl ?_
      refine WD.take 3 rfl (by kernel_rfl) (by kernel_rfl) (by kernel_rfl) rfl rfl (Yl.move rfl) rfl ?_
      refine WD.take 4 rfl (by kernel_rfl) (by kernel_rfl) (by kernel_rfl) rfl rfl (Yl.move rfl) rfl ?_
      refine WD.take 5 rfl (by kernel_rfl) (by kernel_rfl) (by kernel_rfl) rfl rfl (Yl.add rfl rfl (IntWalk.i64_in _ (by omega))) rfl ?_
      refine WD.say (t := 41) (v' := .int .i64 ((a + k : Nat) : Int)) rfl (by (refine congrArg _ ?_; omega)) ?_
      refine WD.take 6 rfl (by kernel_rfl) (by kernel_rfl) (by kernel_rfl) rfl rfl (Yl.move rfl) rfl ?_
      refine WD.take 7 rfl (by kernel_rfl) (by kernel_rfl) (by kernel_rfl) rfl rfl (Yl.move rfl) rfl ?_
      refine WD.take 8 rfl (by kernel_rfl) (by kernel_rfl) (by kernel_rfl) rfl rfl (Yl.move rfl) rfl ?_
      refine WD.take 9 rfl (by kernel_rfl) (by kernel_rfl) (by kernel_rfl) rfl rfl (Yl.add rfl rfl (IntWalk.i64_in _ (by omega))) rfl ?_
      refine WD.say (t := 45) (v' := .int .i64 ((a + k : Nat) : Int)) rfl (by (refine congrArg _ ?_; omega)) ?_
      refine WD.take 10 rfl (by kernel_rfl) (by kernel_rfl) (by kernel_rfl) rfl rfl (Yl.indexF un22 sz30 rfl rfl hF rfl (by omega)) rfl ?_
      refine WD.take 12 rfl (by kernel_rfl) (by kernel_rfl) (by kernel_rfl) rfl rfl (Yl.move rfl) rfl ?_
      refine WD.take 13 rfl (by kernel_rfl) (by kernel_rfl) (by kernel_rfl) rfl rfl (Yl.move rfl) rfl ?_
      refine WD.take 14 rfl (by kernel_rfl) (by kernel_rfl) (by kernel_rfl) rfl rfl (Yl.indexF un22 sz30 rfl rfl hF rfl (by omega)) rfl ?_
      refine WD.two 11 15 (by kernel_rfl) ?_ ?_
      · refine WO.y rfl rfl .no (Yl.loadV vtK (fun _ _ => trivial) rfl (Reads.own (by repeat constructor)) (by rw [Array.length_toList]; omega) (so_getK (by omega))) rfl ?_
        refine WD.one 15 (by kernel_rfl) ?_
        refine WO.y rfl rfl .no (Yl.loadV vtK (fun _ _ => trivial) rfl (Reads.own (by repeat constructor)) (by rw [Array.length_toList]; omega) (so_getK (by omega))) rfl ?_
        refine WD.take 16 rfl (by kernel_rfl) (by kernel_rfl) (by kernel_rfl) rfl rfl (Yl.indexF un22 sz30 rfl rfl hF rfl (by omega)) rfl ?_
        refine WD.one 17 (by kernel_rfl) ?_
        refine WO.sto rfl rfl .no (Sto.elemV (j := a) (u := E[a + k]!) (xs := E.toList) vtK (fun _ _ => trivial) trivial rfl rfl (by repeat constructor) (by rw [Array.length_toList]; omega) (by omega)) ⟨_, (by repeat' constructor)⟩ ?_
        refine WD.take 18 rfl (by kernel_rfl) (by kernel_rfl) (by kernel_rfl) rfl rfl (Yl.indexF un22 sz30 rfl rfl hF rfl (by omega)) rfl ?_
        refine WD.one 19 (by kernel_rfl) ?_
        refine WO.sto rfl rfl .no (Sto.elemV (j := a + k) (u := E[a]!) (xs := E.toList.set (a) E[a + k]!) vtK (fun _ _ => trivial) trivial rfl rfl (by repeat constructor) (by rw [List.length_set, Array.length_toList]; omega) (by omega)) ⟨_, (by repeat' constructor)⟩ ?_
        rw [so_swpK E (a) (a + k)]
        refine WD.done (by kernel_rfl) ?_
        refine WC.region ?_
        refine WL.y (Yl.move rfl) rfl ?_
        refine WL.y (Yl.move rfl) rfl ?_
        refine WL.y (Yl.move rfl) rfl ?_
        refine WL.say (t := 56) (v' := .int .i64 (k : Int)) rfl (by (refine congrArg _ ?_; omega)) ?_
        refine WL.y (Yl.move rfl) rfl ?_
        refine WL.y (Yl.move rfl) rfl ?_
        refine WL.callC (xs := [.tmp 54, .tmp 55, .tmp 56, .tmp 57, .tmp 58]) (cap := []) rfl rfl en116 (by repeat' constructor) (fun w hw => siftK_any v n (swp E a (a + k)) 0 k a (by omega) hn (Nat.zero_le _) (by omega) w hw.left.here) rfl ?_
        rintro ⟨⟩ -
        dsimp only [List.cons_append, List.nil_append]
        refine WL.nil ?_
        refine WC.region ?_
        refine WL.y (Yl.move rfl) rfl ?_
        refine WL.y (Yl.sub rfl rfl (IntWalk.i64_in _ (by omega))) rfl ?_
        refine WL.say (t := 35) (v' := .int .i64 ((k : Int) - 1)) rfl (by (refine congrArg _ ?_; omega)) ?_
        refine WL.y (Yl.assign rfl) rfl ?_
        refine WL.nil ?_
        exact ⟨rfl, (k, siftDown ltK k a 0 (swp E a (a + k))), ⟨by dsimp only; omega, by dsimp only; omega, hTE⟩, by dsimp only; omega, (by repeat (first | exact Sub.nil | refine Sub.cons rfl ?_)), _, (by repeat' constructor)⟩
      · refine WO.y rfl rfl .no (Yl.loadV vtK (fun _ _ => trivial) rfl (Reads.own (by repeat constructor)) (by rw [Array.length_toList]; omega) (so_getK (by omega))) rfl ?_
        refine WD.one 11 (by kernel_rfl) ?_
        refine WO.y rfl rfl .no (Yl.loadV vtK (fun _ _ => trivial) rfl (Reads.own (by repeat constructor)) (by rw [Array.length_toList]; omega) (so_getK (by omega))) rfl ?_
        refine WD.take 16 rfl (by kernel_rfl) (by kernel_rfl) (by kernel_rfl) rfl rfl (Yl.indexF un22 sz30 rfl rfl hF rfl (by omega)) rfl ?_
        refine WD.one 17 (by kernel_rfl) ?_
        refine WO.sto rfl rfl .no (Sto.elemV (j := a) (u := E[a + k]!) (xs := E.toList) vtK (fun _ _ => trivial) trivial rfl rfl (by repeat constructor) (by rw [Array.length_toList]; omega) (by omega)) ⟨_, (by repeat' constructor)⟩ ?_
        refine WD.take 18 rfl (by kernel_rfl) (by kernel_rfl) (by kernel_rfl) rfl rfl (Yl.indexF un22 sz30 rfl rfl hF rfl (by omega)) rfl ?_
        refine WD.one 19 (by kernel_rfl) ?_
        refine WO.sto rfl rfl .no (Sto.elemV (j := a + k) (u := E[a]!) (xs := E.toList.set (a) E[a + k]!) vtK (fun _ _ => trivial) trivial rfl rfl (by repeat constructor) (by rw [List.length_set, Array.length_toList]; omega) (by omega)) ⟨_, (by repeat' constructor)⟩ ?_
        rw [so_swpK E (a) (a + k)]
        refine WD.done (by kernel_rfl) ?_
        refine WC.region ?_
        refine WL.y (Yl.move rfl) rfl ?_
        refine WL.y (Yl.move rfl) rfl ?_
        refine WL.y (Yl.move rfl) rfl ?_
        refine WL.say (t := 56) (v' := .int .i64 (k : Int)) rfl (by (refine congrArg _ ?_; omega)) ?_
        refine WL.y (Yl.move rfl) rfl ?_
        refine WL.y (Yl.move rfl) rfl ?_
        refine WL.callC (xs := [.tmp 54, .tmp 55, .tmp 56, .tmp 57, .tmp 58]) (cap := []) rfl rfl en116 (by repeat' constructor) (fun w hw => siftK_any v n (swp E a (a + k)) 0 k a (by omega) hn (Nat.zero_le _) (by omega) w hw.left.here) rfl ?_
        rintro ⟨⟩ -
        dsimp only [List.cons_append, List.nil_append]
        refine WL.nil ?_
        refine WC.region ?_
        refine WL.y (Yl.move rfl) rfl ?_
        refine WL.y (Yl.sub rfl rfl (IntWalk.i64_in _ (by omega))) rfl ?_
        refine WL.say (t := 35) (v' := .int .i64 ((k : Int) - 1)) rfl (by (refine congrArg _ ?_; omega)) ?_
        refine WL.y (Yl.assign rfl) rfl ?_
        refine WL.nil ?_
        exact ⟨rfl, (k, siftDown ltK k a 0 (swp E a (a + k))), ⟨by dsimp only; omega, by dsimp only; omega, hTE⟩, by dsimp only; omega, (by repeat (first | exact Sub.nil | refine Sub.cons rfl ?_)), _, (by repeat' constructor)⟩
    · refine WC.exit ?_
      repeat (with_reducible (first | refine peelT ?_ | refine peelB ?_ | refine peelTX ?_ | refine peelBX ?_ | refine peelBN ?_ | refine peelBO rfl ?_))
      have hk0 : k = 0 := by omega
      subst hk0
      have hGB : E = T := hTE
      subst hGB
      exact ret0 (.inl rfl) Tryz.results98 fun w' h => ⟨(), trivial, rfl, h.sub (by repeat' constructor)⟩

theorem rev_go {i j : Nat} {D : Array Ky} (h : i < j) : reverseLoop i j D = reverseLoop (i + 1) (j - 1) (swp D i j) := by rw [reverseLoop, if_pos h]
theorem rev_stop {i j : Nat} {D : Array Ky} (h : ¬ i < j) : reverseLoop i j D = D := by rw [reverseLoop, if_neg h]
set_option maxRecDepth 100000 in
theorem revK_any (v : Value) (n : Nat) (D : Array Ky) (a b : Nat) (hD : D.size = n) (hn : n ≤ 1099511627776) (hab : a < b) (hb : b ≤ n) (w : World) (hw : OK w (fpL [rwK v n (D.toList)]) [rwK v n (D.toList)] w) :
    Fn Tryz.prog 101 [v, .int .i64 (a : Int), .int .i64 (b : Int), .func (.func 60) #[] #[]] [rwK v n (D.toList)] w (fun _ : Unit => True) (fun _ => .tuple #[]) (fun _ => [rwK v n ((reverseRange D a b).toList)]) := by
  have hF := sl_form (hw.get (r := rwK v n (D.toList)) .head)
  unfold reverseRange
  obtain ⟨T, hT⟩ : ∃ T, reverseLoop a (b - 1) D = T := ⟨_, rfl⟩
  rw [hT]
  refine enterF Tryz.func101 rfl Tryz.ntmps101 rfl hw ?_
  refine WC.seq ?_
  refine WC.region ?_
  refine WL.y (Yl.move rfl) rfl ?_
  refine WL.y (Yl.assign rfl) rfl ?_
  refine WL.nil ?_
  refine WC.seq ?_
  refine WC.region ?_
  refine WL.y (Yl.move rfl) rfl ?_
  refine WL.y (Yl.sub rfl rfl (IntWalk.i64_in _ (by omega))) rfl ?_
  refine WL.say (t := 12) (v' := .int .i64 ((b - 1 : Nat) : Int)) rfl (by (refine congrArg _ ?_; omega)) ?_
  refine WL.y (Yl.assign rfl) rfl ?_
  refine WL.nil ?_
  refine WC.block ?_
  refine WC.loop (α := Nat × Nat × Array Ky) (fun p => [(0, v), (3, .func (.func 60) #[] #[]), (8, .int .i64 (p.1 : Int)), (9, .int .i64 (p.2.1 : Int))]) (fun p => [rwK v n (p.2.2.toList)]) (fun p => p.2.1 < n ∧ p.1 ≤ n ∧ p.2.2.size = n ∧ reverseLoop p.1 p.2.1 p.2.2 = T) (fun p => p.2.1) (a, b - 1, D) ⟨by dsimp only; omega, by dsimp only; omega, hD, hT⟩ ⟨(by repeat (first | exact Sub.nil | refine Sub.cons rfl ?_)), _, (by repeat' constructor)⟩ ?_
  rintro ⟨i, j, G⟩ ⟨hj, hi, hG, hTG⟩
  dsimp only at hi hj hG hTG ⊢
  refine WC.seq ?_
  refine WC.seq ?_
  refine WC.region ?_
  refine WL.y (Yl.move rfl) rfl ?_
  refine WL.y (Yl.move rfl) rfl ?_
  refine WL.y (Yl.lss rfl rfl) rfl ?_
  refine WL.nil ?_
  refine WC.condD rfl (fun g15 => ?_) (fun g15 => ?_)
  · refine WC.skip ?_
    refine WC.block ?_
    refine WC.seq ?_
    have hij : i < j := by omega
    rw [rev_go hij] at hTG
    refine WC.drawAny (Hs := []) mixed (by kernel_rfl) ⟨_, (by repeat' constructor)⟩ ?_
    refine WD.take 0 rfl (by kernel_rfl) (by kernel_rfl) (by kernel_rfl) rfl rfl (Yl.move rfl) rfl ?_
    refine WD.take 1 rfl (by kernel_rfl) (by kernel_rfl) (by kernel_rfl) rfl rfl (Yl.move rfl) rfl ?_
    refine WD.take 2 rfl (by kernel_rfl) (by kernel_rfl) (by kernel_rfl) rfl rfl (Yl.move rfl) rfl ?_
    refine WD.take 3 rfl (by kernel_rfl) (by kernel_rfl) (by kernel_rfl) rfl rfl (Yl.move rfl) rfl ?_
    refine WD.take 4 rfl (by kernel_rfl) (by kernel_rfl) (by kernel_rfl) rfl rfl (Yl.move rfl) rfl ?_
    refine WD.take 5 rfl (by kernel_rfl) (by kernel_rfl) (by kernel_rfl) rfl rfl (Yl.move rfl) rfl ?_
    refine WD.take 6 rfl (by kernel_rfl) (by kernel_rfl) (by kernel_rfl) rfl rfl (Yl.indexF un22 sz30 rfl rfl hF rfl (by omega)) rfl ?_
    refine WD.take 8 rfl (by kernel_rfl) (by kernel_rfl) (by kernel_rfl) rfl rfl (Yl.move rfl) rfl ?_
    refine WD.take 9 rfl (by kernel_rfl) (by kernel_rfl) (by kernel_rfl) rfl rfl (Yl.move rfl) rfl ?_
    refine WD.take 10 rfl (by kernel_rfl) (by kernel_rfl) (by kernel_rfl) rfl rfl (Yl.indexF un22 sz30 rfl rfl hF rfl (by omega)) rfl ?_
    refine WD.two 7 11 (by kernel_rfl) ?_ ?_
    · refine WO.y rfl rfl .no (Yl.loadV vtK (fun _ _ => trivial) rfl (Reads.own (by repeat constructor)) (by rw [Array.length_toList]; omega) (so_getK (by omega))) rfl ?_
      refine WD.one 11 (by kernel_rfl) ?_
      refine WO.y rfl rfl .no (Yl.loadV vtK (fun _ _ => trivial) rfl (Reads.own (by repeat constructor)) (by rw [Array.length_toList]; omega) (so_getK (by omega))) rfl ?_
      refine WD.take 12 rfl (by kernel_rfl) (by kernel_rfl) (by kernel_rfl) rfl rfl (Yl.indexF un22 sz30 rfl rfl hF rfl (by omega)) rfl ?_
      refine WD.one 13 (by kernel_rfl) ?_
      refine WO.sto rfl rfl .no (Sto.elemV (j := i) (u := G[j]!) (xs := G.toList) vtK (fun _ _ => trivial) trivial rfl rfl (by repeat constructor) (by rw [Array.length_toList]; omega) (by omega)) ⟨_, (by repeat' constructor)⟩ ?_
      refine WD.take 14 rfl (by kernel_rfl) (by kernel_rfl) (by kernel_rfl) rfl rfl (Yl.indexF un22 sz30 rfl rfl hF rfl (by omega)) rfl ?_
      refine WD.one 15 (by kernel_rfl) ?_
      refine WO.sto rfl rfl .no (Sto.elemV (j := j) (u := G[i]!) (xs := G.toList.set (i) G[j]!) vtK (fun _ _ => trivial) trivial rfl rfl (by repeat constructor) (by rw [List.length_set, Array.length_toList]; omega) (by omega)) ⟨_, (by repeat' constructor)⟩ ?_
      rw [so_swpK G (i) (j)]
      refine WD.done (by kernel_rfl) ?_
      refine WC.seq ?_
      refine WC.region ?_
      refine WL.y (Yl.move rfl) rfl ?_
      refine WL.y (Yl.add rfl rfl (IntWalk.i64_in _ (by omega))) rfl ?_
      refine WL.y (Yl.assign rfl) rfl ?_
      refine WL.nil ?_
      refine WC.region ?_
      refine WL.y (Yl.move rfl) rfl ?_
      refine WL.y (Yl.sub rfl rfl (IntWalk.i64_in _ (by omega))) rfl ?_
      refine WL.say (t := 33) (v' := .int .i64 ((j - 1 : Nat) : Int)) rfl (by (refine congrArg _ ?_; omega)) ?_
      refine WL.y (Yl.assign rfl) rfl ?_
      refine WL.nil ?_
      exact ⟨rfl, (i + 1, j - 1, swp G i j), ⟨by dsimp only; omega, by dsimp only; omega, by dsimp only; rw [swp_size]; exact hG, hTG⟩, by dsimp only; omega, (by repeat (first | exact Sub.nil | refine Sub.cons rfl ?_)), _, (by repeat' constructor)⟩
    · refine WO.y rfl rfl .no (Yl.loadV vtK (fun _ _ => trivial) rfl (Reads.own (by repeat constructor)) (by rw [Array.length_toList]; omega) (so_getK (by omega))) rfl ?_
      refine WD.one 7 (by kernel_rfl) ?_
      refine WO.y rfl rfl .no (Yl.loadV vtK (fun _ _ => trivial) rfl (Reads.own (by repeat constructor)) (by rw [Array.length_toList]; omega) (so_getK (by omega))) rfl ?_
      refine WD.take 12 rfl (by kernel_rfl) (by kernel_rfl) (by kernel_rfl) rfl rfl (Yl.indexF un22 sz30 rfl rfl hF rfl (by omega)) rfl ?_
      refine WD.one 13 (by kernel_rfl) ?_
      refine WO.sto rfl rfl .no (Sto.elemV (j := i) (u := G[j]!) (xs := G.toList) vtK (fun _ _ => trivial) trivial rfl rfl (by repeat constructor) (by rw [Array.length_toList]; omega) (by omega)) ⟨_, (by repeat' constructor)⟩ ?_
      refine WD.take 14 rfl (by kernel_rfl) (by kernel_rfl) (by kernel_rfl) rfl rfl (Yl.indexF un22 sz30 rfl rfl hF rfl (by omega)) rfl ?_
      refine WD.one 15 (by kernel_rfl) ?_
      refine WO.sto rfl rfl .no (Sto.elemV (j := j) (u := G[i]!) (xs := G.toList.set (i) G[j]!) vtK (fun _ _ => trivial) trivial rfl rfl (by repeat constructor) (by rw [List.length_set, Array.length_toList]; omega) (by omega)) ⟨_, (by repeat' constructor)⟩ ?_
      rw [so_swpK G (i) (j)]
      refine WD.done (by kernel_rfl) ?_
      refine WC.seq ?_
      refine WC.region ?_
      refine WL.y (Yl.move rfl) rfl ?_
      refine WL.y (Yl.add rfl rfl (IntWalk.i64_in _ (by omega))) rfl ?_
      refine WL.y (Yl.assign rfl) rfl ?_
      refine WL.nil ?_
      refine WC.region ?_
      refine WL.y (Yl.move rfl) rfl ?_
      refine WL.y (Yl.sub rfl rfl (IntWalk.i64_in _ (by omega))) rfl ?_
      refine WL.say (t := 33) (v' := .int .i64 ((j - 1 : Nat) : Int)) rfl (by (refine congrArg _ ?_; omega)) ?_
      refine WL.y (Yl.assign rfl) rfl ?_
      refine WL.nil ?_
      exact ⟨rfl, (i + 1, j - 1, swp G i j), ⟨by dsimp only; omega, by dsimp only; omega, by dsimp only; rw [swp_size]; exact hG, hTG⟩, by dsimp only; omega, (by repeat (first | exact Sub.nil | refine Sub.cons rfl ?_)), _, (by repeat' constructor)⟩
  · refine WC.exit ?_
    repeat (with_reducible (first | refine peelT ?_ | refine peelB ?_ | refine peelTX ?_ | refine peelBX ?_ | refine peelBN ?_ | refine peelBO rfl ?_))
    have hij : ¬ i < j := by omega
    rw [rev_stop hij] at hTG
    subst hTG
    exact ret0 (.inl rfl) Tryz.results101 fun w' h => ⟨(), trivial, rfl, h.sub (by repeat' constructor)⟩
end Go.Proofs.YtfobhdmhjjafcaaGreatDoorRR

namespace Go.Proofs.YtfobhdmhjjafcaaGreatDoorRR
open Go Go.RowKit Go.Sort

theorem leB (i j : Nat) : decide ((i : Int) ≤ (j : Int)) = decide (i ≤ j) := by
  rw [decide_eq_decide]
  omega
theorem up_go {p : Ky → Bool} {D : Array Ky} {i j : Nat} (h : (decide ((i : Int) ≤ (j : Int)) && p D[i]!) = true) : scanUp p D j i = scanUp p D j (i + 1) := by
  rw [leB] at h
  conv => lhs; rw [scanUp]
  rw [if_pos h]
theorem up_stop {p : Ky → Bool} {D : Array Ky} {i j : Nat} (h : (decide ((i : Int) ≤ (j : Int)) && p D[i]!) = false) : scanUp p D j i = i := by
  rw [leB] at h
  rw [scanUp, if_neg (ne_true_of_eq_false h)]
theorem down_go {p : Ky → Bool} {D : Array Ky} {i j : Nat} (hi : 1 ≤ i) (h : (decide ((i : Int) ≤ (j : Int)) && p D[j]!) = true) : scanDown p D i j = scanDown p D i (j - 1) := by
  rw [leB] at h
  cases j with
  | zero => rfl
  | succ j => rw [scanDown, if_pos h]; rfl
theorem down_stop {p : Ky → Bool} {D : Array Ky} {i j : Nat} (hi : 1 ≤ i) (h : (decide ((i : Int) ≤ (j : Int)) && p D[j]!) = false) : scanDown p D i j = j := by
  rw [leB] at h
  cases j with
  | zero => rfl
  | succ j => rw [scanDown, if_neg (ne_true_of_eq_false h)]
theorem and_le {i j : Nat} {c : Bool} (h : (decide ((i : Int) ≤ (j : Int)) && c) = true) : i ≤ j := by
  rw [Bool.and_eq_true] at h
  have := of_decide_eq_true h.1
  omega

set_option maxHeartbeats 1600000 in
set_option maxRecDepth 100000 in
theorem peqK_any (v : Value) (n : Nat) (D : Array Ky) (a b pv : Nat) (hD : D.size = n) (hn : n ≤ 1099511627776) (hap : a ≤ pv) (hpb : pv < b) (hb : b ≤ n) (w : World) (hw : OK w (fpL [rwK v n (D.toList)]) [rwK v n (D.toList)] w) :
    Fn Tryz.prog 103 [v, .int .i64 (a : Int), .int .i64 (b : Int), .int .i64 (pv : Int), .func (.func 60) #[] #[]] [rwK v n (D.toList)] w (fun _ : Unit => True) (fun _ => .int .i64 ((partitionEqual ltK D a b pv).1 : Int)) (fun _ => [rwK v n ((partitionEqual ltK D a b pv).2.toList)]) := by
  have hF := sl_form (hw.get (r := rwK v n (D.toList)) .head)
  unfold partitionEqual
  have hsz := swp_size D a pv
  obtain ⟨T, hT⟩ : ∃ T, partEqLoop ltK a (a + 1) (b - 1) (swp D a pv) = T := ⟨_, rfl⟩
  rw [hT]
  refine enterF Tryz.func103 rfl Tryz.ntmps103 rfl hw ?_
  refine WC.seq ?_
  refine WC.region ?_
  refine WL.y (Yl.assign rfl) rfl ?_
  refine WL.nil ?_
  refine WC.seq ?_
  refine WC.drawAny (Hs := []) mixed (by kernel_rfl) ⟨_, (by repeat' constructor)⟩ ?_
  refine WD.take 0 rfl (by kernel_rfl) (by kernel_rfl) (by kernel_rfl) rfl rfl (Yl.move rfl) rfl ?_
  refine WD.take 1 rfl (by kernel_rfl) (by kernel_rfl) (by kernel_rfl) rfl rfl (Yl.move rfl) rfl ?_
  refine WD.take 2 rfl (by kernel_rfl) (by kernel_rfl) (by kernel_rfl) rfl rfl (Yl.move rfl) rfl ?_
  refine WD.take 3 rfl (by kernel_rfl) (by kernel_rfl) (by kernel_rfl) rfl rfl (Yl.move rfl) rfl ?_
  refine WD.take 4 rfl (by kernel_rfl) (by kernel_rfl) (by kernel_rfl) rfl rfl (Yl.move rfl) rfl ?_
  refine WD.take 5 rfl (by kernel_rfl) (by kernel_rfl) (by kernel_rfl) rfl rfl (Yl.move rfl) rfl ?_
  refine WD.take 6 rfl (by kernel_rfl) (by kernel_rfl) (by kernel_rfl) rfl rfl (Yl.indexF un22 sz30 rfl rfl hF rfl (by omega)) rfl ?_
  refine WD.take 8 rfl (by kernel_rfl) (by kernel_rfl) (by kernel_rfl) rfl rfl (Yl.move rfl) rfl ?_
  refine WD.take 9 rfl (by kernel_rfl) (by kernel_rfl) (by kernel_rfl) rfl rfl (Yl.move rfl) rfl ?_
  refine WD.take 10 rfl (by kernel_rfl) (by kernel_rfl) (by kernel_rfl) rfl rfl (Yl.indexF un22 sz30 rfl rfl hF rfl (by omega)) rfl ?_
  refine WD.two 7 11 (by kernel_rfl) ?_ ?_
  · refine WO.y rfl rfl .no (Yl.loadV vtK (fun _ _ => trivial) rfl (Reads.own (by repeat constructor)) (by rw [Array.length_toList]; omega) (so_getK (by omega))) rfl ?_
    refine WD.one 11 (by kernel_rfl) ?_
    refine WO.y rfl rfl .no (Yl.loadV vtK (fun _ _ => trivial) rfl (Reads.own (by repeat constructor)) (by rw [Array.length_toList]; omega) (so_getK (by omega))) rfl ?_
    refine WD.take 12 rfl (by kernel_rfl) (by kernel_rfl) (by kernel_rfl) rfl rfl (Yl.indexF un22 sz30 rfl rfl hF rfl (by omega)) rfl ?_
    refine WD.one 13 (by kernel_rfl) ?_
    refine WO.sto rfl rfl .no (Sto.elemV (j := a) (u := D[pv]!) (xs := D.toList) vtK (fun _ _ => trivial) trivial rfl rfl (by repeat constructor) (by rw [Array.length_toList]; omega) (by omega)) ⟨_, (by repeat' constructor)⟩ ?_
    refine WD.take 14 rfl (by kernel_rfl) (by kernel_rfl) (by kernel_rfl) rfl rfl (Yl.indexF un22 sz30 rfl rfl hF rfl (by omega)) rfl ?_
    refine WD.one 15 (by kernel_rfl) ?_
    refine WO.sto rfl rfl .no (Sto.elemV (j := pv) (u := D[a]!) (xs := D.toList.set (a) D[pv]!) vtK (fun _ _ => trivial) trivial rfl rfl (by repeat constructor) (by rw [List.length_set, Array.length_toList]; omega) (by omega)) ⟨_, (by repeat' constructor)⟩ ?_
    rw [so_swpK D (a) (pv)]
    refine WD.done (by kernel_rfl) ?_
    refine WC.seq ?_
    refine WC.region ?_
    refine WL.y (Yl.move rfl) rfl ?_
    refine WL.y (Yl.add rfl rfl (IntWalk.i64_in _ (by omega))) rfl ?_
    refine WL.y (Yl.move rfl) rfl ?_
    refine WL.y (Yl.sub rfl rfl (IntWalk.i64_in _ (by omega))) rfl ?_
    refine WL.say (t := 30) (v' := .int .i64 ((b - 1 : Nat) : Int)) rfl (by (refine congrArg _ ?_; omega)) ?_
    refine WL.y (Yl.assign rfl) rfl ?_
    refine WL.y (Yl.assign rfl) rfl ?_
    refine WL.nil ?_
    refine WC.seq ?_
    refine WC.block ?_
    refine WC.loop (α := Nat × Nat × Array Ky) (fun p => [(0, v), (4, .func (.func 60) #[] #[]), (1, .int .i64 (a : Int)), (11, .int .i64 (p.1 : Int)), (12, .int .i64 (p.2.1 : Int))]) (fun p => [rwK v n (p.2.2.toList)]) (fun p => (a < p.1 ∧ p.1 ≤ n) ∧ p.2.1 < n ∧ p.2.2.size = n ∧ partEqLoop ltK a p.1 p.2.1 p.2.2 = T) (fun p => p.2.1 + 1 - p.1) (a + 1, b - 1, swp D a pv) ⟨by dsimp only; omega, by dsimp only; omega, by dsimp only; omega, hT⟩ ⟨(by repeat (first | exact Sub.nil | refine Sub.cons rfl ?_)), _, (by repeat' constructor)⟩ ?_
    rintro ⟨i, j, G⟩ ⟨⟨hai, hin⟩, hjn, hG, hTG⟩
    dsimp only at hai hin hjn hG hTG ⊢
    have hgu := scanUp_ge (fun x => !ltK G[a]! x) G j i
    have hgd := scanDown_le (fun x => ltK G[a]! x) G (scanUp (fun x => !ltK G[a]! x) G j i) j
    rw [partEqLoop_eq] at hTG
    obtain ⟨I, hI⟩ : ∃ I, scanUp (fun x => !ltK G[a]! x) G j i = I := ⟨_, rfl⟩
    rw [hI] at hgu hgd hTG
    obtain ⟨J, hJ⟩ : ∃ J, scanDown (fun x => ltK G[a]! x) G I j = J := ⟨_, rfl⟩
    rw [hJ] at hgd hTG
    refine WC.block ?_
    refine WC.seq ?_
    refine WC.block ?_
    refine WC.loop (α := Nat) (fun p => [(0, v), (4, .func (.func 60) #[] #[]), (1, .int .i64 (a : Int)), (11, .int .i64 (p : Int)), (12, .int .i64 (j : Int))]) (fun _ => [rwK v n (G.toList)]) (fun p => (a < p ∧ p ≤ n) ∧ scanUp (fun x => !ltK G[a]! x) G j p = I) (fun p => n + 1 - p) i ⟨⟨hai, hin⟩, hI⟩ ⟨(by repeat (first | exact Sub.nil | refine Sub.cons rfl ?_)), _, (by repeat' constructor)⟩ ?_
    rintro p ⟨⟨hap', hpn⟩, hpI⟩
    refine WC.seq ?_
    refine WC.midX (α := Unit) (fun _ => [(0, v), (4, .func (.func 60) #[] #[]), (1, .int .i64 (a : Int)), (11, .int .i64 (p : Int)), (12, .int .i64 (j : Int)), (47, .bool (decide ((p : Int) ≤ (j : Int)) && !ltK G[a]! G[p]!))]) (fun _ => [rwK v n (G.toList)]) (fun _ => True) ?_ ?_
    · refine WC.drawAny (Hs := [rwK v n (G.toList)]) mixed (by kernel_rfl) ⟨_, (by repeat' constructor)⟩ ?_
      refine WD.take 0 rfl (by kernel_rfl) (by kernel_rfl) (by kernel_rfl) rfl rfl (Yl.move rfl) rfl ?_
      refine WD.take 1 rfl (by kernel_rfl) (by kernel_rfl) (by kernel_rfl) rfl rfl (Yl.move rfl) rfl ?_
      refine WD.take 2 rfl (by kernel_rfl) (by kernel_rfl) (by kernel_rfl) rfl rfl (Yl.leq rfl rfl) rfl ?_
      refine WD.take 3 rfl (by kernel_rfl) (by kernel_rfl) (by kernel_rfl) rfl rfl (Yl.move rfl) rfl ?_
      refine WD.both (t := 34) rfl (fun g34 => ?_) (fun g34 => ?_)
      · refine WD.takeOn 4 rfl (by kernel_rfl) (by kernel_rfl) (by kernel_rfl) rfl rfl rfl rfl (Yl.move rfl) rfl ?_
        have hpj : p ≤ j := by have := of_decide_eq_true g34; omega
        refine WD.takeOn 5 rfl (by kernel_rfl) (by kernel_rfl) (by kernel_rfl) rfl rfl rfl rfl (Yl.move rfl) rfl ?_
        refine WD.takeOn 6 rfl (by kernel_rfl) (by kernel_rfl) (by kernel_rfl) rfl rfl rfl rfl (Yl.move rfl) rfl ?_
        refine WD.takeOn 7 rfl (by kernel_rfl) (by kernel_rfl) (by kernel_rfl) rfl rfl rfl rfl (Yl.indexF un22 sz30 rfl rfl hF rfl (by omega)) rfl ?_
        refine WD.takeOn 8 rfl (by kernel_rfl) (by kernel_rfl) (by kernel_rfl) rfl rfl rfl rfl (Yl.loadV vtK (fun _ _ => trivial) rfl (Reads.own (by repeat constructor)) (by rw [Array.length_toList]; omega) (so_getK (by omega))) rfl ?_
        refine WD.takeOn 9 rfl (by kernel_rfl) (by kernel_rfl) (by kernel_rfl) rfl rfl rfl rfl (Yl.move rfl) rfl ?_
        refine WD.takeOn 10 rfl (by kernel_rfl) (by kernel_rfl) (by kernel_rfl) rfl rfl rfl rfl (Yl.move rfl) rfl ?_
        refine WD.takeOn 11 rfl (by kernel_rfl) (by kernel_rfl) (by kernel_rfl) rfl rfl rfl rfl (Yl.indexF un22 sz30 rfl rfl hF rfl (by omega)) rfl ?_
        refine WD.takeOn 12 rfl (by kernel_rfl) (by kernel_rfl) (by kernel_rfl) rfl rfl rfl rfl (Yl.loadV vtK (fun _ _ => trivial) rfl (Reads.own (by repeat constructor)) (by rw [Array.length_toList]; omega) (so_getK (by omega))) rfl ?_
        refine WD.one 13 (by kernel_rfl) ?_
        refine WO.callC (f := .tmp 35) (xs := [.tmp 39, .tmp 43]) (cap := []) rfl (.on rfl rfl) rfl rfl en60 (by repeat' constructor) (fun w hw => order_any _ _ w hw.left.here) rfl (fun _ => ⟨_, (by repeat' constructor)⟩) ?_
        rintro ⟨⟩ -
        refine WD.takeOn 14 rfl (by kernel_rfl) (by kernel_rfl) (by kernel_rfl) rfl rfl rfl rfl (Yl.lss rfl rfl) rfl ?_
        refine WD.say (t := 45) (v' := .bool (ltK _ _)) rfl (by rfl) ?_
        refine WD.takeOn 15 rfl (by kernel_rfl) (by kernel_rfl) (by kernel_rfl) rfl rfl rfl rfl (Yl.not rfl) rfl ?_
        refine WD.take 16 rfl (by kernel_rfl) (by kernel_rfl) (by kernel_rfl) rfl rfl (Yl.pickT rfl rfl) rfl ?_
        refine WD.say (t := 47) (v' := .bool (decide ((p : Int) ≤ (j : Int)) && !ltK G[a]! G[p]!)) rfl (by (rw [g34]; rfl)) ?_
        refine WD.done (by kernel_rfl) ?_
        exact ⟨rfl, (), trivial, (by repeat (first | exact Sub.nil | refine Sub.cons rfl ?_)), _, (by repeat' constructor)⟩
      · refine WD.takeOff 4 rfl (by kernel_rfl) (by kernel_rfl) (by kernel_rfl) rfl rfl rfl rfl rfl rfl ?_
        refine WD.takeOff 5 rfl (by kernel_rfl) (by kernel_rfl) (by kernel_rfl) rfl rfl rfl rfl rfl rfl ?_
        refine WD.takeOff 6 rfl (by kernel_rfl) (by kernel_rfl) (by kernel_rfl) rfl rfl rfl rfl rfl rfl ?_
        refine WD.takeOff 7 rfl (by kernel_rfl) (by kernel_rfl) (by kernel_rfl) rfl rfl rfl rfl rfl rfl ?_
        refine WD.takeOff 8 rfl (by kernel_rfl) (by kernel_rfl) (by kernel_rfl) rfl rfl rfl rfl rfl rfl ?_
        refine WD.takeOff 9 rfl (by kernel_rfl) (by kernel_rfl) (by kernel_rfl) rfl rfl rfl rfl rfl rfl ?_
        refine WD.takeOff 10 rfl (by kernel_rfl) (by kernel_rfl) (by kernel_rfl) rfl rfl rfl rfl rfl rfl ?_
        refine WD.takeOff 11 rfl (by kernel_rfl) (by kernel_rfl) (by kernel_rfl) rfl rfl rfl rfl rfl rfl ?_
        refine WD.takeOff 12 rfl (by kernel_rfl) (by kernel_rfl) (by kernel_rfl) rfl rfl rfl rfl rfl rfl ?_
        refine WD.one 13 (by kernel_rfl) ?_
        refine WO.off rfl rfl rfl rfl rfl rfl rfl ?_
        refine WD.takeOff 14 rfl (by kernel_rfl) (by kernel_rfl) (by kernel_rfl) rfl rfl rfl rfl rfl rfl ?_
        refine WD.takeOff 15 rfl (by kernel_rfl) (by kernel_rfl) (by kernel_rfl) rfl rfl rfl rfl rfl rfl ?_
        refine WD.take 16 rfl (by kernel_rfl) (by kernel_rfl) (by kernel_rfl) rfl rfl (Yl.pickF rfl rfl) rfl ?_
        refine WD.say (t := 47) (v' := .bool (decide ((p : Int) ≤ (j : Int)) && !ltK G[a]! G[p]!)) rfl (by (rw [g34]; rfl)) ?_
        refine WD.done (by kernel_rfl) ?_
        exact ⟨rfl, (), trivial, (by repeat (first | exact Sub.nil | refine Sub.cons rfl ?_)), _, (by repeat' constructor)⟩
    · rintro ⟨⟩ -
      refine WC.cond rfl (fun g47 => ?_) (fun g47 => ?_)
      · refine WC.skip ?_
        refine WC.block ?_
        have hpj := and_le g47
        refine WC.region ?_
        refine WL.y (Yl.move rfl) rfl ?_
        refine WL.y (Yl.add rfl rfl (IntWalk.i64_in _ (by omega))) rfl ?_
        refine WL.y (Yl.assign rfl) rfl ?_
        refine WL.nil ?_
        exact ⟨rfl, p + 1, ⟨by omega, by rw [← up_go g47]; exact hpI⟩, by omega, (by repeat (first | exact Sub.nil | refine Sub.cons rfl ?_)), _, (by repeat' constructor)⟩
      · refine WC.exit ?_
        refine WC.seq ?_
        refine WC.block ?_
        have hpe : p = I := by rw [← hpI]; exact (up_stop g47).symm
        subst hpe
        refine WC.loop (α := Nat) (fun q => [(0, v), (4, .func (.func 60) #[] #[]), (1, .int .i64 (a : Int)), (11, .int .i64 (p : Int)), (12, .int .i64 (q : Int))]) (fun _ => [rwK v n (G.toList)]) (fun q => q < n ∧ scanDown (fun x => ltK G[a]! x) G p q = J) (fun q => q) j ⟨hjn, hJ⟩ ⟨(by repeat (first | exact Sub.nil | refine Sub.cons rfl ?_)), _, (by repeat' constructor)⟩ ?_
        rintro q ⟨hqn, hqJ⟩
        refine WC.seq ?_
        refine WC.midX (α := Unit) (fun _ => [(0, v), (4, .func (.func 60) #[] #[]), (1, .int .i64 (a : Int)), (11, .int .i64 (p : Int)), (12, .int .i64 (q : Int)), (65, .bool (decide ((p : Int) ≤ (q : Int)) && ltK G[a]! G[q]!))]) (fun _ => [rwK v n (G.toList)]) (fun _ => True) ?_ ?_
        · refine WC.drawAny (Hs := [rwK v n (G.toList)]) mixed (by kernel_rfl) ⟨_, (by repeat' constructor)⟩ ?_
          refine WD.take 0 rfl (by kernel_rfl) (by kernel_rfl) (by kernel_rfl) rfl rfl (Yl.move rfl) rfl ?_
          refine WD.take 1 rfl (by kernel_rfl) (by kernel_rfl) (by kernel_rfl) rfl rfl (Yl.move rfl) rfl ?_
          refine WD.take 2 rfl (by kernel_rfl) (by kernel_rfl) (by kernel_rfl) rfl rfl (Yl.leq rfl rfl) rfl ?_
          refine WD.take 3 rfl (by kernel_rfl) (by kernel_rfl) (by kernel_rfl) rfl rfl (Yl.move rfl) rfl ?_
          refine WD.both (t := 53) rfl (fun g53 => ?_) (fun g53 => ?_)
          · refine WD.takeOn 4 rfl (by kernel_rfl) (by kernel_rfl) (by kernel_rfl) rfl rfl rfl rfl (Yl.move rfl) rfl ?_
            refine WD.takeOn 5 rfl (by kernel_rfl) (by kernel_rfl) (by kernel_rfl) rfl rfl rfl rfl (Yl.move rfl) rfl ?_
            refine WD.takeOn 6 rfl (by kernel_rfl) (by kernel_rfl) (by kernel_rfl) rfl rfl rfl rfl (Yl.move rfl) rfl ?_
            refine WD.takeOn 7 rfl (by kernel_rfl) (by kernel_rfl) (by kernel_rfl) rfl rfl rfl rfl (Yl.indexF un22 sz30 rfl rfl hF rfl (by omega)) rfl ?_
            refine WD.takeOn 8 rfl (by kernel_rfl) (by kernel_rfl) (by kernel_rfl) rfl rfl rfl rfl (Yl.loadV vtK (fun _ _ => trivial) rfl (Reads.own (by repeat constructor)) (by rw [Array.length_toList]; omega) (so_getK (by omega))) rfl ?_
            refine WD.takeOn 9 rfl (by kernel_rfl) (by kernel_rfl) (by kernel_rfl) rfl rfl rfl rfl (Yl.move rfl) rfl ?_
            refine WD.takeOn 10 rfl (by kernel_rfl) (by kernel_rfl) (by kernel_rfl) rfl rfl rfl rfl (Yl.move rfl) rfl ?_
            refine WD.takeOn 11 rfl (by kernel_rfl) (by kernel_rfl) (by kernel_rfl) rfl rfl rfl rfl (Yl.indexF un22 sz30 rfl rfl hF rfl (by omega)) rfl ?_
            refine WD.takeOn 12 rfl (by kernel_rfl) (by kernel_rfl) (by kernel_rfl) rfl rfl rfl rfl (Yl.loadV vtK (fun _ _ => trivial) rfl (Reads.own (by repeat constructor)) (by rw [Array.length_toList]; omega) (so_getK (by omega))) rfl ?_
            refine WD.one 13 (by kernel_rfl) ?_
            refine WO.callC (f := .tmp 54) (xs := [.tmp 58, .tmp 62]) (cap := []) rfl (.on rfl rfl) rfl rfl en60 (by repeat' constructor) (fun w hw => order_any _ _ w hw.left.here) rfl (fun _ => ⟨_, (by repeat' constructor)⟩) ?_
            rintro ⟨⟩ -
            refine WD.takeOn 14 rfl (by kernel_rfl) (by kernel_rfl) (by kernel_rfl) rfl rfl rfl rfl (Yl.lss rfl rfl) rfl ?_
            refine WD.say (t := 64) (v' := .bool (ltK _ _)) rfl (by rfl) ?_
            refine WD.take 15 rfl (by kernel_rfl) (by kernel_rfl) (by kernel_rfl) rfl rfl (Yl.pickT rfl rfl) rfl ?_
            refine WD.say (t := 65) (v' := .bool (decide ((p : Int) ≤ (q : Int)) && ltK G[a]! G[q]!)) rfl (by (rw [g53]; rfl)) ?_
            refine WD.done (by kernel_rfl) ?_
            exact ⟨rfl, (), trivial, (by repeat (first | exact Sub.nil | refine Sub.cons rfl ?_)), _, (by repeat' constructor)⟩
          · refine WD.takeOff 4 rfl (by kernel_rfl) (by kernel_rfl) (by kernel_rfl) rfl rfl rfl rfl rfl rfl ?_
            refine WD.takeOff 5 rfl (by kernel_rfl) (by kernel_rfl) (by kernel_rfl) rfl rfl rfl rfl rfl rfl ?_
            refine WD.takeOff 6 rfl (by kernel_rfl) (by kernel_rfl) (by kernel_rfl) rfl rfl rfl rfl rfl rfl ?_
            refine WD.takeOff 7 rfl (by kernel_rfl) (by kernel_rfl) (by kernel_rfl) rfl rfl rfl rfl rfl rfl ?_
            refine WD.takeOff 8 rfl (by kernel_rfl) (by kernel_rfl) (by kernel_rfl) rfl rfl rfl rfl rfl rfl ?_
            refine WD.takeOff 9 rfl (by kernel_rfl) (by kernel_rfl) (by kernel_rfl) rfl rfl rfl rfl rfl rfl ?_
            refine WD.takeOff 10 rfl (by kernel_rfl) (by kernel_rfl) (by kernel_rfl) rfl rfl rfl rfl rfl rfl ?_
            refine WD.takeOff 11 rfl (by kernel_rfl) (by kernel_rfl) (by kernel_rfl) rfl rfl rfl rfl rfl rfl ?_
            refine WD.takeOff 12 rfl (by kernel_rfl) (by kernel_rfl) (by kernel_rfl) rfl rfl rfl rfl rfl rfl ?_
            refine WD.one 13 (by kernel_rfl) ?_
            refine WO.off rfl rfl rfl rfl rfl rfl rfl ?_
            refine WD.takeOff 14 rfl (by kernel_rfl) (by kernel_rfl) (by kernel_rfl) rfl rfl rfl rfl rfl rfl ?_
            refine WD.take 15 rfl (by kernel_rfl) (by kernel_rfl) (by kernel_rfl) rfl rfl (Yl.pickF rfl rfl) rfl ?_
            refine WD.say (t := 65) (v' := .bool (decide ((p : Int) ≤ (q : Int)) && ltK G[a]! G[q]!)) rfl (by (rw [g53]; rfl)) ?_
            refine WD.done (by kernel_rfl) ?_
            exact ⟨rfl, (), trivial, (by repeat (first | exact Sub.nil | refine Sub.cons rfl ?_)), _, (by repeat' constructor)⟩
        · rintro ⟨⟩ -
          refine WC.cond rfl (fun g65 => ?_) (fun g65 => ?_)
          · refine WC.skip ?_
            refine WC.block ?_
            have hpq := and_le g65
            refine WC.region ?_
            refine WL.y (Yl.move rfl) rfl ?_
            refine WL.y (Yl.sub rfl rfl (IntWalk.i64_in _ (by omega))) rfl ?_
            refine WL.say (t := 67) (v' := .int .i64 ((q - 1 : Nat) : Int)) rfl (by (refine congrArg _ ?_; omega)) ?_
            refine WL.y (Yl.assign rfl) rfl ?_
            refine WL.nil ?_
            exact ⟨rfl, q - 1, ⟨by omega, by rw [← down_go (by omega) g65]; exact hqJ⟩, by omega, (by repeat (first | exact Sub.nil | refine Sub.cons rfl ?_)), _, (by repeat' constructor)⟩
          · refine WC.exit ?_
            refine WC.seq ?_
            refine WC.seq ?_
            have hqe : q = J := by rw [← hqJ]; exact (down_stop (by omega) g65).symm
            subst hqe
            refine WC.region ?_
            refine WL.y (Yl.move rfl) rfl ?_
            refine WL.y (Yl.move rfl) rfl ?_
            refine WL.y (Yl.gtr rfl rfl) rfl ?_
            refine WL.nil ?_
            refine WC.condD rfl (fun g70 => ?_) (fun g70 => ?_)
            · refine WC.exit ?_
              refine WC.seq ?_
              have hpq : p > q := by omega
              rw [if_pos hpq] at hTG
              subst hTG
              refine WC.region ?_
              refine WL.y (Yl.move rfl) rfl ?_
              refine WL.y (Yl.assign rfl) rfl ?_
              refine WL.nil ?_
              refine WC.ret ?_
              repeat (with_reducible (first | refine peelT ?_ | refine peelB ?_ | refine peelTX ?_ | refine peelBX ?_ | refine peelBN ?_ | refine peelBO rfl ?_))
              exact ret1 (.inr rfl) Tryz.results103 rfl fun w' h => ⟨(), trivial, rfl, h.sub (by repeat' constructor)⟩
            · refine WC.skip ?_
              refine WC.seq ?_
              have hpq : ¬ p > q := by omega
              rw [if_neg hpq] at hTG
              refine WC.drawAny (Hs := []) mixed (by kernel_rfl) ⟨_, (by repeat' constructor)⟩ ?_
              refine WD.take 0 rfl (by kernel_rfl) (by kernel_rfl) (by kernel_rfl) rfl rfl (Yl.move rfl) rfl ?_
              refine WD.take 1 rfl (by kernel_rfl) (by kernel_rfl) (by kernel_rfl) rfl rfl (Yl.move rfl) rfl ?_
              refine WD.take 2 rfl (by kernel_rfl) (by kernel_rfl) (by kernel_rfl) rfl rfl (Yl.move rfl) rfl ?_
              refine WD.take 3 rfl (by kernel_rfl) (by kernel_rfl) (by kernel_rfl) rfl rfl (Yl.move rfl) rfl ?_
              refine WD.take 4 rfl (by kernel_rfl) (by kernel_rfl) (by kernel_rfl) rfl rfl (Yl.move rfl) rfl ?_
              refine WD.take 5 rfl (by kernel_rfl) (by kernel_rfl) (by kernel_rfl) rfl rfl (Yl.move rfl) rfl ?_
              refine WD.take 6 rfl (by kernel_rfl) (by kernel_rfl) (by kernel_rfl) rfl rfl (Yl.indexF un22 sz30 rfl rfl hF rfl (by omega)) rfl ?_
              refine WD.take 8 rfl (by kernel_rfl) (by kernel_rfl) (by kernel_rfl) rfl rfl (Yl.move rfl) rfl ?_
              refine WD.take 9 rfl (by kernel_rfl) (by kernel_rfl) (by kernel_rfl) rfl rfl (Yl.move rfl) rfl ?_
              refine WD.take 10 rfl (by kernel_rfl) (by kernel_rfl) (by kernel_rfl) rfl rfl (Yl.indexF un22 sz30 rfl rfl hF rfl (by omega)) rfl ?_
              refine WD.two 7 11 (by kernel_rfl) ?_ ?_
              · refine WO.y rfl rfl .no (Yl.loadV vtK (fun _ _ => trivial) rfl (Reads.own (by repeat constructor)) (by rw [Array.length_toList]; omega) (so_getK (by omega))) rfl ?_
                refine WD.one 11 (by kernel_rfl) ?_
                refine WO.y rfl rfl .no (Yl.loadV vtK (fun _ _ => trivial) rfl (Reads.own (by repeat constructor)) (by rw [Array.length_toList]; omega) (so_getK (by omega))) rfl ?_
                refine WD.take 12 rfl (by kernel_rfl) (by kernel_rfl) (by kernel_rfl) rfl rfl (Yl.indexF un22 sz30 rfl rfl hF rfl (by omega)) rfl ?_
                refine WD.one 13 (by kernel_rfl) ?_
                refine WO.sto rfl rfl .no (Sto.elemV (j := p) (u := G[q]!) (xs := G.toList) vtK (fun _ _ => trivial) trivial rfl rfl (by repeat constructor) (by rw [Array.length_toList]; omega) (by omega)) ⟨_, (by repeat' constructor)⟩ ?_
                refine WD.take 14 rfl (by kernel_rfl) (by kernel_rfl) (by kernel_rfl) rfl rfl (Yl.indexF un22 sz30 rfl rfl hF rfl (by omega)) rfl ?_
                refine WD.one 15 (by kernel_rfl) ?_
                refine WO.sto rfl rfl .no (Sto.elemV (j := q) (u := G[p]!) (xs := G.toList.set (p) G[q]!) vtK (fun _ _ => trivial) trivial rfl rfl (by repeat constructor) (by rw [List.length_set, Array.length_toList]; omega) (by omega)) ⟨_, (by repeat' constructor)⟩ ?_
                rw [so_swpK G (p) (q)]
                refine WD.done (by kernel_rfl) ?_
                refine WC.seq ?_
                refine WC.region ?_
                refine WL.y (Yl.move rfl) rfl ?_
                refine WL.y (Yl.add rfl rfl (IntWalk.i64_in _ (by omega))) rfl ?_
                refine WL.y (Yl.assign rfl) rfl ?_
                refine WL.nil ?_
                refine WC.region ?_
                refine WL.y (Yl.move rfl) rfl ?_
                refine WL.y (Yl.sub rfl rfl (IntWalk.i64_in _ (by omega))) rfl ?_
                refine WL.say (t := 88) (v' := .int .i64 ((q - 1 : Nat) : Int)) rfl (by (refine congrArg _ ?_; omega)) ?_
                refine WL.y (Yl.assign rfl) rfl ?_
                refine WL.nil ?_
                exact ⟨rfl, (p + 1, q - 1, swp G p q), ⟨by dsimp only; omega, by dsimp only; omega, by dsimp only; rw [swp_size]; exact hG, hTG⟩, by dsimp only; omega, (by repeat (first | exact Sub.nil | refine Sub.cons rfl ?_)), _, (by repeat' constructor)⟩
              · refine WO.y rfl rfl .no (Yl.loadV vtK (fun _ _ => trivial) rfl (Reads.own (by repeat constructor)) (by rw [Array.length_toList]; omega) (so_getK (by omega))) rfl ?_
                refine WD.one 7 (by kernel_rfl) ?_
                refine WO.y rfl rfl .no (Yl.loadV vtK (fun _ _ => trivial) rfl (Reads.own (by repeat constructor)) (by rw [Array.length_toList]; omega) (so_getK (by omega))) rfl ?_
                refine WD.take 12 rfl (by kernel_rfl) (by kernel_rfl) (by kernel_rfl) rfl rfl (Yl.indexF un22 sz30 rfl rfl hF rfl (by omega)) rfl ?_
                refine WD.one 13 (by kernel_rfl) ?_
                refine WO.sto rfl rfl .no (Sto.elemV (j := p) (u := G[q]!) (xs := G.toList) vtK (fun _ _ => trivial) trivial rfl rfl (by repeat constructor) (by rw [Array.length_toList]; omega) (by omega)) ⟨_, (by repeat' constructor)⟩ ?_
                refine WD.take 14 rfl (by kernel_rfl) (by kernel_rfl) (by kernel_rfl) rfl rfl (Yl.indexF un22 sz30 rfl rfl hF rfl (by omega)) rfl ?_
                refine WD.one 15 (by kernel_rfl) ?_
                refine WO.sto rfl rfl .no (Sto.elemV (j := q) (u := G[p]!) (xs := G.toList.set (p) G[q]!) vtK (fun _ _ => trivial) trivial rfl rfl (by repeat constructor) (by rw [List.length_set, Array.length_toList]; omega) (by omega)) ⟨_, (by repeat' constructor)⟩ ?_
                rw [so_swpK G (p) (q)]
                refine WD.done (by kernel_rfl) ?_
                refine WC.seq ?_
                refine WC.region ?_
                refine WL.y (Yl.move rfl) rfl ?_
                refine WL.y (Yl.add rfl rfl (IntWalk.i64_in _ (by omega))) rfl ?_
                refine WL.y (Yl.assign rfl) rfl ?_
                refine WL.nil ?_
                refine WC.region ?_
                refine WL.y (Yl.move rfl) rfl ?_
                refine WL.y (Yl.sub rfl rfl (IntWalk.i64_in _ (by omega))) rfl ?_
                refine WL.say (t := 88) (v' := .int .i64 ((q - 1 : Nat) : Int)) rfl (by (refine congrArg _ ?_; omega)) ?_
                refine WL.y (Yl.assign rfl) rfl ?_
                refine WL.nil ?_
                exact ⟨rfl, (p + 1, q - 1, swp G p q), ⟨by dsimp only; omega, by dsimp only; omega, by dsimp only; rw [swp_size]; exact hG, hTG⟩, by dsimp only; omega, (by repeat (first | exact Sub.nil | refine Sub.cons rfl ?_)), _, (by repeat' constructor)⟩
  · refine WO.y rfl rfl .no (Yl.loadV vtK (fun _ _ => trivial) rfl (Reads.own (by repeat constructor)) (by rw [Array.length_toList]; omega) (so_getK (by omega))) rfl ?_
    refine WD.one 7 (by kernel_rfl) ?_
    refine WO.y rfl rfl .no (Yl.loadV vtK (fun _ _ => trivial) rfl (Reads.own (by repeat constructor)) (by rw [Array.length_toList]; omega) (so_getK (by omega))) rfl ?_
    refine WD.take 12 rfl (by kernel_rfl) (by kernel_rfl) (by kernel_rfl) rfl rfl (Yl.indexF un22 sz30 rfl rfl hF rfl (by omega)) rfl ?_
    refine WD.one 13 (by kernel_rfl) ?_
    refine WO.sto rfl rfl .no (Sto.elemV (j := a) (u := D[pv]!) (xs := D.toList) vtK (fun _ _ => trivial) trivial rfl rfl (by repeat constructor) (by rw [Array.length_toList]; omega) (by omega)) ⟨_, (by repeat' constructor)⟩ ?_
    refine WD.take 14 rfl (by kernel_rfl) (by kernel_rfl) (by kernel_rfl) rfl rfl (Yl.indexF un22 sz30 rfl rfl hF rfl (by omega)) rfl ?_
    refine WD.one 15 (by kernel_rfl) ?_
    refine WO.sto rfl rfl .no (Sto.elemV (j := pv) (u := D[a]!) (xs := D.toList.set (a) D[pv]!) vtK (fun _ _ => trivial) trivial rfl rfl (by repeat constructor) (by rw [List.length_set, Array.length_toList]; omega) (by omega)) ⟨_, (by repeat' constructor)⟩ ?_
    rw [so_swpK D (a) (pv)]
    refine WD.done (by kernel_rfl) ?_
    refine WC.seq ?_
    refine WC.region ?_
    refine WL.y (Yl.move rfl) rfl ?_
    refine WL.y (Yl.add rfl rfl (IntWalk.i64_in _ (by omega))) rfl ?_
    refine WL.y (Yl.move rfl) rfl ?_
    refine WL.y (Yl.sub rfl rfl (IntWalk.i64_in _ (by omega))) rfl ?_
    refine WL.say (t := 30) (v' := .int .i64 ((b - 1 : Nat) : Int)) rfl (by (refine congrArg _ ?_; omega)) ?_
    refine WL.y (Yl.assign rfl) rfl ?_
    refine WL.y (Yl.assign rfl) rfl ?_
    refine WL.nil ?_
    refine WC.seq ?_
    refine WC.block ?_
    refine WC.loop (α := Nat × Nat × Array Ky) (fun p => [(0, v), (4, .func (.func 60) #[] #[]), (1, .int .i64 (a : Int)), (11, .int .i64 (p.1 : Int)), (12, .int .i64 (p.2.1 : Int))]) (fun p => [rwK v n (p.2.2.toList)]) (fun p => (a < p.1 ∧ p.1 ≤ n) ∧ p.2.1 < n ∧ p.2.2.size = n ∧ partEqLoop ltK a p.1 p.2.1 p.2.2 = T) (fun p => p.2.1 + 1 - p.1) (a + 1, b - 1, swp D a pv) ⟨by dsimp only; omega, by dsimp only; omega, by dsimp only; omega, hT⟩ ⟨(by repeat (first | exact Sub.nil | refine Sub.cons rfl ?_)), _, (by repeat' constructor)⟩ ?_
    rintro ⟨i, j, G⟩ ⟨⟨hai, hin⟩, hjn, hG, hTG⟩
    dsimp only at hai hin hjn hG hTG ⊢
    have hgu := scanUp_ge (fun x => !ltK G[a]! x) G j i
    have hgd := scanDown_le (fun x => ltK G[a]! x) G (scanUp (fun x => !ltK G[a]! x) G j i) j
    rw [partEqLoop_eq] at hTG
    obtain ⟨I, hI⟩ : ∃ I, scanUp (fun x => !ltK G[a]! x) G j i = I := ⟨_, rfl⟩
    rw [hI] at hgu hgd hTG
    obtain ⟨J, hJ⟩ : ∃ J, scanDown (fun x => ltK G[a]! x) G I j = J := ⟨_, rfl⟩
    rw [hJ] at hgd hTG
    refine WC.block ?_
    refine WC.seq ?_
    refine WC.block ?_
    refine WC.loop (α := Nat) (fun p => [(0, v), (4, .func (.func 60) #[] #[]), (1, .int .i64 (a : Int)), (11, .int .i64 (p : Int)), (12, .int .i64 (j : Int))]) (fun _ => [rwK v n (G.toList)]) (fun p => (a < p ∧ p ≤ n) ∧ scanUp (fun x => !ltK G[a]! x) G j p = I) (fun p => n + 1 - p) i ⟨⟨hai, hin⟩, hI⟩ ⟨(by repeat (first | exact Sub.nil | refine Sub.cons rfl ?_)), _, (by repeat' constructor)⟩ ?_
    rintro p ⟨⟨hap', hpn⟩, hpI⟩
    refine WC.seq ?_
    refine WC.midX (α := Unit) (fun _ => [(0, v), (4, .func (.func 60) #[] #[]), (1, .int .i64 (a : Int)), (11, .int .i64 (p : Int)), (12, .int .i64 (j : Int)), (47, .bool (decide ((p : Int) ≤ (j : Int)) && !ltK G[a]! G[p]!))]) (fun _ => [rwK v n (G.toList)]) (fun _ => True) ?_ ?_
    · refine WC.drawAny (Hs := [rwK v n (G.toList)]) mixed (by kernel_rfl) ⟨_, (by repeat' constructor)⟩ ?_
      refine WD.take 0 rfl (by kernel_rfl) (by kernel_rfl) (by kernel_rfl) rfl rfl (Yl.move rfl) rfl ?_
      refine WD.take 1 rfl (by kernel_rfl) (by kernel_rfl) (by kernel_rfl) rfl rfl (Yl.move rfl) rfl ?_
      refine WD.take 2 rfl (by kernel_rfl) (by kernel_rfl) (by kernel_rfl) rfl rfl (Yl.leq rfl rfl) rfl ?_
      refine WD.take 3 rfl (by kernel_rfl) (by kernel_rfl) (by kernel_rfl) rfl rfl (Yl.move rfl) rfl ?_
      refine WD.both (t := 34) rfl (fun g34 => ?_) (fun g34 => ?_)
      · refine WD.takeOn 4 rfl (by kernel_rfl) (by kernel_rfl) (by kernel_rfl) rfl rfl rfl rfl (Yl.move rfl) rfl ?_
        have hpj : p ≤ j := by have := of_decide_eq_true g34; omega
        refine WD.takeOn 5 rfl (by kernel_rfl) (by kernel_rfl) (by kernel_rfl) rfl rfl rfl rfl (Yl.move rfl) rfl ?_
        refine WD.takeOn 6 rfl (by kernel_rfl) (by kernel_rfl) (by kernel_rfl) rfl rfl rfl rfl (Yl.move rfl) rfl ?_
        refine WD.takeOn 7 rfl (by kernel_rfl) (by kernel_rfl) (by kernel_rfl) rfl rfl rfl rfl (Yl.indexF un22 sz30 rfl rfl hF rfl (by omega)) rfl ?_
        refine WD.takeOn 8 rfl (by kernel_rfl) (by kernel_rfl) (by kernel_rfl) rfl rfl rfl rfl (Yl.loadV vtK (fun _ _ => trivial) rfl (Reads.own (by repeat constructor)) (by rw [Array.length_toList]; omega) (so_getK (by omega))) rfl ?_
        refine WD.takeOn 9 rfl (by kernel_rfl) (by kernel_rfl) (by kernel_rfl) rfl rfl rfl rfl (Yl.move rfl) rfl ?_
        refine WD.takeOn 10 rfl (by kernel_rfl) (by kernel_rfl) (by kernel_rfl) rfl rfl rfl rfl (Yl.move rfl) rfl ?_
        refine WD.takeOn 11 rfl (by kernel_rfl) (by kernel_rfl) (by kernel_rfl) rfl rfl rfl rfl (Yl.indexF un22 sz30 rfl rfl hF rfl (by omega)) rfl ?_
        refine WD.takeOn 12 rfl (by kernel_rfl) (by kernel_rfl) (by kernel_rfl) rfl rfl rfl rfl (Yl.loadV vtK (fun _ _ => trivial) rfl (Reads.own (by repeat constructor)) (by rw [Array.length_toList]; omega) (so_getK (by omega))) rfl ?_
        refine WD.one 13 (by kernel_rfl) ?_
        refine WO.callC (f := .tmp 35) (xs := [.tmp 39, .tmp 43]) (cap := []) rfl (.on rfl rfl) rfl rfl en60 (by repeat' constructor) (fun w hw => order_any _ _ w hw.left.here) rfl (fun _ => ⟨_, (by repeat' constructor)⟩) ?_
        rintro ⟨⟩ -
        refine WD.takeOn 14 rfl (by kernel_rfl) (by kernel_rfl) (by kernel_rfl) rfl rfl rfl rfl (Yl.lss rfl rfl) rfl ?_
        refine WD.say (t := 45) (v' := .bool (ltK _ _)) rfl (by rfl) ?_
        refine WD.takeOn 15 rfl (by kernel_rfl) (by kernel_rfl) (by kernel_rfl) rfl rfl rfl rfl (Yl.not rfl) rfl ?_
        refine WD.take 16 rfl (by kernel_rfl) (by kernel_rfl) (by kernel_rfl) rfl rfl (Yl.pickT rfl rfl) rfl ?_
        refine WD.say (t := 47) (v' := .bool (decide ((p : Int) ≤ (j : Int)) && !ltK G[a]! G[p]!)) rfl (by (rw [g34]; rfl)) ?_
        refine WD.done (by kernel_rfl) ?_
        exact ⟨rfl, (), trivial, (by repeat (first | exact Sub.nil | refine Sub.cons rfl ?_)), _, (by repeat' constructor)⟩
      · refine WD.takeOff 4 rfl (by kernel_rfl) (by kernel_rfl) (by kernel_rfl) rfl rfl rfl rfl rfl rfl ?_
        refine WD.takeOff 5 rfl (by kernel_rfl) (by kernel_rfl) (by kernel_rfl) rfl rfl rfl rfl rfl rfl ?_
        refine WD.takeOff 6 rfl (by kernel_rfl) (by kernel_rfl) (by kernel_rfl) rfl rfl rfl rfl rfl rfl ?_
        refine WD.takeOff 7 rfl (by kernel_rfl) (by kernel_rfl) (by kernel_rfl) rfl rfl rfl rfl rfl rfl ?_
        refine WD.takeOff 8 rfl (by kernel_rfl) (by kernel_rfl) (by kernel_rfl) rfl rfl rfl rfl rfl rfl ?_
        refine WD.takeOff 9 rfl (by kernel_rfl) (by kernel_rfl) (by kernel_rfl) rfl rfl rfl rfl rfl rfl ?_
        refine WD.takeOff 10 rfl (by kernel_rfl) (by kernel_rfl) (by kernel_rfl) rfl rfl rfl rfl rfl rfl ?_
        refine WD.takeOff 11 rfl (by kernel_rfl) (by kernel_rfl) (by kernel_rfl) rfl rfl rfl rfl rfl rfl ?_
        refine WD.takeOff 12 rfl (by kernel_rfl) (by kernel_rfl) (by kernel_rfl) rfl rfl rfl rfl rfl rfl ?_
        refine WD.one 13 (by kernel_rfl) ?_
        refine WO.off rfl rfl rfl rfl rfl rfl rfl ?_
        refine WD.takeOff 14 rfl (by kernel_rfl) (by kernel_rfl) (by kernel_rfl) rfl rfl rfl rfl rfl rfl ?_
        refine WD.takeOff 15 rfl (by kernel_rfl) (by kernel_rfl) (by kernel_rfl) rfl rfl rfl rfl rfl rfl ?_
        refine WD.take 16 rfl (by kernel_rfl) (by kernel_rfl) (by kernel_rfl) rfl rfl (Yl.pickF rfl rfl) rfl ?_
        refine WD.say (t := 47) (v' := .bool (decide ((p : Int) ≤ (j : Int)) && !ltK G[a]! G[p]!)) rfl (by (rw [g34]; rfl)) ?_
        refine WD.done (by kernel_rfl) ?_
        exact ⟨rfl, (), trivial, (by repeat (first | exact Sub.nil | refine Sub.cons rfl ?_)), _, (by repeat' constructor)⟩
    · rintro ⟨⟩ -
      refine WC.cond rfl (fun g47 => ?_) (fun g47 => ?_)
      · refine WC.skip ?_
        refine WC.block ?_
        have hpj := and_le g47
        refine WC.region ?_
        refine WL.y (Yl.move rfl) rfl ?_
        refine WL.y (Yl.add rfl rfl (IntWalk.i64_in _ (by omega))) rfl ?_
        refine WL.y (Yl.assign rfl) rfl ?_
        refine WL.nil ?_
        exact ⟨rfl, p + 1, ⟨by omega, by rw [← up_go g47]; exact hpI⟩, by omega, (by repeat (first | exact Sub.nil | refine Sub.cons rfl ?_)), _, (by repeat' constructor)⟩
      · refine WC.exit ?_
        refine WC.seq ?_
        refine WC.block ?_
        have hpe : p = I := by rw [← hpI]; exact (up_stop g47).symm
        subst hpe
        refine WC.loop (α := Nat) (fun q => [(0, v), (4, .func (.func 60) #[] #[]), (1, .int .i64 (a : Int)), (11, .int .i64 (p : Int)), (12, .int .i64 (q : Int))]) (fun _ => [rwK v n (G.toList)]) (fun q => q < n ∧ scanDown (fun x => ltK G[a]! x) G p q = J) (fun q => q) j ⟨hjn, hJ⟩ ⟨(by repeat (first | exact Sub.nil | refine Sub.cons rfl ?_)), _, (by repeat' constructor)⟩ ?_
        rintro q ⟨hqn, hqJ⟩
        refine WC.seq ?_
        refine WC.midX (α := Unit) (fun _ => [(0, v), (4, .func (.func 60) #[] #[]), (1, .int .i64 (a : Int)), (11, .int .i64 (p : Int)), (12, .int .i64 (q : Int)), (65, .bool (decide ((p : Int) ≤ (q : Int)) && ltK G[a]! G[q]!))]) (fun _ => [rwK v n (G.toList)]) (fun _ => True) ?_ ?_
        · refine WC.drawAny (Hs := [rwK v n (G.toList)]) mixed (by kernel_rfl) ⟨_, (by repeat' constructor)⟩ ?_
          refine WD.take 0 rfl (by kernel_rfl) (by kernel_rfl) (by kernel_rfl) rfl rfl (Yl.move rfl) rfl ?_
          refine WD.take 1 rfl (by kernel_rfl) (by kernel_rfl) (by kernel_rfl) rfl rfl (Yl.move rfl) rfl ?_
          refine WD.take 2 rfl (by kernel_rfl) (by kernel_rfl) (by kernel_rfl) rfl rfl (Yl.leq rfl rfl) rfl ?_
          refine WD.take 3 rfl (by kernel_rfl) (by kernel_rfl) (by kernel_rfl) rfl rfl (Yl.move rfl) rfl ?_
          refine WD.both (t := 53) rfl (fun g53 => ?_) (fun g53 => ?_)
          · refine WD.takeOn 4 rfl (by kernel_rfl) (by kernel_rfl) (by kernel_rfl) rfl rfl rfl rfl (Yl.move rfl) rfl ?_
            refine WD.takeOn 5 rfl (by kernel_rfl) (by kernel_rfl) (by kernel_rfl) rfl rfl rfl rfl (Yl.move rfl) rfl ?_
            refine WD.takeOn 6 rfl (by kernel_rfl) (by kernel_rfl) (by kernel_rfl) rfl rfl rfl rfl (Yl.move rfl) rfl ?_
            refine WD.takeOn 7 rfl (by kernel_rfl) (by kernel_rfl) (by kernel_rfl) rfl rfl rfl rfl (Yl.indexF un22 sz30 rfl rfl hF rfl (by omega)) rfl ?_
            refine WD.takeOn 8 rfl (by kernel_rfl) (by kernel_rfl) (by kernel_rfl) rfl rfl rfl rfl (Yl.loadV vtK (fun _ _ => trivial) rfl (Reads.own (by repeat constructor)) (by rw [Array.length_toList]; omega) (so_getK (by omega))) rfl ?_
            refine WD.takeOn 9 rfl (by kernel_rfl) (by kernel_rfl) (by kernel_rfl) rfl rfl rfl rfl (Yl.move rfl) rfl ?_
            refine WD.takeOn 10 rfl (by kernel_rfl) (by kernel_rfl) (by kernel_rfl) rfl rfl rfl rfl (Yl.move rfl) rfl ?_
            refine WD.takeOn 11 rfl (by kernel_rfl) (by kernel_rfl) (by kernel_rfl) rfl rfl rfl rfl (Yl.indexF un22 sz30 rfl rfl hF rfl (by omega)) rfl ?_
            refine WD.takeOn 12 rfl (by kernel_rfl) (by kernel_rfl) (by kernel_rfl) rfl rfl rfl rfl (Yl.loadV vtK (fun _ _ => trivial) rfl (Reads.own (by repeat constructor)) (by rw [Array.length_toList]; omega) (so_getK (by omega))) rfl ?_
            refine WD.one 13 (by kernel_rfl) ?_
            refine WO.callC (f := .tmp 54) (xs := [.tmp 58, .tmp 62]) (cap := []) rfl (.on rfl rfl) rfl rfl en60 (by repeat' constructor) (fun w hw => order_any _ _ w hw.left.here) rfl (fun _ => ⟨_, (by repeat' constructor)⟩) ?_
            rintro ⟨⟩ -
            refine WD.takeOn 14 rfl (by kernel_rfl) (by kernel_rfl) (by kernel_rfl) rfl rfl rfl rfl (Yl.lss rfl rfl) rfl ?_
            refine WD.say (t := 64) (v' := .bool (ltK _ _)) rfl (by rfl) ?_
            refine WD.take 15 rfl (by kernel_rfl) (by kernel_rfl) (by kernel_rfl) rfl rfl (Yl.pickT rfl rfl) rfl ?_
            refine WD.say (t := 65) (v' := .bool (decide ((p : Int) ≤ (q : Int)) && ltK G[a]! G[q]!)) rfl (by (rw [g53]; rfl)) ?_
            refine WD.done (by kernel_rfl) ?_
            exact ⟨rfl, (), trivial, (by repeat (first | exact Sub.nil | refine Sub.cons rfl ?_)), _, (by repeat' constructor)⟩
          · refine WD.takeOff 4 rfl (by kernel_rfl) (by kernel_rfl) (by kernel_rfl) rfl rfl rfl rfl rfl rfl ?_
            refine WD.takeOff 5 rfl (by kernel_rfl) (by kernel_rfl) (by kernel_rfl) rfl rfl rfl rfl rfl rfl ?_
            refine WD.takeOff 6 rfl (by kernel_rfl) (by kernel_rfl) (by kernel_rfl) rfl rfl rfl rfl rfl rfl ?_
            refine WD.takeOff 7 rfl (by kernel_rfl) (by kernel_rfl) (by kernel_rfl) rfl rfl rfl rfl rfl rfl ?_
            refine WD.takeOff 8 rfl (by kernel_rfl) (by kernel_rfl) (by kernel_rfl) rfl rfl rfl rfl rfl rfl ?_
            refine WD.takeOff 9 rfl (by kernel_rfl) (by kernel_rfl) (by kernel_rfl) rfl rfl rfl rfl rfl rfl ?_
            refine WD.takeOff 10 rfl (by kernel_rfl) (by kernel_rfl) (by kernel_rfl) rfl rfl rfl rfl rfl rfl ?_
            refine WD.takeOff 11 rfl (by kernel_rfl) (by kernel_rfl) (by kernel_rfl) rfl rfl rfl rfl rfl rfl ?_
            refine WD.takeOff 12 rfl (by kernel_rfl) (by kernel_rfl) (by kernel_rfl) rfl rfl rfl rfl rfl rfl ?_
            refine WD.one 13 (by kernel_rfl) ?_
            refine WO.off rfl rfl rfl rfl rfl rfl rfl ?_
            refine WD.takeOff 14 rfl (by kernel_rfl) (by kernel_rfl) (by kernel_rfl) rfl rfl rfl rfl rfl rfl ?_
            refine WD.take 15 rfl (by kernel_rfl) (by kernel_rfl) (by kernel_rfl) rfl rfl (Yl.pickF rfl rfl) rfl ?_
            refine WD.say (t := 65) (v' := .bool (decide ((p : Int) ≤ (q : Int)) && ltK G[a]! G[q]!)) rfl (by (rw [g53]; rfl)) ?_
            refine WD.done (by kernel_rfl) ?_
            exact ⟨rfl, (), trivial, (by repeat (first | exact Sub.nil | refine Sub.cons rfl ?_)), _, (by repeat' constructor)⟩
        · rintro ⟨⟩ -
          refine WC.cond rfl (fun g65 => ?_) (fun g65 => ?_)
          · refine WC.skip ?_
            refine WC.block ?_
            have hpq := and_le g65
            refine WC.region ?_
            refine WL.y (Yl.move rfl) rfl ?_
            refine WL.y (Yl.sub rfl rfl (IntWalk.i64_in _ (by omega))) rfl ?_
            refine WL.say (t := 67) (v' := .int .i64 ((q - 1 : Nat) : Int)) rfl (by (refine congrArg _ ?_; omega)) ?_
            refine WL.y (Yl.assign rfl) rfl ?_
            refine WL.nil ?_
            exact ⟨rfl, q - 1, ⟨by omega, by rw [← down_go (by omega) g65]; exact hqJ⟩, by omega, (by repeat (first | exact Sub.nil | refine Sub.cons rfl ?_)), _, (by repeat' constructor)⟩
          · refine WC.exit ?_
            refine WC.seq ?_
            refine WC.seq ?_
            have hqe : q = J := by rw [← hqJ]; exact (down_stop (by omega) g65).symm
            subst hqe
            refine WC.region ?_
            refine WL.y (Yl.move rfl) rfl ?_
            refine WL.y (Yl.move rfl) rfl ?_
            refine WL.y (Yl.gtr rfl rfl) rfl ?_
            refine WL.nil ?_
            refine WC.condD rfl (fun g70 => ?_) (fun g70 => ?_)
            · refine WC.exit ?_
              refine WC.seq ?_
              have hpq : p > q := by omega
              rw [if_pos hpq] at hTG
              subst hTG
              refine WC.region ?_
              refine WL.y (Yl.move rfl) rfl ?_
              refine WL.y (Yl.assign rfl) rfl ?_
              refine WL.nil ?_
              refine WC.ret ?_
              repeat (with_reducible (first | refine peelT ?_ | refine peelB ?_ | refine peelTX ?_ | refine peelBX ?_ | refine peelBN ?_ | refine peelBO rfl ?_))
              exact ret1 (.inr rfl) Tryz.results103 rfl fun w' h => ⟨(), trivial, rfl, h.sub (by repeat' constructor)⟩
            · refine WC.skip ?_
              refine WC.seq ?_
              have hpq : ¬ p > q := by omega
              rw [if_neg hpq] at hTG
              refine WC.drawAny (Hs := []) mixed (by kernel_rfl) ⟨_, (by repeat' constructor)⟩ ?_
              refine WD.take 0 rfl (by kernel_rfl) (by kernel_rfl) (by kernel_rfl) rfl rfl (Yl.move rfl) rfl ?_
              refine WD.take 1 rfl (by kernel_rfl) (by kernel_rfl) (by kernel_rfl) rfl rfl (Yl.move rfl) rfl ?_
              refine WD.take 2 rfl (by kernel_rfl) (by kernel_rfl) (by kernel_rfl) rfl rfl (Yl.move rfl) rfl ?_
              refine WD.take 3 rfl (by kernel_rfl) (by kernel_rfl) (by kernel_rfl) rfl rfl (Yl.move rfl) rfl ?_
              refine WD.take 4 rfl (by kernel_rfl) (by kernel_rfl) (by kernel_rfl) rfl rfl (Yl.move rfl) rfl ?_
              refine WD.take 5 rfl (by kernel_rfl) (by kernel_rfl) (by kernel_rfl) rfl rfl (Yl.move rfl) rfl ?_
              refine WD.take 6 rfl (by kernel_rfl) (by kernel_rfl) (by kernel_rfl) rfl rfl (Yl.indexF un22 sz30 rfl rfl hF rfl (by omega)) rfl ?_
              refine WD.take 8 rfl (by kernel_rfl) (by kernel_rfl) (by kernel_rfl) rfl rfl (Yl.move rfl) rfl ?_
              refine WD.take 9 rfl (by kernel_rfl) (by kernel_rfl) (by kernel_rfl) rfl rfl (Yl.move rfl) rfl ?_
              refine WD.take 10 rfl (by kernel_rfl) (by kernel_rfl) (by kernel_rfl) rfl rfl (Yl.indexF un22 sz30 rfl rfl hF rfl (by omega)) rfl ?_
              refine WD.two 7 11 (by kernel_rfl) ?_ ?_
              · refine WO.y rfl rfl .no (Yl.loadV vtK (fun _ _ => trivial) rfl (Reads.own (by repeat constructor)) (by rw [Array.length_toList]; omega) (so_getK (by omega))) rfl ?_
                refine WD.one 11 (by kernel_rfl) ?_
                refine WO.y rfl rfl .no (Yl.loadV vtK (fun _ _ => trivial) rfl (Reads.own (by repeat constructor)) (by rw [Array.length_toList]; omega) (so_getK (by omega))) rfl ?_
                refine WD.take 12 rfl (by kernel_rfl) (by kernel_rfl) (by kernel_rfl) rfl rfl (Yl.indexF un22 sz30 rfl rfl hF rfl (by omega)) rfl ?_
                refine WD.one 13 (by kernel_rfl) ?_
                refine WO.sto rfl rfl .no (Sto.elemV (j := p) (u := G[q]!) (xs := G.toList) vtK (fun _ _ => trivial) trivial rfl rfl (by repeat constructor) (by rw [Array.length_toList]; omega) (by omega)) ⟨_, (by repeat' constructor)⟩ ?_
                refine WD.take 14 rfl (by kernel_rfl) (by kernel_rfl) (by kernel_rfl) rfl rfl (Yl.indexF un22 sz30 rfl rfl hF rfl (by omega)) rfl ?_
                refine WD.one 15 (by kernel_rfl) ?_
                refine WO.sto rfl rfl .no (Sto.elemV (j := q) (u := G[p]!) (xs := G.toList.set (p) G[q]!) vtK (fun _ _ => trivial) trivial rfl rfl (by repeat constructor) (by rw [List.length_set, Array.length_toList]; omega) (by omega)) ⟨_, (by repeat' constructor)⟩ ?_
                rw [so_swpK G (p) (q)]
                refine WD.done (by kernel_rfl) ?_
                refine WC.seq ?_
                refine WC.region ?_
                refine WL.y (Yl.move rfl) rfl ?_
                refine WL.y (Yl.add rfl rfl (IntWalk.i64_in _ (by omega))) rfl ?_
                refine WL.y (Yl.assign rfl) rfl ?_
                refine WL.nil ?_
                refine WC.region ?_
                refine WL.y (Yl.move rfl) rfl ?_
                refine WL.y (Yl.sub rfl rfl (IntWalk.i64_in _ (by omega))) rfl ?_
                refine WL.say (t := 88) (v' := .int .i64 ((q - 1 : Nat) : Int)) rfl (by (refine congrArg _ ?_; omega)) ?_
                refine WL.y (Yl.assign rfl) rfl ?_
                refine WL.nil ?_
                exact ⟨rfl, (p + 1, q - 1, swp G p q), ⟨by dsimp only; omega, by dsimp only; omega, by dsimp only; rw [swp_size]; exact hG, hTG⟩, by dsimp only; omega, (by repeat (first | exact Sub.nil | refine Sub.cons rfl ?_)), _, (by repeat' constructor)⟩
              · refine WO.y rfl rfl .no (Yl.loadV vtK (fun _ _ => trivial) rfl (Reads.own (by repeat constructor)) (by rw [Array.length_toList]; omega) (so_getK (by omega))) rfl ?_
                refine WD.one 7 (by kernel_rfl) ?_
                refine WO.y rfl rfl .no (Yl.loadV vtK (fun _ _ => trivial) rfl (Reads.own (by repeat constructor)) (by rw [Array.length_toList]; omega) (so_getK (by omega))) rfl ?_
                refine WD.take 12 rfl (by kernel_rfl) (by kernel_rfl) (by kernel_rfl) rfl rfl (Yl.indexF un22 sz30 rfl rfl hF rfl (by omega)) rfl ?_
                refine WD.one 13 (by kernel_rfl) ?_
                refine WO.sto rfl rfl .no (Sto.elemV (j := p) (u := G[q]!) (xs := G.toList) vtK (fun _ _ => trivial) trivial rfl rfl (by repeat constructor) (by rw [Array.length_toList]; omega) (by omega)) ⟨_, (by repeat' constructor)⟩ ?_
                refine WD.take 14 rfl (by kernel_rfl) (by kernel_rfl) (by kernel_rfl) rfl rfl (Yl.indexF un22 sz30 rfl rfl hF rfl (by omega)) rfl ?_
                refine WD.one 15 (by kernel_rfl) ?_
                refine WO.sto rfl rfl .no (Sto.elemV (j := q) (u := G[p]!) (xs := G.toList.set (p) G[q]!) vtK (fun _ _ => trivial) trivial rfl rfl (by repeat constructor) (by rw [List.length_set, Array.length_toList]; omega) (by omega)) ⟨_, (by repeat' constructor)⟩ ?_
                rw [so_swpK G (p) (q)]
                refine WD.done (by kernel_rfl) ?_
                refine WC.seq ?_
                refine WC.region ?_
                refine WL.y (Yl.move rfl) rfl ?_
                refine WL.y (Yl.add rfl rfl (IntWalk.i64_in _ (by omega))) rfl ?_
                refine WL.y (Yl.assign rfl) rfl ?_
                refine WL.nil ?_
                refine WC.region ?_
                refine WL.y (Yl.move rfl) rfl ?_
                refine WL.y (Yl.sub rfl rfl (IntWalk.i64_in _ (by omega))) rfl ?_
                refine WL.say (t := 88) (v' := .int .i64 ((q - 1 : Nat) : Int)) rfl (by (refine congrArg _ ?_; omega)) ?_
                refine WL.y (Yl.assign rfl) rfl ?_
                refine WL.nil ?_
                exact ⟨rfl, (p + 1, q - 1, swp G p q), ⟨by dsimp only; omega, by dsimp only; omega, by dsimp only; rw [swp_size]; exact hG, hTG⟩, by dsimp only; omega, (by repeat (first | exact Sub.nil | refine Sub.cons rfl ?_)), _, (by repeat' constructor)⟩
end Go.Proofs.YtfobhdmhjjafcaaGreatDoorRR
