/- Sorting rows of uint64: the heap; turning a row round: the walks. -/
import Derived.Test.YtklbmgfpnafdlaaSoAV
namespace Go.Proofs.Ytklbmgfpnafdlaa
open Go Go.RowKit Go.Sort

def chF (hi first root : Nat) (D : Array Int) : Nat := if decide (((2 * root + 2 : Nat) : Int) < (hi : Int)) && ltInt D[first + (2 * root + 1)]! D[first + (2 * root + 2)]! then 2 * root + 2 else 2 * root + 1
theorem chF_in {hi first root : Nat} {D : Array Int} (h : 2 * root + 1 < hi) : chF hi first root D < hi ∧ root < chF hi first root D ∧ chF hi first root D ≤ 2 * root + 2 := by
  unfold chF
  split
  · rename_i e
    rw [Bool.and_eq_true] at e
    have := of_decide_eq_true e.1
    omega
  · omega
theorem sift_stop1 {hi first root : Nat} {D : Array Int} (h : ¬ 2 * root + 1 < hi) : siftDown ltInt hi first root D = D := by rw [siftDown, dif_pos (by omega)]
theorem chF_T {hi first root : Nat} {D : Array Int} (h : (decide (2 * root + 1 + 1 < hi) && ltInt D[first + (2 * root + 1)]! D[first + (2 * root + 1) + 1]!) = true) : chF hi first root D = 2 * root + 2 := by
  unfold chF
  rw [Bool.and_eq_true] at h
  rw [if_pos]
  rw [Bool.and_eq_true]
  exact ⟨decide_eq_true (by have := of_decide_eq_true h.1; omega), h.2⟩
theorem chF_F {hi first root : Nat} {D : Array Int} (h : ¬ (decide (2 * root + 1 + 1 < hi) && ltInt D[first + (2 * root + 1)]! D[first + (2 * root + 1) + 1]!) = true) : chF hi first root D = 2 * root + 1 := by
  unfold chF
  rw [if_neg]
  intro e
  rw [Bool.and_eq_true] at e
  exact h (by rw [Bool.and_eq_true]; exact ⟨decide_eq_true (by have := of_decide_eq_true e.1; omega), e.2⟩)
theorem sift_stop2 {hi first root : Nat} {D : Array Int} (h : 2 * root + 1 < hi) (hl : ltInt D[first + root]! D[first + chF hi first root D]! = false) : siftDown ltInt hi first root D = D := by
  rw [siftDown, dif_neg (by omega)]
  split
  · rename_i e
    rw [chF_T e] at hl
    rw [if_pos (by rw [hl]; rfl)]
  · rename_i e
    rw [chF_F e] at hl
    rw [if_pos (by rw [hl]; rfl)]
theorem sift_go {hi first root : Nat} {D : Array Int} (h : 2 * root + 1 < hi) (hl : ltInt D[first + root]! D[first + chF hi first root D]! = true) : siftDown ltInt hi first root D = siftDown ltInt hi first (chF hi first root D) (swp D (first + root) (first + chF hi first root D)) := by
  have hc := chF_in (first := first) (D := D) h
  rw [siftDown, dif_neg (by omega)]
  split
  · rename_i e
    rw [chF_T e] at hl hc ⊢
    rw [if_neg (by rw [hl]; decide), dif_pos hc.1]
  · rename_i e
    rw [chF_F e] at hl hc ⊢
    rw [if_neg (by rw [hl]; decide)]

set_option maxRecDepth 100000 in
theorem siftV_any (v : Value) (n : Nat) (D : Array Int) (lo hi first : Nat) (hD : D.size = n) (hn : n ≤ 1099511627776) (hlo : lo ≤ n) (hfi : first + hi ≤ n) (w : World) (hw : OK w (fpL [ownR v 22 1 n (ints .u64 D.toList)]) [ownR v 22 1 n (ints .u64 D.toList)] w) :
    Fn Try.prog 83 [v, .int .i64 (lo : Int), .int .i64 (hi : Int), .int .i64 (first : Int)] [ownR v 22 1 n (ints .u64 D.toList)] w (fun _ : Unit => True) (fun _ => .tuple #[]) (fun _ => [ownR v 22 1 n (ints .u64 (siftDown ltInt hi first lo D).toList)]) := by
  have hF := sl_form (hw.get (r := ownR v 22 1 n (ints .u64 D.toList)) .head)
  obtain ⟨T, hT⟩ : ∃ T, siftDown ltInt hi first lo D = T := ⟨_, rfl⟩
  rw [hT]
  refine enterF Try.func83 rfl Try.ntmps83 rfl hw ?_
  refine WC.seq ?_
  refine WC.region ?_
  refine WL.y (Yl.move rfl) rfl ?_ -- t10
  refine WL.y (Yl.assign rfl) rfl ?_ -- t8
  refine WL.nil ?_
  refine WC.block ?_
  refine WC.loop (α := Nat × Array Int) (fun p => [(0, v), (2, .int .i64 (hi : Int)), (3, .int .i64 (first : Int)), (8, .int .i64 (p.1 : Int))]) (fun p => [ownR v 22 1 n (ints .u64 p.2.toList)]) (fun p => p.1 ≤ n ∧ p.2.size = n ∧ siftDown ltInt hi first p.1 p.2 = T) (fun p => hi - p.1) (lo, D) ⟨hlo, hD, hT⟩ ⟨(by repeat (first | exact Sub.nil | refine Sub.cons rfl ?_)), _, (by repeat (first | exact TakeL.nil | (apply TakeL.cons; · repeat (first | exact Take1.head | apply Take1.tail))))⟩ ?_
  rintro ⟨root, G⟩ ⟨hr, hG, hTG⟩
  dsimp only at hr hG hTG ⊢
  refine WC.block ?_
  refine WC.seq ?_
  refine WC.region ?_
  refine WL.y (Yl.move rfl) rfl ?_ -- t11
  refine WL.y (Yl.mul rfl rfl (IntWalk.i64_in _ (by omega))) rfl ?_ -- t12
  refine WL.y (Yl.add rfl rfl (IntWalk.i64_in _ (by omega))) rfl ?_ -- t13
  refine WL.say (t := 13) (v' := .int .i64 ((2 * root + 1 : Nat) : Int)) rfl (by (refine congrArg _ ?_; omega)) ?_
  refine WL.y (Yl.assign rfl) rfl ?_ -- t9
  refine WL.nil ?_
  refine WC.seq ?_
  refine WC.seq ?_
  refine WC.region ?_
  refine WL.y (Yl.move rfl) rfl ?_ -- t14
  refine WL.y (Yl.move rfl) rfl ?_ -- t15
  refine WL.y (Yl.geq rfl rfl) rfl ?_ -- t16
  refine WL.nil ?_
  refine WC.condD rfl (fun g16 => ?_) (fun g16 => ?_)
  · refine WC.exit ?_
    repeat (first | (with_reducible refine peelT ?_) | (with_reducible refine peelB ?_) | (with_reducible refine peelTX ?_) | (with_reducible refine peelBX ?_) | (with_reducible refine peelBN ?_) | (with_reducible refine peelBO rfl ?_))
    have hst : siftDown ltInt hi first root G = G := sift_stop1 (by omega)
    rw [hst] at hTG
    subst hTG
    exact ret0 (.inl rfl) Try.results83 fun w' h => ⟨(), trivial, rfl, h.sub (by repeat (first | exact TakeL.nil | (apply TakeL.cons; · repeat (first | exact Take1.head | apply Take1.tail))))⟩
  · refine WC.skip ?_
    refine WC.midX (α := Unit) (fun _ => [(0, v), (2, .int .i64 (hi : Int)), (3, .int .i64 (first : Int)), (8, .int .i64 (root : Int)), (9, .int .i64 ((chF hi first root G : Nat) : Int))]) (fun _ => [ownR v 22 1 n (ints .u64 G.toList)]) (fun _ => True) ?_ ?_
    · refine WC.seq ?_
      have hch : 2 * root + 1 < hi := by omega
      refine WC.drawAny (Hs := [ownR v 22 1 n (ints .u64 G.toList)]) mixed (by kernel_rfl) ⟨_, (by repeat (first | exact TakeL.nil | (apply TakeL.cons; · repeat (first | exact Take1.head | apply Take1.tail))))⟩ ?_
      refine WD.take 0 rfl (by kernel_rfl) (by kernel_rfl) (by kernel_rfl) rfl rfl (Yl.move rfl) rfl ?_ -- t17
      refine WD.take 1 rfl (by kernel_rfl) (by kernel_rfl) (by kernel_rfl) rfl rfl (Yl.add rfl rfl (IntWalk.i64_in _ (by omega))) rfl ?_ -- t18
      refine WD.say (t := 18) (v' := .int .i64 ((2 * root + 2 : Nat) : Int)) rfl (by (refine congrArg _ ?_; omega)) ?_
      refine WD.take 2 rfl (by kernel_rfl) (by kernel_rfl) (by kernel_rfl) rfl rfl (Yl.move rfl) rfl ?_ -- t19
      refine WD.take 3 rfl (by kernel_rfl) (by kernel_rfl) (by kernel_rfl) rfl rfl (Yl.lss rfl rfl) rfl ?_ -- t20
      refine WD.take 4 rfl (by kernel_rfl) (by kernel_rfl) (by kernel_rfl) rfl rfl (Yl.move rfl) rfl ?_ -- t21
      refine WD.both (t := 21) rfl (fun g21 => ?_) (fun g21 => ?_)
      · have h21 : 2 * root + 2 < hi := by have := of_decide_eq_true g21; omega
        refine WD.takeOn 5 rfl (by kernel_rfl) (by kernel_rfl) (by kernel_rfl) rfl rfl rfl rfl (Yl.move rfl) rfl ?_ -- t22
        refine WD.takeOn 6 rfl (by kernel_rfl) (by kernel_rfl) (by kernel_rfl) rfl rfl rfl rfl (Yl.move rfl) rfl ?_ -- t23
        refine WD.takeOn 7 rfl (by kernel_rfl) (by kernel_rfl) (by kernel_rfl) rfl rfl rfl rfl (Yl.move rfl) rfl ?_ -- t24
        refine WD.takeOn 8 rfl (by kernel_rfl) (by kernel_rfl) (by kernel_rfl) rfl rfl rfl rfl (Yl.add rfl rfl (IntWalk.i64_in _ (by omega))) rfl ?_ -- t25
        refine WD.say (t := 25) (v' := .int .i64 ((first + (2 * root + 1) : Nat) : Int)) rfl (by (refine congrArg _ ?_; omega)) ?_
        refine WD.takeOn 9 rfl (by kernel_rfl) (by kernel_rfl) (by kernel_rfl) rfl rfl rfl rfl (Yl.indexF un105 sz22 rfl rfl hF rfl (by omega)) rfl ?_
        refine WD.takeOn 10 rfl (by kernel_rfl) (by kernel_rfl) (by kernel_rfl) rfl rfl rfl rfl (Yl.loadE on22 rfl (Reads.own (by repeat (first | exact Take1.head | apply Take1.tail))) (so_getV (by omega))) rfl ?_
        refine WD.takeOn 11 rfl (by kernel_rfl) (by kernel_rfl) (by kernel_rfl) rfl rfl rfl rfl (Yl.move rfl) rfl ?_ -- t28
        refine WD.takeOn 12 rfl (by kernel_rfl) (by kernel_rfl) (by kernel_rfl) rfl rfl rfl rfl (Yl.move rfl) rfl ?_ -- t29
        refine WD.takeOn 13 rfl (by kernel_rfl) (by kernel_rfl) (by kernel_rfl) rfl rfl rfl rfl (Yl.move rfl) rfl ?_ -- t30
        refine WD.takeOn 14 rfl (by kernel_rfl) (by kernel_rfl) (by kernel_rfl) rfl rfl rfl rfl (Yl.add rfl rfl (IntWalk.i64_in _ (by omega))) rfl ?_ -- t31
        refine WD.say (t := 31) (v' := .int .i64 ((first + (2 * root + 1) : Nat) : Int)) rfl (by (refine congrArg _ ?_; omega)) ?_
        refine WD.takeOn 15 rfl (by kernel_rfl) (by kernel_rfl) (by kernel_rfl) rfl rfl rfl rfl (Yl.add rfl rfl (IntWalk.i64_in _ (by omega))) rfl ?_ -- t32
        refine WD.say (t := 32) (v' := .int .i64 ((first + (2 * root + 2) : Nat) : Int)) rfl (by (refine congrArg _ ?_; omega)) ?_
        refine WD.takeOn 16 rfl (by kernel_rfl) (by kernel_rfl) (by kernel_rfl) rfl rfl rfl rfl (Yl.indexF un105 sz22 rfl rfl hF rfl (by omega)) rfl ?_
        refine WD.takeOn 17 rfl (by kernel_rfl) (by kernel_rfl) (by kernel_rfl) rfl rfl rfl rfl (Yl.loadE on22 rfl (Reads.own (by repeat (first | exact Take1.head | apply Take1.tail))) (so_getV (by omega))) rfl ?_
        refine WD.one 18 (by kernel_rfl) ?_
        refine WO.callC (xs := [.tmp 27, .tmp 34]) (cap := []) rfl (.on rfl rfl) rfl rfl en78 (by repeat (first | exact TakeL.nil | (apply TakeL.cons; · repeat (first | exact Take1.head | apply Take1.tail)))) (fun w hw => lessV_any _ _ w hw.left.here) rfl (fun _ => ⟨_, (by repeat (first | exact TakeL.nil | (apply TakeL.cons; · repeat (first | exact Take1.head | apply Take1.tail))))⟩) ?_ -- t35 cmp.Less[uint64]
        rintro ⟨⟩ -
        refine WD.take 19 rfl (by kernel_rfl) (by kernel_rfl) (by kernel_rfl) rfl rfl (Yl.pickT rfl rfl) rfl ?_ -- t36
        refine WD.say (t := 36) (v' := .bool (decide (((2 * root + 2 : Nat) : Int) < (hi : Int)) && ltInt G[first + (2 * root + 1)]! G[first + (2 * root + 2)]!)) rfl (by (rw [g21]; rfl)) ?_
        refine WD.done (by kernel_rfl) ?_
        refine WC.cond rfl (fun g36 => ?_) (fun g36 => ?_)
        · refine WC.region ?_
          refine WL.y (Yl.move rfl) rfl ?_ -- t37
          refine WL.y (Yl.add rfl rfl (IntWalk.i64_in _ (by omega))) rfl ?_ -- t38
          refine WL.say (t := 38) (v' := .int .i64 ((2 * root + 2 : Nat) : Int)) rfl (by (refine congrArg _ ?_; omega)) ?_
          refine WL.y (Yl.assign rfl) rfl ?_ -- t9
          refine WL.nil ?_
          first
          | (rw [show chF hi first root G = 2 * root + 2 from if_pos g36]; exact ⟨rfl, (), trivial, (by repeat (first | exact Sub.nil | refine Sub.cons rfl ?_)), _, (by repeat (first | exact TakeL.nil | (apply TakeL.cons; · repeat (first | exact Take1.head | apply Take1.tail))))⟩)
          | (rw [show chF hi first root G = 2 * root + 1 from if_neg (ne_true_of_eq_false g36)]; exact ⟨rfl, (), trivial, (by repeat (first | exact Sub.nil | refine Sub.cons rfl ?_)), _, (by repeat (first | exact TakeL.nil | (apply TakeL.cons; · repeat (first | exact Take1.head | apply Take1.tail))))⟩)
        · refine WC.skip ?_
          first
          | (rw [show chF hi first root G = 2 * root + 2 from if_pos g36]; exact ⟨rfl, (), trivial, (by repeat (first | exact Sub.nil | refine Sub.cons rfl ?_)), _, (by repeat (first | exact TakeL.nil | (apply TakeL.cons; · repeat (first | exact Take1.head | apply Take1.tail))))⟩)
          | (rw [show chF hi first root G = 2 * root + 1 from if_neg (ne_true_of_eq_false g36)]; exact ⟨rfl, (), trivial, (by repeat (first | exact Sub.nil | refine Sub.cons rfl ?_)), _, (by repeat (first | exact TakeL.nil | (apply TakeL.cons; · repeat (first | exact Take1.head | apply Take1.tail))))⟩)
      · refine WD.takeOff 5 rfl (by kernel_rfl) (by kernel_rfl) (by kernel_rfl) rfl rfl rfl rfl rfl rfl ?_ -- t22
        refine WD.takeOff 6 rfl (by kernel_rfl) (by kernel_rfl) (by kernel_rfl) rfl rfl rfl rfl rfl rfl ?_ -- t23
        refine WD.takeOff 7 rfl (by kernel_rfl) (by kernel_rfl) (by kernel_rfl) rfl rfl rfl rfl rfl rfl ?_ -- t24
        refine WD.takeOff 8 rfl (by kernel_rfl) (by kernel_rfl) (by kernel_rfl) rfl rfl rfl rfl rfl rfl ?_ -- t25
        refine WD.takeOff 9 rfl (by kernel_rfl) (by kernel_rfl) (by kernel_rfl) rfl rfl rfl rfl rfl rfl ?_ -- t26
        refine WD.takeOff 10 rfl (by kernel_rfl) (by kernel_rfl) (by kernel_rfl) rfl rfl rfl rfl rfl rfl ?_ -- t27
        refine WD.takeOff 11 rfl (by kernel_rfl) (by kernel_rfl) (by kernel_rfl) rfl rfl rfl rfl rfl rfl ?_ -- t28
        refine WD.takeOff 12 rfl (by kernel_rfl) (by kernel_rfl) (by kernel_rfl) rfl rfl rfl rfl rfl rfl ?_ -- t29
        refine WD.takeOff 13 rfl (by kernel_rfl) (by kernel_rfl) (by kernel_rfl) rfl rfl rfl rfl rfl rfl ?_ -- t30
        refine WD.takeOff 14 rfl (by kernel_rfl) (by kernel_rfl) (by kernel_rfl) rfl rfl rfl rfl rfl rfl ?_ -- t31
        refine WD.takeOff 15 rfl (by kernel_rfl) (by kernel_rfl) (by kernel_rfl) rfl rfl rfl rfl rfl rfl ?_ -- t32
        refine WD.takeOff 16 rfl (by kernel_rfl) (by kernel_rfl) (by kernel_rfl) rfl rfl rfl rfl rfl rfl ?_ -- t33
        refine WD.takeOff 17 rfl (by kernel_rfl) (by kernel_rfl) (by kernel_rfl) rfl rfl rfl rfl rfl rfl ?_ -- t34
        refine WD.one 18 (by kernel_rfl) ?_
        refine WO.off rfl rfl rfl rfl rfl rfl rfl ?_ -- t35
        refine WD.take 19 rfl (by kernel_rfl) (by kernel_rfl) (by kernel_rfl) rfl rfl (Yl.pickF rfl rfl) rfl ?_ -- t36
        refine WD.say (t := 36) (v' := .bool (decide (((2 * root + 2 : Nat) : Int) < (hi : Int)) && ltInt G[first + (2 * root + 1)]! G[first + (2 * root + 2)]!)) rfl (by (rw [g21]; rfl)) ?_
        refine WD.done (by kernel_rfl) ?_
        refine WC.cond rfl (fun g36 => ?_) (fun g36 => ?_)
        · refine WC.region ?_
          refine WL.y (Yl.move rfl) rfl ?_ -- t37
          refine WL.y (Yl.add rfl rfl (IntWalk.i64_in _ (by omega))) rfl ?_ -- t38
          refine WL.say (t := 38) (v' := .int .i64 ((2 * root + 2 : Nat) : Int)) rfl (by (refine congrArg _ ?_; omega)) ?_
          refine WL.y (Yl.assign rfl) rfl ?_ -- t9
          refine WL.nil ?_
          first
          | (rw [show chF hi first root G = 2 * root + 2 from if_pos g36]; exact ⟨rfl, (), trivial, (by repeat (first | exact Sub.nil | refine Sub.cons rfl ?_)), _, (by repeat (first | exact TakeL.nil | (apply TakeL.cons; · repeat (first | exact Take1.head | apply Take1.tail))))⟩)
          | (rw [show chF hi first root G = 2 * root + 1 from if_neg (ne_true_of_eq_false g36)]; exact ⟨rfl, (), trivial, (by repeat (first | exact Sub.nil | refine Sub.cons rfl ?_)), _, (by repeat (first | exact TakeL.nil | (apply TakeL.cons; · repeat (first | exact Take1.head | apply Take1.tail))))⟩)
        · refine WC.skip ?_
          first
          | (rw [show chF hi first root G = 2 * root + 2 from if_pos g36]; exact ⟨rfl, (), trivial, (by repeat (first | exact Sub.nil | refine Sub.cons rfl ?_)), _, (by repeat (first | exact TakeL.nil | (apply TakeL.cons; · repeat (first | exact Take1.head | apply Take1.tail))))⟩)
          | (rw [show chF hi first root G = 2 * root + 1 from if_neg (ne_true_of_eq_false g36)]; exact ⟨rfl, (), trivial, (by repeat (first | exact Sub.nil | refine Sub.cons rfl ?_)), _, (by repeat (first | exact TakeL.nil | (apply TakeL.cons; · repeat (first | exact Take1.head | apply Take1.tail))))⟩)
    · rintro ⟨⟩ -
      have hch : 2 * root + 1 < hi := by omega
      obtain ⟨hc1, hc2, hc3⟩ := chF_in (first := first) (D := G) hch
      have hs2 := sift_stop2 (first := first) (D := G) hch
      have hg2 := sift_go (first := first) (D := G) hch
      obtain ⟨ch, hce⟩ : ∃ ch, chF hi first root G = ch := ⟨_, rfl⟩
      rw [hce] at hc1 hc2 hc3 hs2 hg2 ⊢
      refine WC.seq ?_
      refine WC.seq ?_
      refine WC.drawAny (Hs := [ownR v 22 1 n (ints .u64 G.toList)]) mixed (by kernel_rfl) ⟨_, (by repeat (first | exact TakeL.nil | (apply TakeL.cons; · repeat (first | exact Take1.head | apply Take1.tail))))⟩ ?_
      refine WD.take 0 rfl (by kernel_rfl) (by kernel_rfl) (by kernel_rfl) rfl rfl (Yl.move rfl) rfl ?_ -- t39
      refine WD.take 1 rfl (by kernel_rfl) (by kernel_rfl) (by kernel_rfl) rfl rfl (Yl.move rfl) rfl ?_ -- t40
      refine WD.take 2 rfl (by kernel_rfl) (by kernel_rfl) (by kernel_rfl) rfl rfl (Yl.move rfl) rfl ?_ -- t41
      refine WD.take 3 rfl (by kernel_rfl) (by kernel_rfl) (by kernel_rfl) rfl rfl (Yl.add rfl rfl (IntWalk.i64_in _ (by omega))) rfl ?_ -- t42
      refine WD.say (t := 42) (v' := .int .i64 ((first + root : Nat) : Int)) rfl (by (refine congrArg _ ?_; omega)) ?_
      refine WD.take 4 rfl (by kernel_rfl) (by kernel_rfl) (by kernel_rfl) rfl rfl (Yl.indexF un105 sz22 rfl rfl hF rfl (by omega)) rfl ?_
      refine WD.take 5 rfl (by kernel_rfl) (by kernel_rfl) (by kernel_rfl) rfl rfl (Yl.loadE on22 rfl (Reads.own (by repeat (first | exact Take1.head | apply Take1.tail))) (so_getV (by omega))) rfl ?_
      refine WD.take 6 rfl (by kernel_rfl) (by kernel_rfl) (by kernel_rfl) rfl rfl (Yl.move rfl) rfl ?_ -- t45
      refine WD.take 7 rfl (by kernel_rfl) (by kernel_rfl) (by kernel_rfl) rfl rfl (Yl.move rfl) rfl ?_ -- t46
      refine WD.take 8 rfl (by kernel_rfl) (by kernel_rfl) (by kernel_rfl) rfl rfl (Yl.move rfl) rfl ?_ -- t47
      refine WD.take 9 rfl (by kernel_rfl) (by kernel_rfl) (by kernel_rfl) rfl rfl (Yl.add rfl rfl (IntWalk.i64_in _ (by omega))) rfl ?_ -- t48
      refine WD.say (t := 48) (v' := .int .i64 ((first + ch : Nat) : Int)) rfl (by (refine congrArg _ ?_; omega)) ?_
      refine WD.take 10 rfl (by kernel_rfl) (by kernel_rfl) (by kernel_rfl) rfl rfl (Yl.indexF un105 sz22 rfl rfl hF rfl (by omega)) rfl ?_
      refine WD.take 11 rfl (by kernel_rfl) (by kernel_rfl) (by kernel_rfl) rfl rfl (Yl.loadE on22 rfl (Reads.own (by repeat (first | exact Take1.head | apply Take1.tail))) (so_getV (by omega))) rfl ?_
      refine WD.one 12 (by kernel_rfl) ?_
      refine WO.callC (xs := [.tmp 44, .tmp 50]) (cap := []) rfl .no rfl rfl en78 (by repeat (first | exact TakeL.nil | (apply TakeL.cons; · repeat (first | exact Take1.head | apply Take1.tail)))) (fun w hw => lessV_any _ _ w hw.left.here) rfl (fun _ => ⟨_, (by repeat (first | exact TakeL.nil | (apply TakeL.cons; · repeat (first | exact Take1.head | apply Take1.tail))))⟩) ?_ -- t51 cmp.Less[uint64]
      rintro ⟨⟩ -
      refine WD.take 13 rfl (by kernel_rfl) (by kernel_rfl) (by kernel_rfl) rfl rfl (Yl.not rfl) rfl ?_ -- t52
      refine WD.done (by kernel_rfl) ?_
      refine WC.cond rfl (fun g52 => ?_) (fun g52 => ?_)
      · refine WC.ret ?_
        repeat (first | (with_reducible refine peelT ?_) | (with_reducible refine peelB ?_) | (with_reducible refine peelTX ?_) | (with_reducible refine peelBX ?_) | (with_reducible refine peelBN ?_) | (with_reducible refine peelBO rfl ?_))
        rw [hs2 (by simpa using g52)] at hTG
        subst hTG
        exact ret0 (.inr rfl) Try.results83 fun w' h => ⟨(), trivial, rfl, h.sub (by repeat (first | exact TakeL.nil | (apply TakeL.cons; · repeat (first | exact Take1.head | apply Take1.tail))))⟩
      · refine WC.skip ?_
        refine WC.seq ?_
        refine WC.drawAny (Hs := []) mixed (by kernel_rfl) ⟨_, (by repeat (first | exact TakeL.nil | (apply TakeL.cons; · repeat (first | exact Take1.head | apply Take1.tail))))⟩ ?_
        refine WD.take 0 rfl (by kernel_rfl) (by kernel_rfl) (by kernel_rfl) rfl rfl (Yl.move rfl) rfl ?_ -- t53
        refine WD.take 1 rfl (by kernel_rfl) (by kernel_rfl) (by kernel_rfl) rfl rfl (Yl.move rfl) rfl ?_ -- t54
        refine WD.take 2 rfl (by kernel_rfl) (by kernel_rfl) (by kernel_rfl) rfl rfl (Yl.move rfl) rfl ?_ -- t55
        refine WD.take 3 rfl (by kernel_rfl) (by kernel_rfl) (by kernel_rfl) rfl rfl (Yl.add rfl rfl (IntWalk.i64_in _ (by omega))) rfl ?_ -- t56
        refine WD.say (t := 56) (v' := .int .i64 ((first + root : Nat) : Int)) rfl (by (refine congrArg _ ?_; omega)) ?_
        refine WD.take 4 rfl (by kernel_rfl) (by kernel_rfl) (by kernel_rfl) rfl rfl (Yl.move rfl) rfl ?_ -- t57
        refine WD.take 5 rfl (by kernel_rfl) (by kernel_rfl) (by kernel_rfl) rfl rfl (Yl.move rfl) rfl ?_ -- t58
        refine WD.take 6 rfl (by kernel_rfl) (by kernel_rfl) (by kernel_rfl) rfl rfl (Yl.move rfl) rfl ?_ -- t59
        refine WD.take 7 rfl (by kernel_rfl) (by kernel_rfl) (by kernel_rfl) rfl rfl (Yl.add rfl rfl (IntWalk.i64_in _ (by omega))) rfl ?_ -- t60
        refine WD.say (t := 60) (v' := .int .i64 ((first + ch : Nat) : Int)) rfl (by (refine congrArg _ ?_; omega)) ?_
        refine WD.take 8 rfl (by kernel_rfl) (by kernel_rfl) (by kernel_rfl) rfl rfl (Yl.move rfl) rfl ?_ -- t61
        refine WD.take 9 rfl (by kernel_rfl) (by kernel_rfl) (by kernel_rfl) rfl rfl (Yl.move rfl) rfl ?_ -- t62
        refine WD.take 10 rfl (by kernel_rfl) (by kernel_rfl) (by kernel_rfl) rfl rfl (Yl.move rfl) rfl ?_ -- t63
        refine WD.take 11 rfl (by kernel_rfl) (by kernel_rfl) (by kernel_rfl) rfl rfl (Yl.add rfl rfl (IntWalk.i64_in _ (by omega))) rfl ?_ -- t64
        refine WD.say (t := 64) (v' := .int .i64 ((first + ch : Nat) : Int)) rfl (by (refine congrArg _ ?_; omega)) ?_
        refine WD.take 12 rfl (by kernel_rfl) (by kernel_rfl) (by kernel_rfl) rfl rfl (Yl.indexF un105 sz22 rfl rfl hF rfl (by omega)) rfl ?_
        refine WD.take 14 rfl (by kernel_rfl) (by kernel_rfl) (by kernel_rfl) rfl rfl (Yl.move rfl) rfl ?_ -- t67
        refine WD.take 15 rfl (by kernel_rfl) (by kernel_rfl) (by kernel_rfl) rfl rfl (Yl.move rfl) rfl ?_ -- t68
        refine WD.take 16 rfl (by kernel_rfl) (by kernel_rfl) (by kernel_rfl) rfl rfl (Yl.move rfl) rfl ?_ -- t69
        refine WD.take 17 rfl (by kernel_rfl) (by kernel_rfl) (by kernel_rfl) rfl rfl (Yl.add rfl rfl (IntWalk.i64_in _ (by omega))) rfl ?_ -- t70
        refine WD.say (t := 70) (v' := .int .i64 ((first + root : Nat) : Int)) rfl (by (refine congrArg _ ?_; omega)) ?_
        refine WD.take 18 rfl (by kernel_rfl) (by kernel_rfl) (by kernel_rfl) rfl rfl (Yl.indexF un105 sz22 rfl rfl hF rfl (by omega)) rfl ?_
        refine WD.two 13 19 (by kernel_rfl) ?_ ?_
        · refine WO.y rfl rfl .no (Yl.loadE on22 rfl (Reads.own (by repeat (first | exact Take1.head | apply Take1.tail))) (so_getV (by omega))) rfl ?_
          refine WD.one 19 (by kernel_rfl) ?_
          refine WO.y rfl rfl .no (Yl.loadE on22 rfl (Reads.own (by repeat (first | exact Take1.head | apply Take1.tail))) (so_getV (by omega))) rfl ?_
          refine WD.take 20 rfl (by kernel_rfl) (by kernel_rfl) (by kernel_rfl) rfl rfl (Yl.indexF un105 sz22 rfl rfl hF rfl (by omega)) rfl ?_
          refine WD.one 21 (by kernel_rfl) ?_
          refine WO.sto rfl rfl .no (Sto.elem (j := first + root) sz22 rfl rfl (by repeat (first | exact Take1.head | apply Take1.tail)) rfl (by omega) rfl) ⟨_, (by repeat (first | exact TakeL.nil | (apply TakeL.cons; · repeat (first | exact Take1.head | apply Take1.tail))))⟩ ?_
          refine WD.take 22 rfl (by kernel_rfl) (by kernel_rfl) (by kernel_rfl) rfl rfl (Yl.indexF un105 sz22 rfl rfl hF rfl (by omega)) rfl ?_
          refine WD.one 23 (by kernel_rfl) ?_
          refine WO.sto rfl rfl .no (Sto.elem (j := first + ch) (cs' := ints .u64 (swp G (first + root) (first + ch)).toList) sz22 rfl rfl (by repeat (first | exact Take1.head | apply Take1.tail)) rfl (by omega) (so_swpV G (first + root) (first + ch))) ⟨_, (by repeat (first | exact TakeL.nil | (apply TakeL.cons; · repeat (first | exact Take1.head | apply Take1.tail))))⟩ ?_
          refine WD.done (by kernel_rfl) ?_
          refine WC.region ?_
          refine WL.y (Yl.move rfl) rfl ?_ -- t75
          refine WL.y (Yl.assign rfl) rfl ?_ -- t8
          refine WL.nil ?_
          rw [hg2 (by simpa using g52)] at hTG
          exact ⟨rfl, (ch, swp G (first + root) (first + ch)), ⟨by dsimp only; omega, by dsimp only; rw [swp_size]; exact hG, hTG⟩, by dsimp only; omega, (by repeat (first | exact Sub.nil | refine Sub.cons rfl ?_)), _, (by repeat (first | exact TakeL.nil | (apply TakeL.cons; · repeat (first | exact Take1.head | apply Take1.tail))))⟩
        · refine WO.y rfl rfl .no (Yl.loadE on22 rfl (Reads.own (by repeat (first | exact Take1.head | apply Take1.tail))) (so_getV (by omega))) rfl ?_
          refine WD.one 13 (by kernel_rfl) ?_
          refine WO.y rfl rfl .no (Yl.loadE on22 rfl (Reads.own (by repeat (first | exact Take1.head | apply Take1.tail))) (so_getV (by omega))) rfl ?_
          refine WD.take 20 rfl (by kernel_rfl) (by kernel_rfl) (by kernel_rfl) rfl rfl (Yl.indexF un105 sz22 rfl rfl hF rfl (by omega)) rfl ?_
          refine WD.one 21 (by kernel_rfl) ?_
          refine WO.sto rfl rfl .no (Sto.elem (j := first + root) sz22 rfl rfl (by repeat (first | exact Take1.head | apply Take1.tail)) rfl (by omega) rfl) ⟨_, (by repeat (first | exact TakeL.nil | (apply TakeL.cons; · repeat (first | exact Take1.head | apply Take1.tail))))⟩ ?_
          refine WD.take 22 rfl (by kernel_rfl) (by kernel_rfl) (by kernel_rfl) rfl rfl (Yl.indexF un105 sz22 rfl rfl hF rfl (by omega)) rfl ?_
          refine WD.one 23 (by kernel_rfl) ?_
          refine WO.sto rfl rfl .no (Sto.elem (j := first + ch) (cs' := ints .u64 (swp G (first + root) (first + ch)).toList) sz22 rfl rfl (by repeat (first | exact Take1.head | apply Take1.tail)) rfl (by omega) (so_swpV G (first + root) (first + ch))) ⟨_, (by repeat (first | exact TakeL.nil | (apply TakeL.cons; · repeat (first | exact Take1.head | apply Take1.tail))))⟩ ?_
          refine WD.done (by kernel_rfl) ?_
          refine WC.region ?_
          refine WL.y (Yl.move rfl) rfl ?_ -- t75
          refine WL.y (Yl.assign rfl) rfl ?_ -- t8
          refine WL.nil ?_
          rw [hg2 (by simpa using g52)] at hTG
          exact ⟨rfl, (ch, swp G (first + root) (first + ch)), ⟨by dsimp only; omega, by dsimp only; rw [swp_size]; exact hG, hTG⟩, by dsimp only; omega, (by repeat (first | exact Sub.nil | refine Sub.cons rfl ?_)), _, (by repeat (first | exact TakeL.nil | (apply TakeL.cons; · repeat (first | exact Take1.head | apply Take1.tail))))⟩
theorem sift_size (hi first root : Nat) (D : Array Int) : (siftDown ltInt hi first root D).size = D.size := by
  induction h : hi - root using Nat.strongRecOn generalizing root D with
  | ind m ih =>
    by_cases h1 : 2 * root + 1 < hi
    · by_cases h2 : ltInt D[first + root]! D[first + chF hi first root D]! = true
      · rw [sift_go h1 h2, ih (hi - chF hi first root D) (by have := chF_in (first := first) (D := D) h1; omega) _ _ rfl, swp_size]
      · rw [sift_stop2 h1 (by simpa using h2)]
    · rw [sift_stop1 h1]
end Go.Proofs.Ytklbmgfpnafdlaa
