/- Sorting rows of uint64: the heap sort; turning a row round: the walks. -/
import Derived.Test.YtklbmgfpnafdlaaSoBV
namespace Go.Proofs.Ytklbmgfpnafdlaa
open Go Go.RowKit Go.Sort

theorem half_in {h : Nat} (hh : h ≤ 1099511627776) : IntKind.i64.wrap (((h : Int) - 1).tdiv 2) = (((h - 1) / 2 + 1 : Nat) : Int) - 1 := by
  cases h with
  | zero => decide
  | succ h =>
    rw [Int.tdiv_eq_ediv_of_nonneg (by omega), IntWalk.i64_in _ (by omega)]
    omega
theorem hb_size (hi first : Nat) : ∀ (k : Nat) (D : Array Int), (heapBuild ltInt hi first k D).size = D.size
  | 0, D => rfl
  | k + 1, D => by rw [heapBuild, hb_size hi first k, sift_size]
set_option maxRecDepth 100000 in
theorem heapV_any (v : Value) (n : Nat) (D : Array Int) (a b : Nat) (hD : D.size = n) (hn : n ≤ 1099511627776) (hab : a ≤ b) (hb : b ≤ n) (w : World) (hw : OK w (fpL [ownR v 22 1 n (ints .u64 D.toList)]) [ownR v 22 1 n (ints .u64 D.toList)] w) :
    Fn Try.prog 73 [v, .int .i64 (a : Int), .int .i64 (b : Int)] [ownR v 22 1 n (ints .u64 D.toList)] w (fun _ : Unit => True) (fun _ => .tuple #[]) (fun _ => [ownR v 22 1 n (ints .u64 (heapSort ltInt D a b).toList)]) := by
  have hF := sl_form (hw.get (r := ownR v 22 1 n (ints .u64 D.toList)) .head)
  unfold heapSort
  obtain ⟨H, hH⟩ : ∃ H, b - a = H := ⟨_, rfl⟩
  rw [hH]
  obtain ⟨B, hBe⟩ : ∃ B, heapBuild ltInt H a ((H - 1) / 2 + 1) D = B := ⟨_, rfl⟩
  have hBs : B.size = n := by rw [← hBe, hb_size, hD]
  obtain ⟨T, hT⟩ : ∃ T, heapPop ltInt a H B = T := ⟨_, rfl⟩
  rw [hBe, hT]
  refine enterF Try.func73 rfl Try.ntmps73 rfl hw ?_
  refine WC.seq ?_
  refine WC.region ?_
  refine WL.y (Yl.move rfl) rfl ?_ -- t11
  refine WL.y (Yl.assign rfl) rfl ?_ -- t6
  refine WL.nil ?_
  refine WC.seq ?_
  refine WC.region ?_
  refine WL.y (Yl.assign rfl) rfl ?_ -- t7
  refine WL.nil ?_
  refine WC.seq ?_
  refine WC.region ?_
  refine WL.y (Yl.move rfl) rfl ?_ -- t12
  refine WL.y (Yl.move rfl) rfl ?_ -- t13
  refine WL.y (Yl.sub rfl rfl (IntWalk.i64_in _ (by omega))) rfl ?_ -- t14
  refine WL.say (t := 14) (v' := .int .i64 (H : Int)) rfl (by (refine congrArg _ ?_; omega)) ?_
  refine WL.y (Yl.assign rfl) rfl ?_ -- t8
  refine WL.nil ?_
  refine WC.seq ?_
  refine WC.seq ?_
  refine WC.region ?_
  refine WL.y (Yl.move rfl) rfl ?_ -- t15
  refine WL.y (Yl.sub rfl rfl (IntWalk.i64_in _ (by omega))) rfl ?_ -- t16
  refine WL.y (Yl.quo rfl rfl (by omega) (half_in (by omega))) rfl ?_
  refine WL.y (Yl.assign rfl) rfl ?_ -- t9
  refine WL.nil ?_
  refine WC.block ?_
  refine WC.loop (α := Nat × Array Int) (fun p => [(0, v), (6, .int .i64 (a : Int)), (7, .int .i64 0), (8, .int .i64 (H : Int)), (9, .int .i64 ((p.1 : Int) - 1))]) (fun p => [ownR v 22 1 n (ints .u64 p.2.toList)]) (fun p => p.1 ≤ (H - 1) / 2 + 1 ∧ p.2.size = n ∧ heapBuild ltInt H a p.1 p.2 = B) (fun p => p.1) ((H - 1) / 2 + 1, D) ⟨Nat.le_refl _, hD, hBe⟩ ⟨(by repeat (first | exact Sub.nil | refine Sub.cons rfl ?_)), _, (by repeat (first | exact TakeL.nil | (apply TakeL.cons; · repeat (first | exact Take1.head | apply Take1.tail))))⟩ ?_
  rintro ⟨k, G⟩ ⟨hk, hG, hTG⟩
  dsimp only at hk hG hTG ⊢
  refine WC.seq ?_
  refine WC.seq ?_
  refine WC.region ?_
  refine WL.y (Yl.move rfl) rfl ?_ -- t18
  refine WL.y (Yl.geq rfl rfl) rfl ?_ -- t19
  refine WL.nil ?_
  refine WC.condD rfl (fun g19 => ?_) (fun g19 => ?_)
  · refine WC.skip ?_
    refine WC.seq ?_
    refine WC.block ?_
    obtain ⟨k, rfl⟩ : ∃ k', k = k' + 1 := ⟨k - 1, by omega⟩
    have hsz := sift_size H a k G
    refine WC.region ?_
    refine WL.y (Yl.move rfl) rfl ?_ -- t22
    refine WL.y (Yl.move rfl) rfl ?_ -- t23
    refine WL.say (t := 23) (v' := .int .i64 (k : Int)) rfl (by (refine congrArg _ ?_; omega)) ?_
    refine WL.y (Yl.move rfl) rfl ?_ -- t24
    refine WL.y (Yl.move rfl) rfl ?_ -- t25
    refine WL.callC (xs := [.tmp 22, .tmp 23, .tmp 24, .tmp 25]) (cap := []) rfl rfl en83 (by repeat (first | exact TakeL.nil | (apply TakeL.cons; · repeat (first | exact Take1.head | apply Take1.tail)))) (fun w hw => siftV_any v n G k H a hG hn (by omega) (by omega) w hw.left.here) rfl ?_ -- t26 slices.siftDownOrdered[uint64]
    rintro ⟨⟩ -
    dsimp only [List.cons_append, List.nil_append]
    refine WL.nil ?_
    refine WC.region ?_
    refine WL.y (Yl.move rfl) rfl ?_ -- t20
    refine WL.y (Yl.sub rfl rfl (IntWalk.i64_in _ (by omega))) rfl ?_ -- t21
    refine WL.say (t := 21) (v' := .int .i64 ((k : Int) - 1)) rfl (by (refine congrArg _ ?_; omega)) ?_
    refine WL.y (Yl.assign rfl) rfl ?_ -- t9
    refine WL.nil ?_
    exact ⟨rfl, (k, siftDown ltInt H a k G), ⟨by dsimp only; omega, by dsimp only; omega, hTG⟩, by dsimp only; omega, (by repeat (first | exact Sub.nil | refine Sub.cons rfl ?_)), _, (by repeat (first | exact TakeL.nil | (apply TakeL.cons; · repeat (first | exact Take1.head | apply Take1.tail))))⟩
  · refine WC.exit ?_
    refine WC.seq ?_
    have hk0 : k = 0 := by omega
    subst hk0
    have hGB : G = B := hTG
    subst hGB
    refine WC.region ?_
    refine WL.y (Yl.move rfl) rfl ?_ -- t27
    refine WL.y (Yl.sub rfl rfl (IntWalk.i64_in _ (by omega))) rfl ?_ -- t28
    refine WL.y (Yl.assign rfl) rfl ?_ -- t10
    refine WL.nil ?_
    refine WC.block ?_
    refine WC.loop (α := Nat × Array Int) (fun p => [(0, v), (6, .int .i64 (a : Int)), (7, .int .i64 0), (10, .int .i64 ((p.1 : Int) - 1))]) (fun p => [ownR v 22 1 n (ints .u64 p.2.toList)]) (fun p => p.1 ≤ H ∧ p.2.size = n ∧ heapPop ltInt a p.1 p.2 = T) (fun p => p.1) (H, G) ⟨Nat.le_refl _, hG, hT⟩ ⟨(by repeat (first | exact Sub.nil | refine Sub.cons rfl ?_)), _, (by repeat (first | exact TakeL.nil | (apply TakeL.cons; · repeat (first | exact Take1.head | apply Take1.tail))))⟩ ?_
    rintro ⟨k, E⟩ ⟨hk, hE, hTE⟩
    dsimp only at hk hE hTE ⊢
    refine WC.seq ?_
    refine WC.seq ?_
    refine WC.region ?_
    refine WL.y (Yl.move rfl) rfl ?_ -- t29
    refine WL.y (Yl.geq rfl rfl) rfl ?_ -- t30
    refine WL.nil ?_
    refine WC.condD rfl (fun g30 => ?_) (fun g30 => ?_)
    · refine WC.skip ?_
      refine WC.seq ?_
      refine WC.block ?_
      refine WC.seq ?_
      obtain ⟨k, rfl⟩ : ∃ k', k = k' + 1 := ⟨k - 1, by omega⟩
      have hsw := swp_size E a (a + k)
      have hsz := sift_size k a 0 (swp E a (a + k))
      refine WC.drawAny (Hs := []) mixed (by kernel_rfl) ⟨_, (by repeat (first | exact TakeL.nil | (apply TakeL.cons; · repeat (first | exact Take1.head | apply Take1.tail))))⟩ ?_
      refine WD.take 0 rfl (by kernel_rfl) (by kernel_rfl) (by kernel_rfl) rfl rfl (Yl.move rfl) rfl ?_ -- t33
      refine WD.take 1 rfl (by kernel_rfl) (by kernel_rfl) (by kernel_rfl) rfl rfl (Yl.move rfl) rfl ?_ -- t34
      refine WD.take 2 rfl (by kernel_rfl) (by kernel_rfl) (by kernel_rfl) rfl rfl (Yl.move rfl) rfl ?_ -- t35
      refine WD.take 3 rfl (by kernel_rfl) (by kernel_rfl) (by kernel_rfl) rfl rfl (Yl.move rfl) rfl ?_ -- t36
      refine WD.take 4 rfl (by kernel_rfl) (by kernel_rfl) (by kernel_rfl) rfl rfl (Yl.move rfl) rfl ?_ -- t37
      refine WD.take 5 rfl (by kernel_rfl) (by kernel_rfl) (by kernel_rfl) rfl rfl (Yl.add rfl rfl (IntWalk.i64_in _ (by omega))) rfl ?_ -- t38
      refine WD.say (t := 38) (v' := .int .i64 ((a + k : Nat) : Int)) rfl (by (refine congrArg _ ?_; omega)) ?_
      refine WD.take 6 rfl (by kernel_rfl) (by kernel_rfl) (by kernel_rfl) rfl rfl (Yl.move rfl) rfl ?_ -- t39
      refine WD.take 7 rfl (by kernel_rfl) (by kernel_rfl) (by kernel_rfl) rfl rfl (Yl.move rfl) rfl ?_ -- t40
      refine WD.take 8 rfl (by kernel_rfl) (by kernel_rfl) (by kernel_rfl) rfl rfl (Yl.move rfl) rfl ?_ -- t41
      refine WD.take 9 rfl (by kernel_rfl) (by kernel_rfl) (by kernel_rfl) rfl rfl (Yl.add rfl rfl (IntWalk.i64_in _ (by omega))) rfl ?_ -- t42
      refine WD.say (t := 42) (v' := .int .i64 ((a + k : Nat) : Int)) rfl (by (refine congrArg _ ?_; omega)) ?_
      refine WD.take 10 rfl (by kernel_rfl) (by kernel_rfl) (by kernel_rfl) rfl rfl (Yl.indexF un105 sz22 rfl rfl hF rfl (by omega)) rfl ?_
      refine WD.take 12 rfl (by kernel_rfl) (by kernel_rfl) (by kernel_rfl) rfl rfl (Yl.move rfl) rfl ?_ -- t45
      refine WD.take 13 rfl (by kernel_rfl) (by kernel_rfl) (by kernel_rfl) rfl rfl (Yl.move rfl) rfl ?_ -- t46
      refine WD.take 14 rfl (by kernel_rfl) (by kernel_rfl) (by kernel_rfl) rfl rfl (Yl.indexF un105 sz22 rfl rfl hF rfl (by omega)) rfl ?_
      refine WD.two 11 15 (by kernel_rfl) ?_ ?_
      · refine WO.y rfl rfl .no (Yl.loadE on22 rfl (Reads.own (by repeat (first | exact Take1.head | apply Take1.tail))) (so_getV (by omega))) rfl ?_
        refine WD.one 15 (by kernel_rfl) ?_
        refine WO.y rfl rfl .no (Yl.loadE on22 rfl (Reads.own (by repeat (first | exact Take1.head | apply Take1.tail))) (so_getV (by omega))) rfl ?_
        refine WD.take 16 rfl (by kernel_rfl) (by kernel_rfl) (by kernel_rfl) rfl rfl (Yl.indexF un105 sz22 rfl rfl hF rfl (by omega)) rfl ?_
        refine WD.one 17 (by kernel_rfl) ?_
        refine WO.sto rfl rfl .no (Sto.elem (j := a) sz22 rfl rfl (by repeat (first | exact Take1.head | apply Take1.tail)) rfl (by omega) rfl) ⟨_, (by repeat (first | exact TakeL.nil | (apply TakeL.cons; · repeat (first | exact Take1.head | apply Take1.tail))))⟩ ?_
        refine WD.take 18 rfl (by kernel_rfl) (by kernel_rfl) (by kernel_rfl) rfl rfl (Yl.indexF un105 sz22 rfl rfl hF rfl (by omega)) rfl ?_
        refine WD.one 19 (by kernel_rfl) ?_
        refine WO.sto rfl rfl .no (Sto.elem (j := a + k) (cs' := ints .u64 (swp E (a) (a + k)).toList) sz22 rfl rfl (by repeat (first | exact Take1.head | apply Take1.tail)) rfl (by omega) (so_swpV E (a) (a + k))) ⟨_, (by repeat (first | exact TakeL.nil | (apply TakeL.cons; · repeat (first | exact Take1.head | apply Take1.tail))))⟩ ?_
        refine WD.done (by kernel_rfl) ?_
        refine WC.region ?_
        refine WL.y (Yl.move rfl) rfl ?_ -- t51
        refine WL.y (Yl.move rfl) rfl ?_ -- t52
        refine WL.y (Yl.move rfl) rfl ?_ -- t53
        refine WL.say (t := 53) (v' := .int .i64 (k : Int)) rfl (by (refine congrArg _ ?_; omega)) ?_
        refine WL.y (Yl.move rfl) rfl ?_ -- t54
        refine WL.callC (xs := [.tmp 51, .tmp 52, .tmp 53, .tmp 54]) (cap := []) rfl rfl en83 (by repeat (first | exact TakeL.nil | (apply TakeL.cons; · repeat (first | exact Take1.head | apply Take1.tail)))) (fun w hw => siftV_any v n (swp E a (a + k)) 0 k a (by omega) hn (Nat.zero_le _) (by omega) w hw.left.here) rfl ?_ -- t55 slices.siftDownOrdered[uint64]
        rintro ⟨⟩ -
        dsimp only [List.cons_append, List.nil_append]
        refine WL.nil ?_
        refine WC.region ?_
        refine WL.y (Yl.move rfl) rfl ?_ -- t31
        refine WL.y (Yl.sub rfl rfl (IntWalk.i64_in _ (by omega))) rfl ?_ -- t32
        refine WL.say (t := 32) (v' := .int .i64 ((k : Int) - 1)) rfl (by (refine congrArg _ ?_; omega)) ?_
        refine WL.y (Yl.assign rfl) rfl ?_ -- t10
        refine WL.nil ?_
        exact ⟨rfl, (k, siftDown ltInt k a 0 (swp E a (a + k))), ⟨by dsimp only; omega, by dsimp only; omega, hTE⟩, by dsimp only; omega, (by repeat (first | exact Sub.nil | refine Sub.cons rfl ?_)), _, (by repeat (first | exact TakeL.nil | (apply TakeL.cons; · repeat (first | exact Take1.head | apply Take1.tail))))⟩
      · refine WO.y rfl rfl .no (Yl.loadE on22 rfl (Reads.own (by repeat (first | exact Take1.head | apply Take1.tail))) (so_getV (by omega))) rfl ?_
        refine WD.one 11 (by kernel_rfl) ?_
        refine WO.y rfl rfl .no (Yl.loadE on22 rfl (Reads.own (by repeat (first | exact Take1.head | apply Take1.tail))) (so_getV (by omega))) rfl ?_
        refine WD.take 16 rfl (by kernel_rfl) (by kernel_rfl) (by kernel_rfl) rfl rfl (Yl.indexF un105 sz22 rfl rfl hF rfl (by omega)) rfl ?_
        refine WD.one 17 (by kernel_rfl) ?_
        refine WO.sto rfl rfl .no (Sto.elem (j := a) sz22 rfl rfl (by repeat (first | exact Take1.head | apply Take1.tail)) rfl (by omega) rfl) ⟨_, (by repeat (first | exact TakeL.nil | (apply TakeL.cons; · repeat (first | exact Take1.head | apply Take1.tail))))⟩ ?_
        refine WD.take 18 rfl (by kernel_rfl) (by kernel_rfl) (by kernel_rfl) rfl rfl (Yl.indexF un105 sz22 rfl rfl hF rfl (by omega)) rfl ?_
        refine WD.one 19 (by kernel_rfl) ?_
        refine WO.sto rfl rfl .no (Sto.elem (j := a + k) (cs' := ints .u64 (swp E (a) (a + k)).toList) sz22 rfl rfl (by repeat (first | exact Take1.head | apply Take1.tail)) rfl (by omega) (so_swpV E (a) (a + k))) ⟨_, (by repeat (first | exact TakeL.nil | (apply TakeL.cons; · repeat (first | exact Take1.head | apply Take1.tail))))⟩ ?_
        refine WD.done (by kernel_rfl) ?_
        refine WC.region ?_
        refine WL.y (Yl.move rfl) rfl ?_ -- t51
        refine WL.y (Yl.move rfl) rfl ?_ -- t52
        refine WL.y (Yl.move rfl) rfl ?_ -- t53
        refine WL.say (t := 53) (v' := .int .i64 (k : Int)) rfl (by (refine congrArg _ ?_; omega)) ?_
        refine WL.y (Yl.move rfl) rfl ?_ -- t54
        refine WL.callC (xs := [.tmp 51, .tmp 52, .tmp 53, .tmp 54]) (cap := []) rfl rfl en83 (by repeat (first | exact TakeL.nil | (apply TakeL.cons; · repeat (first | exact Take1.head | apply Take1.tail)))) (fun w hw => siftV_any v n (swp E a (a + k)) 0 k a (by omega) hn (Nat.zero_le _) (by omega) w hw.left.here) rfl ?_ -- t55 slices.siftDownOrdered[uint64]
        rintro ⟨⟩ -
        dsimp only [List.cons_append, List.nil_append]
        refine WL.nil ?_
        refine WC.region ?_
        refine WL.y (Yl.move rfl) rfl ?_ -- t31
        refine WL.y (Yl.sub rfl rfl (IntWalk.i64_in _ (by omega))) rfl ?_ -- t32
        refine WL.say (t := 32) (v' := .int .i64 ((k : Int) - 1)) rfl (by (refine congrArg _ ?_; omega)) ?_
        refine WL.y (Yl.assign rfl) rfl ?_ -- t10
        refine WL.nil ?_
        exact ⟨rfl, (k, siftDown ltInt k a 0 (swp E a (a + k))), ⟨by dsimp only; omega, by dsimp only; omega, hTE⟩, by dsimp only; omega, (by repeat (first | exact Sub.nil | refine Sub.cons rfl ?_)), _, (by repeat (first | exact TakeL.nil | (apply TakeL.cons; · repeat (first | exact Take1.head | apply Take1.tail))))⟩
    · refine WC.exit ?_
      repeat (first | (with_reducible refine peelT ?_) | (with_reducible refine peelB ?_) | (with_reducible refine peelTX ?_) | (with_reducible refine peelBX ?_) | (with_reducible refine peelBN ?_) | (with_reducible refine peelBO rfl ?_))
      have hk0 : k = 0 := by omega
      subst hk0
      have hGB : E = T := hTE
      subst hGB
      exact ret0 (.inl rfl) Try.results73 fun w' h => ⟨(), trivial, rfl, h.sub (by repeat (first | exact TakeL.nil | (apply TakeL.cons; · repeat (first | exact Take1.head | apply Take1.tail))))⟩

theorem rev_go {i j : Nat} {D : Array Int} (h : i < j) : reverseLoop i j D = reverseLoop (i + 1) (j - 1) (swp D i j) := by rw [reverseLoop, if_pos h]
theorem rev_stop {i j : Nat} {D : Array Int} (h : ¬ i < j) : reverseLoop i j D = D := by rw [reverseLoop, if_neg h]
set_option maxRecDepth 100000 in
theorem revV_any (v : Value) (n : Nat) (D : Array Int) (a b : Nat) (hD : D.size = n) (hn : n ≤ 1099511627776) (hab : a < b) (hb : b ≤ n) (w : World) (hw : OK w (fpL [ownR v 22 1 n (ints .u64 D.toList)]) [ownR v 22 1 n (ints .u64 D.toList)] w) :
    Fn Try.prog 76 [v, .int .i64 (a : Int), .int .i64 (b : Int)] [ownR v 22 1 n (ints .u64 D.toList)] w (fun _ : Unit => True) (fun _ => .tuple #[]) (fun _ => [ownR v 22 1 n (ints .u64 (reverseRange D a b).toList)]) := by
  have hF := sl_form (hw.get (r := ownR v 22 1 n (ints .u64 D.toList)) .head)
  unfold reverseRange
  obtain ⟨T, hT⟩ : ∃ T, reverseLoop a (b - 1) D = T := ⟨_, rfl⟩
  rw [hT]
  refine enterF Try.func76 rfl Try.ntmps76 rfl hw ?_
  refine WC.seq ?_
  refine WC.region ?_
  refine WL.y (Yl.move rfl) rfl ?_ -- t8
  refine WL.y (Yl.assign rfl) rfl ?_ -- t6
  refine WL.nil ?_
  refine WC.seq ?_
  refine WC.region ?_
  refine WL.y (Yl.move rfl) rfl ?_ -- t9
  refine WL.y (Yl.sub rfl rfl (IntWalk.i64_in _ (by omega))) rfl ?_ -- t10
  refine WL.say (t := 10) (v' := .int .i64 ((b - 1 : Nat) : Int)) rfl (by (refine congrArg _ ?_; omega)) ?_
  refine WL.y (Yl.assign rfl) rfl ?_ -- t7
  refine WL.nil ?_
  refine WC.block ?_
  refine WC.loop (α := Nat × Nat × Array Int) (fun p => [(0, v), (6, .int .i64 (p.1 : Int)), (7, .int .i64 (p.2.1 : Int))]) (fun p => [ownR v 22 1 n (ints .u64 p.2.2.toList)]) (fun p => p.2.1 < n ∧ p.1 ≤ n ∧ p.2.2.size = n ∧ reverseLoop p.1 p.2.1 p.2.2 = T) (fun p => p.2.1) (a, b - 1, D) ⟨by dsimp only; omega, by dsimp only; omega, hD, hT⟩ ⟨(by repeat (first | exact Sub.nil | refine Sub.cons rfl ?_)), _, (by repeat (first | exact TakeL.nil | (apply TakeL.cons; · repeat (first | exact Take1.head | apply Take1.tail))))⟩ ?_
  rintro ⟨i, j, G⟩ ⟨hj, hi, hG, hTG⟩
  dsimp only at hi hj hG hTG ⊢
  refine WC.seq ?_
  refine WC.seq ?_
  refine WC.region ?_
  refine WL.y (Yl.move rfl) rfl ?_ -- t11
  refine WL.y (Yl.move rfl) rfl ?_ -- t12
  refine WL.y (Yl.lss rfl rfl) rfl ?_ -- t13
  refine WL.nil ?_
  refine WC.condD rfl (fun g13 => ?_) (fun g13 => ?_)
  · refine WC.skip ?_
    refine WC.block ?_
    refine WC.seq ?_
    have hij : i < j := by omega
    rw [rev_go hij] at hTG
    refine WC.drawAny (Hs := []) mixed (by kernel_rfl) ⟨_, (by repeat (first | exact TakeL.nil | (apply TakeL.cons; · repeat (first | exact Take1.head | apply Take1.tail))))⟩ ?_
    refine WD.take 0 rfl (by kernel_rfl) (by kernel_rfl) (by kernel_rfl) rfl rfl (Yl.move rfl) rfl ?_ -- t14
    refine WD.take 1 rfl (by kernel_rfl) (by kernel_rfl) (by kernel_rfl) rfl rfl (Yl.move rfl) rfl ?_ -- t15
    refine WD.take 2 rfl (by kernel_rfl) (by kernel_rfl) (by kernel_rfl) rfl rfl (Yl.move rfl) rfl ?_ -- t16
    refine WD.take 3 rfl (by kernel_rfl) (by kernel_rfl) (by kernel_rfl) rfl rfl (Yl.move rfl) rfl ?_ -- t17
    refine WD.take 4 rfl (by kernel_rfl) (by kernel_rfl) (by kernel_rfl) rfl rfl (Yl.move rfl) rfl ?_ -- t18
    refine WD.take 5 rfl (by kernel_rfl) (by kernel_rfl) (by kernel_rfl) rfl rfl (Yl.move rfl) rfl ?_ -- t19
    refine WD.take 6 rfl (by kernel_rfl) (by kernel_rfl) (by kernel_rfl) rfl rfl (Yl.indexF un105 sz22 rfl rfl hF rfl (by omega)) rfl ?_
    refine WD.take 8 rfl (by kernel_rfl) (by kernel_rfl) (by kernel_rfl) rfl rfl (Yl.move rfl) rfl ?_ -- t22
    refine WD.take 9 rfl (by kernel_rfl) (by kernel_rfl) (by kernel_rfl) rfl rfl (Yl.move rfl) rfl ?_ -- t23
    refine WD.take 10 rfl (by kernel_rfl) (by kernel_rfl) (by kernel_rfl) rfl rfl (Yl.indexF un105 sz22 rfl rfl hF rfl (by omega)) rfl ?_
    refine WD.two 7 11 (by kernel_rfl) ?_ ?_
    · refine WO.y rfl rfl .no (Yl.loadE on22 rfl (Reads.own (by repeat (first | exact Take1.head | apply Take1.tail))) (so_getV (by omega))) rfl ?_
      refine WD.one 11 (by kernel_rfl) ?_
      refine WO.y rfl rfl .no (Yl.loadE on22 rfl (Reads.own (by repeat (first | exact Take1.head | apply Take1.tail))) (so_getV (by omega))) rfl ?_
      refine WD.take 12 rfl (by kernel_rfl) (by kernel_rfl) (by kernel_rfl) rfl rfl (Yl.indexF un105 sz22 rfl rfl hF rfl (by omega)) rfl ?_
      refine WD.one 13 (by kernel_rfl) ?_
      refine WO.sto rfl rfl .no (Sto.elem (j := i) sz22 rfl rfl (by repeat (first | exact Take1.head | apply Take1.tail)) rfl (by omega) rfl) ⟨_, (by repeat (first | exact TakeL.nil | (apply TakeL.cons; · repeat (first | exact Take1.head | apply Take1.tail))))⟩ ?_
      refine WD.take 14 rfl (by kernel_rfl) (by kernel_rfl) (by kernel_rfl) rfl rfl (Yl.indexF un105 sz22 rfl rfl hF rfl (by omega)) rfl ?_
      refine WD.one 15 (by kernel_rfl) ?_
      refine WO.sto rfl rfl .no (Sto.elem (j := j) (cs' := ints .u64 (swp G (i) (j)).toList) sz22 rfl rfl (by repeat (first | exact Take1.head | apply Take1.tail)) rfl (by omega) (so_swpV G (i) (j))) ⟨_, (by repeat (first | exact TakeL.nil | (apply TakeL.cons; · repeat (first | exact Take1.head | apply Take1.tail))))⟩ ?_
      refine WD.done (by kernel_rfl) ?_
      refine WC.seq ?_
      refine WC.region ?_
      refine WL.y (Yl.move rfl) rfl ?_ -- t28
      refine WL.y (Yl.add rfl rfl (IntWalk.i64_in _ (by omega))) rfl ?_ -- t29
      refine WL.y (Yl.assign rfl) rfl ?_ -- t6
      refine WL.nil ?_
      refine WC.region ?_
      refine WL.y (Yl.move rfl) rfl ?_ -- t30
      refine WL.y (Yl.sub rfl rfl (IntWalk.i64_in _ (by omega))) rfl ?_ -- t31
      refine WL.say (t := 31) (v' := .int .i64 ((j - 1 : Nat) : Int)) rfl (by (refine congrArg _ ?_; omega)) ?_
      refine WL.y (Yl.assign rfl) rfl ?_ -- t7
      refine WL.nil ?_
      exact ⟨rfl, (i + 1, j - 1, swp G i j), ⟨by dsimp only; omega, by dsimp only; omega, by dsimp only; rw [swp_size]; exact hG, hTG⟩, by dsimp only; omega, (by repeat (first | exact Sub.nil | refine Sub.cons rfl ?_)), _, (by repeat (first | exact TakeL.nil | (apply TakeL.cons; · repeat (first | exact Take1.head | apply Take1.tail))))⟩
    · refine WO.y rfl rfl .no (Yl.loadE on22 rfl (Reads.own (by repeat (first | exact Take1.head | apply Take1.tail))) (so_getV (by omega))) rfl ?_
      refine WD.one 7 (by kernel_rfl) ?_
      refine WO.y rfl rfl .no (Yl.loadE on22 rfl (Reads.own (by repeat (first | exact Take1.head | apply Take1.tail))) (so_getV (by omega))) rfl ?_
      refine WD.take 12 rfl (by kernel_rfl) (by kernel_rfl) (by kernel_rfl) rfl rfl (Yl.indexF un105 sz22 rfl rfl hF rfl (by omega)) rfl ?_
      refine WD.one 13 (by kernel_rfl) ?_
      refine WO.sto rfl rfl .no (Sto.elem (j := i) sz22 rfl rfl (by repeat (first | exact Take1.head | apply Take1.tail)) rfl (by omega) rfl) ⟨_, (by repeat (first | exact TakeL.nil | (apply TakeL.cons; · repeat (first | exact Take1.head | apply Take1.tail))))⟩ ?_
      refine WD.take 14 rfl (by kernel_rfl) (by kernel_rfl) (by kernel_rfl) rfl rfl (Yl.indexF un105 sz22 rfl rfl hF rfl (by omega)) rfl ?_
      refine WD.one 15 (by kernel_rfl) ?_
      refine WO.sto rfl rfl .no (Sto.elem (j := j) (cs' := ints .u64 (swp G (i) (j)).toList) sz22 rfl rfl (by repeat (first | exact Take1.head | apply Take1.tail)) rfl (by omega) (so_swpV G (i) (j))) ⟨_, (by repeat (first | exact TakeL.nil | (apply TakeL.cons; · repeat (first | exact Take1.head | apply Take1.tail))))⟩ ?_
      refine WD.done (by kernel_rfl) ?_
      refine WC.seq ?_
      refine WC.region ?_
      refine WL.y (Yl.move rfl) rfl ?_ -- t28
      refine WL.y (Yl.add rfl rfl (IntWalk.i64_in _ (by omega))) rfl ?_ -- t29
      refine WL.y (Yl.assign rfl) rfl ?_ -- t6
      refine WL.nil ?_
      refine WC.region ?_
      refine WL.y (Yl.move rfl) rfl ?_ -- t30
      refine WL.y (Yl.sub rfl rfl (IntWalk.i64_in _ (by omega))) rfl ?_ -- t31
      refine WL.say (t := 31) (v' := .int .i64 ((j - 1 : Nat) : Int)) rfl (by (refine congrArg _ ?_; omega)) ?_
      refine WL.y (Yl.assign rfl) rfl ?_ -- t7
      refine WL.nil ?_
      exact ⟨rfl, (i + 1, j - 1, swp G i j), ⟨by dsimp only; omega, by dsimp only; omega, by dsimp only; rw [swp_size]; exact hG, hTG⟩, by dsimp only; omega, (by repeat (first | exact Sub.nil | refine Sub.cons rfl ?_)), _, (by repeat (first | exact TakeL.nil | (apply TakeL.cons; · repeat (first | exact Take1.head | apply Take1.tail))))⟩
  · refine WC.exit ?_
    repeat (first | (with_reducible refine peelT ?_) | (with_reducible refine peelB ?_) | (with_reducible refine peelTX ?_) | (with_reducible refine peelBX ?_) | (with_reducible refine peelBN ?_) | (with_reducible refine peelBO rfl ?_))
    have hij : ¬ i < j := by omega
    rw [rev_stop hij] at hTG
    subst hTG
    exact ret0 (.inl rfl) Try.results76 fun w' h => ⟨(), trivial, rfl, h.sub (by repeat (first | exact TakeL.nil | (apply TakeL.cons; · repeat (first | exact Take1.head | apply Take1.tail))))⟩
end Go.Proofs.Ytklbmgfpnafdlaa
