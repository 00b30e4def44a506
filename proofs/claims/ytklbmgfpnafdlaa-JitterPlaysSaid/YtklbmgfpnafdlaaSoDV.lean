/- Sorting rows of uint64: the partitions: the walks. -/
import Derived.Test.YtklbmgfpnafdlaaSoCV
namespace Go.Proofs.Ytklbmgfpnafdlaa
open Go Go.RowKit Go.Sort

theorem leB (i j : Nat) : decide ((i : Int) ≤ (j : Int)) = decide (i ≤ j) := by
  rw [decide_eq_decide]
  omega
theorem up_go {p : Int → Bool} {D : Array Int} {i j : Nat} (h : (decide ((i : Int) ≤ (j : Int)) && p D[i]!) = true) : scanUp p D j i = scanUp p D j (i + 1) := by
  rw [leB] at h
  conv => lhs; rw [scanUp]
  rw [if_pos h]
theorem up_stop {p : Int → Bool} {D : Array Int} {i j : Nat} (h : (decide ((i : Int) ≤ (j : Int)) && p D[i]!) = false) : scanUp p D j i = i := by
  rw [leB] at h
  rw [scanUp, if_neg (ne_true_of_eq_false h)]
theorem down_go {p : Int → Bool} {D : Array Int} {i j : Nat} (hi : 1 ≤ i) (h : (decide ((i : Int) ≤ (j : Int)) && p D[j]!) = true) : scanDown p D i j = scanDown p D i (j - 1) := by
  rw [leB] at h
  cases j with
  | zero => rfl
  | succ j => rw [scanDown, if_pos h]; rfl
theorem down_stop {p : Int → Bool} {D : Array Int} {i j : Nat} (hi : 1 ≤ i) (h : (decide ((i : Int) ≤ (j : Int)) && p D[j]!) = false) : scanDown p D i j = j := by
  rw [leB] at h
  cases j with
  | zero => rfl
  | succ j => rw [scanDown, if_neg (ne_true_of_eq_false h)]
theorem and_le {i j : Nat} {c : Bool} (h : (decide ((i : Int) ≤ (j : Int)) && c) = true) : i ≤ j := by
  rw [Bool.and_eq_true] at h
  have := of_decide_eq_true h.1
  omega

set_option maxHeartbeats 1600000 in
set_option maxRecDepth 100000 in
theorem peqV_any (v : Value) (n : Nat) (D : Array Int) (a b pv : Nat) (hD : D.size = n) (hn : n ≤ 1099511627776) (hap : a ≤ pv) (hpb : pv < b) (hb : b ≤ n) (w : World) (hw : OK w (fpL [ownR v 22 1 n (ints .u64 D.toList)]) [ownR v 22 1 n (ints .u64 D.toList)] w) :
    Fn Try.prog 79 [v, .int .i64 (a : Int), .int .i64 (b : Int), .int .i64 (pv : Int)] [ownR v 22 1 n (ints .u64 D.toList)] w (fun _ : Unit => True) (fun _ => .int .i64 ((partitionEqual ltInt D a b pv).1 : Int)) (fun _ => [ownR v 22 1 n (ints .u64 (partitionEqual ltInt D a b pv).2.toList)]) := by
  have hF := sl_form (hw.get (r := ownR v 22 1 n (ints .u64 D.toList)) .head)
  unfold partitionEqual
  have hsz := swp_size D a pv
  obtain ⟨T, hT⟩ : ∃ T, partEqLoop ltInt a (a + 1) (b - 1) (swp D a pv) = T := ⟨_, rfl⟩
  rw [hT]
  refine enterF Try.func79 rfl Try.ntmps79 rfl hw ?_
  refine WC.seq ?_
  refine WC.region ?_
  refine WL.y (Yl.assign rfl) rfl ?_ -- t8
  refine WL.nil ?_
  refine WC.seq ?_
  refine WC.drawAny (Hs := []) mixed (by kernel_rfl) ⟨_, (by repeat (first | exact TakeL.nil | (apply TakeL.cons; · repeat (first | exact Take1.head | apply Take1.tail))))⟩ ?_
  refine WD.take 0 rfl (by kernel_rfl) (by kernel_rfl) (by kernel_rfl) rfl rfl (Yl.move rfl) rfl ?_ -- t11
  refine WD.take 1 rfl (by kernel_rfl) (by kernel_rfl) (by kernel_rfl) rfl rfl (Yl.move rfl) rfl ?_ -- t12
  refine WD.take 2 rfl (by kernel_rfl) (by kernel_rfl) (by kernel_rfl) rfl rfl (Yl.move rfl) rfl ?_ -- t13
  refine WD.take 3 rfl (by kernel_rfl) (by kernel_rfl) (by kernel_rfl) rfl rfl (Yl.move rfl) rfl ?_ -- t14
  refine WD.take 4 rfl (by kernel_rfl) (by kernel_rfl) (by kernel_rfl) rfl rfl (Yl.move rfl) rfl ?_ -- t15
  refine WD.take 5 rfl (by kernel_rfl) (by kernel_rfl) (by kernel_rfl) rfl rfl (Yl.move rfl) rfl ?_ -- t16
  refine WD.take 6 rfl (by kernel_rfl) (by kernel_rfl) (by kernel_rfl) rfl rfl (Yl.indexF un105 sz22 rfl rfl hF rfl (by omega)) rfl ?_
  refine WD.take 8 rfl (by kernel_rfl) (by kernel_rfl) (by kernel_rfl) rfl rfl (Yl.move rfl) rfl ?_ -- t19
  refine WD.take 9 rfl (by kernel_rfl) (by kernel_rfl) (by kernel_rfl) rfl rfl (Yl.move rfl) rfl ?_ -- t20
  refine WD.take 10 rfl (by kernel_rfl) (by kernel_rfl) (by kernel_rfl) rfl rfl (Yl.indexF un105 sz22 rfl rfl hF rfl (by omega)) rfl ?_
  refine WD.two 7 11 (by kernel_rfl) ?_ ?_
  · refine WO.y rfl rfl .no (Yl.loadE on22 rfl (Reads.own (by repeat (first | exact Take1.head | apply Take1.tail))) (so_getV (by omega))) rfl ?_
    refine WD.one 11 (by kernel_rfl) ?_
    refine WO.y rfl rfl .no (Yl.loadE on22 rfl (Reads.own (by repeat (first | exact Take1.head | apply Take1.tail))) (so_getV (by omega))) rfl ?_
    refine WD.take 12 rfl (by kernel_rfl) (by kernel_rfl) (by kernel_rfl) rfl rfl (Yl.indexF un105 sz22 rfl rfl hF rfl (by omega)) rfl ?_
    refine WD.one 13 (by kernel_rfl) ?_
    refine WO.sto rfl rfl .no (Sto.elem (j := a) sz22 rfl rfl (by repeat (first | exact Take1.head | apply Take1.tail)) rfl (by omega) rfl) ⟨_, (by repeat (first | exact TakeL.nil | (apply TakeL.cons; · repeat (first | exact Take1.head | apply Take1.tail))))⟩ ?_
    refine WD.take 14 rfl (by kernel_rfl) (by kernel_rfl) (by kernel_rfl) rfl rfl (Yl.indexF un105 sz22 rfl rfl hF rfl (by omega)) rfl ?_
    refine WD.one 15 (by kernel_rfl) ?_
    refine WO.sto rfl rfl .no (Sto.elem (j := pv) (cs' := ints .u64 (swp D (a) (pv)).toList) sz22 rfl rfl (by repeat (first | exact Take1.head | apply Take1.tail)) rfl (by omega) (so_swpV D (a) (pv))) ⟨_, (by repeat (first | exact TakeL.nil | (apply TakeL.cons; · repeat (first | exact Take1.head | apply Take1.tail))))⟩ ?_
    refine WD.done (by kernel_rfl) ?_
    refine WC.seq ?_
    refine WC.region ?_
    refine WL.y (Yl.move rfl) rfl ?_ -- t25
    refine WL.y (Yl.add rfl rfl (IntWalk.i64_in _ (by omega))) rfl ?_ -- t26
    refine WL.y (Yl.move rfl) rfl ?_ -- t27
    refine WL.y (Yl.sub rfl rfl (IntWalk.i64_in _ (by omega))) rfl ?_ -- t28
    refine WL.say (t := 28) (v' := .int .i64 ((b - 1 : Nat) : Int)) rfl (by (refine congrArg _ ?_; omega)) ?_
    refine WL.y (Yl.assign rfl) rfl ?_ -- t9
    refine WL.y (Yl.assign rfl) rfl ?_ -- t10
    refine WL.nil ?_
    refine WC.seq ?_
    refine WC.block ?_
    refine WC.loop (α := Nat × Nat × Array Int) (fun p => [(0, v), (1, .int .i64 (a : Int)), (9, .int .i64 (p.1 : Int)), (10, .int .i64 (p.2.1 : Int))]) (fun p => [ownR v 22 1 n (ints .u64 p.2.2.toList)]) (fun p => (a < p.1 ∧ p.1 ≤ n) ∧ p.2.1 < n ∧ p.2.2.size = n ∧ partEqLoop ltInt a p.1 p.2.1 p.2.2 = T) (fun p => p.2.1 + 1 - p.1) (a + 1, b - 1, swp D a pv) ⟨by dsimp only; omega, by dsimp only; omega, by dsimp only; omega, hT⟩ ⟨(by repeat (first | exact Sub.nil | refine Sub.cons rfl ?_)), _, (by repeat (first | exact TakeL.nil | (apply TakeL.cons; · repeat (first | exact Take1.head | apply Take1.tail))))⟩ ?_
    rintro ⟨i, j, G⟩ ⟨⟨hai, hin⟩, hjn, hG, hTG⟩
    dsimp only at hai hin hjn hG hTG ⊢
    have hgu := scanUp_ge (fun x => !ltInt G[a]! x) G j i
    have hgd := scanDown_le (fun x => ltInt G[a]! x) G (scanUp (fun x => !ltInt G[a]! x) G j i) j
    rw [partEqLoop_eq] at hTG
    obtain ⟨I, hI⟩ : ∃ I, scanUp (fun x => !ltInt G[a]! x) G j i = I := ⟨_, rfl⟩
    rw [hI] at hgu hgd hTG
    obtain ⟨J, hJ⟩ : ∃ J, scanDown (fun x => ltInt G[a]! x) G I j = J := ⟨_, rfl⟩
    rw [hJ] at hgd hTG
    refine WC.block ?_
    refine WC.seq ?_
    refine WC.block ?_
    refine WC.loop (α := Nat) (fun p => [(0, v), (1, .int .i64 (a : Int)), (9, .int .i64 (p : Int)), (10, .int .i64 (j : Int))]) (fun _ => [ownR v 22 1 n (ints .u64 G.toList)]) (fun p => (a < p ∧ p ≤ n) ∧ scanUp (fun x => !ltInt G[a]! x) G j p = I) (fun p => n + 1 - p) i ⟨⟨hai, hin⟩, hI⟩ ⟨(by repeat (first | exact Sub.nil | refine Sub.cons rfl ?_)), _, (by repeat (first | exact TakeL.nil | (apply TakeL.cons; · repeat (first | exact Take1.head | apply Take1.tail))))⟩ ?_
    rintro p ⟨⟨hap', hpn⟩, hpI⟩
    refine WC.seq ?_
    refine WC.midX (α := Unit) (fun _ => [(0, v), (1, .int .i64 (a : Int)), (9, .int .i64 (p : Int)), (10, .int .i64 (j : Int)), (43, .bool (decide ((p : Int) ≤ (j : Int)) && !ltInt G[a]! G[p]!))]) (fun _ => [ownR v 22 1 n (ints .u64 G.toList)]) (fun _ => True) ?_ ?_
    · refine WC.drawAny (Hs := [ownR v 22 1 n (ints .u64 G.toList)]) mixed (by kernel_rfl) ⟨_, (by repeat (first | exact TakeL.nil | (apply TakeL.cons; · repeat (first | exact Take1.head | apply Take1.tail))))⟩ ?_
      refine WD.take 0 rfl (by kernel_rfl) (by kernel_rfl) (by kernel_rfl) rfl rfl (Yl.move rfl) rfl ?_ -- t29
      refine WD.take 1 rfl (by kernel_rfl) (by kernel_rfl) (by kernel_rfl) rfl rfl (Yl.move rfl) rfl ?_ -- t30
      refine WD.take 2 rfl (by kernel_rfl) (by kernel_rfl) (by kernel_rfl) rfl rfl (Yl.leq rfl rfl) rfl ?_ -- t31
      refine WD.take 3 rfl (by kernel_rfl) (by kernel_rfl) (by kernel_rfl) rfl rfl (Yl.move rfl) rfl ?_ -- t32
      refine WD.both (t := 32) rfl (fun g32 => ?_) (fun g32 => ?_)
      · have hpj : p ≤ j := by have := of_decide_eq_true g32; omega
        refine WD.takeOn 4 rfl (by kernel_rfl) (by kernel_rfl) (by kernel_rfl) rfl rfl rfl rfl (Yl.move rfl) rfl ?_ -- t33
        refine WD.takeOn 5 rfl (by kernel_rfl) (by kernel_rfl) (by kernel_rfl) rfl rfl rfl rfl (Yl.move rfl) rfl ?_ -- t34
        refine WD.takeOn 6 rfl (by kernel_rfl) (by kernel_rfl) (by kernel_rfl) rfl rfl rfl rfl (Yl.indexF un105 sz22 rfl rfl hF rfl (by omega)) rfl ?_
        refine WD.takeOn 7 rfl (by kernel_rfl) (by kernel_rfl) (by kernel_rfl) rfl rfl rfl rfl (Yl.loadE on22 rfl (Reads.own (by repeat (first | exact Take1.head | apply Take1.tail))) (so_getV (by omega))) rfl ?_
        refine WD.takeOn 8 rfl (by kernel_rfl) (by kernel_rfl) (by kernel_rfl) rfl rfl rfl rfl (Yl.move rfl) rfl ?_ -- t37
        refine WD.takeOn 9 rfl (by kernel_rfl) (by kernel_rfl) (by kernel_rfl) rfl rfl rfl rfl (Yl.move rfl) rfl ?_ -- t38
        refine WD.takeOn 10 rfl (by kernel_rfl) (by kernel_rfl) (by kernel_rfl) rfl rfl rfl rfl (Yl.indexF un105 sz22 rfl rfl hF rfl (by omega)) rfl ?_
        refine WD.takeOn 11 rfl (by kernel_rfl) (by kernel_rfl) (by kernel_rfl) rfl rfl rfl rfl (Yl.loadE on22 rfl (Reads.own (by repeat (first | exact Take1.head | apply Take1.tail))) (so_getV (by omega))) rfl ?_
        refine WD.one 12 (by kernel_rfl) ?_
        refine WO.callC (xs := [.tmp 36, .tmp 40]) (cap := []) rfl (.on rfl rfl) rfl rfl en78 (by repeat (first | exact TakeL.nil | (apply TakeL.cons; · repeat (first | exact Take1.head | apply Take1.tail)))) (fun w hw => lessV_any _ _ w hw.left.here) rfl (fun _ => ⟨_, (by repeat (first | exact TakeL.nil | (apply TakeL.cons; · repeat (first | exact Take1.head | apply Take1.tail))))⟩) ?_ -- t41 cmp.Less[uint64]
        rintro ⟨⟩ -
        refine WD.takeOn 13 rfl (by kernel_rfl) (by kernel_rfl) (by kernel_rfl) rfl rfl rfl rfl (Yl.not rfl) rfl ?_ -- t42
        refine WD.take 14 rfl (by kernel_rfl) (by kernel_rfl) (by kernel_rfl) rfl rfl (Yl.pickT rfl rfl) rfl ?_ -- t43
        refine WD.say (t := 43) (v' := .bool (decide ((p : Int) ≤ (j : Int)) && !ltInt G[a]! G[p]!)) rfl (by (rw [g32]; rfl)) ?_
        refine WD.done (by kernel_rfl) ?_
        exact ⟨rfl, (), trivial, (by repeat (first | exact Sub.nil | refine Sub.cons rfl ?_)), _, (by repeat (first | exact TakeL.nil | (apply TakeL.cons; · repeat (first | exact Take1.head | apply Take1.tail))))⟩
      · refine WD.takeOff 4 rfl (by kernel_rfl) (by kernel_rfl) (by kernel_rfl) rfl rfl rfl rfl rfl rfl ?_ -- t33
        refine WD.takeOff 5 rfl (by kernel_rfl) (by kernel_rfl) (by kernel_rfl) rfl rfl rfl rfl rfl rfl ?_ -- t34
        refine WD.takeOff 6 rfl (by kernel_rfl) (by kernel_rfl) (by kernel_rfl) rfl rfl rfl rfl rfl rfl ?_ -- t35
        refine WD.takeOff 7 rfl (by kernel_rfl) (by kernel_rfl) (by kernel_rfl) rfl rfl rfl rfl rfl rfl ?_ -- t36
        refine WD.takeOff 8 rfl (by kernel_rfl) (by kernel_rfl) (by kernel_rfl) rfl rfl rfl rfl rfl rfl ?_ -- t37
        refine WD.takeOff 9 rfl (by kernel_rfl) (by kernel_rfl) (by kernel_rfl) rfl rfl rfl rfl rfl rfl ?_ -- t38
        refine WD.takeOff 10 rfl (by kernel_rfl) (by kernel_rfl) (by kernel_rfl) rfl rfl rfl rfl rfl rfl ?_ -- t39
        refine WD.takeOff 11 rfl (by kernel_rfl) (by kernel_rfl) (by kernel_rfl) rfl rfl rfl rfl rfl rfl ?_ -- t40
        refine WD.one 12 (by kernel_rfl) ?_
        refine WO.off rfl rfl rfl rfl rfl rfl rfl ?_ -- t41
        refine WD.takeOff 13 rfl (by kernel_rfl) (by kernel_rfl) (by kernel_rfl) rfl rfl rfl rfl rfl rfl ?_ -- t42
        refine WD.take 14 rfl (by kernel_rfl) (by kernel_rfl) (by kernel_rfl) rfl rfl (Yl.pickF rfl rfl) rfl ?_ -- t43
        refine WD.say (t := 43) (v' := .bool (decide ((p : Int) ≤ (j : Int)) && !ltInt G[a]! G[p]!)) rfl (by (rw [g32]; rfl)) ?_
        refine WD.done (by kernel_rfl) ?_
        exact ⟨rfl, (), trivial, (by repeat (first | exact Sub.nil | refine Sub.cons rfl ?_)), _, (by repeat (first | exact TakeL.nil | (apply TakeL.cons; · repeat (first | exact Take1.head | apply Take1.tail))))⟩
    · rintro ⟨⟩ -
      refine WC.cond rfl (fun g43 => ?_) (fun g43 => ?_)
      · refine WC.skip ?_
        refine WC.block ?_
        have hpj := and_le g43
        refine WC.region ?_
        refine WL.y (Yl.move rfl) rfl ?_ -- t44
        refine WL.y (Yl.add rfl rfl (IntWalk.i64_in _ (by omega))) rfl ?_ -- t45
        refine WL.y (Yl.assign rfl) rfl ?_ -- t9
        refine WL.nil ?_
        exact ⟨rfl, p + 1, ⟨by omega, by rw [← up_go g43]; exact hpI⟩, by omega, (by repeat (first | exact Sub.nil | refine Sub.cons rfl ?_)), _, (by repeat (first | exact TakeL.nil | (apply TakeL.cons; · repeat (first | exact Take1.head | apply Take1.tail))))⟩
      · refine WC.exit ?_
        refine WC.seq ?_
        refine WC.block ?_
        have hpe : p = I := by rw [← hpI]; exact (up_stop g43).symm
        subst hpe
        refine WC.loop (α := Nat) (fun q => [(0, v), (1, .int .i64 (a : Int)), (9, .int .i64 (p : Int)), (10, .int .i64 (q : Int))]) (fun _ => [ownR v 22 1 n (ints .u64 G.toList)]) (fun q => q < n ∧ scanDown (fun x => ltInt G[a]! x) G p q = J) (fun q => q) j ⟨hjn, hJ⟩ ⟨(by repeat (first | exact Sub.nil | refine Sub.cons rfl ?_)), _, (by repeat (first | exact TakeL.nil | (apply TakeL.cons; · repeat (first | exact Take1.head | apply Take1.tail))))⟩ ?_
        rintro q ⟨hqn, hqJ⟩
        refine WC.seq ?_
        refine WC.midX (α := Unit) (fun _ => [(0, v), (1, .int .i64 (a : Int)), (9, .int .i64 (p : Int)), (10, .int .i64 (q : Int)), (59, .bool (decide ((p : Int) ≤ (q : Int)) && ltInt G[a]! G[q]!))]) (fun _ => [ownR v 22 1 n (ints .u64 G.toList)]) (fun _ => True) ?_ ?_
        · refine WC.drawAny (Hs := [ownR v 22 1 n (ints .u64 G.toList)]) mixed (by kernel_rfl) ⟨_, (by repeat (first | exact TakeL.nil | (apply TakeL.cons; · repeat (first | exact Take1.head | apply Take1.tail))))⟩ ?_
          refine WD.take 0 rfl (by kernel_rfl) (by kernel_rfl) (by kernel_rfl) rfl rfl (Yl.move rfl) rfl ?_ -- t46
          refine WD.take 1 rfl (by kernel_rfl) (by kernel_rfl) (by kernel_rfl) rfl rfl (Yl.move rfl) rfl ?_ -- t47
          refine WD.take 2 rfl (by kernel_rfl) (by kernel_rfl) (by kernel_rfl) rfl rfl (Yl.leq rfl rfl) rfl ?_ -- t48
          refine WD.take 3 rfl (by kernel_rfl) (by kernel_rfl) (by kernel_rfl) rfl rfl (Yl.move rfl) rfl ?_ -- t49
          refine WD.both (t := 49) rfl (fun g49 => ?_) (fun g49 => ?_)
          · refine WD.takeOn 4 rfl (by kernel_rfl) (by kernel_rfl) (by kernel_rfl) rfl rfl rfl rfl (Yl.move rfl) rfl ?_ -- t50
            refine WD.takeOn 5 rfl (by kernel_rfl) (by kernel_rfl) (by kernel_rfl) rfl rfl rfl rfl (Yl.move rfl) rfl ?_ -- t51
            refine WD.takeOn 6 rfl (by kernel_rfl) (by kernel_rfl) (by kernel_rfl) rfl rfl rfl rfl (Yl.indexF un105 sz22 rfl rfl hF rfl (by omega)) rfl ?_
            refine WD.takeOn 7 rfl (by kernel_rfl) (by kernel_rfl) (by kernel_rfl) rfl rfl rfl rfl (Yl.loadE on22 rfl (Reads.own (by repeat (first | exact Take1.head | apply Take1.tail))) (so_getV (by omega))) rfl ?_
            refine WD.takeOn 8 rfl (by kernel_rfl) (by kernel_rfl) (by kernel_rfl) rfl rfl rfl rfl (Yl.move rfl) rfl ?_ -- t54
            refine WD.takeOn 9 rfl (by kernel_rfl) (by kernel_rfl) (by kernel_rfl) rfl rfl rfl rfl (Yl.move rfl) rfl ?_ -- t55
            refine WD.takeOn 10 rfl (by kernel_rfl) (by kernel_rfl) (by kernel_rfl) rfl rfl rfl rfl (Yl.indexF un105 sz22 rfl rfl hF rfl (by omega)) rfl ?_
            refine WD.takeOn 11 rfl (by kernel_rfl) (by kernel_rfl) (by kernel_rfl) rfl rfl rfl rfl (Yl.loadE on22 rfl (Reads.own (by repeat (first | exact Take1.head | apply Take1.tail))) (so_getV (by omega))) rfl ?_
            refine WD.one 12 (by kernel_rfl) ?_
            refine WO.callC (xs := [.tmp 53, .tmp 57]) (cap := []) rfl (.on rfl rfl) rfl rfl en78 (by repeat (first | exact TakeL.nil | (apply TakeL.cons; · repeat (first | exact Take1.head | apply Take1.tail)))) (fun w hw => lessV_any _ _ w hw.left.here) rfl (fun _ => ⟨_, (by repeat (first | exact TakeL.nil | (apply TakeL.cons; · repeat (first | exact Take1.head | apply Take1.tail))))⟩) ?_ -- t58 cmp.Less[uint64]
            rintro ⟨⟩ -
            refine WD.take 13 rfl (by kernel_rfl) (by kernel_rfl) (by kernel_rfl) rfl rfl (Yl.pickT rfl rfl) rfl ?_ -- t59
            refine WD.say (t := 59) (v' := .bool (decide ((p : Int) ≤ (q : Int)) && ltInt G[a]! G[q]!)) rfl (by (rw [g49]; rfl)) ?_
            refine WD.done (by kernel_rfl) ?_
            exact ⟨rfl, (), trivial, (by repeat (first | exact Sub.nil | refine Sub.cons rfl ?_)), _, (by repeat (first | exact TakeL.nil | (apply TakeL.cons; · repeat (first | exact Take1.head | apply Take1.tail))))⟩
          · refine WD.takeOff 4 rfl (by kernel_rfl) (by kernel_rfl) (by kernel_rfl) rfl rfl rfl rfl rfl rfl ?_ -- t50
            refine WD.takeOff 5 rfl (by kernel_rfl) (by kernel_rfl) (by kernel_rfl) rfl rfl rfl rfl rfl rfl ?_ -- t51
            refine WD.takeOff 6 rfl (by kernel_rfl) (by kernel_rfl) (by kernel_rfl) rfl rfl rfl rfl rfl rfl ?_ -- t52
            refine WD.takeOff 7 rfl (by kernel_rfl) (by kernel_rfl) (by kernel_rfl) rfl rfl rfl rfl rfl rfl ?_ -- t53
            refine WD.takeOff 8 rfl (by kernel_rfl) (by kernel_rfl) (by kernel_rfl) rfl rfl rfl rfl rfl rfl ?_ -- t54
            refine WD.takeOff 9 rfl (by kernel_rfl) (by kernel_rfl) (by kernel_rfl) rfl rfl rfl rfl rfl rfl ?_ -- t55
            refine WD.takeOff 10 rfl (by kernel_rfl) (by kernel_rfl) (by kernel_rfl) rfl rfl rfl rfl rfl rfl ?_ -- t56
            refine WD.takeOff 11 rfl (by kernel_rfl) (by kernel_rfl) (by kernel_rfl) rfl rfl rfl rfl rfl rfl ?_ -- t57
            refine WD.one 12 (by kernel_rfl) ?_
            refine WO.off rfl rfl rfl rfl rfl rfl rfl ?_ -- t58
            refine WD.take 13 rfl (by kernel_rfl) (by kernel_rfl) (by kernel_rfl) rfl rfl (Yl.pickF rfl rfl) rfl ?_ -- t59
            refine WD.say (t := 59) (v' := .bool (decide ((p : Int) ≤ (q : Int)) && ltInt G[a]! G[q]!)) rfl (by (rw [g49]; rfl)) ?_
            refine WD.done (by kernel_rfl) ?_
            exact ⟨rfl, (), trivial, (by repeat (first | exact Sub.nil | refine Sub.cons rfl ?_)), _, (by repeat (first | exact TakeL.nil | (apply TakeL.cons; · repeat (first | exact Take1.head | apply Take1.tail))))⟩
        · rintro ⟨⟩ -
          refine WC.cond rfl (fun g59 => ?_) (fun g59 => ?_)
          · refine WC.skip ?_
            refine WC.block ?_
            have hpq := and_le g59
            refine WC.region ?_
            refine WL.y (Yl.move rfl) rfl ?_ -- t60
            refine WL.y (Yl.sub rfl rfl (IntWalk.i64_in _ (by omega))) rfl ?_ -- t61
            refine WL.say (t := 61) (v' := .int .i64 ((q - 1 : Nat) : Int)) rfl (by (refine congrArg _ ?_; omega)) ?_
            refine WL.y (Yl.assign rfl) rfl ?_ -- t10
            refine WL.nil ?_
            exact ⟨rfl, q - 1, ⟨by omega, by rw [← down_go (by omega) g59]; exact hqJ⟩, by omega, (by repeat (first | exact Sub.nil | refine Sub.cons rfl ?_)), _, (by repeat (first | exact TakeL.nil | (apply TakeL.cons; · repeat (first | exact Take1.head | apply Take1.tail))))⟩
          · refine WC.exit ?_
            refine WC.seq ?_
            refine WC.seq ?_
            have hqe : q = J := by rw [← hqJ]; exact (down_stop (by omega) g59).symm
            subst hqe
            refine WC.region ?_
            refine WL.y (Yl.move rfl) rfl ?_ -- t62
            refine WL.y (Yl.move rfl) rfl ?_ -- t63
            refine WL.y (Yl.gtr rfl rfl) rfl ?_ -- t64
            refine WL.nil ?_
            refine WC.condD rfl (fun g64 => ?_) (fun g64 => ?_)
            · refine WC.exit ?_
              refine WC.seq ?_
              have hpq : p > q := by omega
              rw [if_pos hpq] at hTG
              subst hTG
              refine WC.region ?_
              refine WL.y (Yl.move rfl) rfl ?_ -- t83
              refine WL.y (Yl.assign rfl) rfl ?_ -- t8
              refine WL.nil ?_
              refine WC.ret ?_
              repeat (first | (with_reducible refine peelT ?_) | (with_reducible refine peelB ?_) | (with_reducible refine peelTX ?_) | (with_reducible refine peelBX ?_) | (with_reducible refine peelBN ?_) | (with_reducible refine peelBO rfl ?_))
              exact ret1 (.inr rfl) Try.results79 rfl fun w' h => ⟨(), trivial, rfl, h.sub (by repeat (first | exact TakeL.nil | (apply TakeL.cons; · repeat (first | exact Take1.head | apply Take1.tail))))⟩
            · refine WC.skip ?_
              refine WC.seq ?_
              have hpq : ¬ p > q := by omega
              rw [if_neg hpq] at hTG
              refine WC.drawAny (Hs := []) mixed (by kernel_rfl) ⟨_, (by repeat (first | exact TakeL.nil | (apply TakeL.cons; · repeat (first | exact Take1.head | apply Take1.tail))))⟩ ?_
              refine WD.take 0 rfl (by kernel_rfl) (by kernel_rfl) (by kernel_rfl) rfl rfl (Yl.move rfl) rfl ?_ -- t65
              refine WD.take 1 rfl (by kernel_rfl) (by kernel_rfl) (by kernel_rfl) rfl rfl (Yl.move rfl) rfl ?_ -- t66
              refine WD.take 2 rfl (by kernel_rfl) (by kernel_rfl) (by kernel_rfl) rfl rfl (Yl.move rfl) rfl ?_ -- t67
              refine WD.take 3 rfl (by kernel_rfl) (by kernel_rfl) (by kernel_rfl) rfl rfl (Yl.move rfl) rfl ?_ -- t68
              refine WD.take 4 rfl (by kernel_rfl) (by kernel_rfl) (by kernel_rfl) rfl rfl (Yl.move rfl) rfl ?_ -- t69
              refine WD.take 5 rfl (by kernel_rfl) (by kernel_rfl) (by kernel_rfl) rfl rfl (Yl.move rfl) rfl ?_ -- t70
              refine WD.take 6 rfl (by kernel_rfl) (by kernel_rfl) (by kernel_rfl) rfl rfl (Yl.indexF un105 sz22 rfl rfl hF rfl (by omega)) rfl ?_
              refine WD.take 8 rfl (by kernel_rfl) (by kernel_rfl) (by kernel_rfl) rfl rfl (Yl.move rfl) rfl ?_ -- t73
              refine WD.take 9 rfl (by kernel_rfl) (by kernel_rfl) (by kernel_rfl) rfl rfl (Yl.move rfl) rfl ?_ -- t74
              refine WD.take 10 rfl (by kernel_rfl) (by kernel_rfl) (by kernel_rfl) rfl rfl (Yl.indexF un105 sz22 rfl rfl hF rfl (by omega)) rfl ?_
              refine WD.two 7 11 (by kernel_rfl) ?_ ?_
              · refine WO.y rfl rfl .no (Yl.loadE on22 rfl (Reads.own (by repeat (first | exact Take1.head | apply Take1.tail))) (so_getV (by omega))) rfl ?_
                refine WD.one 11 (by kernel_rfl) ?_
                refine WO.y rfl rfl .no (Yl.loadE on22 rfl (Reads.own (by repeat (first | exact Take1.head | apply Take1.tail))) (so_getV (by omega))) rfl ?_
                refine WD.take 12 rfl (by kernel_rfl) (by kernel_rfl) (by kernel_rfl) rfl rfl (Yl.indexF un105 sz22 rfl rfl hF rfl (by omega)) rfl ?_
                refine WD.one 13 (by kernel_rfl) ?_
                refine WO.sto rfl rfl .no (Sto.elem (j := p) sz22 rfl rfl (by repeat (first | exact Take1.head | apply Take1.tail)) rfl (by omega) rfl) ⟨_, (by repeat (first | exact TakeL.nil | (apply TakeL.cons; · repeat (first | exact Take1.head | apply Take1.tail))))⟩ ?_
                refine WD.take 14 rfl (by kernel_rfl) (by kernel_rfl) (by kernel_rfl) rfl rfl (Yl.indexF un105 sz22 rfl rfl hF rfl (by omega)) rfl ?_
                refine WD.one 15 (by kernel_rfl) ?_
                refine WO.sto rfl rfl .no (Sto.elem (j := q) (cs' := ints .u64 (swp G (p) (q)).toList) sz22 rfl rfl (by repeat (first | exact Take1.head | apply Take1.tail)) rfl (by omega) (so_swpV G (p) (q))) ⟨_, (by repeat (first | exact TakeL.nil | (apply TakeL.cons; · repeat (first | exact Take1.head | apply Take1.tail))))⟩ ?_
                refine WD.done (by kernel_rfl) ?_
                refine WC.seq ?_
                refine WC.region ?_
                refine WL.y (Yl.move rfl) rfl ?_ -- t79
                refine WL.y (Yl.add rfl rfl (IntWalk.i64_in _ (by omega))) rfl ?_ -- t80
                refine WL.y (Yl.assign rfl) rfl ?_ -- t9
                refine WL.nil ?_
                refine WC.region ?_
                refine WL.y (Yl.move rfl) rfl ?_ -- t81
                refine WL.y (Yl.sub rfl rfl (IntWalk.i64_in _ (by omega))) rfl ?_ -- t82
                refine WL.say (t := 82) (v' := .int .i64 ((q - 1 : Nat) : Int)) rfl (by (refine congrArg _ ?_; omega)) ?_
                refine WL.y (Yl.assign rfl) rfl ?_ -- t10
                refine WL.nil ?_
                exact ⟨rfl, (p + 1, q - 1, swp G p q), ⟨by dsimp only; omega, by dsimp only; omega, by dsimp only; rw [swp_size]; exact hG, hTG⟩, by dsimp only; omega, (by repeat (first | exact Sub.nil | refine Sub.cons rfl ?_)), _, (by repeat (first | exact TakeL.nil | (apply TakeL.cons; · repeat (first | exact Take1.head | apply Take1.tail))))⟩
              · refine WO.y rfl rfl .no (Yl.loadE on22 rfl (Reads.own (by repeat (first | exact Take1.head | apply Take1.tail))) (so_getV (by omega))) rfl ?_
                refine WD.one 7 (by kernel_rfl) ?_
                refine WO.y rfl rfl .no (Yl.loadE on22 rfl (Reads.own (by repeat (first | exact Take1.head | apply Take1.tail))) (so_getV (by omega))) rfl ?_
                refine WD.take 12 rfl (by kernel_rfl) (by kernel_rfl) (by kernel_rfl) rfl rfl (Yl.indexF un105 sz22 rfl rfl hF rfl (by omega)) rfl ?_
                refine WD.one 13 (by kernel_rfl) ?_
                refine WO.sto rfl rfl .no (Sto.elem (j := p) sz22 rfl rfl (by repeat (first | exact Take1.head | apply Take1.tail)) rfl (by omega) rfl) ⟨_, (by repeat (first | exact TakeL.nil | (apply TakeL.cons; · repeat (first | exact Take1.head | apply Take1.tail))))⟩ ?_
                refine WD.take 14 rfl (by kernel_rfl) (by kernel_rfl) (by kernel_rfl) rfl rfl (Yl.indexF un105 sz22 rfl rfl hF rfl (by omega)) rfl ?_
                refine WD.one 15 (by kernel_rfl) ?_
                refine WO.sto rfl rfl .no (Sto.elem (j := q) (cs' := ints .u64 (swp G (p) (q)).toList) sz22 rfl rfl (by repeat (first | exact Take1.head | apply Take1.tail)) rfl (by omega) (so_swpV G (p) (q))) ⟨_, (by repeat (first | exact TakeL.nil | (apply TakeL.cons; · repeat (first | exact Take1.head | apply Take1.tail))))⟩ ?_
                refine WD.done (by kernel_rfl) ?_
                refine WC.seq ?_
                refine WC.region ?_
                refine WL.y (Yl.move rfl) rfl ?_ -- t79
                refine WL.y (Yl.add rfl rfl (IntWalk.i64_in _ (by omega))) rfl ?_ -- t80
                refine WL.y (Yl.assign rfl) rfl ?_ -- t9
                refine WL.nil ?_
                refine WC.region ?_
                refine WL.y (Yl.move rfl) rfl ?_ -- t81
                refine WL.y (Yl.sub rfl rfl (IntWalk.i64_in _ (by omega))) rfl ?_ -- t82
                refine WL.say (t := 82) (v' := .int .i64 ((q - 1 : Nat) : Int)) rfl (by (refine congrArg _ ?_; omega)) ?_
                refine WL.y (Yl.assign rfl) rfl ?_ -- t10
                refine WL.nil ?_
                exact ⟨rfl, (p + 1, q - 1, swp G p q), ⟨by dsimp only; omega, by dsimp only; omega, by dsimp only; rw [swp_size]; exact hG, hTG⟩, by dsimp only; omega, (by repeat (first | exact Sub.nil | refine Sub.cons rfl ?_)), _, (by repeat (first | exact TakeL.nil | (apply TakeL.cons; · repeat (first | exact Take1.head | apply Take1.tail))))⟩
  · refine WO.y rfl rfl .no (Yl.loadE on22 rfl (Reads.own (by repeat (first | exact Take1.head | apply Take1.tail))) (so_getV (by omega))) rfl ?_
    refine WD.one 7 (by kernel_rfl) ?_
    refine WO.y rfl rfl .no (Yl.loadE on22 rfl (Reads.own (by repeat (first | exact Take1.head | apply Take1.tail))) (so_getV (by omega))) rfl ?_
    refine WD.take 12 rfl (by kernel_rfl) (by kernel_rfl) (by kernel_rfl) rfl rfl (Yl.indexF un105 sz22 rfl rfl hF rfl (by omega)) rfl ?_
    refine WD.one 13 (by kernel_rfl) ?_
    refine WO.sto rfl rfl .no (Sto.elem (j := a) sz22 rfl rfl (by repeat (first | exact Take1.head | apply Take1.tail)) rfl (by omega) rfl) ⟨_, (by repeat (first | exact TakeL.nil | (apply TakeL.cons; · repeat (first | exact Take1.head | apply Take1.tail))))⟩ ?_
    refine WD.take 14 rfl (by kernel_rfl) (by kernel_rfl) (by kernel_rfl) rfl rfl (Yl.indexF un105 sz22 rfl rfl hF rfl (by omega)) rfl ?_
    refine WD.one 15 (by kernel_rfl) ?_
    refine WO.sto rfl rfl .no (Sto.elem (j := pv) (cs' := ints .u64 (swp D (a) (pv)).toList) sz22 rfl rfl (by repeat (first | exact Take1.head | apply Take1.tail)) rfl (by omega) (so_swpV D (a) (pv))) ⟨_, (by repeat (first | exact TakeL.nil | (apply TakeL.cons; · repeat (first | exact Take1.head | apply Take1.tail))))⟩ ?_
    refine WD.done (by kernel_rfl) ?_
    refine WC.seq ?_
    refine WC.region ?_
    refine WL.y (Yl.move rfl) rfl ?_ -- t25
    refine WL.y (Yl.add rfl rfl (IntWalk.i64_in _ (by omega))) rfl ?_ -- t26
    refine WL.y (Yl.move rfl) rfl ?_ -- t27
    refine WL.y (Yl.sub rfl rfl (IntWalk.i64_in _ (by omega))) rfl ?_ -- t28
    refine WL.say (t := 28) (v' := .int .i64 ((b - 1 : Nat) : Int)) rfl (by (refine congrArg _ ?_; omega)) ?_
    refine WL.y (Yl.assign rfl) rfl ?_ -- t9
    refine WL.y (Yl.assign rfl) rfl ?_ -- t10
    refine WL.nil ?_
    refine WC.seq ?_
    refine WC.block ?_
    refine WC.loop (α := Nat × Nat × Array Int) (fun p => [(0, v), (1, .int .i64 (a : Int)), (9, .int .i64 (p.1 : Int)), (10, .int .i64 (p.2.1 : Int))]) (fun p => [ownR v 22 1 n (ints .u64 p.2.2.toList)]) (fun p => (a < p.1 ∧ p.1 ≤ n) ∧ p.2.1 < n ∧ p.2.2.size = n ∧ partEqLoop ltInt a p.1 p.2.1 p.2.2 = T) (fun p => p.2.1 + 1 - p.1) (a + 1, b - 1, swp D a pv) ⟨by dsimp only; omega, by dsimp only; omega, by dsimp only; omega, hT⟩ ⟨(by repeat (first | exact Sub.nil | refine Sub.cons rfl ?_)), _, (by repeat (first | exact TakeL.nil | (apply TakeL.cons; · repeat (first | exact Take1.head | apply Take1.tail))))⟩ ?_
    rintro ⟨i, j, G⟩ ⟨⟨hai, hin⟩, hjn, hG, hTG⟩
    dsimp only at hai hin hjn hG hTG ⊢
    have hgu := scanUp_ge (fun x => !ltInt G[a]! x) G j i
    have hgd := scanDown_le (fun x => ltInt G[a]! x) G (scanUp (fun x => !ltInt G[a]! x) G j i) j
    rw [partEqLoop_eq] at hTG
    obtain ⟨I, hI⟩ : ∃ I, scanUp (fun x => !ltInt G[a]! x) G j i = I := ⟨_, rfl⟩
    rw [hI] at hgu hgd hTG
    obtain ⟨J, hJ⟩ : ∃ J, scanDown (fun x => ltInt G[a]! x) G I j = J := ⟨_, rfl⟩
    rw [hJ] at hgd hTG
    refine WC.block ?_
    refine WC.seq ?_
    refine WC.block ?_
    refine WC.loop (α := Nat) (fun p => [(0, v), (1, .int .i64 (a : Int)), (9, .int .i64 (p : Int)), (10, .int .i64 (j : Int))]) (fun _ => [ownR v 22 1 n (ints .u64 G.toList)]) (fun p => (a < p ∧ p ≤ n) ∧ scanUp (fun x => !ltInt G[a]! x) G j p = I) (fun p => n + 1 - p) i ⟨⟨hai, hin⟩, hI⟩ ⟨(by repeat (first | exact Sub.nil | refine Sub.cons rfl ?_)), _, (by repeat (first | exact TakeL.nil | (apply TakeL.cons; · repeat (first | exact Take1.head | apply Take1.tail))))⟩ ?_
    rintro p ⟨⟨hap', hpn⟩, hpI⟩
    refine WC.seq ?_
    refine WC.midX (α := Unit) (fun _ => [(0, v), (1, .int .i64 (a : Int)), (9, .int .i64 (p : Int)), (10, .int .i64 (j : Int)), (43, .bool (decide ((p : Int) ≤ (j : Int)) && !ltInt G[a]! G[p]!))]) (fun _ => [ownR v 22 1 n (ints .u64 G.toList)]) (fun _ => True) ?_ ?_
    · refine WC.drawAny (Hs := [ownR v 22 1 n (ints .u64 G.toList)]) mixed (by kernel_rfl) ⟨_, (by repeat (first | exact TakeL.nil | (apply TakeL.cons; · repeat (first | exact Take1.head | apply Take1.tail))))⟩ ?_
      refine WD.take 0 rfl (by kernel_rfl) (by kernel_rfl) (by kernel_rfl) rfl rfl (Yl.move rfl) rfl ?_ -- t29
      refine WD.take 1 rfl (by kernel_rfl) (by kernel_rfl) (by kernel_rfl) rfl rfl (Yl.move rfl) rfl ?_ -- t30
      refine WD.take 2 rfl (by kernel_rfl) (by kernel_rfl) (by kernel_rfl) rfl rfl (Yl.leq rfl rfl) rfl ?_ -- t31
      refine WD.take 3 rfl (by kernel_rfl) (by kernel_rfl) (by kernel_rfl) rfl rfl (Yl.move rfl) rfl ?_ -- t32
      refine WD.both (t := 32) rfl (fun g32 => ?_) (fun g32 => ?_)
      · have hpj : p ≤ j := by have := of_decide_eq_true g32; omega
        refine WD.takeOn 4 rfl (by kernel_rfl) (by kernel_rfl) (by kernel_rfl) rfl rfl rfl rfl (Yl.move rfl) rfl ?_ -- t33
        refine WD.takeOn 5 rfl (by kernel_rfl) (by kernel_rfl) (by kernel_rfl) rfl rfl rfl rfl (Yl.move rfl) rfl ?_ -- t34
        refine WD.takeOn 6 rfl (by kernel_rfl) (by kernel_rfl) (by kernel_rfl) rfl rfl rfl rfl (Yl.indexF un105 sz22 rfl rfl hF rfl (by omega)) rfl ?_
        refine WD.takeOn 7 rfl (by kernel_rfl) (by kernel_rfl) (by kernel_rfl) rfl rfl rfl rfl (Yl.loadE on22 rfl (Reads.own (by repeat (first | exact Take1.head | apply Take1.tail))) (so_getV (by omega))) rfl ?_
        refine WD.takeOn 8 rfl (by kernel_rfl) (by kernel_rfl) (by kernel_rfl) rfl rfl rfl rfl (Yl.move rfl) rfl ?_ -- t37
        refine WD.takeOn 9 rfl (by kernel_rfl) (by kernel_rfl) (by kernel_rfl) rfl rfl rfl rfl (Yl.move rfl) rfl ?_ -- t38
        refine WD.takeOn 10 rfl (by kernel_rfl) (by kernel_rfl) (by kernel_rfl) rfl rfl rfl rfl (Yl.indexF un105 sz22 rfl rfl hF rfl (by omega)) rfl ?_
        refine WD.takeOn 11 rfl (by kernel_rfl) (by kernel_rfl) (by kernel_rfl) rfl rfl rfl rfl (Yl.loadE on22 rfl (Reads.own (by repeat (first | exact Take1.head | apply Take1.tail))) (so_getV (by omega))) rfl ?_
        refine WD.one 12 (by kernel_rfl) ?_
        refine WO.callC (xs := [.tmp 36, .tmp 40]) (cap := []) rfl (.on rfl rfl) rfl rfl en78 (by repeat (first | exact TakeL.nil | (apply TakeL.cons; · repeat (first | exact Take1.head | apply Take1.tail)))) (fun w hw => lessV_any _ _ w hw.left.here) rfl (fun _ => ⟨_, (by repeat (first | exact TakeL.nil | (apply TakeL.cons; · repeat (first | exact Take1.head | apply Take1.tail))))⟩) ?_ -- t41 cmp.Less[uint64]
        rintro ⟨⟩ -
        refine WD.takeOn 13 rfl (by kernel_rfl) (by kernel_rfl) (by kernel_rfl) rfl rfl rfl rfl (Yl.not rfl) rfl ?_ -- t42
        refine WD.take 14 rfl (by kernel_rfl) (by kernel_rfl) (by kernel_rfl) rfl rfl (Yl.pickT rfl rfl) rfl ?_ -- t43
        refine WD.say (t := 43) (v' := .bool (decide ((p : Int) ≤ (j : Int)) && !ltInt G[a]! G[p]!)) rfl (by (rw [g32]; rfl)) ?_
        refine WD.done (by kernel_rfl) ?_
        exact ⟨rfl, (), trivial, (by repeat (first | exact Sub.nil | refine Sub.cons rfl ?_)), _, (by repeat (first | exact TakeL.nil | (apply TakeL.cons; · repeat (first | exact Take1.head | apply Take1.tail))))⟩
      · refine WD.takeOff 4 rfl (by kernel_rfl) (by kernel_rfl) (by kernel_rfl) rfl rfl rfl rfl rfl rfl ?_ -- t33
        refine WD.takeOff 5 rfl (by kernel_rfl) (by kernel_rfl) (by kernel_rfl) rfl rfl rfl rfl rfl rfl ?_ -- t34
        refine WD.takeOff 6 rfl (by kernel_rfl) (by kernel_rfl) (by kernel_rfl) rfl rfl rfl rfl rfl rfl ?_ -- t35
        refine WD.takeOff 7 rfl (by kernel_rfl) (by kernel_rfl) (by kernel_rfl) rfl rfl rfl rfl rfl rfl ?_ -- t36
        refine WD.takeOff 8 rfl (by kernel_rfl) (by kernel_rfl) (by kernel_rfl) rfl rfl rfl rfl rfl rfl ?_ -- t37
        refine WD.takeOff 9 rfl (by kernel_rfl) (by kernel_rfl) (by kernel_rfl) rfl rfl rfl rfl rfl rfl ?_ -- t38
        refine WD.takeOff 10 rfl (by kernel_rfl) (by kernel_rfl) (by kernel_rfl) rfl rfl rfl rfl rfl rfl ?_ -- t39
        refine WD.takeOff 11 rfl (by kernel_rfl) (by kernel_rfl) (by kernel_rfl) rfl rfl rfl rfl rfl rfl ?_ -- t40
        refine WD.one 12 (by kernel_rfl) ?_
        refine WO.off rfl rfl rfl rfl rfl rfl rfl ?_ -- t41
        refine WD.takeOff 13 rfl (by kernel_rfl) (by kernel_rfl) (by kernel_rfl) rfl rfl rfl rfl rfl rfl ?_ -- t42
        refine WD.take 14 rfl (by kernel_rfl) (by kernel_rfl) (by kernel_rfl) rfl rfl (Yl.pickF rfl rfl) rfl ?_ -- t43
        refine WD.say (t := 43) (v' := .bool (decide ((p : Int) ≤ (j : Int)) && !ltInt G[a]! G[p]!)) rfl (by (rw [g32]; rfl)) ?_
        refine WD.done (by kernel_rfl) ?_
        exact ⟨rfl, (), trivial, (by repeat (first | exact Sub.nil | refine Sub.cons rfl ?_)), _, (by repeat (first | exact TakeL.nil | (apply TakeL.cons; · repeat (first | exact Take1.head | apply Take1.tail))))⟩
    · rintro ⟨⟩ -
      refine WC.cond rfl (fun g43 => ?_) (fun g43 => ?_)
      · refine WC.skip ?_
        refine WC.block ?_
        have hpj := and_le g43
        refine WC.region ?_
        refine WL.y (Yl.move rfl) rfl ?_ -- t44
        refine WL.y (Yl.add rfl rfl (IntWalk.i64_in _ (by omega))) rfl ?_ -- t45
        refine WL.y (Yl.assign rfl) rfl ?_ -- t9
        refine WL.nil ?_
        exact ⟨rfl, p + 1, ⟨by omega, by rw [← up_go g43]; exact hpI⟩, by omega, (by repeat (first | exact Sub.nil | refine Sub.cons rfl ?_)), _, (by repeat (first | exact TakeL.nil | (apply TakeL.cons; · repeat (first | exact Take1.head | apply Take1.tail))))⟩
      · refine WC.exit ?_
        refine WC.seq ?_
        refine WC.block ?_
        have hpe : p = I := by rw [← hpI]; exact (up_stop g43).symm
        subst hpe
        refine WC.loop (α := Nat) (fun q => [(0, v), (1, .int .i64 (a : Int)), (9, .int .i64 (p : Int)), (10, .int .i64 (q : Int))]) (fun _ => [ownR v 22 1 n (ints .u64 G.toList)]) (fun q => q < n ∧ scanDown (fun x => ltInt G[a]! x) G p q = J) (fun q => q) j ⟨hjn, hJ⟩ ⟨(by repeat (first | exact Sub.nil | refine Sub.cons rfl ?_)), _, (by repeat (first | exact TakeL.nil | (apply TakeL.cons; · repeat (first | exact Take1.head | apply Take1.tail))))⟩ ?_
        rintro q ⟨hqn, hqJ⟩
        refine WC.seq ?_
        refine WC.midX (α := Unit) (fun _ => [(0, v), (1, .int .i64 (a : Int)), (9, .int .i64 (p : Int)), (10, .int .i64 (q : Int)), (59, .bool (decide ((p : Int) ≤ (q : Int)) && ltInt G[a]! G[q]!))]) (fun _ => [ownR v 22 1 n (ints .u64 G.toList)]) (fun _ => True) ?_ ?_
        · refine WC.drawAny (Hs := [ownR v 22 1 n (ints .u64 G.toList)]) mixed (by kernel_rfl) ⟨_, (by repeat (first | exact TakeL.nil | (apply TakeL.cons; · repeat (first | exact Take1.head | apply Take1.tail))))⟩ ?_
          refine WD.take 0 rfl (by kernel_rfl) (by kernel_rfl) (by kernel_rfl) rfl rfl (Yl.move rfl) rfl ?_ -- t46
          refine WD.take 1 rfl (by kernel_rfl) (by kernel_rfl) (by kernel_rfl) rfl rfl (Yl.move rfl) rfl ?_ -- t47
          refine WD.take 2 rfl (by kernel_rfl) (by kernel_rfl) (by kernel_rfl) rfl rfl (Yl.leq rfl rfl) rfl ?_ -- t48
          refine WD.take 3 rfl (by kernel_rfl) (by kernel_rfl) (by kernel_rfl) rfl rfl (Yl.move rfl) rfl ?_ -- t49
          refine WD.both (t := 49) rfl (fun g49 => ?_) (fun g49 => ?_)
          · refine WD.takeOn 4 rfl (by kernel_rfl) (by kernel_rfl) (by kernel_rfl) rfl rfl rfl rfl (Yl.move rfl) rfl ?_ -- t50
            refine WD.takeOn 5 rfl (by kernel_rfl) (by kernel_rfl) (by kernel_rfl) rfl rfl rfl rfl (Yl.move rfl) rfl ?_ -- t51
            refine WD.takeOn 6 rfl (by kernel_rfl) (by kernel_rfl) (by kernel_rfl) rfl rfl rfl rfl (Yl.indexF un105 sz22 rfl rfl hF rfl (by omega)) rfl ?_
            refine WD.takeOn 7 rfl (by kernel_rfl) (by kernel_rfl) (by kernel_rfl) rfl rfl rfl rfl (Yl.loadE on22 rfl (Reads.own (by repeat (first | exact Take1.head | apply Take1.tail))) (so_getV (by omega))) rfl ?_
            refine WD.takeOn 8 rfl (by kernel_rfl) (by kernel_rfl) (by kernel_rfl) rfl rfl rfl rfl (Yl.move rfl) rfl ?_ -- t54
            refine WD.takeOn 9 rfl (by kernel_rfl) (by kernel_rfl) (by kernel_rfl) rfl rfl rfl rfl (Yl.move rfl) rfl ?_ -- t55
            refine WD.takeOn 10 rfl (by kernel_rfl) (by kernel_rfl) (by kernel_rfl) rfl rfl rfl rfl (Yl.indexF un105 sz22 rfl rfl hF rfl (by omega)) rfl ?_
            refine WD.takeOn 11 rfl (by kernel_rfl) (by kernel_rfl) (by kernel_rfl) rfl rfl rfl rfl (Yl.loadE on22 rfl (Reads.own (by repeat (first | exact Take1.head | apply Take1.tail))) (so_getV (by omega))) rfl ?_
            refine WD.one 12 (by kernel_rfl) ?_
            refine WO.callC (xs := [.tmp 53, .tmp 57]) (cap := []) rfl (.on rfl rfl) rfl rfl en78 (by repeat (first | exact TakeL.nil | (apply TakeL.cons; · repeat (first | exact Take1.head | apply Take1.tail)))) (fun w hw => lessV_any _ _ w hw.left.here) rfl (fun _ => ⟨_, (by repeat (first | exact TakeL.nil | (apply TakeL.cons; · repeat (first | exact Take1.head | apply Take1.tail))))⟩) ?_ -- t58 cmp.Less[uint64]
            rintro ⟨⟩ -
            refine WD.take 13 rfl (by kernel_rfl) (by kernel_rfl) (by kernel_rfl) rfl rfl (Yl.pickT rfl rfl) rfl ?_ -- t59
            refine WD.say (t := 59) (v' := .bool (decide ((p : Int) ≤ (q : Int)) && ltInt G[a]! G[q]!)) rfl (by (rw [g49]; rfl)) ?_
            refine WD.done (by kernel_rfl) ?_
            exact ⟨rfl, (), trivial, (by repeat (first | exact Sub.nil | refine Sub.cons rfl ?_)), _, (by repeat (first | exact TakeL.nil | (apply TakeL.cons; · repeat (first | exact Take1.head | apply Take1.tail))))⟩
          · refine WD.takeOff 4 rfl (by kernel_rfl) (by kernel_rfl) (by kernel_rfl) rfl rfl rfl rfl rfl rfl ?_ -- t50
            refine WD.takeOff 5 rfl (by kernel_rfl) (by kernel_rfl) (by kernel_rfl) rfl rfl rfl rfl rfl rfl ?_ -- t51
            refine WD.takeOff 6 rfl (by kernel_rfl) (by kernel_rfl) (by kernel_rfl) rfl rfl rfl rfl rfl rfl ?_ -- t52
            refine WD.takeOff 7 rfl (by kernel_rfl) (by kernel_rfl) (by kernel_rfl) rfl rfl rfl rfl rfl rfl ?_ -- t53
            refine WD.takeOff 8 rfl (by kernel_rfl) (by kernel_rfl) (by kernel_rfl) rfl rfl rfl rfl rfl rfl ?_ -- t54
            refine WD.takeOff 9 rfl (by kernel_rfl) (by kernel_rfl) (by kernel_rfl) rfl rfl rfl rfl rfl rfl ?_ -- t55
            refine WD.takeOff 10 rfl (by kernel_rfl) (by kernel_rfl) (by kernel_rfl) rfl rfl rfl rfl rfl rfl ?_ -- t56
            refine WD.takeOff 11 rfl (by kernel_rfl) (by kernel_rfl) (by kernel_rfl) rfl rfl rfl rfl rfl rfl ?_ -- t57
            refine WD.one 12 (by kernel_rfl) ?_
            refine WO.off rfl rfl rfl rfl rfl rfl rfl ?_ -- t58
            refine WD.take 13 rfl (by kernel_rfl) (by kernel_rfl) (by kernel_rfl) rfl rfl (Yl.pickF rfl rfl) rfl ?_ -- t59
            refine WD.say (t := 59) (v' := .bool (decide ((p : Int) ≤ (q : Int)) && ltInt G[a]! G[q]!)) rfl (by (rw [g49]; rfl)) ?_
            refine WD.done (by kernel_rfl) ?_
            exact ⟨rfl, (), trivial, (by repeat (first | exact Sub.nil | refine Sub.cons rfl ?_)), _, (by repeat (first | exact TakeL.nil | (apply TakeL.cons; · repeat (first | exact Take1.head | apply Take1.tail))))⟩
        · rintro ⟨⟩ -
          refine WC.cond rfl (fun g59 => ?_) (fun g59 => ?_)
          · refine WC.skip ?_
            refine WC.block ?_
            have hpq := and_le g59
            refine WC.region ?_
            refine WL.y (Yl.move rfl) rfl ?_ -- t60
            refine WL.y (Yl.sub rfl rfl (IntWalk.i64_in _ (by omega))) rfl ?_ -- t61
            refine WL.say (t := 61) (v' := .int .i64 ((q - 1 : Nat) : Int)) rfl (by (refine congrArg _ ?_; omega)) ?_
            refine WL.y (Yl.assign rfl) rfl ?_ -- t10
            refine WL.nil ?_
            exact ⟨rfl, q - 1, ⟨by omega, by rw [← down_go (by omega) g59]; exact hqJ⟩, by omega, (by repeat (first | exact Sub.nil | refine Sub.cons rfl ?_)), _, (by repeat (first | exact TakeL.nil | (apply TakeL.cons; · repeat (first | exact Take1.head | apply Take1.tail))))⟩
          · refine WC.exit ?_
            refine WC.seq ?_
            refine WC.seq ?_
            have hqe : q = J := by rw [← hqJ]; exact (down_stop (by omega) g59).symm
            subst hqe
            refine WC.region ?_
            refine WL.y (Yl.move rfl) rfl ?_ -- t62
            refine WL.y (Yl.move rfl) rfl ?_ -- t63
            refine WL.y (Yl.gtr rfl rfl) rfl ?_ -- t64
            refine WL.nil ?_
            refine WC.condD rfl (fun g64 => ?_) (fun g64 => ?_)
            · refine WC.exit ?_
              refine WC.seq ?_
              have hpq : p > q := by omega
              rw [if_pos hpq] at hTG
              subst hTG
              refine WC.region ?_
              refine WL.y (Yl.move rfl) rfl ?_ -- t83
              refine WL.y (Yl.assign rfl) rfl ?_ -- t8
              refine WL.nil ?_
              refine WC.ret ?_
              repeat (first | (with_reducible refine peelT ?_) | (with_reducible refine peelB ?_) | (with_reducible refine peelTX ?_) | (with_reducible refine peelBX ?_) | (with_reducible refine peelBN ?_) | (with_reducible refine peelBO rfl ?_))
              exact ret1 (.inr rfl) Try.results79 rfl fun w' h => ⟨(), trivial, rfl, h.sub (by repeat (first | exact TakeL.nil | (apply TakeL.cons; · repeat (first | exact Take1.head | apply Take1.tail))))⟩
            · refine WC.skip ?_
              refine WC.seq ?_
              have hpq : ¬ p > q := by omega
              rw [if_neg hpq] at hTG
              refine WC.drawAny (Hs := []) mixed (by kernel_rfl) ⟨_, (by repeat (first | exact TakeL.nil | (apply TakeL.cons; · repeat (first | exact Take1.head | apply Take1.tail))))⟩ ?_
              refine WD.take 0 rfl (by kernel_rfl) (by kernel_rfl) (by kernel_rfl) rfl rfl (Yl.move rfl) rfl ?_ -- t65
              refine WD.take 1 rfl (by kernel_rfl) (by kernel_rfl) (by kernel_rfl) rfl rfl (Yl.move rfl) rfl ?_ -- t66
              refine WD.take 2 rfl (by kernel_rfl) (by kernel_rfl) (by kernel_rfl) rfl rfl (Yl.move rfl) rfl ?_ -- t67
              refine WD.take 3 rfl (by kernel_rfl) (by kernel_rfl) (by kernel_rfl) rfl rfl (Yl.move rfl) rfl ?_ -- t68
              refine WD.take 4 rfl (by kernel_rfl) (by kernel_rfl) (by kernel_rfl) rfl rfl (Yl.move rfl) rfl ?_ -- t69
              refine WD.take 5 rfl (by kernel_rfl) (by kernel_rfl) (by kernel_rfl) rfl rfl (Yl.move rfl) rfl ?_ -- t70
              refine WD.take 6 rfl (by kernel_rfl) (by kernel_rfl) (by kernel_rfl) rfl rfl (Yl.indexF un105 sz22 rfl rfl hF rfl (by omega)) rfl ?_
              refine WD.take 8 rfl (by kernel_rfl) (by kernel_rfl) (by kernel_rfl) rfl rfl (Yl.move rfl) rfl ?_ -- t73
              refine WD.take 9 rfl (by kernel_rfl) (by kernel_rfl) (by kernel_rfl) rfl rfl (Yl.move rfl) rfl ?_ -- t74
              refine WD.take 10 rfl (by kernel_rfl) (by kernel_rfl) (by kernel_rfl) rfl rfl (Yl.indexF un105 sz22 rfl rfl hF rfl (by omega)) rfl ?_
              refine WD.two 7 11 (by kernel_rfl) ?_ ?_
              · refine WO.y rfl rfl .no (Yl.loadE on22 rfl (Reads.own (by repeat (first | exact Take1.head | apply Take1.tail))) (so_getV (by omega))) rfl ?_
                refine WD.one 11 (by kernel_rfl) ?_
                refine WO.y rfl rfl .no (Yl.loadE on22 rfl (Reads.own (by repeat (first | exact Take1.head | apply Take1.tail))) (so_getV (by omega))) rfl ?_
                refine WD.take 12 rfl (by kernel_rfl) (by kernel_rfl) (by kernel_rfl) rfl rfl (Yl.indexF un105 sz22 rfl rfl hF rfl (by omega)) rfl ?_
                refine WD.one 13 (by kernel_rfl) ?_
                refine WO.sto rfl rfl .no (Sto.elem (j := p) sz22 rfl rfl (by repeat (first | exact Take1.head | apply Take1.tail)) rfl (by omega) rfl) ⟨_, (by repeat (first | exact TakeL.nil | (apply TakeL.cons; · repeat (first | exact Take1.head | apply Take1.tail))))⟩ ?_
                refine WD.take 14 rfl (by kernel_rfl) (by kernel_rfl) (by kernel_rfl) rfl rfl (Yl.indexF un105 sz22 rfl rfl hF rfl (by omega)) rfl ?_
                refine WD.one 15 (by kernel_rfl) ?_
                refine WO.sto rfl rfl .no (Sto.elem (j := q) (cs' := ints .u64 (swp G (p) (q)).toList) sz22 rfl rfl (by repeat (first | exact Take1.head | apply Take1.tail)) rfl (by omega) (so_swpV G (p) (q))) ⟨_, (by repeat (first | exact TakeL.nil | (apply TakeL.cons; · repeat (first | exact Take1.head | apply Take1.tail))))⟩ ?_
                refine WD.done (by kernel_rfl) ?_
                refine WC.seq ?_
                refine WC.region ?_
                refine WL.y (Yl.move rfl) rfl ?_ -- t79
                refine WL.y (Yl.add rfl rfl (IntWalk.i64_in _ (by omega))) rfl ?_ -- t80
                refine WL.y (Yl.assign rfl) rfl ?_ -- t9
                refine WL.nil ?_
                refine WC.region ?_
                refine WL.y (Yl.move rfl) rfl ?_ -- t81
                refine WL.y (Yl.sub rfl rfl (IntWalk.i64_in _ (by omega))) rfl ?_ -- t82
                refine WL.say (t := 82) (v' := .int .i64 ((q - 1 : Nat) : Int)) rfl (by (refine congrArg _ ?_; omega)) ?_
                refine WL.y (Yl.assign rfl) rfl ?_ -- t10
                refine WL.nil ?_
                exact ⟨rfl, (p + 1, q - 1, swp G p q), ⟨by dsimp only; omega, by dsimp only; omega, by dsimp only; rw [swp_size]; exact hG, hTG⟩, by dsimp only; omega, (by repeat (first | exact Sub.nil | refine Sub.cons rfl ?_)), _, (by repeat (first | exact TakeL.nil | (apply TakeL.cons; · repeat (first | exact Take1.head | apply Take1.tail))))⟩
              · refine WO.y rfl rfl .no (Yl.loadE on22 rfl (Reads.own (by repeat (first | exact Take1.head | apply Take1.tail))) (so_getV (by omega))) rfl ?_
                refine WD.one 7 (by kernel_rfl) ?_
                refine WO.y rfl rfl .no (Yl.loadE on22 rfl (Reads.own (by repeat (first | exact Take1.head | apply Take1.tail))) (so_getV (by omega))) rfl ?_
                refine WD.take 12 rfl (by kernel_rfl) (by kernel_rfl) (by kernel_rfl) rfl rfl (Yl.indexF un105 sz22 rfl rfl hF rfl (by omega)) rfl ?_
                refine WD.one 13 (by kernel_rfl) ?_
                refine WO.sto rfl rfl .no (Sto.elem (j := p) sz22 rfl rfl (by repeat (first | exact Take1.head | apply Take1.tail)) rfl (by omega) rfl) ⟨_, (by repeat (first | exact TakeL.nil | (apply TakeL.cons; · repeat (first | exact Take1.head | apply Take1.tail))))⟩ ?_
                refine WD.take 14 rfl (by kernel_rfl) (by kernel_rfl) (by kernel_rfl) rfl rfl (Yl.indexF un105 sz22 rfl rfl hF rfl (by omega)) rfl ?_
                refine WD.one 15 (by kernel_rfl) ?_
                refine WO.sto rfl rfl .no (Sto.elem (j := q) (cs' := ints .u64 (swp G (p) (q)).toList) sz22 rfl rfl (by repeat (first | exact Take1.head | apply Take1.tail)) rfl (by omega) (so_swpV G (p) (q))) ⟨_, (by repeat (first | exact TakeL.nil | (apply TakeL.cons; · repeat (first | exact Take1.head | apply Take1.tail))))⟩ ?_
                refine WD.done (by kernel_rfl) ?_
                refine WC.seq ?_
                refine WC.region ?_
                refine WL.y (Yl.move rfl) rfl ?_ -- t79
                refine WL.y (Yl.add rfl rfl (IntWalk.i64_in _ (by omega))) rfl ?_ -- t80
                refine WL.y (Yl.assign rfl) rfl ?_ -- t9
                refine WL.nil ?_
                refine WC.region ?_
                refine WL.y (Yl.move rfl) rfl ?_ -- t81
                refine WL.y (Yl.sub rfl rfl (IntWalk.i64_in _ (by omega))) rfl ?_ -- t82
                refine WL.say (t := 82) (v' := .int .i64 ((q - 1 : Nat) : Int)) rfl (by (refine congrArg _ ?_; omega)) ?_
                refine WL.y (Yl.assign rfl) rfl ?_ -- t10
                refine WL.nil ?_
                exact ⟨rfl, (p + 1, q - 1, swp G p q), ⟨by dsimp only; omega, by dsimp only; omega, by dsimp only; rw [swp_size]; exact hG, hTG⟩, by dsimp only; omega, (by repeat (first | exact Sub.nil | refine Sub.cons rfl ?_)), _, (by repeat (first | exact TakeL.nil | (apply TakeL.cons; · repeat (first | exact Take1.head | apply Take1.tail))))⟩
end Go.Proofs.Ytklbmgfpnafdlaa
