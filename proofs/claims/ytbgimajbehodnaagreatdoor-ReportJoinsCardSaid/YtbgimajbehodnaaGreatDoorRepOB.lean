/- Sorting at most 12 numbers of uint8: the walks. -/
import Derived.Test.YtbgimajbehodnaaGreatDoorSoLV
import Derived.Test.YtbgimajbehodnaaGreatDoorFacts
import Derived.Test.YtbgimajbehodnaaGreatDoorLibH
import Derived.Sort.AssemblyPlain
import Derived.Test.YtbgimajbehodnaaGreatDoorRepM
namespace Go.Proofs.YtbgimajbehodnaaGreatDoor
open Go Go.RowKit Go.Sort

theorem so_getB {D : Array Int} {i : Nat} (h : i < D.size) : (ints .u8 D.toList)[i]? = some (.int .u8 D[i]!) := by
  unfold ints
  rw [List.getElem?_map, Array.getElem?_toList, Array.getElem?_eq_getElem h, getElem!_pos D i h]
  rfl
theorem so_swpB (D : Array Int) (i j : Nat) : ((ints .u8 D.toList).set i (.int .u8 D[j]!)).set j (.int .u8 D[i]!) = ints .u8 (swp D i j).toList := by
  unfold ints swp
  rw [Array.toList_setIfInBounds, Array.toList_setIfInBounds, List.map_set, List.map_set]

theorem nanB_any (x : Int) (w : World) (hw : OK w (fpL []) [] w) : Fn Tryz.prog 194 [.int .u8 x] [] w (fun _ : Unit => True) (fun _ => .bool false) (fun _ => []) := by
  refine enterF Tryz.func194 rfl Tryz.ntmps194 rfl hw ?_
  refine WC.seq ?_
  refine WC.region ?_
  refine WL.y (Yl.assign rfl) rfl ?_
  refine WL.nil ?_
  refine WC.seq ?_
  refine WC.region ?_
  refine WL.y (Yl.move rfl) rfl ?_
  refine WL.y (Yl.move rfl) rfl ?_
  refine WL.y (Yl.neq rfl rfl) rfl ?_
  refine WL.say (t := 5) (v' := .bool false) rfl (by simp) ?_
  refine WL.y (Yl.assign rfl) rfl ?_
  refine WL.nil ?_
  refine WC.ret ?_
  repeat (with_reducible (first | refine peelT ?_ | refine peelB ?_ | refine peelTX ?_ | refine peelBX ?_ | refine peelBN ?_ | refine peelBO rfl ?_))
  exact ret1 (.inr rfl) Tryz.results194 rfl fun w' h => ⟨(), trivial, rfl, h.sub (by repeat' constructor)⟩
theorem lessB_any (x y : Int) (w : World) (hw : OK w (fpL []) [] w) : Fn Tryz.prog 159 [.int .u8 x, .int .u8 y] [] w (fun _ : Unit => True) (fun _ => .bool (ltInt x y)) (fun _ => []) := by
  refine enterF Tryz.func159 rfl Tryz.ntmps159 rfl hw ?_
  refine WC.seq ?_
  refine WC.region ?_
  refine WL.y (Yl.assign rfl) rfl ?_
  refine WL.nil ?_
  refine WC.seq ?_
  refine WC.region ?_
  refine WL.y (Yl.move rfl) rfl ?_
  refine WL.callC (xs := [.tmp 5]) (cap := []) rfl rfl en194 (by repeat' constructor) (fun w hw => nanB_any x w hw.left.here) rfl ?_
  rintro ⟨⟩ -
  refine WL.y (Yl.move rfl) rfl ?_
  refine WL.know (t := 7) (b' := false) rfl (by first | rfl | (simp; done) | (simp; omega)) ?_
  refine WL.off rfl rfl rfl rfl ?_
  refine WL.off rfl rfl rfl rfl ?_
  refine WL.off rfl rfl rfl rfl ?_
  refine WL.y (Yl.pickF rfl rfl) rfl ?_
  refine WL.y (Yl.move rfl) rfl ?_
  refine WL.know (t := 12) (b' := false) rfl (by first | rfl | (simp; done) | (simp; omega)) ?_
  refine WL.on rfl rfl ?_
  refine WL.y (Yl.move rfl) rfl ?_
  refine WL.on rfl rfl ?_
  refine WL.y (Yl.move rfl) rfl ?_
  refine WL.on rfl rfl ?_
  refine WL.y (Yl.lss rfl rfl) rfl ?_
  refine WL.y (Yl.pickF rfl rfl) rfl ?_
  refine WL.y (Yl.assign rfl) rfl ?_
  refine WL.nil ?_
  refine WC.ret ?_
  repeat (with_reducible (first | refine peelT ?_ | refine peelB ?_ | refine peelTX ?_ | refine peelBX ?_ | refine peelBN ?_ | refine peelBO rfl ?_))
  exact ret1 (.inr rfl) Tryz.results159 rfl fun w' h => ⟨(), trivial, rfl, h.sub (by repeat' constructor)⟩
set_option maxRecDepth 100000 in
theorem insB_any (v : Value) (n : Nat) (D : Array Int) (a b : Nat) (hD : D.size = n) (hn : n ≤ 1099511627776) (hab : a ≤ b) (hb : b ≤ n) (w : World) (hw : OK w (fpL [ownR v 5 1 n (ints .u8 D.toList)]) [ownR v 5 1 n (ints .u8 D.toList)] w) :
    Fn Tryz.prog 153 [v, .int .i64 (a : Int), .int .i64 (b : Int)] [ownR v 5 1 n (ints .u8 D.toList)] w (fun _ : Unit => True) (fun _ => .tuple #[]) (fun _ => [ownR v 5 1 n (ints .u8 (insertionSort ltInt D a b).toList)]) := by
  have hF := sl_form (hw.get (r := ownR v 5 1 n (ints .u8 D.toList)) .head)
  unfold insertionSort
  obtain ⟨T, hT⟩ : ∃ T, insOuter ltInt a b (a + 1) D = T := ⟨_, rfl⟩
  rw [hT]
  refine enterF Tryz.func153 rfl Tryz.ntmps153 rfl hw ?_
  refine WC.seq ?_
  refine WC.region ?_
  refine WL.y (Yl.move rfl) rfl ?_
  refine WL.y (Yl.add rfl rfl (IntWalk.i64_in _ (by omega))) rfl ?_
  refine WL.y (Yl.assign rfl) rfl ?_
  refine WL.nil ?_
  refine WC.block ?_
  refine WC.loop (α := Nat × Array Int) (fun p => [(0, v), (1, .int .i64 (a : Int)), (2, .int .i64 (b : Int)), (6, .int .i64 (p.1 : Int))]) (fun p => [ownR v 5 1 n (ints .u8 p.2.toList)]) (fun p => a < p.1 ∧ p.1 ≤ n + 1 ∧ p.2.size = n ∧ insOuter ltInt a b p.1 p.2 = T) (fun p => n + 1 - p.1) (a + 1, D) ⟨Nat.lt_succ_self _, by dsimp only; omega, hD, hT⟩ ⟨(by repeat' constructor), _, (by repeat' constructor)⟩ ?_
  rintro ⟨i, E⟩ ⟨hi, hin, hE, hTE⟩
  dsimp only at hi hin hE hTE ⊢
  refine WC.seq ?_
  refine WC.seq ?_
  refine WC.region ?_
  refine WL.y (Yl.move rfl) rfl ?_
  refine WL.y (Yl.move rfl) rfl ?_
  refine WL.y (Yl.lss rfl rfl) rfl ?_
  refine WL.nil ?_
  refine WC.condD rfl (fun g12 => ?_) (fun g12 => ?_)
  · refine WC.skip ?_
    refine WC.seq ?_
    refine WC.block ?_
    refine WC.seq ?_
    refine WC.region ?_
    refine WL.y (Yl.move rfl) rfl ?_
    refine WL.y (Yl.assign rfl) rfl ?_
    refine WL.nil ?_
    refine WC.block ?_
    have hib : i < b := by omega
    refine WC.loop (α := Nat × Array Int) (fun p => [(0, v), (1, .int .i64 (a : Int)), (2, .int .i64 (b : Int)), (6, .int .i64 (i : Int)), (7, .int .i64 (p.1 : Int))]) (fun p => [ownR v 5 1 n (ints .u8 p.2.toList)]) (fun p => p.1 ≤ i ∧ p.2.size = n ∧ insInner ltInt a p.1 p.2 = insInner ltInt a i E) (fun p => p.1) (i, E) ⟨Nat.le_refl _, hE, rfl⟩ ⟨(by repeat' constructor), _, (by repeat' constructor)⟩ ?_
    rintro ⟨j, G⟩ ⟨hj, hG, hTG⟩
    dsimp only at hj hG hTG ⊢
    refine WC.seq ?_
    refine WC.midX (α := Unit) (fun _ => [(0, v), (1, .int .i64 (a : Int)), (2, .int .i64 (b : Int)), (6, .int .i64 (i : Int)), (7, .int .i64 (j : Int)), (30, .bool (decide ((a : Int) < (j : Int)) && ltInt G[j]! G[j - 1]!))]) (fun _ => [ownR v 5 1 n (ints .u8 G.toList)]) (fun _ => True) ?_ ?_
    · refine WC.drawAny (Hs := [ownR v 5 1 n (ints .u8 G.toList)]) mixed (by kernel_rfl) ⟨_, (by repeat' constructor)⟩ ?_
      refine WD.tk 0 rfl (by kernel_rfl) rfl rfl (Yl.move rfl) rfl ?_
      refine WD.tk 1 rfl (by kernel_rfl) rfl rfl (Yl.move rfl) rfl ?_
      refine WD.tk 2 rfl (by kernel_rfl) rfl rfl (Yl.gtr rfl rfl) rfl ?_
      refine WD.tk 3 rfl (by kernel_rfl) rfl rfl (Yl.move rfl) rfl ?_
      refine WD.both (t := 19) rfl (fun g19 => ?_) (fun g19 => ?_)
      · have hja : a < j := by have := of_decide_eq_true g19; omega
        refine WD.takeOn 4 rfl (by kernel_rfl) (by kernel_rfl) (by kernel_rfl) rfl rfl rfl rfl (Yl.move rfl) rfl ?_
        refine WD.takeOn 5 rfl (by kernel_rfl) (by kernel_rfl) (by kernel_rfl) rfl rfl rfl rfl (Yl.move rfl) rfl ?_
        refine WD.takeOn 6 rfl (by kernel_rfl) (by kernel_rfl) (by kernel_rfl) rfl rfl rfl rfl (Yl.index un62 sz5 rfl rfl (Reads.own (by repeat constructor)) rfl (by omega)) rfl ?_
        refine WD.takeOn 7 rfl (by kernel_rfl) (by kernel_rfl) (by kernel_rfl) rfl rfl rfl rfl (Yl.loadE on5 rfl (Reads.own (by repeat constructor)) (so_getB (by omega))) rfl ?_
        refine WD.takeOn 8 rfl (by kernel_rfl) (by kernel_rfl) (by kernel_rfl) rfl rfl rfl rfl (Yl.move rfl) rfl ?_
        refine WD.takeOn 9 rfl (by kernel_rfl) (by kernel_rfl) (by kernel_rfl) rfl rfl rfl rfl (Yl.move rfl) rfl ?_
        refine WD.takeOn 10 rfl (by kernel_rfl) (by kernel_rfl) (by kernel_rfl) rfl rfl rfl rfl (Yl.sub rfl rfl (IntWalk.i64_in _ (by omega))) rfl ?_
        refine WD.say (t := 26) (v' := .int .i64 ((j - 1 : Nat) : Int)) rfl (by (refine congrArg _ ?_; omega)) ?_
        refine WD.takeOn 11 rfl (by kernel_rfl) (by kernel_rfl) (by kernel_rfl) rfl rfl rfl rfl (Yl.index un62 sz5 rfl rfl (Reads.own (by repeat constructor)) rfl (by omega)) rfl ?_
        refine WD.takeOn 12 rfl (by kernel_rfl) (by kernel_rfl) (by kernel_rfl) rfl rfl rfl rfl (Yl.loadE on5 rfl (Reads.own (by repeat constructor)) (so_getB (by omega))) rfl ?_
        refine WD.one 13 (by kernel_rfl) ?_
        refine WO.callC (xs := [.tmp 23, .tmp 28]) (cap := []) rfl (.on rfl rfl) rfl rfl en159 (by repeat' constructor) (fun w hw => lessB_any _ _ w hw.left.here) rfl (fun _ => ⟨_, (by repeat' constructor)⟩) ?_
        rintro ⟨⟩ -
        refine WD.tk 14 rfl (by kernel_rfl) rfl rfl (Yl.pickT rfl rfl) rfl ?_
        refine WD.say (t := 30) (v' := .bool (decide ((a : Int) < (j : Int)) && ltInt G[j]! G[j - 1]!)) rfl (by (rw [g19]; rfl)) ?_
        refine WD.done (by kernel_rfl) ?_
        exact ⟨rfl, (), trivial, (by repeat' constructor), _, (by repeat' constructor)⟩
      · refine WD.takeOff 4 rfl (by kernel_rfl) (by kernel_rfl) (by kernel_rfl) rfl rfl rfl rfl rfl rfl ?_
        refine WD.takeOff 5 rfl (by kernel_rfl) (by kernel_rfl) (by kernel_rfl) rfl rfl rfl rfl rfl rfl ?_
        refine WD.takeOff 6 rfl (by kernel_rfl) (by kernel_rfl) (by kernel_rfl) rfl rfl rfl rfl rfl rfl ?_
        refine WD.takeOff 7 rfl (by kernel_rfl) (by kernel_rfl) (by kernel_rfl) rfl rfl rfl rfl rfl rfl ?_
        refine WD.takeOff 8 rfl (by kernel_rfl) (by kernel_rfl) (by kernel_rfl) rfl rfl rfl rfl rfl rfl ?_
        refine WD.takeOff 9 rfl (by kernel_rfl) (by kernel_rfl) (by kernel_rfl) rfl rfl rfl rfl rfl rfl ?_
        refine WD.takeOff 10 rfl (by kernel_rfl) (by kernel_rfl) (by kernel_rfl) rfl rfl rfl rfl rfl rfl ?_
        refine WD.takeOff 11 rfl (by kernel_rfl) (by kernel_rfl) (by kernel_rfl) rfl rfl rfl rfl rfl rfl ?_
        refine WD.takeOff 12 rfl (by kernel_rfl) (by kernel_rfl) (by kernel_rfl) rfl rfl rfl rfl rfl rfl ?_
        refine WD.one 13 (by kernel_rfl) ?_
        refine WO.off rfl rfl rfl rfl rfl rfl rfl ?_
        refine WD.tk 14 rfl (by kernel_rfl) rfl rfl (Yl.pickF rfl rfl) rfl ?_
        refine WD.say (t := 30) (v' := .bool (decide ((a : Int) < (j : Int)) && ltInt G[j]! G[j - 1]!)) rfl (by (rw [g19]; rfl)) ?_
        refine WD.done (by kernel_rfl) ?_
        exact ⟨rfl, (), trivial, (by repeat' constructor), _, (by repeat' constructor)⟩
    · rintro ⟨⟩ -
      refine WC.cond rfl (fun g30 => ?_) (fun g30 => ?_)
      · refine WC.skip ?_
        refine WC.seq ?_
        refine WC.block ?_
        have hgo : a < j ∧ ltInt G[j]! G[j - 1]! = true := by
          rw [Bool.and_eq_true] at g30
          exact ⟨by have := of_decide_eq_true g30.1; omega, g30.2⟩
        obtain ⟨hja, hlt⟩ := hgo
        refine WC.drawAny (Hs := []) mixed (by kernel_rfl) ⟨_, (by repeat' constructor)⟩ ?_
        refine WD.tk 0 rfl (by kernel_rfl) rfl rfl (Yl.move rfl) rfl ?_
        refine WD.tk 1 rfl (by kernel_rfl) rfl rfl (Yl.move rfl) rfl ?_
        refine WD.tk 2 rfl (by kernel_rfl) rfl rfl (Yl.move rfl) rfl ?_
        refine WD.tk 3 rfl (by kernel_rfl) rfl rfl (Yl.move rfl) rfl ?_
        refine WD.tk 4 rfl (by kernel_rfl) rfl rfl (Yl.sub rfl rfl (IntWalk.i64_in _ (by omega))) rfl ?_
        refine WD.say (t := 37) (v' := .int .i64 ((j - 1 : Nat) : Int)) rfl (by (refine congrArg _ ?_; omega)) ?_
        refine WD.tk 5 rfl (by kernel_rfl) rfl rfl (Yl.move rfl) rfl ?_
        refine WD.tk 6 rfl (by kernel_rfl) rfl rfl (Yl.move rfl) rfl ?_
        refine WD.tk 7 rfl (by kernel_rfl) rfl rfl (Yl.sub rfl rfl (IntWalk.i64_in _ (by omega))) rfl ?_
        refine WD.say (t := 40) (v' := .int .i64 ((j - 1 : Nat) : Int)) rfl (by (refine congrArg _ ?_; omega)) ?_
        refine WD.tk 8 rfl (by kernel_rfl) rfl rfl (Yl.indexF un62 sz5 rfl rfl hF rfl (by omega)) rfl ?_
        refine WD.tk 10 rfl (by kernel_rfl) rfl rfl (Yl.move rfl) rfl ?_
        refine WD.tk 11 rfl (by kernel_rfl) rfl rfl (Yl.move rfl) rfl ?_
        refine WD.tk 12 rfl (by kernel_rfl) rfl rfl (Yl.indexF un62 sz5 rfl rfl hF rfl (by omega)) rfl ?_
        refine WD.two 9 13 (by kernel_rfl) ?_ ?_
        · refine WO.y rfl rfl .no (Yl.loadE on5 rfl (Reads.own (by repeat constructor)) (so_getB (by omega))) rfl ?_
          refine WD.one 13 (by kernel_rfl) ?_
          refine WO.y rfl rfl .no (Yl.loadE on5 rfl (Reads.own (by repeat constructor)) (so_getB (by omega))) rfl ?_
          refine WD.tk 14 rfl (by kernel_rfl) rfl rfl (Yl.indexF un62 sz5 rfl rfl hF rfl (by omega)) rfl ?_
          refine WD.one 15 (by kernel_rfl) ?_
          refine WO.sto rfl rfl .no (Sto.elem (j := j) sz5 rfl rfl (by repeat constructor) rfl (by omega) rfl) ⟨_, (by repeat' constructor)⟩ ?_
          refine WD.tk 16 rfl (by kernel_rfl) rfl rfl (Yl.indexF un62 sz5 rfl rfl hF rfl (by omega)) rfl ?_
          refine WD.one 17 (by kernel_rfl) ?_
          refine WO.sto rfl rfl .no (Sto.elem (j := j - 1) (cs' := ints .u8 (swp G j (j - 1)).toList) sz5 rfl rfl (by repeat constructor) rfl (by omega) (so_swpB G j (j - 1))) ⟨_, (by repeat' constructor)⟩ ?_
          refine WD.done (by kernel_rfl) ?_
          refine WC.region ?_
          refine WL.y (Yl.move rfl) rfl ?_
          refine WL.y (Yl.sub rfl rfl (IntWalk.i64_in _ (by omega))) rfl ?_
          refine WL.say (t := 32) (v' := .int .i64 ((j - 1 : Nat) : Int)) rfl (by (refine congrArg _ ?_; omega)) ?_
          refine WL.y (Yl.assign rfl) rfl ?_
          refine WL.nil ?_
          exact ⟨rfl, (j - 1, swp G j (j - 1)), ⟨by dsimp only; omega, by dsimp only; rw [swp_size]; exact hG, by dsimp only; rw [← ins_go hja hlt]; exact hTG⟩, by dsimp only; omega, (by repeat' constructor), _, (by repeat' constructor)⟩
        · refine WO.y rfl rfl .no (Yl.loadE on5 rfl (Reads.own (by repeat constructor)) (so_getB (by omega))) rfl ?_
          refine WD.one 9 (by kernel_rfl) ?_
          refine WO.y rfl rfl .no (Yl.loadE on5 rfl (Reads.own (by repeat constructor)) (so_getB (by omega))) rfl ?_
          refine WD.tk 14 rfl (by kernel_rfl) rfl rfl (Yl.indexF un62 sz5 rfl rfl hF rfl (by omega)) rfl ?_
          refine WD.one 15 (by kernel_rfl) ?_
          refine WO.sto rfl rfl .no (Sto.elem (j := j) sz5 rfl rfl (by repeat constructor) rfl (by omega) rfl) ⟨_, (by repeat' constructor)⟩ ?_
          refine WD.tk 16 rfl (by kernel_rfl) rfl rfl (Yl.indexF un62 sz5 rfl rfl hF rfl (by omega)) rfl ?_
          refine WD.one 17 (by kernel_rfl) ?_
          refine WO.sto rfl rfl .no (Sto.elem (j := j - 1) (cs' := ints .u8 (swp G j (j - 1)).toList) sz5 rfl rfl (by repeat constructor) rfl (by omega) (so_swpB G j (j - 1))) ⟨_, (by repeat' constructor)⟩ ?_
          refine WD.done (by kernel_rfl) ?_
          refine WC.region ?_
          refine WL.y (Yl.move rfl) rfl ?_
          refine WL.y (Yl.sub rfl rfl (IntWalk.i64_in _ (by omega))) rfl ?_
          refine WL.say (t := 32) (v' := .int .i64 ((j - 1 : Nat) : Int)) rfl (by (refine congrArg _ ?_; omega)) ?_
          refine WL.y (Yl.assign rfl) rfl ?_
          refine WL.nil ?_
          exact ⟨rfl, (j - 1, swp G j (j - 1)), ⟨by dsimp only; omega, by dsimp only; rw [swp_size]; exact hG, by dsimp only; rw [← ins_go hja hlt]; exact hTG⟩, by dsimp only; omega, (by repeat' constructor), _, (by repeat' constructor)⟩
      · refine WC.exit ?_
        have hst : insInner ltInt a j G = G := ins_stop (fun e => by
          have : (decide ((a : Int) < (j : Int)) && ltInt G[j]! G[j - 1]!) = true := by rw [Bool.and_eq_true]; exact ⟨decide_eq_true (by omega), e.2⟩
          rw [g30] at this
          cases this)
        refine WC.region ?_
        refine WL.y (Yl.move rfl) rfl ?_
        refine WL.y (Yl.add rfl rfl (IntWalk.i64_in _ (by omega))) rfl ?_
        refine WL.y (Yl.assign rfl) rfl ?_
        refine WL.nil ?_
        exact ⟨rfl, (i + 1, G), ⟨by dsimp only; omega, by dsimp only; omega, hG, by dsimp only; rw [← hTE, insOut_go hib, ← hTG, hst]⟩, by dsimp only; omega, (by repeat' constructor), _, (by repeat' constructor)⟩
  · refine WC.exit ?_
    repeat (with_reducible (first | refine peelT ?_ | refine peelB ?_ | refine peelTX ?_ | refine peelBX ?_ | refine peelBN ?_ | refine peelBO rfl ?_))
    have hib : ¬ i < b := by omega
    rw [insOut_stop hib] at hTE
    subst hTE
    exact ret0 (.inl rfl) Tryz.results153 fun w' h => ⟨(), trivial, rfl, h.sub (by repeat' constructor)⟩
theorem pdqfB_any (v : Value) (n : Nat) (h12 : n ≤ 12) (D : Array Int) (limit : Nat) (hD : D.size = n) (w : World) (hw : OK w (fpL [ownR v 5 1 n (ints .u8 D.toList)]) [ownR v 5 1 n (ints .u8 D.toList)] w) :
    Fn Tryz.prog 126 [v, .int .i64 0, .int .i64 (n : Int), .int .i64 (limit : Int)] [ownR v 5 1 n (ints .u8 D.toList)] w (fun _ : Unit => True) (fun _ => .tuple #[]) (fun _ => [ownR v 5 1 n (ints .u8 (pdq ltInt D 0 n limit true true).toList)]) := by
  rw [pdq_ins (by omega)]
  refine enterF Tryz.func126 rfl Tryz.ntmps126 rfl hw ?_
  refine WC.seq ?_
  refine WC.region ?_
  refine WL.y (Yl.assign rfl) rfl ?_
  refine WL.nil ?_
  refine WC.seq ?_
  refine WC.region ?_
  refine WL.y (Yl.assign rfl) rfl ?_
  refine WL.nil ?_
  refine WC.block ?_
  refine WC.loop (α := Unit) (fun _ => [(0, v), (1, .int .i64 0), (2, .int .i64 (n : Int)), (3, .int .i64 (limit : Int)), (8, .bool true), (9, .bool true)]) (fun _ => [ownR v 5 1 n (ints .u8 D.toList)]) (fun _ => True) (fun _ => 0) () trivial ⟨(by repeat' constructor), _, (by repeat' constructor)⟩ ?_
  rintro ⟨⟩ -
  refine WC.block ?_
  refine WC.seq ?_
  refine WC.region ?_
  refine WL.y (Yl.move rfl) rfl ?_
  refine WL.y (Yl.move rfl) rfl ?_
  refine WL.y (Yl.sub rfl rfl (IntWalk.i64_in _ (by omega))) rfl ?_
  refine WL.say (t := 21) (v' := .int .i64 (n : Int)) rfl (by (refine congrArg _ ?_; omega)) ?_
  refine WL.y (Yl.assign rfl) rfl ?_
  refine WL.nil ?_
  refine WC.seq ?_
  refine WC.seq ?_
  refine WC.region ?_
  refine WL.y (Yl.move rfl) rfl ?_
  refine WL.y (Yl.leq rfl rfl) rfl ?_
  refine WL.know (t := 23) (b' := true) rfl (by simp; omega) ?_
  refine WL.nil ?_
  refine WC.condT rfl (by first | rfl | (simp; done) | (simp; omega)) ?_
  refine WC.seq ?_
  refine WC.region ?_
  refine WL.y (Yl.move rfl) rfl ?_
  refine WL.y (Yl.move rfl) rfl ?_
  refine WL.y (Yl.move rfl) rfl ?_
  refine WL.callC (xs := [.tmp 24, .tmp 25, .tmp 26]) (cap := []) rfl rfl en153 (by repeat' constructor) (fun w hw => insB_any v n D 0 n hD (by omega) (Nat.zero_le _) (Nat.le_refl _) w hw.left.here) rfl ?_
  rintro ⟨⟩ -
  dsimp only [List.cons_append, List.nil_append]
  refine WL.nil ?_
  refine WC.ret ?_
  repeat (with_reducible (first | refine peelT ?_ | refine peelB ?_ | refine peelTX ?_ | refine peelBX ?_ | refine peelBN ?_ | refine peelBO rfl ?_))
  exact ret0 (.inr rfl) Tryz.results126 fun w' h => ⟨(), trivial, rfl, h.sub (by repeat' constructor)⟩
theorem sortB_any (ao : Option Addr) (cap : Nat) (zs : List Int) (hn : zs.length ≤ 12) (w : World) (hw : OK w (fpL [ownR (.slice ao zs.length cap) 5 1 zs.length (ints .u8 zs)]) [ownR (.slice ao zs.length cap) 5 1 zs.length (ints .u8 zs)] w) :
    Fn Tryz.prog 101 [.slice ao zs.length cap] [ownR (.slice ao zs.length cap) 5 1 zs.length (ints .u8 zs)] w (fun _ : Unit => True) (fun _ => .tuple #[]) (fun _ => [ownR (.slice ao zs.length cap) 5 1 zs.length (ints .u8 (asc zs))]) := by
  have hs := sortInt zs
  unfold Go.Sort.sort at hs
  rw [List.size_toArray] at hs
  have key := fun w (h : OK w (fpL [ownR (.slice ao zs.length cap) 5 1 zs.length (ints .u8 zs)]) [ownR (.slice ao zs.length cap) 5 1 zs.length (ints .u8 zs)] w) => pdqfB_any (.slice ao zs.length cap) zs.length hn zs.toArray (bitsLen zs.length) (by simp) w h
  rw [hs] at key
  refine enterF Tryz.func101 rfl Tryz.ntmps101 rfl hw ?_
  refine WC.seq ?_
  refine WC.region ?_
  refine WL.y (Yl.move rfl) rfl ?_
  refine WL.y (Yl.len un62 rfl) rfl ?_
  refine WL.y (Yl.assign rfl) rfl ?_
  refine WL.nil ?_
  refine WC.region ?_
  refine WL.y (Yl.move rfl) rfl ?_
  refine WL.y (Yl.move rfl) rfl ?_
  refine WL.y (Yl.move rfl) rfl ?_
  refine WL.y (Yl.conv un3 un180 rfl (show IntKind.u64.wrap (zs.length : Int) = (zs.length : Int) by rw [IntKind.wrap_u64]; omega)) rfl ?_
  refine WL.callC (xs := [.tmp 8]) (cap := []) rfl rfl en114 (by repeat' constructor) (fun w hw => len_any zs.length (by omega) w hw.left.here) rfl ?_
  rintro ⟨⟩ -
  refine WL.callC (xs := [.tmp 5, _, .tmp 6, .tmp 9]) (cap := []) rfl rfl en126 (by repeat' constructor) (fun w hw => key w hw.left.here) rfl ?_
  rintro ⟨⟩ -
  refine WL.nil ?_
  repeat (with_reducible (first | refine peelT ?_ | refine peelB ?_ | refine peelTX ?_ | refine peelBX ?_ | refine peelBN ?_ | refine peelBO rfl ?_))
  exact ret0 (.inl rfl) Tryz.results101 fun w' h => ⟨(), trivial, rfl, h.sub (by repeat' constructor)⟩
end Go.Proofs.YtbgimajbehodnaaGreatDoor

namespace Go.Proofs.YtbgimajbehodnaaGreatDoor
open Go Go.RowKit

set_option maxRecDepth 100000 in
theorem keys1B_iter (b1 bm : Nat) (m : List (Int × Sm)) (w : World) (hA : OK w (fpL [roR (blkR b1 136 [.map (some bm)]), roR (mapR (Value.int .u8) smV bm m)]) [roR (blkR b1 136 [.map (some bm)]), roR (mapR (Value.int .u8) smV bm m)] w) :
    IterP Tryz.prog 102 ([.pointer (some ⟨b1, 0, none⟩)] : List Value).toArray (fpL [roR (blkR b1 136 [.map (some bm)]), roR (mapR (Value.int .u8) smV bm m)]).rd (ksY .u8 m) w := by
  have hwr : ∀ r ∈ [roR (blkR b1 136 [.map (some bm)]), roR (mapR (Value.int .u8) smV bm m)], ∀ k, ¬ r.wr k := by
    intro r hr k hk
    simp at hr
    rcases hr with rfl | rfl <;> exact hk
  refine iter_ofP Tryz.func102 rfl Tryz.ntmps102 rfl hA hwr ?_
  intro l W g gx T0 hy
  refine WC.seq ?_
  refine WC.region ?_
  refine WL.y (Yl.loadRo on136 rfl (by repeat constructor) (by rfl)) rfl ?_
  refine WL.to (To.rangeM un136 rfl (by repeat constructor)) rfl ?_
  intro r5
  refine WL.nil ?_
  refine WC.block ?_
  refine WC.loop (α := List Nat × (Nat → Prop)) (fun _ => [(0, .func (.yield l) #[] #[]), (5, .pointer (some ⟨r5, 0, none⟩))]) (fun p => [gstP g (p.1.map (kAt .u8 m)) p.2, rngR (Value.int .u8) smV bm r5 m p.1, roR (blkR b1 136 [.map (some bm)]), roR (mapR (Value.int .u8) smV bm m)]) (fun p => p.1.Nodup ∧ ∀ j ∈ p.1, j < m.length) (fun p => m.length - p.1.length) ([], T0) ⟨List.nodup_nil, fun _ h => nomatch h⟩ ⟨(by repeat' constructor), _, (by repeat' constructor)⟩ ?_
  rintro ⟨done, T⟩ ⟨hdn, hdb⟩
  dsimp only at hdn hdb ⊢
  refine WC.seq ?_
  refine WC.region ?_
  refine WL.to (To.nextM (m := m) (done := done) (kv := Value.int .u8) (vv := smV) rfl (by repeat constructor)) rfl ?_
  rintro ⟨o, ho1, ho2⟩
  dsimp only
  refine WL.y (Yl.extract (v := .bool o.isSome) rfl (nx_get o)) rfl ?_
  refine WL.nil ?_
  refine WC.seq ?_
  refine WC.cond rfl (fun g7 => ?_) (fun g7 => ?_)
  · refine WC.skip ?_
    refine WC.block ?_
    refine WC.seq ?_
    obtain ⟨j, rfl⟩ := Option.isSome_iff_exists.1 g7
    obtain ⟨p, hp, hjd⟩ := ho1 j rfl
    have hjm := (List.getElem?_eq_some_iff.1 hp).1
    have hdn' : (done ++ [j]).Nodup := List.nodup_append.2 ⟨hdn, by simp, fun a ha b hb' e => by simp at hb'; subst hb'; subst e; exact hjd ha⟩
    have hdb' : ∀ x ∈ done ++ [j], x < m.length := fun x hx => by
      rcases List.mem_append.1 hx with hx | hx
      · exact hdb x hx
      · rw [List.mem_singleton.1 hx]; exact hjm
    have hle := done_le hdn' hdb'
    rw [List.length_append, List.length_singleton] at hle
    have hkj : kAt .u8 m j = #[.int .u8 p.1] := by simp [kAt, hp]
    simp only [Option.toList_some]
    refine WC.region ?_
    refine WL.y (Yl.entryM (m := m) (done := done) (j := j) (kv := Value.int .u8) (vv := smV) rfl (by repeat constructor) hp) rfl ?_
    refine WL.y (Yl.extract rfl rfl) rfl ?_
    refine WL.y (Yl.assign rfl) rfl ?_
    refine WL.nil ?_
    refine WC.seq ?_
    refine WC.region ?_
    refine WL.y (Yl.move rfl) rfl ?_
    refine WL.y (Yl.move rfl) rfl ?_
    refine WL.yieldP (xs := [.tmp 11]) (i := done.map (kAt .u8 m)) hy rfl rfl (ks_rest hdn hdb hjd hp) (by repeat constructor) rfl ?_
    intro b12 T'
    refine WL.y (Yl.not rfl) rfl ?_
    refine WL.nil ?_
    refine WC.cond rfl (fun g13 => ?_) (fun g13 => ?_)
    · refine WC.ret ?_
      repeat (with_reducible (first | refine peelT ?_ | refine peelB ?_ | refine peelTX ?_ | refine peelBX ?_ | refine peelBN ?_ | refine peelBO rfl ?_))
      have hb : b12 = false := by simpa using g13
      subst hb
      simp only [Bool.false_eq_true, if_false]
      exact itStopP (.inr rfl) Tryz.results102 (by repeat constructor)
    · refine WC.skip ?_
      have hb : b12 = true := by simpa using g13
      subst hb
      simp only [if_true]
      exact ⟨rfl, (done ++ [j], T'), ⟨hdn', hdb'⟩, by dsimp only; rw [List.length_append, List.length_singleton]; omega, (by repeat' constructor), _, by dsimp only; rw [List.map_append, List.map_singleton, hkj]; exact (by repeat' constructor)⟩
  · refine WC.exit ?_
    repeat (with_reducible (first | refine peelT ?_ | refine peelB ?_ | refine peelTX ?_ | refine peelBX ?_ | refine peelBN ?_ | refine peelBO rfl ?_))
    obtain rfl : o = none := by cases o with | none => rfl | some j => cases g7
    have hall := ho2 rfl
    have hpm : (done.map (kAt .u8 m)).Perm (ksY .u8 m) := by
      rw [← ksY_eq]
      exact List.Perm.map _ ((List.perm_ext_iff_of_nodup hdn List.nodup_range).2 fun x => ⟨fun hx => List.mem_range.2 (hdb x hx), fun hx => hall x (List.mem_range.1 hx)⟩)
    exact itEndP (.inl rfl) Tryz.results102 (by repeat constructor) hpm
end Go.Proofs.YtbgimajbehodnaaGreatDoor

namespace Go.Proofs.YtbgimajbehodnaaGreatDoor
open Go Go.RowKit

set_option maxRecDepth 100000 in
theorem appSeqB_any (gf : Nat) (lb : List Value) (own : Nat → Prop) (zs : List Int) (hz : zs.length ≤ 1000000) (eg : ∀ args w, (callFunc gf args).run Tryz.prog w = .ok (.enter gf args) w) (w : World) (hw : OK w (fpL [itP Tryz.prog gf lb own (zs.map (encK .u8))]) [itP Tryz.prog gf lb own (zs.map (encK .u8))] w) :
    Fn Tryz.prog 125 [.slice none 0 0, .func (.func gf) #[] lb.toArray] [itP Tryz.prog gf lb own (zs.map (encK .u8))] w (fun y : (Option Addr × Nat) × List Int => y.2.Perm zs) (fun y => .slice y.1.1 y.2.length y.1.2) (fun y => [ownR (.slice y.1.1 y.2.length y.1.2) 5 1 y.2.length (ints .u8 y.2)]) := by
  refine enterM Tryz.func125 rfl Tryz.ntmps125 rfl hw ?_
  refine WC.seq ?_
  refine WC.region ?_
  refine WL.to (To.box (cs := [.slice none 0 0]) rfl rfl) rfl ?_
  intro b2
  refine WL.y (Yl.assign rfl) rfl ?_
  refine WL.nil ?_
  refine WC.seq ?_
  refine WC.seq ?_
  refine WC.region ?_
  refine WL.y (Yl.move rfl) rfl ?_
  refine WL.nil ?_
  refine WC.block ?_
  refine WC.view (fun w h => h.addNil 5 1) ?_
  refine WC.rangeP (α := (Option Addr × Nat) × List Int) (lb := lb) (xs := zs.map (encK .u8)) (fun _ s => [blkR b2 62 [.slice s.1.1 s.2.length s.1.2], ownR (.slice s.1.1 s.2.length s.1.2) 5 1 s.2.length (ints .u8 s.2)]) (fun i s => i = s.2.map (encK .u8)) ((none, 0), []) rfl eg encK_size rfl (by repeat constructor) rfl (by repeat' constructor) ?_ ?_
  · rintro l2 i x ⟨⟨ao, ca⟩, ys⟩ hx rfl W
    dsimp only at hx ⊢
    have hxm := mem_ofP hx
    obtain ⟨z, _, rfl⟩ := List.mem_map.1 hxm
    have hyl : ys.length < zs.length := by
      obtain ⟨rest, h⟩ := hx
      have := h.length_eq
      simp at this
      omega
    show WC _ _ _ ((7, .int .u8 z) :: _) _ _
    refine WC.region ?_
    refine WL.y (Yl.assign rfl) rfl ?_
    refine WL.nil ?_
    repeat (with_reducible (first | refine peelT ?_ | refine peelB ?_ | refine peelTX ?_ | refine peelBX ?_ | refine peelBN ?_ | refine peelBO rfl ?_))
    refine fun W2 => ?_
    refine WC.block ?_
    refine WC.region ?_
    refine WL.y (Yl.load on62 rfl (by repeat constructor) (by rfl)) rfl ?_
    refine WL.y (Yl.move rfl) rfl ?_
    refine WL.to (To.buildSlice (vs := [.int .u8 z]) un62 zs5 rfl rfl (by simp [Value.cells]) (by decide) (by decide)) rfl ?_
    intro b10
    refine WL.to (To.append sl62 rfl rfl (by repeat constructor) (Reads.of (RdOf.blk (size := 1) (cs := flat [.int .u8 z]) (cs' := ints .u8 [z]) (Nat.le_refl _) (by unfold maxLen; omega) (by simp [flat, Value.cells]) (by simp [flat, Value.cells, ints])) (by repeat constructor)) (ints_one _ _) (show ys.length + 1 = (ys ++ [z]).length by simp) (show ints .u8 ys ++ ints .u8 [z] = ints .u8 (ys ++ [z]) by simp [ints]) (by simp; unfold maxLen; omega) (by simp; omega)) rfl ?_
    rintro ⟨⟨ao11, c11⟩, hc11⟩
    dsimp only at hc11 ⊢
    refine WL.sto (Sto.one sz62 rfl rfl (by repeat constructor) rfl (by rfl) (by rfl)) (fun _ h => nomatch h) ?_
    refine WL.nil ?_
    repeat (with_reducible (first | refine peelT ?_ | refine peelB ?_ | refine peelTX ?_ | refine peelBX ?_ | refine peelBN ?_ | refine peelBO rfl ?_))
    exact ⟨[blkR b2 62 [.slice ao11 (ys ++ [z]).length c11], ownR (.slice ao11 (ys ++ [z]).length c11) 5 1 (ys ++ [z]).length (ints .u8 (ys ++ [z]))], _, (by repeat' constructor), ((ao11, c11), ys ++ [z]), by simp [encK], rfl⟩
  · rintro is ⟨⟨ao, ca⟩, ys⟩ D hperm rfl
    have hp := encK_perm hperm
    dsimp only [List.cons_append, List.nil_append]
    refine WC.seq ?_
    refine WC.region ?_
    refine WL.y (Yl.load on62 rfl (by repeat constructor) (by rfl)) rfl ?_
    refine WL.y (Yl.assign rfl) rfl ?_
    refine WL.nil ?_
    refine WC.ret ?_
    repeat (with_reducible (first | refine peelT ?_ | refine peelB ?_ | refine peelTX ?_ | refine peelBX ?_ | refine peelBN ?_ | refine peelBO rfl ?_))
    refine retM.of (.cons (by repeat constructor) .nil) ?_
    exact ret1 (.inr rfl) Tryz.results125 rfl fun w' h => ⟨((ao, ca), ys), hp, rfl, h.sub (by repeat' constructor)⟩
theorem colB_any (gf : Nat) (lb : List Value) (own : Nat → Prop) (zs : List Int) (hz : zs.length ≤ 1000000) (eg : ∀ args w, (callFunc gf args).run Tryz.prog w = .ok (.enter gf args) w) (w : World) (hw : OK w (fpL [itP Tryz.prog gf lb own (zs.map (encK .u8))]) [itP Tryz.prog gf lb own (zs.map (encK .u8))] w) :
    Fn Tryz.prog 100 [.func (.func gf) #[] lb.toArray] [itP Tryz.prog gf lb own (zs.map (encK .u8))] w (fun y : (Option Addr × Nat) × List Int => y.2.Perm zs) (fun y => .slice y.1.1 y.2.length y.1.2) (fun y => [ownR (.slice y.1.1 y.2.length y.1.2) 5 1 y.2.length (ints .u8 y.2)]) := by
  refine enterF Tryz.func100 rfl Tryz.ntmps100 rfl hw ?_
  refine WC.seq ?_
  refine WC.region ?_
  refine WL.y (Yl.assign rfl) rfl ?_
  refine WL.nil ?_
  refine WC.seq ?_
  refine WC.region ?_
  refine WL.y (Yl.move rfl) rfl ?_
  refine WL.callC (xs := [_, .tmp 3]) (cap := []) rfl rfl en125 (by repeat' constructor) (fun w hw => appSeqB_any gf lb own zs hz eg w hw.left.here) rfl ?_
  rintro ⟨⟨a4, c4⟩, ys⟩ hp
  dsimp only [List.cons_append, List.nil_append]
  refine WL.y (Yl.assign rfl) rfl ?_
  refine WL.nil ?_
  refine WC.ret ?_
  repeat (with_reducible (first | refine peelT ?_ | refine peelB ?_ | refine peelTX ?_ | refine peelBX ?_ | refine peelBN ?_ | refine peelBO rfl ?_))
  exact ret1 (.inr rfl) Tryz.results100 rfl fun w' h => ⟨((a4, c4), ys), hp, rfl, h.sub (by repeat' constructor)⟩
theorem sortedB_any (gf : Nat) (lb : List Value) (own : Nat → Prop) (zs : List Int) (hz : zs.length ≤ 12) (eg : ∀ args w, (callFunc gf args).run Tryz.prog w = .ok (.enter gf args) w) (w : World) (hw : OK w (fpL [itP Tryz.prog gf lb own (zs.map (encK .u8))]) [itP Tryz.prog gf lb own (zs.map (encK .u8))] w) :
    Fn Tryz.prog 66 [.func (.func gf) #[] lb.toArray] [itP Tryz.prog gf lb own (zs.map (encK .u8))] w (fun _ : Option Addr × Nat => True) (fun y => .slice y.1 (asc zs).length y.2) (fun y => [ownR (.slice y.1 (asc zs).length y.2) 5 1 (asc zs).length (ints .u8 (asc zs))]) := by
  refine enterF Tryz.func66 rfl Tryz.ntmps66 rfl hw ?_
  refine WC.seq ?_
  refine WC.region ?_
  refine WL.y (Yl.assign rfl) rfl ?_
  refine WL.nil ?_
  refine WC.seq ?_
  refine WC.region ?_
  refine WL.y (Yl.move rfl) rfl ?_
  refine WL.callC (xs := [.tmp 4]) (cap := []) rfl rfl en100 (by repeat' constructor) (fun w hw => colB_any gf lb own zs (by omega) eg w hw.left.here) rfl ?_
  rintro ⟨⟨a5, c5⟩, ys⟩ hp
  dsimp only at hp
  dsimp only [List.cons_append, List.nil_append]
  have hyl := hp.length_eq
  refine WL.y (Yl.assign rfl) rfl ?_
  refine WL.nil ?_
  refine WC.seq ?_
  refine WC.region ?_
  refine WL.y (Yl.move rfl) rfl ?_
  refine WL.callC (xs := [.tmp 6]) (cap := []) rfl rfl en101 (by repeat' constructor) (fun w hw => sortB_any a5 c5 ys (by omega) w hw.left.here) rfl ?_
  rintro ⟨⟩ -
  rw [asc_eq hp, show ys.length = (asc zs).length by rw [asc_len, hyl]]
  dsimp only [List.cons_append, List.nil_append]
  refine WL.nil ?_
  refine WC.seq ?_
  refine WC.region ?_
  refine WL.y (Yl.move rfl) rfl ?_
  refine WL.y (Yl.assign rfl) rfl ?_
  refine WL.nil ?_
  refine WC.ret ?_
  repeat (with_reducible (first | refine peelT ?_ | refine peelB ?_ | refine peelTX ?_ | refine peelBX ?_ | refine peelBN ?_ | refine peelBO rfl ?_))
  exact ret1 (.inr rfl) Tryz.results66 rfl fun w' h => ⟨(a5, c5), trivial, rfl, h.sub (by repeat' constructor)⟩
theorem keysB_any (bm : Nat) (m : List (Int × Sm)) (w : World) (hw : OK w (fpL [roR (mapR (Value.int .u8) smV bm m)]) [roR (mapR (Value.int .u8) smV bm m)] w) :
    Fn Tryz.prog 67 [.map (some bm)] [roR (mapR (Value.int .u8) smV bm m)] w (fun _ : Nat × (Nat → Prop) => True) (fun y => .func (.func 102) #[] #[.pointer (some ⟨y.1, 0, none⟩)]) (fun y => [itP Tryz.prog 102 [.pointer (some ⟨y.1, 0, none⟩)] y.2 ((m.map (·.1)).map (encK .u8))]) := by
  refine enterF Tryz.func67 rfl Tryz.ntmps67 rfl hw ?_
  refine WC.seq ?_
  refine WC.region ?_
  refine WL.to (To.box (cs := [.map (some bm)]) rfl rfl) rfl ?_
  intro b1
  refine WL.y (Yl.assign rfl) rfl ?_
  refine WL.nil ?_
  refine WC.seq ?_
  refine WC.region ?_
  refine WL.y (Yl.makeFunc (xs := []) (ys := [.tmp 1]) rfl rfl) rfl ?_
  refine WL.y (Yl.assign rfl) rfl ?_
  refine WL.nil ?_
  refine WC.ret ?_
  repeat (with_reducible (first | refine peelT ?_ | refine peelB ?_ | refine peelTX ?_ | refine peelBX ?_ | refine peelBN ?_ | refine peelBO rfl ?_))
  refine ret1 (.inr rfl) Tryz.results67 rfl fun w' hh => ⟨(b1, (fpL [roR (blkR b1 136 [.map (some bm)]), roR (mapR (Value.int .u8) smV bm m)]).rd), trivial, rfl, ?_⟩
  have hA : OK w _ ([blkR b1 136 [.map (some bm)], roR (mapR (Value.int .u8) smV bm m)] ++ []) w' := hh.sub (by repeat' constructor)
  have hro : OK w _ ([roR (blkR b1 136 [.map (some bm)]), roR (mapR (Value.int .u8) smV bm m)] ++ []) w' := hA.roOne .head
  have hi := keys1B_iter b1 bm m w' hro.here
  rw [ksY_enc] at hi
  exact hro.toIterP hi (fun k hk => hk)
end Go.Proofs.YtbgimajbehodnaaGreatDoor
