/- Sorting rows of uint64: comparing, the middle of three, insertion: the walks. -/
import Derived.Test.YtbgimajbehodnaaGreatDoorFacts
import Derived.Test.YtbgimajbehodnaaGreatDoorLibH
import Derived.Sort.AssemblyPlain
namespace Go.Proofs.YtbgimajbehodnaaGreatDoor
open Go Go.RowKit Go.Sort

theorem so_getV {D : Array Int} {i : Nat} (h : i < D.size) : (ints .u64 D.toList)[i]? = some (.int .u64 D[i]!) := by
  unfold ints
  rw [List.getElem?_map, Array.getElem?_toList, Array.getElem?_eq_getElem h, getElem!_pos D i h]
  rfl
theorem swp_size (D : Array Int) (i j : Nat) : (swp D i j).size = D.size := by unfold swp; simp
theorem so_swpV (D : Array Int) (i j : Nat) : ((ints .u64 D.toList).set i (.int .u64 D[j]!)).set j (.int .u64 D[i]!) = ints .u64 (swp D i j).toList := by
  unfold ints swp
  rw [Array.toList_setIfInBounds, Array.toList_setIfInBounds, List.map_set, List.map_set]

theorem Yl.indexF {c : Cx} {env : Env} {ds : List Deferred} {H : List Res} {dst : Option Tmp} {ty : TypeId} {pos : String} {af : Array Edge} {g : Option (Nat × Bool)} {t e : TypeId} {x i : Operand} {k : IntKind} {z : Int} {j n size : Nat} {v : Value} (hu : c.P.underlying t = some (.slice e)) (hsz : (c.P.info? e).map (·.size) = some size)
    (hx : ev env x = some v) (hi : ev env i = some (.int k z)) (hF : 0 < n → ∃ a cap, v = .slice (some a) n cap) (hz : z = (j : Int)) (hj : j < n) : Yl c env ds H ⟨dst, .indexAddr t x i, ty, pos, af, g⟩ (elemP v j size) := by
  obtain ⟨a, cap, rfl⟩ := hF (by omega)
  exact Yl.indexV hu hsz hx hi hz hj
theorem sl_form {w : World} {e : TypeId} {v : Value} {n : Nat} {cs : List Value} (h : Sown w e 1 v n cs) : 0 < n → ∃ a cap, v = .slice (some a) n cap := by
  intro hn
  rcases h.2 with ⟨_, h0⟩ | ⟨b, off, cap, cur, hv, _⟩
  · omega
  · exact ⟨_, _, hv⟩

theorem nanV_any (x : Int) (w : World) (hw : OK w (fpL []) [] w) : Fn Tryz.prog 178 [.int .u64 x] [] w (fun _ : Unit => True) (fun _ => .bool false) (fun _ => []) := by
  refine enterF Tryz.func178 rfl Tryz.ntmps178 rfl hw ?_
  refine WC.seq ?_
  refine WC.region ?_
  refine WL.y (Yl.assign rfl) rfl ?_
  refine WL.nil ?_
  refine WC.seq ?_
  refine WC.region ?_
  refine WL.y (Yl.move rfl) rfl ?_
  refine WL.y (Yl.move rfl) rfl ?_
  refine WL.y (Yl.neq rfl rfl) rfl ?_
  refine WL.say (t := 5) (v' := .bool false) rfl (by simp) ?_
  refine WL.y (Yl.assign rfl) rfl ?_
  refine WL.nil ?_
  refine WC.ret ?_
  repeat (with_reducible (first | refine peelT ?_ | refine peelB ?_ | refine peelTX ?_ | refine peelBX ?_ | refine peelBN ?_ | refine peelBO rfl ?_))
  exact ret1 (.inr rfl) Tryz.results178 rfl fun w' h => ⟨(), trivial, rfl, h.sub (by repeat' constructor)⟩
theorem lessV_any (x y : Int) (w : World) (hw : OK w (fpL []) [] w) : Fn Tryz.prog 138 [.int .u64 x, .int .u64 y] [] w (fun _ : Unit => True) (fun _ => .bool (ltInt x y)) (fun _ => []) := by
  refine enterF Tryz.func138 rfl Tryz.ntmps138 rfl hw ?_
  refine WC.seq ?_
  refine WC.region ?_
  refine WL.y (Yl.assign rfl) rfl ?_
  refine WL.nil ?_
  refine WC.seq ?_
  refine WC.region ?_
  refine WL.y (Yl.move rfl) rfl ?_
  refine WL.callC (xs := [.tmp 5]) (cap := []) rfl rfl en178 (by repeat' constructor) (fun w hw => nanV_any x w hw.left.here) rfl ?_
  rintro ⟨⟩ -
  refine WL.y (Yl.move rfl) rfl ?_
  refine WL.know (t := 7) (b' := false) rfl (by first | rfl | (simp; done) | (simp; omega)) ?_
  refine WL.off rfl rfl rfl rfl ?_
  refine WL.off rfl rfl rfl rfl ?_
  refine WL.off rfl rfl rfl rfl ?_
  refine WL.y (Yl.pickF rfl rfl) rfl ?_
  refine WL.y (Yl.move rfl) rfl ?_
  refine WL.know (t := 12) (b' := false) rfl (by first | rfl | (simp; done) | (simp; omega)) ?_
  refine WL.on rfl rfl ?_
  refine WL.y (Yl.move rfl) rfl ?_
  refine WL.on rfl rfl ?_
  refine WL.y (Yl.move rfl) rfl ?_
  refine WL.on rfl rfl ?_
  refine WL.y (Yl.lss rfl rfl) rfl ?_
  refine WL.y (Yl.pickF rfl rfl) rfl ?_
  refine WL.y (Yl.assign rfl) rfl ?_
  refine WL.nil ?_
  refine WC.ret ?_
  repeat (with_reducible (first | refine peelT ?_ | refine peelB ?_ | refine peelTX ?_ | refine peelBX ?_ | refine peelBN ?_ | refine peelBO rfl ?_))
  exact ret1 (.inr rfl) Tryz.results138 rfl fun w' h => ⟨(), trivial, rfl, h.sub (by repeat' constructor)⟩
theorem ordV_any (v : Value) (n : Nat) (D : Array Int) (a b sw bs : Nat) (hD : D.size = n) (ha : a < n) (hb : b < n) (hs : sw ≤ 1000) (w : World) (hw : OK w (fpL [ownR v 34 1 n (ints .u64 D.toList), blkR bs 3 [.int .i64 (sw : Int)]]) [ownR v 34 1 n (ints .u64 D.toList), blkR bs 3 [.int .i64 (sw : Int)]] w) :
    Fn Tryz.prog 199 [v, .int .i64 (a : Int), .int .i64 (b : Int), .pointer (some ⟨bs, 0, none⟩)] [ownR v 34 1 n (ints .u64 D.toList), blkR bs 3 [.int .i64 (sw : Int)]] w (fun _ : Unit => True) (fun _ => .tuple #[.int .i64 ((order2 ltInt D a b sw).1 : Int), .int .i64 ((order2 ltInt D a b sw).2.1 : Int)]) (fun _ => [ownR v 34 1 n (ints .u64 D.toList), blkR bs 3 [.int .i64 ((order2 ltInt D a b sw).2.2 : Int)]]) := by
  refine enterF Tryz.func199 rfl Tryz.ntmps199 rfl hw ?_
  refine WC.seq ?_
  refine WC.region ?_
  refine WL.y (Yl.assign rfl) rfl ?_
  refine WL.y (Yl.assign rfl) rfl ?_
  refine WL.nil ?_
  refine WC.seq ?_
  refine WC.seq ?_
  refine WC.drawAny (Hs := [ownR v 34 1 n (ints .u64 D.toList), blkR bs 3 [.int .i64 (sw : Int)]]) mixed (by kernel_rfl) ⟨_, (by repeat' constructor)⟩ ?_
  refine WD.tk 0 rfl (by kernel_rfl) rfl rfl (Yl.move rfl) rfl ?_
  refine WD.tk 1 rfl (by kernel_rfl) rfl rfl (Yl.move rfl) rfl ?_
  refine WD.tk 2 rfl (by kernel_rfl) rfl rfl (Yl.index un48 sz34 rfl rfl (Reads.own (by repeat constructor)) rfl (by omega)) rfl ?_
  refine WD.tk 3 rfl (by kernel_rfl) rfl rfl (Yl.loadE on34 rfl (Reads.own (by repeat constructor)) (so_getV (by omega))) rfl ?_
  refine WD.tk 4 rfl (by kernel_rfl) rfl rfl (Yl.move rfl) rfl ?_
  refine WD.tk 5 rfl (by kernel_rfl) rfl rfl (Yl.move rfl) rfl ?_
  refine WD.tk 6 rfl (by kernel_rfl) rfl rfl (Yl.index un48 sz34 rfl rfl (Reads.own (by repeat constructor)) rfl (by omega)) rfl ?_
  refine WD.tk 7 rfl (by kernel_rfl) rfl rfl (Yl.loadE on34 rfl (Reads.own (by repeat constructor)) (so_getV (by omega))) rfl ?_
  refine WD.one 8 (by kernel_rfl) ?_
  refine WO.callC (xs := [.tmp 13, .tmp 17]) (cap := []) rfl .no rfl rfl en138 (by repeat' constructor) (fun w hw => lessV_any _ _ w hw.left.here) rfl (fun _ => ⟨_, (by repeat' constructor)⟩) ?_
  rintro ⟨⟩ -
  refine WD.done (by kernel_rfl) ?_
  refine WC.cond rfl (fun g18 => ?_) (fun g18 => ?_)
  · refine WC.seq ?_
    refine WC.region ?_
    refine WL.y (Yl.move rfl) rfl ?_
    refine WL.y (Yl.nilCheck rfl) rfl ?_
    refine WL.y (Yl.load on3 rfl (by repeat constructor) (by rfl)) rfl ?_
    refine WL.y (Yl.add rfl rfl (IntWalk.i64_in _ (by omega))) rfl ?_
    refine WL.y (Yl.nilCheck rfl) rfl ?_
    refine WL.sto (Sto.one sz3 rfl rfl (by repeat constructor) rfl (by rfl) (by rfl)) (fun _ h => nomatch h) ?_
    refine WL.nil ?_
    refine WC.seq ?_
    refine WC.region ?_
    refine WL.y (Yl.move rfl) rfl ?_
    refine WL.y (Yl.move rfl) rfl ?_
    refine WL.y (Yl.assign rfl) rfl ?_
    refine WL.y (Yl.assign rfl) rfl ?_
    refine WL.nil ?_
    refine WC.ret ?_
    repeat (with_reducible (first | refine peelT ?_ | refine peelB ?_ | refine peelTX ?_ | refine peelBX ?_ | refine peelBN ?_ | refine peelBO rfl ?_))
    exact ret2 (.inr rfl) Tryz.results199 rfl rfl fun w' h => ⟨(), trivial, by unfold order2; rw [if_pos g18], by unfold order2; rw [if_pos g18]; exact h.sub (by repeat' constructor)⟩
  · refine WC.skip ?_
    refine WC.seq ?_
    refine WC.region ?_
    refine WL.y (Yl.move rfl) rfl ?_
    refine WL.y (Yl.move rfl) rfl ?_
    refine WL.y (Yl.assign rfl) rfl ?_
    refine WL.y (Yl.assign rfl) rfl ?_
    refine WL.nil ?_
    refine WC.ret ?_
    repeat (with_reducible (first | refine peelT ?_ | refine peelB ?_ | refine peelTX ?_ | refine peelBX ?_ | refine peelBN ?_ | refine peelBO rfl ?_))
    exact ret2 (.inr rfl) Tryz.results199 rfl rfl fun w' h => ⟨(), trivial, by unfold order2; rw [if_neg (ne_true_of_eq_false g18)], by unfold order2; rw [if_neg (ne_true_of_eq_false g18)]; exact h.sub (by repeat' constructor)⟩
theorem order2_in {D : Array Int} {a b sw n : Nat} (ha : a < n) (hb : b < n) : (order2 ltInt D a b sw).1 < n ∧ (order2 ltInt D a b sw).2.1 < n ∧ (order2 ltInt D a b sw).2.2 ≤ sw + 1 := by
  unfold order2
  split
  · exact ⟨hb, ha, Nat.le_refl _⟩
  · exact ⟨ha, hb, Nat.le_succ _⟩
theorem medV_any (v : Value) (n : Nat) (D : Array Int) (a b c sw bs : Nat) (hD : D.size = n) (ha : a < n) (hb : b < n) (hc : c < n) (hs : sw ≤ 900) (w : World) (hw : OK w (fpL [ownR v 34 1 n (ints .u64 D.toList), blkR bs 3 [.int .i64 (sw : Int)]]) [ownR v 34 1 n (ints .u64 D.toList), blkR bs 3 [.int .i64 (sw : Int)]] w) :
    Fn Tryz.prog 177 [v, .int .i64 (a : Int), .int .i64 (b : Int), .int .i64 (c : Int), .pointer (some ⟨bs, 0, none⟩)] [ownR v 34 1 n (ints .u64 D.toList), blkR bs 3 [.int .i64 (sw : Int)]] w (fun _ : Unit => True) (fun _ => .int .i64 ((median ltInt D a b c sw).1 : Int)) (fun _ => [ownR v 34 1 n (ints .u64 D.toList), blkR bs 3 [.int .i64 ((median ltInt D a b c sw).2 : Int)]]) := by
  unfold median
  dsimp only
  obtain ⟨p1, p2, p3⟩ := order2_in (D := D) (sw := sw) ha hb
  obtain ⟨r1, hr1⟩ : ∃ r, order2 ltInt D a b sw = r := ⟨_, rfl⟩
  rw [hr1] at p1 p2 p3 ⊢
  obtain ⟨q1, q2, q3⟩ := order2_in (D := D) (sw := r1.2.2) p2 hc
  obtain ⟨r2, hr2⟩ : ∃ r, order2 ltInt D r1.2.1 c r1.2.2 = r := ⟨_, rfl⟩
  rw [hr2] at q1 q2 q3 ⊢
  refine enterF Tryz.func177 rfl Tryz.ntmps177 rfl hw ?_
  refine WC.seq ?_
  refine WC.region ?_
  refine WL.y (Yl.assign rfl) rfl ?_
  refine WL.nil ?_
  refine WC.seq ?_
  refine WC.region ?_
  refine WL.y (Yl.move rfl) rfl ?_
  refine WL.y (Yl.move rfl) rfl ?_
  refine WL.y (Yl.move rfl) rfl ?_
  refine WL.y (Yl.move rfl) rfl ?_
  refine WL.callC (xs := [.tmp 12, .tmp 13, .tmp 14, .tmp 15]) (cap := []) rfl rfl en199 (by repeat' constructor) (fun w hw => ordV_any v n D a b sw bs hD ha hb (by omega) w hw.left.here) rfl ?_
  rintro ⟨⟩ -
  rw [hr1]
  dsimp only [List.cons_append, List.nil_append]
  refine WL.y (Yl.move rfl) rfl ?_
  refine WL.y (Yl.extract rfl rfl) rfl ?_
  refine WL.y (Yl.extract rfl rfl) rfl ?_
  refine WL.y (Yl.assign rfl) rfl ?_
  refine WL.y (Yl.assign rfl) rfl ?_
  refine WL.nil ?_
  refine WC.seq ?_
  refine WC.region ?_
  refine WL.y (Yl.move rfl) rfl ?_
  refine WL.y (Yl.move rfl) rfl ?_
  refine WL.y (Yl.move rfl) rfl ?_
  refine WL.y (Yl.move rfl) rfl ?_
  refine WL.callC (xs := [.tmp 20, .tmp 21, .tmp 22, .tmp 23]) (cap := []) rfl rfl en199 (by repeat' constructor) (fun w hw => ordV_any v n D r1.2.1 c r1.2.2 bs hD p2 hc (by omega) w hw.left.here) rfl ?_
  rintro ⟨⟩ -
  rw [hr2]
  dsimp only [List.cons_append, List.nil_append]
  refine WL.y (Yl.move rfl) rfl ?_
  refine WL.y (Yl.extract rfl rfl) rfl ?_
  refine WL.y (Yl.extract rfl rfl) rfl ?_
  refine WL.y (Yl.assign rfl) rfl ?_
  refine WL.y (Yl.assign rfl) rfl ?_
  refine WL.nil ?_
  refine WC.seq ?_
  refine WC.region ?_
  refine WL.y (Yl.move rfl) rfl ?_
  refine WL.y (Yl.move rfl) rfl ?_
  refine WL.y (Yl.move rfl) rfl ?_
  refine WL.y (Yl.move rfl) rfl ?_
  refine WL.callC (xs := [.tmp 28, .tmp 29, .tmp 30, .tmp 31]) (cap := []) rfl rfl en199 (by repeat' constructor) (fun w hw => ordV_any v n D r1.1 r2.1 r2.2.2 bs hD p1 q1 (by omega) w hw.left.here) rfl ?_
  rintro ⟨⟩ -
  dsimp only [List.cons_append, List.nil_append]
  refine WL.y (Yl.move rfl) rfl ?_
  refine WL.y (Yl.extract rfl rfl) rfl ?_
  refine WL.y (Yl.extract rfl rfl) rfl ?_
  refine WL.y (Yl.assign rfl) rfl ?_
  refine WL.y (Yl.assign rfl) rfl ?_
  refine WL.nil ?_
  refine WC.seq ?_
  refine WC.region ?_
  refine WL.y (Yl.move rfl) rfl ?_
  refine WL.y (Yl.assign rfl) rfl ?_
  refine WL.nil ?_
  refine WC.ret ?_
  repeat (with_reducible (first | refine peelT ?_ | refine peelB ?_ | refine peelTX ?_ | refine peelBX ?_ | refine peelBN ?_ | refine peelBO rfl ?_))
  exact ret1 (.inr rfl) Tryz.results177 rfl fun w' h => ⟨(), trivial, rfl, h.sub (by repeat' constructor)⟩
theorem median_in {D : Array Int} {a b c sw n : Nat} (ha : a < n) (hb : b < n) (hc : c < n) : (median ltInt D a b c sw).1 < n ∧ (median ltInt D a b c sw).2 ≤ sw + 3 := by
  unfold median
  dsimp only
  obtain ⟨p1, p2, p3⟩ := order2_in (D := D) (sw := sw) ha hb
  obtain ⟨q1, q2, q3⟩ := order2_in (D := D) (sw := (order2 ltInt D a b sw).2.2) p2 hc
  obtain ⟨s1, s2, s3⟩ := order2_in (D := D) (sw := (order2 ltInt D (order2 ltInt D a b sw).2.1 c (order2 ltInt D a b sw).2.2).2.2) p1 q1
  exact ⟨s2, by omega⟩
theorem medAV_any (v : Value) (n : Nat) (D : Array Int) (a sw bs : Nat) (hD : D.size = n) (hn : n ≤ 1099511627776) (ha : 1 ≤ a ∧ a + 1 < n) (hs : sw ≤ 900) (w : World) (hw : OK w (fpL [ownR v 34 1 n (ints .u64 D.toList), blkR bs 3 [.int .i64 (sw : Int)]]) [ownR v 34 1 n (ints .u64 D.toList), blkR bs 3 [.int .i64 (sw : Int)]] w) :
    Fn Tryz.prog 176 [v, .int .i64 (a : Int), .pointer (some ⟨bs, 0, none⟩)] [ownR v 34 1 n (ints .u64 D.toList), blkR bs 3 [.int .i64 (sw : Int)]] w (fun _ : Unit => True) (fun _ => .int .i64 ((medianAdjacent ltInt D a sw).1 : Int)) (fun _ => [ownR v 34 1 n (ints .u64 D.toList), blkR bs 3 [.int .i64 ((medianAdjacent ltInt D a sw).2 : Int)]]) := by
  unfold medianAdjacent
  refine enterF Tryz.func176 rfl Tryz.ntmps176 rfl hw ?_
  refine WC.seq ?_
  refine WC.region ?_
  refine WL.y (Yl.assign rfl) rfl ?_
  refine WL.nil ?_
  refine WC.seq ?_
  refine WC.region ?_
  refine WL.y (Yl.move rfl) rfl ?_
  refine WL.y (Yl.move rfl) rfl ?_
  refine WL.y (Yl.sub rfl rfl (IntWalk.i64_in _ (by omega))) rfl ?_
  refine WL.say (t := 9) (v' := .int .i64 ((a - 1 : Nat) : Int)) rfl (by (refine congrArg _ ?_; omega)) ?_
  refine WL.y (Yl.move rfl) rfl ?_
  refine WL.y (Yl.move rfl) rfl ?_
  refine WL.y (Yl.add rfl rfl (IntWalk.i64_in _ (by omega))) rfl ?_
  refine WL.y (Yl.move rfl) rfl ?_
  refine WL.callC (xs := [.tmp 7, .tmp 9, .tmp 10, .tmp 12, .tmp 13]) (cap := []) rfl rfl en177 (by repeat' constructor) (fun w hw => medV_any v n D (a - 1) a (a + 1) sw bs hD (by omega) (by omega) (by omega) hs w hw.left.here) rfl ?_
  rintro ⟨⟩ -
  dsimp only [List.cons_append, List.nil_append]
  refine WL.y (Yl.assign rfl) rfl ?_
  refine WL.nil ?_
  refine WC.ret ?_
  repeat (with_reducible (first | refine peelT ?_ | refine peelB ?_ | refine peelTX ?_ | refine peelBX ?_ | refine peelBN ?_ | refine peelBO rfl ?_))
  exact ret1 (.inr rfl) Tryz.results176 rfl fun w' h => ⟨(), trivial, rfl, h.sub (by repeat' constructor)⟩

/-! ### Insertion -/
theorem ins_go {a j : Nat} {D : Array Int} (h : a < j) (hl : ltInt D[j]! D[j - 1]! = true) : insInner ltInt a j D = insInner ltInt a (j - 1) (swp D j (j - 1)) := by
  cases j with
  | zero => omega
  | succ j =>
    rw [insInner, if_pos (by rw [Bool.and_eq_true]; exact ⟨decide_eq_true h, hl⟩)]
    rfl
theorem ins_stop {a j : Nat} {D : Array Int} (h : ¬ (a < j ∧ ltInt D[j]! D[j - 1]! = true)) : insInner ltInt a j D = D := by
  cases j with
  | zero => rfl
  | succ j =>
    rw [insInner, if_neg (fun e => h (by rw [Bool.and_eq_true] at e; exact ⟨of_decide_eq_true e.1, e.2⟩))]
theorem insOut_go {a b i : Nat} {D : Array Int} (h : i < b) : insOuter ltInt a b i D = insOuter ltInt a b (i + 1) (insInner ltInt a i D) := by rw [insOuter, if_pos h]
theorem insOut_stop {a b i : Nat} {D : Array Int} (h : ¬ i < b) : insOuter ltInt a b i D = D := by rw [insOuter, if_neg h]

set_option maxRecDepth 100000 in
theorem insV_any (v : Value) (n : Nat) (D : Array Int) (a b : Nat) (hD : D.size = n) (hn : n ≤ 1099511627776) (hab : a ≤ b) (hb : b ≤ n) (w : World) (hw : OK w (fpL [ownR v 34 1 n (ints .u64 D.toList)]) [ownR v 34 1 n (ints .u64 D.toList)] w) :
    Fn Tryz.prog 132 [v, .int .i64 (a : Int), .int .i64 (b : Int)] [ownR v 34 1 n (ints .u64 D.toList)] w (fun _ : Unit => True) (fun _ => .tuple #[]) (fun _ => [ownR v 34 1 n (ints .u64 (insertionSort ltInt D a b).toList)]) := by
  have hF := sl_form (hw.get (r := ownR v 34 1 n (ints .u64 D.toList)) .head)
  unfold insertionSort
  obtain ⟨T, hT⟩ : ∃ T, insOuter ltInt a b (a + 1) D = T := ⟨_, rfl⟩
  rw [hT]
  refine enterF Tryz.func132 rfl Tryz.ntmps132 rfl hw ?_
  refine WC.seq ?_
  refine WC.region ?_
  refine WL.y (Yl.move rfl) rfl ?_
  refine WL.y (Yl.add rfl rfl (IntWalk.i64_in _ (by omega))) rfl ?_
  refine WL.y (Yl.assign rfl) rfl ?_
  refine WL.nil ?_
  refine WC.block ?_
  refine WC.loop (α := Nat × Array Int) (fun p => [(0, v), (1, .int .i64 (a : Int)), (2, .int .i64 (b : Int)), (6, .int .i64 (p.1 : Int))]) (fun p => [ownR v 34 1 n (ints .u64 p.2.toList)]) (fun p => a < p.1 ∧ p.1 ≤ n + 1 ∧ p.2.size = n ∧ insOuter ltInt a b p.1 p.2 = T) (fun p => n + 1 - p.1) (a + 1, D) ⟨Nat.lt_succ_self _, by dsimp only; omega, hD, hT⟩ ⟨(by repeat' constructor), _, (by repeat' constructor)⟩ ?_
  rintro ⟨i, E⟩ ⟨hi, hin, hE, hTE⟩
  dsimp only at hi hin hE hTE ⊢
  refine WC.seq ?_
  refine WC.seq ?_
  refine WC.region ?_
  refine WL.y (Yl.move rfl) rfl ?_
  refine WL.y (Yl.move rfl) rfl ?_
  refine WL.y (Yl.lss rfl rfl) rfl ?_
  refine WL.nil ?_
  refine WC.condD rfl (fun g12 => ?_) (fun g12 => ?_)
  · refine WC.skip ?_
    refine WC.seq ?_
    refine WC.block ?_
    refine WC.seq ?_
    refine WC.region ?_
    refine WL.y (Yl.move rfl) rfl ?_
    refine WL.y (Yl.assign rfl) rfl ?_
    refine WL.nil ?_
    refine WC.block ?_
    have hib : i < b := by omega
    refine WC.loop (α := Nat × Array Int) (fun p => [(0, v), (1, .int .i64 (a : Int)), (2, .int .i64 (b : Int)), (6, .int .i64 (i : Int)), (7, .int .i64 (p.1 : Int))]) (fun p => [ownR v 34 1 n (ints .u64 p.2.toList)]) (fun p => p.1 ≤ i ∧ p.2.size = n ∧ insInner ltInt a p.1 p.2 = insInner ltInt a i E) (fun p => p.1) (i, E) ⟨Nat.le_refl _, hE, rfl⟩ ⟨(by repeat' constructor), _, (by repeat' constructor)⟩ ?_
    rintro ⟨j, G⟩ ⟨hj, hG, hTG⟩
    dsimp only at hj hG hTG ⊢
    refine WC.seq ?_
    refine WC.midX (α := Unit) (fun _ => [(0, v), (1, .int .i64 (a : Int)), (2, .int .i64 (b : Int)), (6, .int .i64 (i : Int)), (7, .int .i64 (j : Int)), (30, .bool (decide ((a : Int) < (j : Int)) && ltInt G[j]! G[j - 1]!))]) (fun _ => [ownR v 34 1 n (ints .u64 G.toList)]) (fun _ => True) ?_ ?_
    · refine WC.drawAny (Hs := [ownR v 34 1 n (ints .u64 G.toList)]) mixed (by kernel_rfl) ⟨_, (by repeat' constructor)⟩ ?_
      refine WD.tk 0 rfl (by kernel_rfl) rfl rfl (Yl.move rfl) rfl ?_
      refine WD.tk 1 rfl (by kernel_rfl) rfl rfl (Yl.move rfl) rfl ?_
      refine WD.tk 2 rfl (by kernel_rfl) rfl rfl (Yl.gtr rfl rfl) rfl ?_
      refine WD.tk 3 rfl (by kernel_rfl) rfl rfl (Yl.move rfl) rfl ?_
      refine WD.both (t := 19) rfl (fun g19 => ?_) (fun g19 => ?_)
      · have hja : a < j := by have := of_decide_eq_true g19; omega
        refine WD.takeOn 4 rfl (by kernel_rfl) (by kernel_rfl) (by kernel_rfl) rfl rfl rfl rfl (Yl.move rfl) rfl ?_
        refine WD.takeOn 5 rfl (by kernel_rfl) (by kernel_rfl) (by kernel_rfl) rfl rfl rfl rfl (Yl.move rfl) rfl ?_
        refine WD.takeOn 6 rfl (by kernel_rfl) (by kernel_rfl) (by kernel_rfl) rfl rfl rfl rfl (Yl.index un48 sz34 rfl rfl (Reads.own (by repeat constructor)) rfl (by omega)) rfl ?_
        refine WD.takeOn 7 rfl (by kernel_rfl) (by kernel_rfl) (by kernel_rfl) rfl rfl rfl rfl (Yl.loadE on34 rfl (Reads.own (by repeat constructor)) (so_getV (by omega))) rfl ?_
        refine WD.takeOn 8 rfl (by kernel_rfl) (by kernel_rfl) (by kernel_rfl) rfl rfl rfl rfl (Yl.move rfl) rfl ?_
        refine WD.takeOn 9 rfl (by kernel_rfl) (by kernel_rfl) (by kernel_rfl) rfl rfl rfl rfl (Yl.move rfl) rfl ?_
        refine WD.takeOn 10 rfl (by kernel_rfl) (by kernel_rfl) (by kernel_rfl) rfl rfl rfl rfl (Yl.sub rfl rfl (IntWalk.i64_in _ (by omega))) rfl ?_
        refine WD.say (t := 26) (v' := .int .i64 ((j - 1 : Nat) : Int)) rfl (by (refine congrArg _ ?_; omega)) ?_
        refine WD.takeOn 11 rfl (by kernel_rfl) (by kernel_rfl) (by kernel_rfl) rfl rfl rfl rfl (Yl.index un48 sz34 rfl rfl (Reads.own (by repeat constructor)) rfl (by omega)) rfl ?_
        refine WD.takeOn 12 rfl (by kernel_rfl) (by kernel_rfl) (by kernel_rfl) rfl rfl rfl rfl (Yl.loadE on34 rfl (Reads.own (by repeat constructor)) (so_getV (by omega))) rfl ?_
        refine WD.one 13 (by kernel_rfl) ?_
        refine WO.callC (xs := [.tmp 23, .tmp 28]) (cap := []) rfl (.on rfl rfl) rfl rfl en138 (by repeat' constructor) (fun w hw => lessV_any _ _ w hw.left.here) rfl (fun _ => ⟨_, (by repeat' constructor)⟩) ?_
        rintro ⟨⟩ -
        refine WD.tk 14 rfl (by kernel_rfl) rfl rfl (Yl.pickT rfl rfl) rfl ?_
        refine WD.say (t := 30) (v' := .bool (decide ((a : Int) < (j : Int)) && ltInt G[j]! G[j - 1]!)) rfl (by (rw [g19]; rfl)) ?_
        refine WD.done (by kernel_rfl) ?_
        exact ⟨rfl, (), trivial, (by repeat' constructor), _, (by repeat' constructor)⟩
      · refine WD.takeOff 4 rfl (by kernel_rfl) (by kernel_rfl) (by kernel_rfl) rfl rfl rfl rfl rfl rfl ?_
        refine WD.takeOff 5 rfl (by kernel_rfl) (by kernel_rfl) (by kernel_rfl) rfl rfl rfl rfl rfl rfl ?_
        refine WD.takeOff 6 rfl (by kernel_rfl) (by kernel_rfl) (by kernel_rfl) rfl rfl rfl rfl rfl rfl ?_
        refine WD.takeOff 7 rfl (by kernel_rfl) (by kernel_rfl) (by kernel_rfl) rfl rfl rfl rfl rfl rfl ?_
        refine WD.takeOff 8 rfl (by kernel_rfl) (by kernel_rfl) (by kernel_rfl) rfl rfl rfl rfl rfl rfl ?_
        refine WD.takeOff 9 rfl (by kernel_rfl) (by kernel_rfl) (by kernel_rfl) rfl rfl rfl rfl rfl rfl ?_
        refine WD.takeOff 10 rfl (by kernel_rfl) (by kernel_rfl) (by kernel_rfl) rfl rfl rfl rfl rfl rfl ?_
        refine WD.takeOff 11 rfl (by kernel_rfl) (by kernel_rfl) (by kernel_rfl) rfl rfl rfl rfl rfl rfl ?_
        refine WD.takeOff 12 rfl (by kernel_rfl) (by kernel_rfl) (by kernel_rfl) rfl rfl rfl rfl rfl rfl ?_
        refine WD.one 13 (by kernel_rfl) ?_
        refine WO.off rfl rfl rfl rfl rfl rfl rfl ?_
        refine WD.tk 14 rfl (by kernel_rfl) rfl rfl (Yl.pickF rfl rfl) rfl ?_
        refine WD.say (t := 30) (v' := .bool (decide ((a : Int) < (j : Int)) && ltInt G[j]! G[j - 1]!)) rfl (by (rw [g19]; rfl)) ?_
        refine WD.done (by kernel_rfl) ?_
        exact ⟨rfl, (), trivial, (by repeat' constructor), _, (by repeat' constructor)⟩
    · rintro ⟨⟩ -
      refine WC.cond rfl (fun g30 => ?_) (fun g30 => ?_)
      · refine WC.skip ?_
        refine WC.seq ?_
        refine WC.block ?_
        have hgo : a < j ∧ ltInt G[j]! G[j - 1]! = true := by
          rw [Bool.and_eq_true] at g30
          exact ⟨by have := of_decide_eq_true g30.1; omega, g30.2⟩
        obtain ⟨hja, hlt⟩ := hgo
        refine WC.drawAny (Hs := []) mixed (by kernel_rfl) ⟨_, (by repeat' constructor)⟩ ?_
        refine WD.tk 0 rfl (by kernel_rfl) rfl rfl (Yl.move rfl) rfl ?_
        refine WD.tk 1 rfl (by kernel_rfl) rfl rfl (Yl.move rfl) rfl ?_
        refine WD.tk 2 rfl (by kernel_rfl) rfl rfl (Yl.move rfl) rfl ?_
        refine WD.tk 3 rfl (by kernel_rfl) rfl rfl (Yl.move rfl) rfl ?_
        refine WD.tk 4 rfl (by kernel_rfl) rfl rfl (Yl.sub rfl rfl (IntWalk.i64_in _ (by omega))) rfl ?_
        refine WD.say (t := 37) (v' := .int .i64 ((j - 1 : Nat) : Int)) rfl (by (refine congrArg _ ?_; omega)) ?_
        refine WD.tk 5 rfl (by kernel_rfl) rfl rfl (Yl.move rfl) rfl ?_
        refine WD.tk 6 rfl (by kernel_rfl) rfl rfl (Yl.move rfl) rfl ?_
        refine WD.tk 7 rfl (by kernel_rfl) rfl rfl (Yl.sub rfl rfl (IntWalk.i64_in _ (by omega))) rfl ?_
        refine WD.say (t := 40) (v' := .int .i64 ((j - 1 : Nat) : Int)) rfl (by (refine congrArg _ ?_; omega)) ?_
        refine WD.tk 8 rfl (by kernel_rfl) rfl rfl (Yl.indexF un48 sz34 rfl rfl hF rfl (by omega)) rfl ?_
        refine WD.tk 10 rfl (by kernel_rfl) rfl rfl (Yl.move rfl) rfl ?_
        refine WD.tk 11 rfl (by kernel_rfl) rfl rfl (Yl.move rfl) rfl ?_
        refine WD.tk 12 rfl (by kernel_rfl) rfl rfl (Yl.indexF un48 sz34 rfl rfl hF rfl (by omega)) rfl ?_
        refine WD.two 9 13 (by kernel_rfl) ?_ ?_
        · refine WO.y rfl rfl .no (Yl.loadE on34 rfl (Reads.own (by repeat constructor)) (so_getV (by omega))) rfl ?_
          refine WD.one 13 (by kernel_rfl) ?_
          refine WO.y rfl rfl .no (Yl.loadE on34 rfl (Reads.own (by repeat constructor)) (so_getV (by omega))) rfl ?_
          refine WD.tk 14 rfl (by kernel_rfl) rfl rfl (Yl.indexF un48 sz34 rfl rfl hF rfl (by omega)) rfl ?_
          refine WD.one 15 (by kernel_rfl) ?_
          refine WO.sto rfl rfl .no (Sto.elem (j := j) sz34 rfl rfl (by repeat constructor) rfl (by omega) rfl) ⟨_, (by repeat' constructor)⟩ ?_
          refine WD.tk 16 rfl (by kernel_rfl) rfl rfl (Yl.indexF un48 sz34 rfl rfl hF rfl (by omega)) rfl ?_
          refine WD.one 17 (by kernel_rfl) ?_
          refine WO.sto rfl rfl .no (Sto.elem (j := j - 1) (cs' := ints .u64 (swp G j (j - 1)).toList) sz34 rfl rfl (by repeat constructor) rfl (by omega) (so_swpV G j (j - 1))) ⟨_, (by repeat' constructor)⟩ ?_
          refine WD.done (by kernel_rfl) ?_
          refine WC.region ?_
          refine WL.y (Yl.move rfl) rfl ?_
          refine WL.y (Yl.sub rfl rfl (IntWalk.i64_in _ (by omega))) rfl ?_
          refine WL.say (t := 32) (v' := .int .i64 ((j - 1 : Nat) : Int)) rfl (by (refine congrArg _ ?_; omega)) ?_
          refine WL.y (Yl.assign rfl) rfl ?_
          refine WL.nil ?_
          exact ⟨rfl, (j - 1, swp G j (j - 1)), ⟨by dsimp only; omega, by dsimp only; rw [swp_size]; exact hG, by dsimp only; rw [← ins_go hja hlt]; exact hTG⟩, by dsimp only; omega, (by repeat' constructor), _, (by repeat' constructor)⟩
        · refine WO.y rfl rfl .no (Yl.loadE on34 rfl (Reads.own (by repeat constructor)) (so_getV (by omega))) rfl ?_
          refine WD.one 9 (by kernel_rfl) ?_
          refine WO.y rfl rfl .no (Yl.loadE on34 rfl (Reads.own (by repeat constructor)) (so_getV (by omega))) rfl ?_
          refine WD.tk 14 rfl (by kernel_rfl) rfl rfl (Yl.indexF un48 sz34 rfl rfl hF rfl (by omega)) rfl ?_
          refine WD.one 15 (by kernel_rfl) ?_
          refine WO.sto rfl rfl .no (Sto.elem (j := j) sz34 rfl rfl (by repeat constructor) rfl (by omega) rfl) ⟨_, (by repeat' constructor)⟩ ?_
          refine WD.tk 16 rfl (by kernel_rfl) rfl rfl (Yl.indexF un48 sz34 rfl rfl hF rfl (by omega)) rfl ?_
          refine WD.one 17 (by kernel_rfl) ?_
          refine WO.sto rfl rfl .no (Sto.elem (j := j - 1) (cs' := ints .u64 (swp G j (j - 1)).toList) sz34 rfl rfl (by repeat constructor) rfl (by omega) (so_swpV G j (j - 1))) ⟨_, (by repeat' constructor)⟩ ?_
          refine WD.done (by kernel_rfl) ?_
          refine WC.region ?_
          refine WL.y (Yl.move rfl) rfl ?_
          refine WL.y (Yl.sub rfl rfl (IntWalk.i64_in _ (by omega))) rfl ?_
          refine WL.say (t := 32) (v' := .int .i64 ((j - 1 : Nat) : Int)) rfl (by (refine congrArg _ ?_; omega)) ?_
          refine WL.y (Yl.assign rfl) rfl ?_
          refine WL.nil ?_
          exact ⟨rfl, (j - 1, swp G j (j - 1)), ⟨by dsimp only; omega, by dsimp only; rw [swp_size]; exact hG, by dsimp only; rw [← ins_go hja hlt]; exact hTG⟩, by dsimp only; omega, (by repeat' constructor), _, (by repeat' constructor)⟩
      · refine WC.exit ?_
        have hst : insInner ltInt a j G = G := ins_stop (fun e => by
          have : (decide ((a : Int) < (j : Int)) && ltInt G[j]! G[j - 1]!) = true := by rw [Bool.and_eq_true]; exact ⟨decide_eq_true (by omega), e.2⟩
          rw [g30] at this
          cases this)
        refine WC.region ?_
        refine WL.y (Yl.move rfl) rfl ?_
        refine WL.y (Yl.add rfl rfl (IntWalk.i64_in _ (by omega))) rfl ?_
        refine WL.y (Yl.assign rfl) rfl ?_
        refine WL.nil ?_
        exact ⟨rfl, (i + 1, G), ⟨by dsimp only; omega, by dsimp only; omega, hG, by dsimp only; rw [← hTE, insOut_go hib, ← hTG, hst]⟩, by dsimp only; omega, (by repeat' constructor), _, (by repeat' constructor)⟩
  · refine WC.exit ?_
    repeat (with_reducible (first | refine peelT ?_ | refine peelB ?_ | refine peelTX ?_ | refine peelBX ?_ | refine peelBN ?_ | refine peelBO rfl ?_))
    have hib : ¬ i < b := by omega
    rw [insOut_stop hib] at hTE
    subst hTE
    exact ret0 (.inl rfl) Tryz.results132 fun w' h => ⟨(), trivial, rfl, h.sub (by repeat' constructor)⟩
end Go.Proofs.YtbgimajbehodnaaGreatDoor

namespace Go.Proofs.YtbgimajbehodnaaGreatDoor
open Go Go.RowKit Go.Sort

def chF (hi first root : Nat) (D : Array Int) : Nat := if decide (((2 * root + 2 : Nat) : Int) < (hi : Int)) && ltInt D[first + (2 * root + 1)]! D[first + (2 * root + 2)]! then 2 * root + 2 else 2 * root + 1
theorem chF_in {hi first root : Nat} {D : Array Int} (h : 2 * root + 1 < hi) : chF hi first root D < hi ∧ root < chF hi first root D ∧ chF hi first root D ≤ 2 * root + 2 := by
  unfold chF
  split
  · rename_i e
    rw [Bool.and_eq_true] at e
    have := of_decide_eq_true e.1
    omega
  · omega
theorem sift_stop1 {hi first root : Nat} {D : Array Int} (h : ¬ 2 * root + 1 < hi) : siftDown ltInt hi first root D = D := by rw [siftDown, dif_pos (by omega)]
theorem chF_T {hi first root : Nat} {D : Array Int} (h : (decide (2 * root + 1 + 1 < hi) && ltInt D[first + (2 * root + 1)]! D[first + (2 * root + 1) + 1]!) = true) : chF hi first root D = 2 * root + 2 := by
  unfold chF
  rw [Bool.and_eq_true] at h
  rw [if_pos]
  rw [Bool.and_eq_true]
  exact ⟨decide_eq_true (by have := of_decide_eq_true h.1; omega), h.2⟩
theorem chF_F {hi first root : Nat} {D : Array Int} (h : ¬ (decide (2 * root + 1 + 1 < hi) && ltInt D[first + (2 * root + 1)]! D[first + (2 * root + 1) + 1]!) = true) : chF hi first root D = 2 * root + 1 := by
  unfold chF
  rw [if_neg]
  intro e
  rw [Bool.and_eq_true] at e
  exact h (by rw [Bool.and_eq_true]; exact ⟨decide_eq_true (by have := of_decide_eq_true e.1; omega), e.2⟩)
theorem sift_stop2 {hi first root : Nat} {D : Array Int} (h : 2 * root + 1 < hi) (hl : ltInt D[first + root]! D[first + chF hi first root D]! = false) : siftDown ltInt hi first root D = D := by
  rw [siftDown, dif_neg (by omega)]
  split
  · rename_i e
    rw [chF_T e] at hl
    rw [if_pos (by rw [hl]; rfl)]
  · rename_i e
    rw [chF_F e] at hl
    rw [if_pos (by rw [hl]; rfl)]
theorem sift_go {hi first root : Nat} {D : Array Int} (h : 2 * root + 1 < hi) (hl : ltInt D[first + root]! D[first + chF hi first root D]! = true) : siftDown ltInt hi first root D = siftDown ltInt hi first (chF hi first root D) (swp D (first + root) (first + chF hi first root D)) := by
  have hc := chF_in (first := first) (D := D) h
  rw [siftDown, dif_neg (by omega)]
  split
  · rename_i e
    rw [chF_T e] at hl hc ⊢
    rw [if_neg (by rw [hl]; decide), dif_pos hc.1]
  · rename_i e
    rw [chF_F e] at hl hc ⊢
    rw [if_neg (by rw [hl]; decide)]

set_option maxRecDepth 100000 in
theorem siftV_any (v : Value) (n : Nat) (D : Array Int) (lo hi first : Nat) (hD : D.size = n) (hn : n ≤ 1099511627776) (hlo : lo ≤ n) (hfi : first + hi ≤ n) (w : World) (hw : OK w (fpL [ownR v 34 1 n (ints .u64 D.toList)]) [ownR v 34 1 n (ints .u64 D.toList)] w) :
    Fn Tryz.prog 173 [v, .int .i64 (lo : Int), .int .i64 (hi : Int), .int .i64 (first : Int)] [ownR v 34 1 n (ints .u64 D.toList)] w (fun _ : Unit => True) (fun _ => .tuple #[]) (fun _ => [ownR v 34 1 n (ints .u64 (siftDown ltInt hi first lo D).toList)]) := by
  have hF := sl_form (hw.get (r := ownR v 34 1 n (ints .u64 D.toList)) .head)
  obtain ⟨T, hT⟩ : ∃ T, siftDown ltInt hi first lo D = T := ⟨_, rfl⟩
  rw [hT]
  refine enterF Tryz.func173 rfl Tryz.ntmps173 rfl hw ?_
  refine WC.seq ?_
  refine WC.region ?_
  refine WL.y (Yl.move rfl) rfl ?_
  refine WL.y (Yl.assign rfl) rfl ?_
  refine WL.nil ?_
  refine WC.block ?_
  refine WC.loop (α := Nat × Array Int) (fun p => [(0, v), (2, .int .i64 (hi : Int)), (3, .int .i64 (first : Int)), (8, .int .i64 (p.1 : Int))]) (fun p => [ownR v 34 1 n (ints .u64 p.2.toList)]) (fun p => p.1 ≤ n ∧ p.2.size = n ∧ siftDown ltInt hi first p.1 p.2 = T) (fun p => hi - p.1) (lo, D) ⟨hlo, hD, hT⟩ ⟨(by repeat' constructor), _, (by repeat' constructor)⟩ ?_
  rintro ⟨root, G⟩ ⟨hr, hG, hTG⟩
  dsimp only at hr hG hTG ⊢
  refine WC.block ?_
  refine WC.seq ?_
  refine WC.region ?_
  refine WL.y (Yl.move rfl) rfl ?_
  refine WL.y (Yl.mul rfl rfl (IntWalk.i64_in _ (by omega))) rfl ?_
  refine WL.y (Yl.add rfl rfl (IntWalk.i64_in _ (by omega))) rfl ?_
  refine WL.say (t := 13) (v' := .int .i64 ((2 * root + 1 : Nat) : Int)) rfl (by (refine congrArg _ ?_; omega)) ?_
  refine WL.y (Yl.assign rfl) rfl ?_
  refine WL.nil ?_
  refine WC.seq ?_
  refine WC.seq ?_
  refine WC.region ?_
  refine WL.y (Yl.move rfl) rfl ?_
  refine WL.y (Yl.move rfl) rfl ?_
  refine WL.y (Yl.geq rfl rfl) rfl ?_
  refine WL.nil ?_
  refine WC.condD rfl (fun g16 => ?_) (fun g16 => ?_)
  · refine WC.exit ?_
    repeat (with_reducible (first | refine peelT ?_ | refine peelB ?_ | refine peelTX ?_ | refine peelBX ?_ | refine peelBN ?_ | refine peelBO rfl ?_))
    have hst : siftDown ltInt hi first root G = G := sift_stop1 (by omega)
    rw [hst] at hTG
    subst hTG
    exact ret0 (.inl rfl) Tryz.results173 fun w' h => ⟨(), trivial, rfl, h.sub (by repeat' constructor)⟩
  · refine WC.skip ?_
    refine WC.midX (α := Unit) (fun _ => [(0, v), (2, .int .i64 (hi : Int)), (3, .int .i64 (first : Int)), (8, .int .i64 (root : Int)), (9, .int .i64 ((chF hi first root G : Nat) : Int))]) (fun _ => [ownR v 34 1 n (ints .u64 G.toList)]) (fun _ => True) ?_ ?_
    · refine WC.seq ?_
      have hch : 2 * root + 1 < hi := by omega
      refine WC.drawAny (Hs := [ownR v 34 1 n (ints .u64 G.toList)]) mixed (by kernel_rfl) ⟨_, (by repeat' constructor)⟩ ?_
      refine WD.tk 0 rfl (by kernel_rfl) rfl rfl (Yl.move rfl) rfl ?_
      refine WD.tk 1 rfl (by kernel_rfl) rfl rfl (Yl.add rfl rfl (IntWalk.i64_in _ (by omega))) rfl ?_
      refine WD.say (t := 18) (v' := .int .i64 ((2 * root + 2 : Nat) : Int)) rfl (by (refine congrArg _ ?_; omega)) ?_
      refine WD.tk 2 rfl (by kernel_rfl) rfl rfl (Yl.move rfl) rfl ?_
      refine WD.tk 3 rfl (by kernel_rfl) rfl rfl (Yl.lss rfl rfl) rfl ?_
      refine WD.tk 4 rfl (by kernel_rfl) rfl rfl (Yl.move rfl) rfl ?_
      refine WD.both (t := 21) rfl (fun g21 => ?_) (fun g21 => ?_)
      · have h21 : 2 * root + 2 < hi := by have := of_decide_eq_true g21; omega
        refine WD.takeOn 5 rfl (by kernel_rfl) (by kernel_rfl) (by kernel_rfl) rfl rfl rfl rfl (Yl.move rfl) rfl ?_
        refine WD.takeOn 6 rfl (by kernel_rfl) (by kernel_rfl) (by kernel_rfl) rfl rfl rfl rfl (Yl.move rfl) rfl ?_
        refine WD.takeOn 7 rfl (by kernel_rfl) (by kernel_rfl) (by kernel_rfl) rfl rfl rfl rfl (Yl.move rfl) rfl ?_
        refine WD.takeOn 8 rfl (by kernel_rfl) (by kernel_rfl) (by kernel_rfl) rfl rfl rfl rfl (Yl.add rfl rfl (IntWalk.i64_in _ (by omega))) rfl ?_
        refine WD.say (t := 25) (v' := .int .i64 ((first + (2 * root + 1) : Nat) : Int)) rfl (by (refine congrArg _ ?_; omega)) ?_
        refine WD.takeOn 9 rfl (by kernel_rfl) (by kernel_rfl) (by kernel_rfl) rfl rfl rfl rfl (Yl.indexF un48 sz34 rfl rfl hF rfl (by omega)) rfl ?_
        refine WD.takeOn 10 rfl (by kernel_rfl) (by kernel_rfl) (by kernel_rfl) rfl rfl rfl rfl (Yl.loadE on34 rfl (Reads.own (by repeat constructor)) (so_getV (by omega))) rfl ?_
        refine WD.takeOn 11 rfl (by kernel_rfl) (by kernel_rfl) (by kernel_rfl) rfl rfl rfl rfl (Yl.move rfl) rfl ?_
        refine WD.takeOn 12 rfl (by kernel_rfl) (by kernel_rfl) (by kernel_rfl) rfl rfl rfl rfl (Yl.move rfl) rfl ?_
        refine WD.takeOn 13 rfl (by kernel_rfl) (by kernel_rfl) (by kernel_rfl) rfl rfl rfl rfl (Yl.move rfl) rfl ?_
        refine WD.takeOn 14 rfl (by kernel_rfl) (by kernel_rfl) (by kernel_rfl) rfl rfl rfl rfl (Yl.add rfl rfl (IntWalk.i64_in _ (by omega))) rfl ?_
        refine WD.say (t := 31) (v' := .int .i64 ((first + (2 * root + 1) : Nat) : Int)) rfl (by (refine congrArg _ ?_; omega)) ?_
        refine WD.takeOn 15 rfl (by kernel_rfl) (by kernel_rfl) (by kernel_rfl) rfl rfl rfl rfl (Yl.add rfl rfl (IntWalk.i64_in _ (by omega))) rfl ?_
        refine WD.say (t := 32) (v' := .int .i64 ((first + (2 * root + 2) : Nat) : Int)) rfl (by (refine congrArg _ ?_; omega)) ?_
        refine WD.takeOn 16 rfl (by kernel_rfl) (by kernel_rfl) (by kernel_rfl) rfl rfl rfl rfl (Yl.indexF un48 sz34 rfl rfl hF rfl (by omega)) rfl ?_
        refine WD.takeOn 17 rfl (by kernel_rfl) (by kernel_rfl) (by kernel_rfl) rfl rfl rfl rfl (Yl.loadE on34 rfl (Reads.own (by repeat constructor)) (so_getV (by omega))) rfl ?_
        refine WD.one 18 (by kernel_rfl) ?_
        refine WO.callC (xs := [.tmp 27, .tmp 34]) (cap := []) rfl (.on rfl rfl) rfl rfl en138 (by repeat' constructor) (fun w hw => lessV_any _ _ w hw.left.here) rfl (fun _ => ⟨_, (by repeat' constructor)⟩) ?_
        rintro ⟨⟩ -
        refine WD.tk 19 rfl (by kernel_rfl) rfl rfl (Yl.pickT rfl rfl) rfl ?_
        refine WD.say (t := 36) (v' := .bool (decide (((2 * root + 2 : Nat) : Int) < (hi : Int)) && ltInt G[first + (2 * root + 1)]! G[first + (2 * root + 2)]!)) rfl (by (rw [g21]; rfl)) ?_
        refine WD.done (by kernel_rfl) ?_
        refine WC.cond rfl (fun g36 => ?_) (fun g36 => ?_)
        · refine WC.region ?_
          refine WL.y (Yl.move rfl) rfl ?_
          refine WL.y (Yl.add rfl rfl (IntWalk.i64_in _ (by omega))) rfl ?_
          refine WL.say (t := 38) (v' := .int .i64 ((2 * root + 2 : Nat) : Int)) rfl (by (refine congrArg _ ?_; omega)) ?_
          refine WL.y (Yl.assign rfl) rfl ?_
          refine WL.nil ?_
          first
          | (rw [show chF hi first root G = 2 * root + 2 from if_pos g36]; exact ⟨rfl, (), trivial, (by repeat' constructor), _, (by repeat' constructor)⟩)
          | (rw [show chF hi first root G = 2 * root + 1 from if_neg (ne_true_of_eq_false g36)]; exact ⟨rfl, (), trivial, (by repeat' constructor), _, (by repeat' constructor)⟩)
        · refine WC.skip ?_
          first
          | (rw [show chF hi first root G = 2 * root + 2 from if_pos g36]; exact ⟨rfl, (), trivial, (by repeat' constructor), _, (by repeat' constructor)⟩)
          | (rw [show chF hi first root G = 2 * root + 1 from if_neg (ne_true_of_eq_false g36)]; exact ⟨rfl, (), trivial, (by repeat' constructor), _, (by repeat' constructor)⟩)
      · refine WD.takeOff 5 rfl (by kernel_rfl) (by kernel_rfl) (by kernel_rfl) rfl rfl rfl rfl rfl rfl ?_
        refine WD.takeOff 6 rfl (by kernel_rfl) (by kernel_rfl) (by kernel_rfl) rfl rfl rfl rfl rfl rfl ?_
        refine WD.takeOff 7 rfl (by kernel_rfl) (by kernel_rfl) (by kernel_rfl) rfl rfl rfl rfl rfl rfl ?_
        refine WD.takeOff 8 rfl (by kernel_rfl) (by kernel_rfl) (by kernel_rfl) rfl rfl rfl rfl rfl rfl ?_
        refine WD.takeOff 9 rfl (by kernel_rfl) (by kernel_rfl) (by kernel_rfl) rfl rfl rfl rfl rfl rfl ?_
        refine WD.takeOff 10 rfl (by kernel_rfl) (by kernel_rfl) (by kernel_rfl) rfl rfl rfl rfl rfl rfl ?_
        refine WD.takeOff 11 rfl (by kernel_rfl) (by kernel_rfl) (by kernel_rfl) rfl rfl rfl rfl rfl rfl ?_
        refine WD.takeOff 12 rfl (by kernel_rfl) (by kernel_rfl) (by kernel_rfl) rfl rfl rfl rfl rfl rfl ?_
        refine WD.takeOff 13 rfl (by kernel_rfl) (by kernel_rfl) (by kernel_rfl) rfl rfl rfl rfl rfl rfl ?_
        refine WD.takeOff 14 rfl (by kernel_rfl) (by kernel_rfl) (by kernel_rfl) rfl rfl rfl rfl rfl rfl ?_
        refine WD.takeOff 15 rfl (by kernel_rfl) (by kernel_rfl) (by kernel_rfl) rfl rfl rfl rfl rfl rfl ?_
        refine WD.takeOff 16 rfl (by kernel_rfl) (by kernel_rfl) (by kernel_rfl) rfl rfl rfl rfl rfl rfl ?_
        refine WD.takeOff 17 rfl (by kernel_rfl) (by kernel_rfl) (by kernel_rfl) rfl rfl rfl rfl rfl rfl ?_
        refine WD.one 18 (by kernel_rfl) ?_
        refine WO.off rfl rfl rfl rfl rfl rfl rfl ?_
        refine WD.tk 19 rfl (by kernel_rfl) rfl rfl (Yl.pickF rfl rfl) rfl ?_
        refine WD.say (t := 36) (v' := .bool (decide (((2 * root + 2 : Nat) : Int) < (hi : Int)) && ltInt G[first + (2 * root + 1)]! G[first + (2 * root + 2)]!)) rfl (by (rw [g21]; rfl)) ?_
        refine WD.done (by kernel_rfl) ?_
        refine WC.cond rfl (fun g36 => ?_) (fun g36 => ?_)
        · refine WC.region ?_
          refine WL.y (Yl.move rfl) rfl ?_
          refine WL.y (Yl.add rfl rfl (IntWalk.i64_in _ (by omega))) rfl ?_
          refine WL.say (t := 38) (v' := .int .i64 ((2 * root + 2 : Nat) : Int)) rfl (by (refine congrArg _ ?_; omega)) ?_
          refine WL.y (Yl.assign rfl) rfl ?_
          refine WL.nil ?_
          first
          | (rw [show chF hi first root G = 2 * root + 2 from if_pos g36]; exact ⟨rfl, (), trivial, (by repeat' constructor), _, (by repeat' constructor)⟩)
          | (rw [show chF hi first root G = 2 * root + 1 from if_neg (ne_true_of_eq_false g36)]; exact ⟨rfl, (), trivial, (by repeat' constructor), _, (by repeat' constructor)⟩)
        · refine WC.skip ?_
          first
          | (rw [show chF hi first root G = 2 * root + 2 from if_pos g36]; exact ⟨rfl, (), trivial, (by repeat' constructor), _, (by repeat' constructor)⟩)
          | (rw [show chF hi first root G = 2 * root + 1 from if_neg (ne_true_of_eq_false g36)]; exact ⟨rfl, (), trivial, (by repeat' constructor), _, (by repeat' constructor)⟩)
    · rintro ⟨⟩ -
      have hch : 2 * root + 1 < hi := by omega
      obtain ⟨hc1, hc2, hc3⟩ := chF_in (first := first) (D := G) hch
      have hs2 := sift_stop2 (first := first) (D := G) hch
      have hg2 := sift_go (first := first) (D := G) hch
      obtain ⟨ch, hce⟩ : ∃ ch, chF hi first root G = ch := ⟨_, rfl⟩
      rw [hce] at hc1 hc2 hc3 hs2 hg2 ⊢
      refine WC.seq ?_
      refine WC.seq ?_
      refine WC.drawAny (Hs := [ownR v 34 1 n (ints .u64 G.toList)]) mixed (by kernel_rfl) ⟨_, (by repeat' constructor)⟩ ?_
      refine WD.tk 0 rfl (by kernel_rfl) rfl rfl (Yl.move rfl) rfl ?_
      refine WD.tk 1 rfl (by kernel_rfl) rfl rfl (Yl.move rfl) rfl ?_
      refine WD.tk 2 rfl (by kernel_rfl) rfl rfl (Yl.move rfl) rfl ?_
      refine WD.tk 3 rfl (by kernel_rfl) rfl rfl (Yl.add rfl rfl (IntWalk.i64_in _ (by omega))) rfl ?_
      refine WD.say (t := 42) (v' := .int .i64 ((first + root : Nat) : Int)) rfl (by (refine congrArg _ ?_; omega)) ?_
      refine WD.tk 4 rfl (by kernel_rfl) rfl rfl (Yl.indexF un48 sz34 rfl rfl hF rfl (by omega)) rfl ?_
      refine WD.tk 5 rfl (by kernel_rfl) rfl rfl (Yl.loadE on34 rfl (Reads.own (by repeat constructor)) (so_getV (by omega))) rfl ?_
      refine WD.tk 6 rfl (by kernel_rfl) rfl rfl (Yl.move rfl) rfl ?_
      refine WD.tk 7 rfl (by kernel_rfl) rfl rfl (Yl.move rfl) rfl ?_
      refine WD.tk 8 rfl (by kernel_rfl) rfl rfl (Yl.move rfl) rfl ?_
      refine WD.tk 9 rfl (by kernel_rfl) rfl rfl (Yl.add rfl rfl (IntWalk.i64_in _ (by omega))) rfl ?_
      refine WD.say (t := 48) (v' := .int .i64 ((first + ch : Nat) : Int)) rfl (by (refine congrArg _ ?_; omega)) ?_
      refine WD.tk 10 rfl (by kernel_rfl) rfl rfl (Yl.indexF un48 sz34 rfl rfl hF rfl (by omega)) rfl ?_
      refine WD.tk 11 rfl (by kernel_rfl) rfl rfl (Yl.loadE on34 rfl (Reads.own (by repeat constructor)) (so_getV (by omega))) rfl ?_
      refine WD.one 12 (by kernel_rfl) ?_
      refine WO.callC (xs := [.tmp 44, .tmp 50]) (cap := []) rfl .no rfl rfl en138 (by repeat' constructor) (fun w hw => lessV_any _ _ w hw.left.here) rfl (fun _ => ⟨_, (by repeat' constructor)⟩) ?_
      rintro ⟨⟩ -
      refine WD.tk 13 rfl (by kernel_rfl) rfl rfl (Yl.not rfl) rfl ?_
      refine WD.done (by kernel_rfl) ?_
      refine WC.cond rfl (fun g52 => ?_) (fun g52 => ?_)
      · refine WC.ret ?_
        repeat (with_reducible (first | refine peelT ?_ | refine peelB ?_ | refine peelTX ?_ | refine peelBX ?_ | refine peelBN ?_ | refine peelBO rfl ?_))
        rw [hs2 (by simpa using g52)] at hTG
        subst hTG
        exact ret0 (.inr rfl) Tryz.results173 fun w' h => ⟨(), trivial, rfl, h.sub (by repeat' constructor)⟩
      · refine WC.skip ?_
        refine WC.seq ?_
        refine WC.drawAny (Hs := []) mixed (by kernel_rfl) ⟨_, (by repeat' constructor)⟩ ?_
        refine WD.tk 0 rfl (by kernel_rfl) rfl rfl (Yl.move rfl) rfl ?_
        refine WD.tk 1 rfl (by kernel_rfl) rfl rfl (Yl.move rfl) rfl ?_
        refine WD.tk 2 rfl (by kernel_rfl) rfl rfl (Yl.move rfl) rfl ?_
        refine WD.tk 3 rfl (by kernel_rfl) rfl rfl (Yl.add rfl rfl (IntWalk.i64_in _ (by omega))) rfl ?_
        refine WD.say (t := 56) (v' := .int .i64 ((first + root : Nat) : Int)) rfl (by (refine congrArg _ ?_; omega)) ?_
        refine WD.tk 4 rfl (by kernel_rfl) rfl rfl (Yl.move rfl) rfl ?_
        refine WD.tk 5 rfl (by kernel_rfl) rfl rfl (Yl.move rfl) rfl ?_
        refine WD.tk 6 rfl (by kernel_rfl) rfl rfl (Yl.move rfl) rfl ?_
        refine WD.tk 7 rfl (by kernel_rfl) rfl rfl (Yl.add rfl rfl (IntWalk.i64_in _ (by omega))) rfl ?_
        refine WD.say (t := 60) (v' := .int .i64 ((first + ch : Nat) : Int)) rfl (by (refine congrArg _ ?_; omega)) ?_
        refine WD.tk 8 rfl (by kernel_rfl) rfl rfl (Yl.move rfl) rfl ?_
        refine WD.tk 9 rfl (by kernel_rfl) rfl rfl (Yl.move rfl) rfl ?_
        refine WD.tk 10 rfl (by kernel_rfl) rfl rfl (Yl.move rfl) rfl ?_
        refine WD.tk 11 rfl (by kernel_rfl) rfl rfl (Yl.add rfl rfl (IntWalk.i64_in _ (by omega))) rfl ?_
        refine WD.say (t := 64) (v' := .int .i64 ((first + ch : Nat) : Int)) rfl (by (refine congrArg _ ?_; omega)) ?_
        refine WD.tk 12 rfl (by kernel_rfl) rfl rfl (Yl.indexF un48 sz34 rfl rfl hF rfl (by omega)) rfl ?_
        refine WD.tk 14 rfl (by kernel_rfl) rfl rfl (Yl.move rfl) rfl ?_
        refine WD.tk 15 rfl (by kernel_rfl) rfl rfl (Yl.move rfl) rfl ?_
        refine WD.tk 16 rfl (by kernel_rfl) rfl rfl (Yl.move rfl) rfl ?_
        refine WD.tk 17 rfl (by kernel_rfl) rfl rfl (Yl.add rfl rfl (IntWalk.i64_in _ (by omega))) rfl ?_
        refine WD.say (t := 70) (v' := .int .i64 ((first + root : Nat) : Int)) rfl (by (refine congrArg _ ?_; omega)) ?_
        refine WD.tk 18 rfl (by kernel_rfl) rfl rfl (Yl.indexF un48 sz34 rfl rfl hF rfl (by omega)) rfl ?_
        refine WD.two 13 19 (by kernel_rfl) ?_ ?_
        · refine WO.y rfl rfl .no (Yl.loadE on34 rfl (Reads.own (by repeat constructor)) (so_getV (by omega))) rfl ?_
          refine WD.one 19 (by kernel_rfl) ?_
          refine WO.y rfl rfl .no (Yl.loadE on34 rfl (Reads.own (by repeat constructor)) (so_getV (by omega))) rfl ?_
          refine WD.tk 20 rfl (by kernel_rfl) rfl rfl (Yl.indexF un48 sz34 rfl rfl hF rfl (by omega)) rfl ?_
          refine WD.one 21 (by kernel_rfl) ?_
          refine WO.sto rfl rfl .no (Sto.elem (j := first + root) sz34 rfl rfl (by repeat constructor) rfl (by omega) rfl) ⟨_, (by repeat' constructor)⟩ ?_
          refine WD.tk 22 rfl (by kernel_rfl) rfl rfl (Yl.indexF un48 sz34 rfl rfl hF rfl (by omega)) rfl ?_
          refine WD.one 23 (by kernel_rfl) ?_
          refine WO.sto rfl rfl .no (Sto.elem (j := first + ch) (cs' := ints .u64 (swp G (first + root) (first + ch)).toList) sz34 rfl rfl (by repeat constructor) rfl (by omega) (so_swpV G (first + root) (first + ch))) ⟨_, (by repeat' constructor)⟩ ?_
          refine WD.done (by kernel_rfl) ?_
          refine WC.region ?_
          refine WL.y (Yl.move rfl) rfl ?_
          refine WL.y (Yl.assign rfl) rfl ?_
          refine WL.nil ?_
          rw [hg2 (by simpa using g52)] at hTG
          exact ⟨rfl, (ch, swp G (first + root) (first + ch)), ⟨by dsimp only; omega, by dsimp only; rw [swp_size]; exact hG, hTG⟩, by dsimp only; omega, (by repeat' constructor), _, (by repeat' constructor)⟩
        · refine WO.y rfl rfl .no (Yl.loadE on34 rfl (Reads.own (by repeat constructor)) (so_getV (by omega))) rfl ?_
          refine WD.one 13 (by kernel_rfl) ?_
          refine WO.y rfl rfl .no (Yl.loadE on34 rfl (Reads.own (by repeat constructor)) (so_getV (by omega))) rfl ?_
          refine WD.tk 20 rfl (by kernel_rfl) rfl rfl (Yl.indexF un48 sz34 rfl rfl hF rfl (by omega)) rfl ?_
          refine WD.one 21 (by kernel_rfl) ?_
          refine WO.sto rfl rfl .no (Sto.elem (j := first + root) sz34 rfl rfl (by repeat constructor) rfl (by omega) rfl) ⟨_, (by repeat' constructor)⟩ ?_
          refine WD.tk 22 rfl (by kernel_rfl) rfl rfl (Yl.indexF un48 sz34 rfl rfl hF rfl (by omega)) rfl ?_
          refine WD.one 23 (by kernel_rfl) ?_
          refine WO.sto rfl rfl .no (Sto.elem (j := first + ch) (cs' := ints .u64 (swp G (first + root) (first + ch)).toList) sz34 rfl rfl (by repeat constructor) rfl (by omega) (so_swpV G (first + root) (first + ch))) ⟨_, (by repeat' constructor)⟩ ?_
          refine WD.done (by kernel_rfl) ?_
          refine WC.region ?_
          refine WL.y (Yl.move rfl) rfl ?_
          refine WL.y (Yl.assign rfl) rfl ?_
          refine WL.nil ?_
          rw [hg2 (by simpa using g52)] at hTG
          exact ⟨rfl, (ch, swp G (first + root) (first + ch)), ⟨by dsimp only; omega, by dsimp only; rw [swp_size]; exact hG, hTG⟩, by dsimp only; omega, (by repeat' constructor), _, (by repeat' constructor)⟩
theorem sift_size (hi first root : Nat) (D : Array Int) : (siftDown ltInt hi first root D).size = D.size := by
  induction h : hi - root using Nat.strongRecOn generalizing root D with
  | ind m ih =>
    by_cases h1 : 2 * root + 1 < hi
    · by_cases h2 : ltInt D[first + root]! D[first + chF hi first root D]! = true
      · rw [sift_go h1 h2, ih (hi - chF hi first root D) (by have := chF_in (first := first) (D := D) h1; omega) _ _ rfl, swp_size]
      · rw [sift_stop2 h1 (by simpa using h2)]
    · rw [sift_stop1 h1]
end Go.Proofs.YtbgimajbehodnaaGreatDoor

namespace Go.Proofs.YtbgimajbehodnaaGreatDoor
open Go Go.RowKit Go.Sort

theorem half_in {h : Nat} (hh : h ≤ 1099511627776) : IntKind.i64.wrap (((h : Int) - 1).tdiv 2) = (((h - 1) / 2 + 1 : Nat) : Int) - 1 := by
  cases h with
  | zero => decide
  | succ h =>
    rw [Int.tdiv_eq_ediv_of_nonneg (by omega), IntWalk.i64_in _ (by omega)]
    omega
theorem hb_size (hi first : Nat) : ∀ (k : Nat) (D : Array Int), (heapBuild ltInt hi first k D).size = D.size
  | 0, D => rfl
  | k + 1, D => by rw [heapBuild, hb_size hi first k, sift_size]
set_option maxRecDepth 100000 in
theorem heapV_any (v : Value) (n : Nat) (D : Array Int) (a b : Nat) (hD : D.size = n) (hn : n ≤ 1099511627776) (hab : a ≤ b) (hb : b ≤ n) (w : World) (hw : OK w (fpL [ownR v 34 1 n (ints .u64 D.toList)]) [ownR v 34 1 n (ints .u64 D.toList)] w) :
    Fn Tryz.prog 133 [v, .int .i64 (a : Int), .int .i64 (b : Int)] [ownR v 34 1 n (ints .u64 D.toList)] w (fun _ : Unit => True) (fun _ => .tuple #[]) (fun _ => [ownR v 34 1 n (ints .u64 (heapSort ltInt D a b).toList)]) := by
  have hF := sl_form (hw.get (r := ownR v 34 1 n (ints .u64 D.toList)) .head)
  unfold heapSort
  obtain ⟨H, hH⟩ : ∃ H, b - a = H := ⟨_, rfl⟩
  rw [hH]
  obtain ⟨B, hBe⟩ : ∃ B, heapBuild ltInt H a ((H - 1) / 2 + 1) D = B := ⟨_, rfl⟩
  have hBs : B.size = n := by rw [← hBe, hb_size, hD]
  obtain ⟨T, hT⟩ : ∃ T, heapPop ltInt a H B = T := ⟨_, rfl⟩
  rw [hBe, hT]
  refine enterF Tryz.func133 rfl Tryz.ntmps133 rfl hw ?_
  refine WC.seq ?_
  refine WC.region ?_
  refine WL.y (Yl.move rfl) rfl ?_
  refine WL.y (Yl.assign rfl) rfl ?_
  refine WL.nil ?_
  refine WC.seq ?_
  refine WC.region ?_
  refine WL.y (Yl.assign rfl) rfl ?_
  refine WL.nil ?_
  refine WC.seq ?_
  refine WC.region ?_
  refine WL.y (Yl.move rfl) rfl ?_
  refine WL.y (Yl.move rfl) rfl ?_
  refine WL.y (Yl.sub rfl rfl (IntWalk.i64_in _ (by omega))) rfl ?_
  refine WL.say (t := 14) (v' := .int .i64 (H : Int)) rfl (by (refine congrArg _ ?_; omega)) ?_
  refine WL.y (Yl.assign rfl) rfl ?_
  refine WL.nil ?_
  refine WC.seq ?_
  refine WC.seq ?_
  refine WC.region ?_
  refine WL.y (Yl.move rfl) rfl ?_
  refine WL.y (Yl.sub rfl rfl (IntWalk.i64_in _ (by omega))) rfl ?_
  refine WL.y (Yl.quo rfl rfl (by omega) (half_in (by omega))) rfl ?_
  refine WL.y (Yl.assign rfl) rfl ?_
  refine WL.nil ?_
  refine WC.block ?_
  refine WC.loop (α := Nat × Array Int) (fun p => [(0, v), (6, .int .i64 (a : Int)), (7, .int .i64 0), (8, .int .i64 (H : Int)), (9, .int .i64 ((p.1 : Int) - 1))]) (fun p => [ownR v 34 1 n (ints .u64 p.2.toList)]) (fun p => p.1 ≤ (H - 1) / 2 + 1 ∧ p.2.size = n ∧ heapBuild ltInt H a p.1 p.2 = B) (fun p => p.1) ((H - 1) / 2 + 1, D) ⟨Nat.le_refl _, hD, hBe⟩ ⟨(by repeat' constructor), _, (by repeat' constructor)⟩ ?_
  rintro ⟨k, G⟩ ⟨hk, hG, hTG⟩
  dsimp only at hk hG hTG ⊢
  refine WC.seq ?_
  refine WC.seq ?_
  refine WC.region ?_
  refine WL.y (Yl.move rfl) rfl ?_
  refine WL.y (Yl.geq rfl rfl) rfl ?_
  refine WL.nil ?_
  refine WC.condD rfl (fun g19 => ?_) (fun g19 => ?_)
  · refine WC.skip ?_
    refine WC.seq ?_
    refine WC.block ?_
    obtain ⟨k, rfl⟩ : ∃ k', k = k' + 1 := ⟨k - 1, by omega⟩
    have hsz := sift_size H a k G
    refine WC.region ?_
    refine WL.y (Yl.move rfl) rfl ?_
    refine WL.y (Yl.move rfl) rfl ?_
    refine WL.say (t := 23) (v' := .int .i64 (k : Int)) rfl (by (refine congrArg _ ?_; omega)) ?_
    refine WL.y (Yl.move rfl) rfl ?_
    refine WL.y (Yl.move rfl) rfl ?_
    refine WL.callC (xs := [.tmp 22, .tmp 23, .tmp 24, .tmp 25]) (cap := []) rfl rfl en173 (by repeat' constructor) (fun w hw => siftV_any v n G k H a hG hn (by omega) (by omega) w hw.left.here) rfl ?_
    rintro ⟨⟩ -
    dsimp only [List.cons_append, List.nil_append]
    refine WL.nil ?_
    refine WC.region ?_
    refine WL.y (Yl.move rfl) rfl ?_
    refine WL.y (Yl.sub rfl rfl (IntWalk.i64_in _ (by omega))) rfl ?_
    refine WL.say (t := 21) (v' := .int .i64 ((k : Int) - 1)) rfl (by (refine congrArg _ ?_; omega)) ?_
    refine WL.y (Yl.assign rfl) rfl ?_
    refine WL.nil ?_
    exact ⟨rfl, (k, siftDown ltInt H a k G), ⟨by dsimp only; omega, by dsimp only; omega, hTG⟩, by dsimp only; omega, (by repeat' constructor), _, (by repeat' constructor)⟩
  · refine WC.exit ?_
    refine WC.seq ?_
    have hk0 : k = 0 := by omega
    subst hk0
    have hGB : G = B := hTG
    subst hGB
    refine WC.region ?_
    refine WL.y (Yl.move rfl) rfl ?_
    refine WL.y (Yl.sub rfl rfl (IntWalk.i64_in _ (by omega))) rfl ?_
    refine WL.y (Yl.assign rfl) rfl ?_
    refine WL.nil ?_
    refine WC.block ?_
    refine WC.loop (α := Nat × Array Int) (fun p => [(0, v), (6, .int .i64 (a : Int)), (7, .int .i64 0), (10, .int .i64 ((p.1 : Int) - 1))]) (fun p => [ownR v 34 1 n (ints .u64 p.2.toList)]) (fun p => p.1 ≤ H ∧ p.2.size = n ∧ heapPop ltInt a p.1 p.2 = T) (fun p => p.1) (H, G) ⟨Nat.le_refl _, hG, hT⟩ ⟨(by repeat' constructor), _, (by repeat' constructor)⟩ ?_
    rintro ⟨k, E⟩ ⟨hk, hE, hTE⟩
    dsimp only at hk hE hTE ⊢
    refine WC.seq ?_
    refine WC.seq ?_
    refine WC.region ?_
    refine WL.y (Yl.move rfl) rfl ?_
    refine WL.y (Yl.geq rfl rfl) rfl ?_
    refine WL.nil ?_
    refine WC.condD rfl (fun g30 => ?_) (fun g30 => ?_)
    · refine WC.skip ?_
      refine WC.seq ?_
      refine WC.block ?_
      refine WC.seq ?_
      obtain ⟨k, rfl⟩ : ∃ k', k = k' + 1 := ⟨k - 1, by omega⟩
      have hsw := swp_size E a (a + k)
      have hsz := sift_size k a 0 (swp E a (a + k))
      refine WC.drawAny (Hs := []) mixed (by kernel_rfl) ⟨_, (by repeat' constructor)⟩ ?_
      refine WD.tk 0 rfl (by kernel_rfl) rfl rfl (Yl.move rfl) rfl ?_
      refine WD.tk 1 rfl (by kernel_rfl) rfl rfl (Yl.move rfl) rfl ?_
      refine WD.tk 2 rfl (by kernel_rfl) rfl rfl (Yl.move rfl) rfl ?_
      refine WD.tk 3 rfl (by kernel_rfl) rfl rfl (Yl.move rfl) rfl ?_
      refine WD.tk 4 rfl (by kernel_rfl) rfl rfl (Yl.move rfl) rfl ?_
      refine WD.tk 5 rfl (by kernel_rfl) rfl rfl (Yl.add rfl rfl (IntWalk.i64_in _ (by omega))) rfl ?_
      refine WD.say (t := 38) (v' := .int .i64 ((a + k : Nat) : Int)) rfl (by (refine congrArg _ ?_; omega)) ?_
      refine WD.tk 6 rfl (by kernel_rfl) rfl rfl (Yl.move rfl) rfl ?_
      refine WD.tk 7 rfl (by kernel_rfl) rfl rfl (Yl.move rfl) rfl ?_
      refine WD.tk 8 rfl (by kernel_rfl) rfl rfl (Yl.move rfl) rfl ?_
      refine WD.tk 9 rfl (by kernel_rfl) rfl rfl (Yl.add rfl rfl (IntWalk.i64_in _ (by omega))) rfl ?_
      refine WD.say (t := 42) (v' := .int .i64 ((a + k : Nat) : Int)) rfl (by (refine congrArg _ ?_; omega)) ?_
      refine WD.tk 10 rfl (by kernel_rfl) rfl rfl (Yl.indexF un48 sz34 rfl rfl hF rfl (by omega)) rfl ?_
      refine WD.tk 12 rfl (by kernel_rfl) rfl rfl (Yl.move rfl) rfl ?_
      refine WD.tk 13 rfl (by kernel_rfl) rfl rfl (Yl.move rfl) rfl ?_
      refine WD.tk 14 rfl (by kernel_rfl) rfl rfl (Yl.indexF un48 sz34 rfl rfl hF rfl (by omega)) rfl ?_
      refine WD.two 11 15 (by kernel_rfl) ?_ ?_
      · refine WO.y rfl rfl .no (Yl.loadE on34 rfl (Reads.own (by repeat constructor)) (so_getV (by omega))) rfl ?_
        refine WD.one 15 (by kernel_rfl) ?_
        refine WO.y rfl rfl .no (Yl.loadE on34 rfl (Reads.own (by repeat constructor)) (so_getV (by omega))) rfl ?_
        refine WD.tk 16 rfl (by kernel_rfl) rfl rfl (Yl.indexF un48 sz34 rfl rfl hF rfl (by omega)) rfl ?_
        refine WD.one 17 (by kernel_rfl) ?_
        refine WO.sto rfl rfl .no (Sto.elem (j := a) sz34 rfl rfl (by repeat constructor) rfl (by omega) rfl) ⟨_, (by repeat' constructor)⟩ ?_
        refine WD.tk 18 rfl (by kernel_rfl) rfl rfl (Yl.indexF un48 sz34 rfl rfl hF rfl (by omega)) rfl ?_
        refine WD.one 19 (by kernel_rfl) ?_
        refine WO.sto rfl rfl .no (Sto.elem (j := a + k) (cs' := ints .u64 (swp E (a) (a + k)).toList) sz34 rfl rfl (by repeat constructor) rfl (by omega) (so_swpV E (a) (a + k))) ⟨_, (by repeat' constructor)⟩ ?_
        refine WD.done (by kernel_rfl) ?_
        refine WC.region ?_
        refine WL.y (Yl.move rfl) rfl ?_
        refine WL.y (Yl.move rfl) rfl ?_
        refine WL.y (Yl.move rfl) rfl ?_
        refine WL.say (t := 53) (v' := .int .i64 (k : Int)) rfl (by (refine congrArg _ ?_; omega)) ?_
        refine WL.y (Yl.move rfl) rfl ?_
        refine WL.callC (xs := [.tmp 51, .tmp 52, .tmp 53, .tmp 54]) (cap := []) rfl rfl en173 (by repeat' constructor) (fun w hw => siftV_any v n (swp E a (a + k)) 0 k a (by omega) hn (Nat.zero_le _) (by omega) w hw.left.here) rfl ?_
        rintro ⟨⟩ -
        dsimp only [List.cons_append, List.nil_append]
        refine WL.nil ?_
        refine WC.region ?_
        refine WL.y (Yl.move rfl) rfl ?_
        refine WL.y (Yl.sub rfl rfl (IntWalk.i64_in _ (by omega))) rfl ?_
        refine WL.say (t := 32) (v' := .int .i64 ((k : Int) - 1)) rfl (by (refine congrArg _ ?_; omega)) ?_
        refine WL.y (Yl.assign rfl) rfl ?_
        refine WL.nil ?_
        exact ⟨rfl, (k, siftDown ltInt k a 0 (swp E a (a + k))), ⟨by dsimp only; omega, by dsimp only; omega, hTE⟩, by dsimp only; omega, (by repeat' constructor), _, (by repeat' constructor)⟩
      · refine WO.y rfl rfl .no (Yl.loadE on34 rfl (Reads.own (by repeat constructor)) (so_getV (by omega))) rfl ?_
        refine WD.one 11 (by kernel_rfl) ?_
        refine WO.y rfl rfl .no (Yl.loadE on34 rfl (Reads.own (by repeat constructor)) (so_getV (by omega))) rfl ?_
        refine WD.tk 16 rfl (by kernel_rfl) rfl rfl (Yl.indexF un48 sz34 rfl rfl hF rfl (by omega)) rfl ?_
        refine WD.one 17 (by kernel_rfl) ?_
        refine WO.sto rfl rfl .no (Sto.elem (j := a) sz34 rfl rfl (by repeat constructor) rfl (by omega) rfl) ⟨_, (by repeat' constructor)⟩ ?_
        refine WD.tk 18 rfl (by kernel_rfl) rfl rfl (Yl.indexF un48 sz34 rfl rfl hF rfl (by omega)) rfl ?_
        refine WD.one 19 (by kernel_rfl) ?_
        refine WO.sto rfl rfl .no (Sto.elem (j := a + k) (cs' := ints .u64 (swp E (a) (a + k)).toList) sz34 rfl rfl (by repeat constructor) rfl (by omega) (so_swpV E (a) (a + k))) ⟨_, (by repeat' constructor)⟩ ?_
        refine WD.done (by kernel_rfl) ?_
        refine WC.region ?_
        refine WL.y (Yl.move rfl) rfl ?_
        refine WL.y (Yl.move rfl) rfl ?_
        refine WL.y (Yl.move rfl) rfl ?_
        refine WL.say (t := 53) (v' := .int .i64 (k : Int)) rfl (by (refine congrArg _ ?_; omega)) ?_
        refine WL.y (Yl.move rfl) rfl ?_
        refine WL.callC (xs := [.tmp 51, .tmp 52, .tmp 53, .tmp 54]) (cap := []) rfl rfl en173 (by repeat' constructor) (fun w hw => siftV_any v n (swp E a (a + k)) 0 k a (by omega) hn (Nat.zero_le _) (by omega) w hw.left.here) rfl ?_
        rintro ⟨⟩ -
        dsimp only [List.cons_append, List.nil_append]
        refine WL.nil ?_
        refine WC.region ?_
        refine WL.y (Yl.move rfl) rfl ?_
        refine WL.y (Yl.sub rfl rfl (IntWalk.i64_in _ (by omega))) rfl ?_
        refine WL.say (t := 32) (v' := .int .i64 ((k : Int) - 1)) rfl (by (refine congrArg _ ?_; omega)) ?_
        refine WL.y (Yl.assign rfl) rfl ?_
        refine WL.nil ?_
        exact ⟨rfl, (k, siftDown ltInt k a 0 (swp E a (a + k))), ⟨by dsimp only; omega, by dsimp only; omega, hTE⟩, by dsimp only; omega, (by repeat' constructor), _, (by repeat' constructor)⟩
    · refine WC.exit ?_
      repeat (with_reducible (first | refine peelT ?_ | refine peelB ?_ | refine peelTX ?_ | refine peelBX ?_ | refine peelBN ?_ | refine peelBO rfl ?_))
      have hk0 : k = 0 := by omega
      subst hk0
      have hGB : E = T := hTE
      subst hGB
      exact ret0 (.inl rfl) Tryz.results133 fun w' h => ⟨(), trivial, rfl, h.sub (by repeat' constructor)⟩

theorem rev_go {i j : Nat} {D : Array Int} (h : i < j) : reverseLoop i j D = reverseLoop (i + 1) (j - 1) (swp D i j) := by rw [reverseLoop, if_pos h]
theorem rev_stop {i j : Nat} {D : Array Int} (h : ¬ i < j) : reverseLoop i j D = D := by rw [reverseLoop, if_neg h]
set_option maxRecDepth 100000 in
theorem revV_any (v : Value) (n : Nat) (D : Array Int) (a b : Nat) (hD : D.size = n) (hn : n ≤ 1099511627776) (hab : a < b) (hb : b ≤ n) (w : World) (hw : OK w (fpL [ownR v 34 1 n (ints .u64 D.toList)]) [ownR v 34 1 n (ints .u64 D.toList)] w) :
    Fn Tryz.prog 136 [v, .int .i64 (a : Int), .int .i64 (b : Int)] [ownR v 34 1 n (ints .u64 D.toList)] w (fun _ : Unit => True) (fun _ => .tuple #[]) (fun _ => [ownR v 34 1 n (ints .u64 (reverseRange D a b).toList)]) := by
  have hF := sl_form (hw.get (r := ownR v 34 1 n (ints .u64 D.toList)) .head)
  unfold reverseRange
  obtain ⟨T, hT⟩ : ∃ T, reverseLoop a (b - 1) D = T := ⟨_, rfl⟩
  rw [hT]
  refine enterF Tryz.func136 rfl Tryz.ntmps136 rfl hw ?_
  refine WC.seq ?_
  refine WC.region ?_
  refine WL.y (Yl.move rfl) rfl ?_
  refine WL.y (Yl.assign rfl) rfl ?_
  refine WL.nil ?_
  refine WC.seq ?_
  refine WC.region ?_
  refine WL.y (Yl.move rfl) rfl ?_
  refine WL.y (Yl.sub rfl rfl (IntWalk.i64_in _ (by omega))) rfl ?_
  refine WL.say (t := 10) (v' := .int .i64 ((b - 1 : Nat) : Int)) rfl (by (refine congrArg _ ?_; omega)) ?_
  refine WL.y (Yl.assign rfl) rfl ?_
  refine WL.nil ?_
  refine WC.block ?_
  refine WC.loop (α := Nat × Nat × Array Int) (fun p => [(0, v), (6, .int .i64 (p.1 : Int)), (7, .int .i64 (p.2.1 : Int))]) (fun p => [ownR v 34 1 n (ints .u64 p.2.2.toList)]) (fun p => p.2.1 < n ∧ p.1 ≤ n ∧ p.2.2.size = n ∧ reverseLoop p.1 p.2.1 p.2.2 = T) (fun p => p.2.1) (a, b - 1, D) ⟨by dsimp only; omega, by dsimp only; omega, hD, hT⟩ ⟨(by repeat' constructor), _, (by repeat' constructor)⟩ ?_
  rintro ⟨i, j, G⟩ ⟨hj, hi, hG, hTG⟩
  dsimp only at hi hj hG hTG ⊢
  refine WC.seq ?_
  refine WC.seq ?_
  refine WC.region ?_
  refine WL.y (Yl.move rfl) rfl ?_
  refine WL.y (Yl.move rfl) rfl ?_
  refine WL.y (Yl.lss rfl rfl) rfl ?_
  refine WL.nil ?_
  refine WC.condD rfl (fun g13 => ?_) (fun g13 => ?_)
  · refine WC.skip ?_
    refine WC.block ?_
    refine WC.seq ?_
    have hij : i < j := by omega
    rw [rev_go hij] at hTG
    refine WC.drawAny (Hs := []) mixed (by kernel_rfl) ⟨_, (by repeat' constructor)⟩ ?_
    refine WD.tk 0 rfl (by kernel_rfl) rfl rfl (Yl.move rfl) rfl ?_
    refine WD.tk 1 rfl (by kernel_rfl) rfl rfl (Yl.move rfl) rfl ?_
    refine WD.tk 2 rfl (by kernel_rfl) rfl rfl (Yl.move rfl) rfl ?_
    refine WD.tk 3 rfl (by kernel_rfl) rfl rfl (Yl.move rfl) rfl ?_
    refine WD.tk 4 rfl (by kernel_rfl) rfl rfl (Yl.move rfl) rfl ?_
    refine WD.tk 5 rfl (by kernel_rfl) rfl rfl (Yl.move rfl) rfl ?_
    refine WD.tk 6 rfl (by kernel_rfl) rfl rfl (Yl.indexF un48 sz34 rfl rfl hF rfl (by omega)) rfl ?_
    refine WD.tk 8 rfl (by kernel_rfl) rfl rfl (Yl.move rfl) rfl ?_
    refine WD.tk 9 rfl (by kernel_rfl) rfl rfl (Yl.move rfl) rfl ?_
    refine WD.tk 10 rfl (by kernel_rfl) rfl rfl (Yl.indexF un48 sz34 rfl rfl hF rfl (by omega)) rfl ?_
    refine WD.two 7 11 (by kernel_rfl) ?_ ?_
    · refine WO.y rfl rfl .no (Yl.loadE on34 rfl (Reads.own (by repeat constructor)) (so_getV (by omega))) rfl ?_
      refine WD.one 11 (by kernel_rfl) ?_
      refine WO.y rfl rfl .no (Yl.loadE on34 rfl (Reads.own (by repeat constructor)) (so_getV (by omega))) rfl ?_
      refine WD.tk 12 rfl (by kernel_rfl) rfl rfl (Yl.indexF un48 sz34 rfl rfl hF rfl (by omega)) rfl ?_
      refine WD.one 13 (by kernel_rfl) ?_
      refine WO.sto rfl rfl .no (Sto.elem (j := i) sz34 rfl rfl (by repeat constructor) rfl (by omega) rfl) ⟨_, (by repeat' constructor)⟩ ?_
      refine WD.tk 14 rfl (by kernel_rfl) rfl rfl (Yl.indexF un48 sz34 rfl rfl hF rfl (by omega)) rfl ?_
      refine WD.one 15 (by kernel_rfl) ?_
      refine WO.sto rfl rfl .no (Sto.elem (j := j) (cs' := ints .u64 (swp G (i) (j)).toList) sz34 rfl rfl (by repeat constructor) rfl (by omega) (so_swpV G (i) (j))) ⟨_, (by repeat' constructor)⟩ ?_
      refine WD.done (by kernel_rfl) ?_
      refine WC.seq ?_
      refine WC.region ?_
      refine WL.y (Yl.move rfl) rfl ?_
      refine WL.y (Yl.add rfl rfl (IntWalk.i64_in _ (by omega))) rfl ?_
      refine WL.y (Yl.assign rfl) rfl ?_
      refine WL.nil ?_
      refine WC.region ?_
      refine WL.y (Yl.move rfl) rfl ?_
      refine WL.y (Yl.sub rfl rfl (IntWalk.i64_in _ (by omega))) rfl ?_
      refine WL.say (t := 31) (v' := .int .i64 ((j - 1 : Nat) : Int)) rfl (by (refine congrArg _ ?_; omega)) ?_
      refine WL.y (Yl.assign rfl) rfl ?_
      refine WL.nil ?_
      exact ⟨rfl, (i + 1, j - 1, swp G i j), ⟨by dsimp only; omega, by dsimp only; omega, by dsimp only; rw [swp_size]; exact hG, hTG⟩, by dsimp only; omega, (by repeat' constructor), _, (by repeat' constructor)⟩
    · refine WO.y rfl rfl .no (Yl.loadE on34 rfl (Reads.own (by repeat constructor)) (so_getV (by omega))) rfl ?_
      refine WD.one 7 (by kernel_rfl) ?_
      refine WO.y rfl rfl .no (Yl.loadE on34 rfl (Reads.own (by repeat constructor)) (so_getV (by omega))) rfl ?_
      refine WD.tk 12 rfl (by kernel_rfl) rfl rfl (Yl.indexF un48 sz34 rfl rfl hF rfl (by omega)) rfl ?_
      refine WD.one 13 (by kernel_rfl) ?_
      refine WO.sto rfl rfl .no (Sto.elem (j := i) sz34 rfl rfl (by repeat constructor) rfl (by omega) rfl) ⟨_, (by repeat' constructor)⟩ ?_
      refine WD.tk 14 rfl (by kernel_rfl) rfl rfl (Yl.indexF un48 sz34 rfl rfl hF rfl (by omega)) rfl ?_
      refine WD.one 15 (by kernel_rfl) ?_
      refine WO.sto rfl rfl .no (Sto.elem (j := j) (cs' := ints .u64 (swp G (i) (j)).toList) sz34 rfl rfl (by repeat constructor) rfl (by omega) (so_swpV G (i) (j))) ⟨_, (by repeat' constructor)⟩ ?_
      refine WD.done (by kernel_rfl) ?_
      refine WC.seq ?_
      refine WC.region ?_
      refine WL.y (Yl.move rfl) rfl ?_
      refine WL.y (Yl.add rfl rfl (IntWalk.i64_in _ (by omega))) rfl ?_
      refine WL.y (Yl.assign rfl) rfl ?_
      refine WL.nil ?_
      refine WC.region ?_
      refine WL.y (Yl.move rfl) rfl ?_
      refine WL.y (Yl.sub rfl rfl (IntWalk.i64_in _ (by omega))) rfl ?_
      refine WL.say (t := 31) (v' := .int .i64 ((j - 1 : Nat) : Int)) rfl (by (refine congrArg _ ?_; omega)) ?_
      refine WL.y (Yl.assign rfl) rfl ?_
      refine WL.nil ?_
      exact ⟨rfl, (i + 1, j - 1, swp G i j), ⟨by dsimp only; omega, by dsimp only; omega, by dsimp only; rw [swp_size]; exact hG, hTG⟩, by dsimp only; omega, (by repeat' constructor), _, (by repeat' constructor)⟩
  · refine WC.exit ?_
    repeat (with_reducible (first | refine peelT ?_ | refine peelB ?_ | refine peelTX ?_ | refine peelBX ?_ | refine peelBN ?_ | refine peelBO rfl ?_))
    have hij : ¬ i < j := by omega
    rw [rev_stop hij] at hTG
    subst hTG
    exact ret0 (.inl rfl) Tryz.results136 fun w' h => ⟨(), trivial, rfl, h.sub (by repeat' constructor)⟩
end Go.Proofs.YtbgimajbehodnaaGreatDoor

namespace Go.Proofs.YtbgimajbehodnaaGreatDoor
open Go Go.RowKit Go.Sort

theorem leB (i j : Nat) : decide ((i : Int) ≤ (j : Int)) = decide (i ≤ j) := by
  rw [decide_eq_decide]
  omega
theorem up_go {p : Int → Bool} {D : Array Int} {i j : Nat} (h : (decide ((i : Int) ≤ (j : Int)) && p D[i]!) = true) : scanUp p D j i = scanUp p D j (i + 1) := by
  rw [leB] at h
  conv => lhs; rw [scanUp]
  rw [if_pos h]
theorem up_stop {p : Int → Bool} {D : Array Int} {i j : Nat} (h : (decide ((i : Int) ≤ (j : Int)) && p D[i]!) = false) : scanUp p D j i = i := by
  rw [leB] at h
  rw [scanUp, if_neg (ne_true_of_eq_false h)]
theorem down_go {p : Int → Bool} {D : Array Int} {i j : Nat} (hi : 1 ≤ i) (h : (decide ((i : Int) ≤ (j : Int)) && p D[j]!) = true) : scanDown p D i j = scanDown p D i (j - 1) := by
  rw [leB] at h
  cases j with
  | zero => rfl
  | succ j => rw [scanDown, if_pos h]; rfl
theorem down_stop {p : Int → Bool} {D : Array Int} {i j : Nat} (hi : 1 ≤ i) (h : (decide ((i : Int) ≤ (j : Int)) && p D[j]!) = false) : scanDown p D i j = j := by
  rw [leB] at h
  cases j with
  | zero => rfl
  | succ j => rw [scanDown, if_neg (ne_true_of_eq_false h)]
theorem and_le {i j : Nat} {c : Bool} (h : (decide ((i : Int) ≤ (j : Int)) && c) = true) : i ≤ j := by
  rw [Bool.and_eq_true] at h
  have := of_decide_eq_true h.1
  omega

set_option maxHeartbeats 1600000 in
set_option maxRecDepth 100000 in
theorem peqV_any (v : Value) (n : Nat) (D : Array Int) (a b pv : Nat) (hD : D.size = n) (hn : n ≤ 1099511627776) (hap : a ≤ pv) (hpb : pv < b) (hb : b ≤ n) (w : World) (hw : OK w (fpL [ownR v 34 1 n (ints .u64 D.toList)]) [ownR v 34 1 n (ints .u64 D.toList)] w) :
    Fn Tryz.prog 139 [v, .int .i64 (a : Int), .int .i64 (b : Int), .int .i64 (pv : Int)] [ownR v 34 1 n (ints .u64 D.toList)] w (fun _ : Unit => True) (fun _ => .int .i64 ((partitionEqual ltInt D a b pv).1 : Int)) (fun _ => [ownR v 34 1 n (ints .u64 (partitionEqual ltInt D a b pv).2.toList)]) := by
  have hF := sl_form (hw.get (r := ownR v 34 1 n (ints .u64 D.toList)) .head)
  unfold partitionEqual
  have hsz := swp_size D a pv
  obtain ⟨T, hT⟩ : ∃ T, partEqLoop ltInt a (a + 1) (b - 1) (swp D a pv) = T := ⟨_, rfl⟩
  rw [hT]
  refine enterF Tryz.func139 rfl Tryz.ntmps139 rfl hw ?_
  refine WC.seq ?_
  refine WC.region ?_
  refine WL.y (Yl.assign rfl) rfl ?_
  refine WL.nil ?_
  refine WC.seq ?_
  refine WC.drawAny (Hs := []) mixed (by kernel_rfl) ⟨_, (by repeat' constructor)⟩ ?_
  refine WD.tk 0 rfl (by kernel_rfl) rfl rfl (Yl.move rfl) rfl ?_
  refine WD.tk 1 rfl (by kernel_rfl) rfl rfl (Yl.move rfl) rfl ?_
  refine WD.tk 2 rfl (by kernel_rfl) rfl rfl (Yl.move rfl) rfl ?_
  refine WD.tk 3 rfl (by kernel_rfl) rfl rfl (Yl.move rfl) rfl ?_
  refine WD.tk 4 rfl (by kernel_rfl) rfl rfl (Yl.move rfl) rfl ?_
  refine WD.tk 5 rfl (by kernel_rfl) rfl rfl (Yl.move rfl) rfl ?_
  refine WD.tk 6 rfl (by kernel_rfl) rfl rfl (Yl.indexF un48 sz34 rfl rfl hF rfl (by omega)) rfl ?_
  refine WD.tk 8 rfl (by kernel_rfl) rfl rfl (Yl.move rfl) rfl ?_
  refine WD.tk 9 rfl (by kernel_rfl) rfl rfl (Yl.move rfl) rfl ?_
  refine WD.tk 10 rfl (by kernel_rfl) rfl rfl (Yl.indexF un48 sz34 rfl rfl hF rfl (by omega)) rfl ?_
  refine WD.two 7 11 (by kernel_rfl) ?_ ?_
  · refine WO.y rfl rfl .no (Yl.loadE on34 rfl (Reads.own (by repeat constructor)) (so_getV (by omega))) rfl ?_
    refine WD.one 11 (by kernel_rfl) ?_
    refine WO.y rfl rfl .no (Yl.loadE on34 rfl (Reads.own (by repeat constructor)) (so_getV (by omega))) rfl ?_
    refine WD.tk 12 rfl (by kernel_rfl) rfl rfl (Yl.indexF un48 sz34 rfl rfl hF rfl (by omega)) rfl ?_
    refine WD.one 13 (by kernel_rfl) ?_
    refine WO.sto rfl rfl .no (Sto.elem (j := a) sz34 rfl rfl (by repeat constructor) rfl (by omega) rfl) ⟨_, (by repeat' constructor)⟩ ?_
    refine WD.tk 14 rfl (by kernel_rfl) rfl rfl (Yl.indexF un48 sz34 rfl rfl hF rfl (by omega)) rfl ?_
    refine WD.one 15 (by kernel_rfl) ?_
    refine WO.sto rfl rfl .no (Sto.elem (j := pv) (cs' := ints .u64 (swp D (a) (pv)).toList) sz34 rfl rfl (by repeat constructor) rfl (by omega) (so_swpV D (a) (pv))) ⟨_, (by repeat' constructor)⟩ ?_
    refine WD.done (by kernel_rfl) ?_
    refine WC.seq ?_
    refine WC.region ?_
    refine WL.y (Yl.move rfl) rfl ?_
    refine WL.y (Yl.add rfl rfl (IntWalk.i64_in _ (by omega))) rfl ?_
    refine WL.y (Yl.move rfl) rfl ?_
    refine WL.y (Yl.sub rfl rfl (IntWalk.i64_in _ (by omega))) rfl ?_
    refine WL.say (t := 28) (v' := .int .i64 ((b - 1 : Nat) : Int)) rfl (by (refine congrArg _ ?_; omega)) ?_
    refine WL.y (Yl.assign rfl) rfl ?_
    refine WL.y (Yl.assign rfl) rfl ?_
    refine WL.nil ?_
    refine WC.seq ?_
    refine WC.block ?_
    refine WC.loop (α := Nat × Nat × Array Int) (fun p => [(0, v), (1, .int .i64 (a : Int)), (9, .int .i64 (p.1 : Int)), (10, .int .i64 (p.2.1 : Int))]) (fun p => [ownR v 34 1 n (ints .u64 p.2.2.toList)]) (fun p => (a < p.1 ∧ p.1 ≤ n) ∧ p.2.1 < n ∧ p.2.2.size = n ∧ partEqLoop ltInt a p.1 p.2.1 p.2.2 = T) (fun p => p.2.1 + 1 - p.1) (a + 1, b - 1, swp D a pv) ⟨by dsimp only; omega, by dsimp only; omega, by dsimp only; omega, hT⟩ ⟨(by repeat' constructor), _, (by repeat' constructor)⟩ ?_
    rintro ⟨i, j, G⟩ ⟨⟨hai, hin⟩, hjn, hG, hTG⟩
    dsimp only at hai hin hjn hG hTG ⊢
    have hgu := scanUp_ge (fun x => !ltInt G[a]! x) G j i
    have hgd := scanDown_le (fun x => ltInt G[a]! x) G (scanUp (fun x => !ltInt G[a]! x) G j i) j
    rw [partEqLoop_eq] at hTG
    obtain ⟨I, hI⟩ : ∃ I, scanUp (fun x => !ltInt G[a]! x) G j i = I := ⟨_, rfl⟩
    rw [hI] at hgu hgd hTG
    obtain ⟨J, hJ⟩ : ∃ J, scanDown (fun x => ltInt G[a]! x) G I j = J := ⟨_, rfl⟩
    rw [hJ] at hgd hTG
    refine WC.block ?_
    refine WC.seq ?_
    refine WC.block ?_
    refine WC.loop (α := Nat) (fun p => [(0, v), (1, .int .i64 (a : Int)), (9, .int .i64 (p : Int)), (10, .int .i64 (j : Int))]) (fun _ => [ownR v 34 1 n (ints .u64 G.toList)]) (fun p => (a < p ∧ p ≤ n) ∧ scanUp (fun x => !ltInt G[a]! x) G j p = I) (fun p => n + 1 - p) i ⟨⟨hai, hin⟩, hI⟩ ⟨(by repeat' constructor), _, (by repeat' constructor)⟩ ?_
    rintro p ⟨⟨hap', hpn⟩, hpI⟩
    refine WC.seq ?_
    refine WC.midX (α := Unit) (fun _ => [(0, v), (1, .int .i64 (a : Int)), (9, .int .i64 (p : Int)), (10, .int .i64 (j : Int)), (43, .bool (decide ((p : Int) ≤ (j : Int)) && !ltInt G[a]! G[p]!))]) (fun _ => [ownR v 34 1 n (ints .u64 G.toList)]) (fun _ => True) ?_ ?_
    · refine WC.drawAny (Hs := [ownR v 34 1 n (ints .u64 G.toList)]) mixed (by kernel_rfl) ⟨_, (by repeat' constructor)⟩ ?_
      refine WD.tk 0 rfl (by kernel_rfl) rfl rfl (Yl.move rfl) rfl ?_
      refine WD.tk 1 rfl (by kernel_rfl) rfl rfl (Yl.move rfl) rfl ?_
      refine WD.tk 2 rfl (by kernel_rfl) rfl rfl (Yl.leq rfl rfl) rfl ?_
      refine WD.tk 3 rfl (by kernel_rfl) rfl rfl (Yl.move rfl) rfl ?_
      refine WD.both (t := 32) rfl (fun g32 => ?_) (fun g32 => ?_)
      · have hpj : p ≤ j := by have := of_decide_eq_true g32; omega
        refine WD.takeOn 4 rfl (by kernel_rfl) (by kernel_rfl) (by kernel_rfl) rfl rfl rfl rfl (Yl.move rfl) rfl ?_
        refine WD.takeOn 5 rfl (by kernel_rfl) (by kernel_rfl) (by kernel_rfl) rfl rfl rfl rfl (Yl.move rfl) rfl ?_
        refine WD.takeOn 6 rfl (by kernel_rfl) (by kernel_rfl) (by kernel_rfl) rfl rfl rfl rfl (Yl.indexF un48 sz34 rfl rfl hF rfl (by omega)) rfl ?_
        refine WD.takeOn 7 rfl (by kernel_rfl) (by kernel_rfl) (by kernel_rfl) rfl rfl rfl rfl (Yl.loadE on34 rfl (Reads.own (by repeat constructor)) (so_getV (by omega))) rfl ?_
        refine WD.takeOn 8 rfl (by kernel_rfl) (by kernel_rfl) (by kernel_rfl) rfl rfl rfl rfl (Yl.move rfl) rfl ?_
        refine WD.takeOn 9 rfl (by kernel_rfl) (by kernel_rfl) (by kernel_rfl) rfl rfl rfl rfl (Yl.move rfl) rfl ?_
        refine WD.takeOn 10 rfl (by kernel_rfl) (by kernel_rfl) (by kernel_rfl) rfl rfl rfl rfl (Yl.indexF un48 sz34 rfl rfl hF rfl (by omega)) rfl ?_
        refine WD.takeOn 11 rfl (by kernel_rfl) (by kernel_rfl) (by kernel_rfl) rfl rfl rfl rfl (Yl.loadE on34 rfl (Reads.own (by repeat constructor)) (so_getV (by omega))) rfl ?_
        refine WD.one 12 (by kernel_rfl) ?_
        refine WO.callC (xs := [.tmp 36, .tmp 40]) (cap := []) rfl (.on rfl rfl) rfl rfl en138 (by repeat' constructor) (fun w hw => lessV_any _ _ w hw.left.here) rfl (fun _ => ⟨_, (by repeat' constructor)⟩) ?_
        rintro ⟨⟩ -
        refine WD.takeOn 13 rfl (by kernel_rfl) (by kernel_rfl) (by kernel_rfl) rfl rfl rfl rfl (Yl.not rfl) rfl ?_
        refine WD.tk 14 rfl (by kernel_rfl) rfl rfl (Yl.pickT rfl rfl) rfl ?_
        refine WD.say (t := 43) (v' := .bool (decide ((p : Int) ≤ (j : Int)) && !ltInt G[a]! G[p]!)) rfl (by (rw [g32]; rfl)) ?_
        refine WD.done (by kernel_rfl) ?_
        exact ⟨rfl, (), trivial, (by repeat' constructor), _, (by repeat' constructor)⟩
      · refine WD.takeOff 4 rfl (by kernel_rfl) (by kernel_rfl) (by kernel_rfl) rfl rfl rfl rfl rfl rfl ?_
        refine WD.takeOff 5 rfl (by kernel_rfl) (by kernel_rfl) (by kernel_rfl) rfl rfl rfl rfl rfl rfl ?_
        refine WD.takeOff 6 rfl (by kernel_rfl) (by kernel_rfl) (by kernel_rfl) rfl rfl rfl rfl rfl rfl ?_
        refine WD.takeOff 7 rfl (by kernel_rfl) (by kernel_rfl) (by kernel_rfl) rfl rfl rfl rfl rfl rfl ?_
        refine WD.takeOff 8 rfl (by kernel_rfl) (by kernel_rfl) (by kernel_rfl) rfl rfl rfl rfl rfl rfl ?_
        refine WD.takeOff 9 rfl (by kernel_rfl) (by kernel_rfl) (by kernel_rfl) rfl rfl rfl rfl rfl rfl ?_
        refine WD.takeOff 10 rfl (by kernel_rfl) (by kernel_rfl) (by kernel_rfl) rfl rfl rfl rfl rfl rfl ?_
        refine WD.takeOff 11 rfl (by kernel_rfl) (by kernel_rfl) (by kernel_rfl) rfl rfl rfl rfl rfl rfl ?_
        refine WD.one 12 (by kernel_rfl) ?_
        refine WO.off rfl rfl rfl rfl rfl rfl rfl ?_
        refine WD.takeOff 13 rfl (by kernel_rfl) (by kernel_rfl) (by kernel_rfl) rfl rfl rfl rfl rfl rfl ?_
        refine WD.tk 14 rfl (by kernel_rfl) rfl rfl (Yl.pickF rfl rfl) rfl ?_
        refine WD.say (t := 43) (v' := .bool (decide ((p : Int) ≤ (j : Int)) && !ltInt G[a]! G[p]!)) rfl (by (rw [g32]; rfl)) ?_
        refine WD.done (by kernel_rfl) ?_
        exact ⟨rfl, (), trivial, (by repeat' constructor), _, (by repeat' constructor)⟩
    · rintro ⟨⟩ -
      refine WC.cond rfl (fun g43 => ?_) (fun g43 => ?_)
      · refine WC.skip ?_
        refine WC.block ?_
        have hpj := and_le g43
        refine WC.region ?_
        refine WL.y (Yl.move rfl) rfl ?_
        refine WL.y (Yl.add rfl rfl (IntWalk.i64_in _ (by omega))) rfl ?_
        refine WL.y (Yl.assign rfl) rfl ?_
        refine WL.nil ?_
        exact ⟨rfl, p + 1, ⟨by omega, by rw [← up_go g43]; exact hpI⟩, by omega, (by repeat' constructor), _, (by repeat' constructor)⟩
      · refine WC.exit ?_
        refine WC.seq ?_
        refine WC.block ?_
        have hpe : p = I := by rw [← hpI]; exact (up_stop g43).symm
        subst hpe
        refine WC.loop (α := Nat) (fun q => [(0, v), (1, .int .i64 (a : Int)), (9, .int .i64 (p : Int)), (10, .int .i64 (q : Int))]) (fun _ => [ownR v 34 1 n (ints .u64 G.toList)]) (fun q => q < n ∧ scanDown (fun x => ltInt G[a]! x) G p q = J) (fun q => q) j ⟨hjn, hJ⟩ ⟨(by repeat' constructor), _, (by repeat' constructor)⟩ ?_
        rintro q ⟨hqn, hqJ⟩
        refine WC.seq ?_
        refine WC.midX (α := Unit) (fun _ => [(0, v), (1, .int .i64 (a : Int)), (9, .int .i64 (p : Int)), (10, .int .i64 (q : Int)), (59, .bool (decide ((p : Int) ≤ (q : Int)) && ltInt G[a]! G[q]!))]) (fun _ => [ownR v 34 1 n (ints .u64 G.toList)]) (fun _ => True) ?_ ?_
        · refine WC.drawAny (Hs := [ownR v 34 1 n (ints .u64 G.toList)]) mixed (by kernel_rfl) ⟨_, (by repeat' constructor)⟩ ?_
          refine WD.tk 0 rfl (by kernel_rfl) rfl rfl (Yl.move rfl) rfl ?_
          refine WD.tk 1 rfl (by kernel_rfl) rfl rfl (Yl.move rfl) rfl ?_
          refine WD.tk 2 rfl (by kernel_rfl) rfl rfl (Yl.leq rfl rfl) rfl ?_
          refine WD.tk 3 rfl (by kernel_rfl) rfl rfl (Yl.move rfl) rfl ?_
          refine WD.both (t := 49) rfl (fun g49 => ?_) (fun g49 => ?_)
          · refine WD.takeOn 4 rfl (by kernel_rfl) (by kernel_rfl) (by kernel_rfl) rfl rfl rfl rfl (Yl.move rfl) rfl ?_
            refine WD.takeOn 5 rfl (by kernel_rfl) (by kernel_rfl) (by kernel_rfl) rfl rfl rfl rfl (Yl.move rfl) rfl ?_
            refine WD.takeOn 6 rfl (by kernel_rfl) (by kernel_rfl) (by kernel_rfl) rfl rfl rfl rfl (Yl.indexF un48 sz34 rfl rfl hF rfl (by omega)) rfl ?_
            refine WD.takeOn 7 rfl (by kernel_rfl) (by kernel_rfl) (by kernel_rfl) rfl rfl rfl rfl (Yl.loadE on34 rfl (Reads.own (by repeat constructor)) (so_getV (by omega))) rfl ?_
            refine WD.takeOn 8 rfl (by kernel_rfl) (by kernel_rfl) (by kernel_rfl) rfl rfl rfl rfl (Yl.move rfl) rfl ?_
            refine WD.takeOn 9 rfl (by kernel_rfl) (by kernel_rfl) (by kernel_rfl) rfl rfl rfl rfl (Yl.move rfl) rfl ?_
            refine WD.takeOn 10 rfl (by kernel_rfl) (by kernel_rfl) (by kernel_rfl) rfl rfl rfl rfl (Yl.indexF un48 sz34 rfl rfl hF rfl (by omega)) rfl ?_
            refine WD.takeOn 11 rfl (by kernel_rfl) (by kernel_rfl) (by kernel_rfl) rfl rfl rfl rfl (Yl.loadE on34 rfl (Reads.own (by repeat constructor)) (so_getV (by omega))) rfl ?_
            refine WD.one 12 (by kernel_rfl) ?_
            refine WO.callC (xs := [.tmp 53, .tmp 57]) (cap := []) rfl (.on rfl rfl) rfl rfl en138 (by repeat' constructor) (fun w hw => lessV_any _ _ w hw.left.here) rfl (fun _ => ⟨_, (by repeat' constructor)⟩) ?_
            rintro ⟨⟩ -
            refine WD.tk 13 rfl (by kernel_rfl) rfl rfl (Yl.pickT rfl rfl) rfl ?_
            refine WD.say (t := 59) (v' := .bool (decide ((p : Int) ≤ (q : Int)) && ltInt G[a]! G[q]!)) rfl (by (rw [g49]; rfl)) ?_
            refine WD.done (by kernel_rfl) ?_
            exact ⟨rfl, (), trivial, (by repeat' constructor), _, (by repeat' constructor)⟩
          · refine WD.takeOff 4 rfl (by kernel_rfl) (by kernel_rfl) (by kernel_rfl) rfl rfl rfl rfl rfl rfl ?_
            refine WD.takeOff 5 rfl (by kernel_rfl) (by kernel_rfl) (by kernel_rfl) rfl rfl rfl rfl rfl rfl ?_
            refine WD.takeOff 6 rfl (by kernel_rfl) (by kernel_rfl) (by kernel_rfl) rfl rfl rfl rfl rfl rfl ?_
            refine WD.takeOff 7 rfl (by kernel_rfl) (by kernel_rfl) (by kernel_rfl) rfl rfl rfl rfl rfl rfl ?_
            refine WD.takeOff 8 rfl (by kernel_rfl) (by kernel_rfl) (by kernel_rfl) rfl rfl rfl rfl rfl rfl ?_
            refine WD.takeOff 9 rfl (by kernel_rfl) (by kernel_rfl) (by kernel_rfl) rfl rfl rfl rfl rfl rfl ?_
            refine WD.takeOff 10 rfl (by kernel_rfl) (by kernel_rfl) (by kernel_rfl) rfl rfl rfl rfl rfl rfl ?_
            refine WD.takeOff 11 rfl (by kernel_rfl) (by kernel_rfl) (by kernel_rfl) rfl rfl rfl rfl rfl rfl ?_
            refine WD.one 12 (by kernel_rfl) ?_
            refine WO.off rfl rfl rfl rfl rfl rfl rfl ?_
            refine WD.tk 13 rfl (by kernel_rfl) rfl rfl (Yl.pickF rfl rfl) rfl ?_
            refine WD.say (t := 59) (v' := .bool (decide ((p : Int) ≤ (q : Int)) && ltInt G[a]! G[q]!)) rfl (by (rw [g49]; rfl)) ?_
            refine WD.done (by kernel_rfl) ?_
            exact ⟨rfl, (), trivial, (by repeat' constructor), _, (by repeat' constructor)⟩
        · rintro ⟨⟩ -
          refine WC.cond rfl (fun g59 => ?_) (fun g59 => ?_)
          · refine WC.skip ?_
            refine WC.block ?_
            have hpq := and_le g59
            refine WC.region ?_
            refine WL.y (Yl.move rfl) rfl ?_
            refine WL.y (Yl.sub rfl rfl (IntWalk.i64_in _ (by omega))) rfl ?_
            refine WL.say (t := 61) (v' := .int .i64 ((q - 1 : Nat) : Int)) rfl (by (refine congrArg _ ?_; omega)) ?_
            refine WL.y (Yl.assign rfl) rfl ?_
            refine WL.nil ?_
            exact ⟨rfl, q - 1, ⟨by omega, by rw [← down_go (by omega) g59]; exact hqJ⟩, by omega, (by repeat' constructor), _, (by repeat' constructor)⟩
          · refine WC.exit ?_
            refine WC.seq ?_
            refine WC.seq ?_
            have hqe : q = J := by rw [← hqJ]; exact (down_stop (by omega) g59).symm
            subst hqe
            refine WC.region ?_
            refine WL.y (Yl.move rfl) rfl ?_
            refine WL.y (Yl.move rfl) rfl ?_
            refine WL.y (Yl.gtr rfl rfl) rfl ?_
            refine WL.nil ?_
            refine WC.condD rfl (fun g64 => ?_) (fun g64 => ?_)
            · refine WC.exit ?_
              refine WC.seq ?_
              have hpq : p > q := by omega
              rw [if_pos hpq] at hTG
              subst hTG
              refine WC.region ?_
              refine WL.y (Yl.move rfl) rfl ?_
              refine WL.y (Yl.assign rfl) rfl ?_
              refine WL.nil ?_
              refine WC.ret ?_
              repeat (with_reducible (first | refine peelT ?_ | refine peelB ?_ | refine peelTX ?_ | refine peelBX ?_ | refine peelBN ?_ | refine peelBO rfl ?_))
              exact ret1 (.inr rfl) Tryz.results139 rfl fun w' h => ⟨(), trivial, rfl, h.sub (by repeat' constructor)⟩
            · refine WC.skip ?_
              refine WC.seq ?_
              have hpq : ¬ p > q := by omega
              rw [if_neg hpq] at hTG
              refine WC.drawAny (Hs := []) mixed (by kernel_rfl) ⟨_, (by repeat' constructor)⟩ ?_
              refine WD.tk 0 rfl (by kernel_rfl) rfl rfl (Yl.move rfl) rfl ?_
              refine WD.tk 1 rfl (by kernel_rfl) rfl rfl (Yl.move rfl) rfl ?_
              refine WD.tk 2 rfl (by kernel_rfl) rfl rfl (Yl.move rfl) rfl ?_
              refine WD.tk 3 rfl (by kernel_rfl) rfl rfl (Yl.move rfl) rfl ?_
              refine WD.tk 4 rfl (by kernel_rfl) rfl rfl (Yl.move rfl) rfl ?_
              refine WD.tk 5 rfl (by kernel_rfl) rfl rfl (Yl.move rfl) rfl ?_
              refine WD.tk 6 rfl (by kernel_rfl) rfl rfl (Yl.indexF un48 sz34 rfl rfl hF rfl (by omega)) rfl ?_
              refine WD.tk 8 rfl (by kernel_rfl) rfl rfl (Yl.move rfl) rfl ?_
              refine WD.tk 9 rfl (by kernel_rfl) rfl rfl (Yl.move rfl) rfl ?_
              refine WD.tk 10 rfl (by kernel_rfl) rfl rfl (Yl.indexF un48 sz34 rfl rfl hF rfl (by omega)) rfl ?_
              refine WD.two 7 11 (by kernel_rfl) ?_ ?_
              · refine WO.y rfl rfl .no (Yl.loadE on34 rfl (Reads.own (by repeat constructor)) (so_getV (by omega))) rfl ?_
                refine WD.one 11 (by kernel_rfl) ?_
                refine WO.y rfl rfl .no (Yl.loadE on34 rfl (Reads.own (by repeat constructor)) (so_getV (by omega))) rfl ?_
                refine WD.tk 12 rfl (by kernel_rfl) rfl rfl (Yl.indexF un48 sz34 rfl rfl hF rfl (by omega)) rfl ?_
                refine WD.one 13 (by kernel_rfl) ?_
                refine WO.sto rfl rfl .no (Sto.elem (j := p) sz34 rfl rfl (by repeat constructor) rfl (by omega) rfl) ⟨_, (by repeat' constructor)⟩ ?_
                refine WD.tk 14 rfl (by kernel_rfl) rfl rfl (Yl.indexF un48 sz34 rfl rfl hF rfl (by omega)) rfl ?_
                refine WD.one 15 (by kernel_rfl) ?_
                refine WO.sto rfl rfl .no (Sto.elem (j := q) (cs' := ints .u64 (swp G (p) (q)).toList) sz34 rfl rfl (by repeat constructor) rfl (by omega) (so_swpV G (p) (q))) ⟨_, (by repeat' constructor)⟩ ?_
                refine WD.done (by kernel_rfl) ?_
                refine WC.seq ?_
                refine WC.region ?_
                refine WL.y (Yl.move rfl) rfl ?_
                refine WL.y (Yl.add rfl rfl (IntWalk.i64_in _ (by omega))) rfl ?_
                refine WL.y (Yl.assign rfl) rfl ?_
                refine WL.nil ?_
                refine WC.region ?_
                refine WL.y (Yl.move rfl) rfl ?_
                refine WL.y (Yl.sub rfl rfl (IntWalk.i64_in _ (by omega))) rfl ?_
                refine WL.say (t := 82) (v' := .int .i64 ((q - 1 : Nat) : Int)) rfl (by (refine congrArg _ ?_; omega)) ?_
                refine WL.y (Yl.assign rfl) rfl ?_
                refine WL.nil ?_
                exact ⟨rfl, (p + 1, q - 1, swp G p q), ⟨by dsimp only; omega, by dsimp only; omega, by dsimp only; rw [swp_size]; exact hG, hTG⟩, by dsimp only; omega, (by repeat' constructor), _, (by repeat' constructor)⟩
              · refine WO.y rfl rfl .no (Yl.loadE on34 rfl (Reads.own (by repeat constructor)) (so_getV (by omega))) rfl ?_
                refine WD.one 7 (by kernel_rfl) ?_
                refine WO.y rfl rfl .no (Yl.loadE on34 rfl (Reads.own (by repeat constructor)) (so_getV (by omega))) rfl ?_
                refine WD.tk 12 rfl (by kernel_rfl) rfl rfl (Yl.indexF un48 sz34 rfl rfl hF rfl (by omega)) rfl ?_
                refine WD.one 13 (by kernel_rfl) ?_
                refine WO.sto rfl rfl .no (Sto.elem (j := p) sz34 rfl rfl (by repeat constructor) rfl (by omega) rfl) ⟨_, (by repeat' constructor)⟩ ?_
                refine WD.tk 14 rfl (by kernel_rfl) rfl rfl (Yl.indexF un48 sz34 rfl rfl hF rfl (by omega)) rfl ?_
                refine WD.one 15 (by kernel_rfl) ?_
                refine WO.sto rfl rfl .no (Sto.elem (j := q) (cs' := ints .u64 (swp G (p) (q)).toList) sz34 rfl rfl (by repeat constructor) rfl (by omega) (so_swpV G (p) (q))) ⟨_, (by repeat' constructor)⟩ ?_
                refine WD.done (by kernel_rfl) ?_
                refine WC.seq ?_
                refine WC.region ?_
                refine WL.y (Yl.move rfl) rfl ?_
                refine WL.y (Yl.add rfl rfl (IntWalk.i64_in _ (by omega))) rfl ?_
                refine WL.y (Yl.assign rfl) rfl ?_
                refine WL.nil ?_
                refine WC.region ?_
                refine WL.y (Yl.move rfl) rfl ?_
                refine WL.y (Yl.sub rfl rfl (IntWalk.i64_in _ (by omega))) rfl ?_
                refine WL.say (t := 82) (v' := .int .i64 ((q - 1 : Nat) : Int)) rfl (by (refine congrArg _ ?_; omega)) ?_
                refine WL.y (Yl.assign rfl) rfl ?_
                refine WL.nil ?_
                exact ⟨rfl, (p + 1, q - 1, swp G p q), ⟨by dsimp only; omega, by dsimp only; omega, by dsimp only; rw [swp_size]; exact hG, hTG⟩, by dsimp only; omega, (by repeat' constructor), _, (by repeat' constructor)⟩
  · refine WO.y rfl rfl .no (Yl.loadE on34 rfl (Reads.own (by repeat constructor)) (so_getV (by omega))) rfl ?_
    refine WD.one 7 (by kernel_rfl) ?_
    refine WO.y rfl rfl .no (Yl.loadE on34 rfl (Reads.own (by repeat constructor)) (so_getV (by omega))) rfl ?_
    refine WD.tk 12 rfl (by kernel_rfl) rfl rfl (Yl.indexF un48 sz34 rfl rfl hF rfl (by omega)) rfl ?_
    refine WD.one 13 (by kernel_rfl) ?_
    refine WO.sto rfl rfl .no (Sto.elem (j := a) sz34 rfl rfl (by repeat constructor) rfl (by omega) rfl) ⟨_, (by repeat' constructor)⟩ ?_
    refine WD.tk 14 rfl (by kernel_rfl) rfl rfl (Yl.indexF un48 sz34 rfl rfl hF rfl (by omega)) rfl ?_
    refine WD.one 15 (by kernel_rfl) ?_
    refine WO.sto rfl rfl .no (Sto.elem (j := pv) (cs' := ints .u64 (swp D (a) (pv)).toList) sz34 rfl rfl (by repeat constructor) rfl (by omega) (so_swpV D (a) (pv))) ⟨_, (by repeat' constructor)⟩ ?_
    refine WD.done (by kernel_rfl) ?_
    refine WC.seq ?_
    refine WC.region ?_
    refine WL.y (Yl.move rfl) rfl ?_
    refine WL.y (Yl.add rfl rfl (IntWalk.i64_in _ (by omega))) rfl ?_
    refine WL.y (Yl.move rfl) rfl ?_
    refine WL.y (Yl.sub rfl rfl (IntWalk.i64_in _ (by omega))) rfl ?_
    refine WL.say (t := 28) (v' := .int .i64 ((b - 1 : Nat) : Int)) rfl (by (refine congrArg _ ?_; omega)) ?_
    refine WL.y (Yl.assign rfl) rfl ?_
    refine WL.y (Yl.assign rfl) rfl ?_
    refine WL.nil ?_
    refine WC.seq ?_
    refine WC.block ?_
    refine WC.loop (α := Nat × Nat × Array Int) (fun p => [(0, v), (1, .int .i64 (a : Int)), (9, .int .i64 (p.1 : Int)), (10, .int .i64 (p.2.1 : Int))]) (fun p => [ownR v 34 1 n (ints .u64 p.2.2.toList)]) (fun p => (a < p.1 ∧ p.1 ≤ n) ∧ p.2.1 < n ∧ p.2.2.size = n ∧ partEqLoop ltInt a p.1 p.2.1 p.2.2 = T) (fun p => p.2.1 + 1 - p.1) (a + 1, b - 1, swp D a pv) ⟨by dsimp only; omega, by dsimp only; omega, by dsimp only; omega, hT⟩ ⟨(by repeat' constructor), _, (by repeat' constructor)⟩ ?_
    rintro ⟨i, j, G⟩ ⟨⟨hai, hin⟩, hjn, hG, hTG⟩
    dsimp only at hai hin hjn hG hTG ⊢
    have hgu := scanUp_ge (fun x => !ltInt G[a]! x) G j i
    have hgd := scanDown_le (fun x => ltInt G[a]! x) G (scanUp (fun x => !ltInt G[a]! x) G j i) j
    rw [partEqLoop_eq] at hTG
    obtain ⟨I, hI⟩ : ∃ I, scanUp (fun x => !ltInt G[a]! x) G j i = I := ⟨_, rfl⟩
    rw [hI] at hgu hgd hTG
    obtain ⟨J, hJ⟩ : ∃ J, scanDown (fun x => ltInt G[a]! x) G I j = J := ⟨_, rfl⟩
    rw [hJ] at hgd hTG
    refine WC.block ?_
    refine WC.seq ?_
    refine WC.block ?_
    refine WC.loop (α := Nat) (fun p => [(0, v), (1, .int .i64 (a : Int)), (9, .int .i64 (p : Int)), (10, .int .i64 (j : Int))]) (fun _ => [ownR v 34 1 n (ints .u64 G.toList)]) (fun p => (a < p ∧ p ≤ n) ∧ scanUp (fun x => !ltInt G[a]! x) G j p = I) (fun p => n + 1 - p) i ⟨⟨hai, hin⟩, hI⟩ ⟨(by repeat' constructor), _, (by repeat' constructor)⟩ ?_
    rintro p ⟨⟨hap', hpn⟩, hpI⟩
    refine WC.seq ?_
    refine WC.midX (α := Unit) (fun _ => [(0, v), (1, .int .i64 (a : Int)), (9, .int .i64 (p : Int)), (10, .int .i64 (j : Int)), (43, .bool (decide ((p : Int) ≤ (j : Int)) && !ltInt G[a]! G[p]!))]) (fun _ => [ownR v 34 1 n (ints .u64 G.toList)]) (fun _ => True) ?_ ?_
    · refine WC.drawAny (Hs := [ownR v 34 1 n (ints .u64 G.toList)]) mixed (by kernel_rfl) ⟨_, (by repeat' constructor)⟩ ?_
      refine WD.tk 0 rfl (by kernel_rfl) rfl rfl (Yl.move rfl) rfl ?_
      refine WD.tk 1 rfl (by kernel_rfl) rfl rfl (Yl.move rfl) rfl ?_
      refine WD.tk 2 rfl (by kernel_rfl) rfl rfl (Yl.leq rfl rfl) rfl ?_
      refine WD.tk 3 rfl (by kernel_rfl) rfl rfl (Yl.move rfl) rfl ?_
      refine WD.both (t := 32) rfl (fun g32 => ?_) (fun g32 => ?_)
      · have hpj : p ≤ j := by have := of_decide_eq_true g32; omega
        refine WD.takeOn 4 rfl (by kernel_rfl) (by kernel_rfl) (by kernel_rfl) rfl rfl rfl rfl (Yl.move rfl) rfl ?_
        refine WD.takeOn 5 rfl (by kernel_rfl) (by kernel_rfl) (by kernel_rfl) rfl rfl rfl rfl (Yl.move rfl) rfl ?_
        refine WD.takeOn 6 rfl (by kernel_rfl) (by kernel_rfl) (by kernel_rfl) rfl rfl rfl rfl (Yl.indexF un48 sz34 rfl rfl hF rfl (by omega)) rfl ?_
        refine WD.takeOn 7 rfl (by kernel_rfl) (by kernel_rfl) (by kernel_rfl) rfl rfl rfl rfl (Yl.loadE on34 rfl (Reads.own (by repeat constructor)) (so_getV (by omega))) rfl ?_
        refine WD.takeOn 8 rfl (by kernel_rfl) (by kernel_rfl) (by kernel_rfl) rfl rfl rfl rfl (Yl.move rfl) rfl ?_
        refine WD.takeOn 9 rfl (by kernel_rfl) (by kernel_rfl) (by kernel_rfl) rfl rfl rfl rfl (Yl.move rfl) rfl ?_
        refine WD.takeOn 10 rfl (by kernel_rfl) (by kernel_rfl) (by kernel_rfl) rfl rfl rfl rfl (Yl.indexF un48 sz34 rfl rfl hF rfl (by omega)) rfl ?_
        refine WD.takeOn 11 rfl (by kernel_rfl) (by kernel_rfl) (by kernel_rfl) rfl rfl rfl rfl (Yl.loadE on34 rfl (Reads.own (by repeat constructor)) (so_getV (by omega))) rfl ?_
        refine WD.one 12 (by kernel_rfl) ?_
        refine WO.callC (xs := [.tmp 36, .tmp 40]) (cap := []) rfl (.on rfl rfl) rfl rfl en138 (by repeat' constructor) (fun w hw => lessV_any _ _ w hw.left.here) rfl (fun _ => ⟨_, (by repeat' constructor)⟩) ?_
        rintro ⟨⟩ -
        refine WD.takeOn 13 rfl (by kernel_rfl) (by kernel_rfl) (by kernel_rfl) rfl rfl rfl rfl (Yl.not rfl) rfl ?_
        refine WD.tk 14 rfl (by kernel_rfl) rfl rfl (Yl.pickT rfl rfl) rfl ?_
        refine WD.say (t := 43) (v' := .bool (decide ((p : Int) ≤ (j : Int)) && !ltInt G[a]! G[p]!)) rfl (by (rw [g32]; rfl)) ?_
        refine WD.done (by kernel_rfl) ?_
        exact ⟨rfl, (), trivial, (by repeat' constructor), _, (by repeat' constructor)⟩
      · refine WD.takeOff 4 rfl (by kernel_rfl) (by kernel_rfl) (by kernel_rfl) rfl rfl rfl rfl rfl rfl ?_
        refine WD.takeOff 5 rfl (by kernel_rfl) (by kernel_rfl) (by kernel_rfl) rfl rfl rfl rfl rfl rfl ?_
        refine WD.takeOff 6 rfl (by kernel_rfl) (by kernel_rfl) (by kernel_rfl) rfl rfl rfl rfl rfl rfl ?_
        refine WD.takeOff 7 rfl (by kernel_rfl) (by kernel_rfl) (by kernel_rfl) rfl rfl rfl rfl rfl rfl ?_
        refine WD.takeOff 8 rfl (by kernel_rfl) (by kernel_rfl) (by kernel_rfl) rfl rfl rfl rfl rfl rfl ?_
        refine WD.takeOff 9 rfl (by kernel_rfl) (by kernel_rfl) (by kernel_rfl) rfl rfl rfl rfl rfl rfl ?_
        refine WD.takeOff 10 rfl (by kernel_rfl) (by kernel_rfl) (by kernel_rfl) rfl rfl rfl rfl rfl rfl ?_
        refine WD.takeOff 11 rfl (by kernel_rfl) (by kernel_rfl) (by kernel_rfl) rfl rfl rfl rfl rfl rfl ?_
        refine WD.one 12 (by kernel_rfl) ?_
        refine WO.off rfl rfl rfl rfl rfl rfl rfl ?_
        refine WD.takeOff 13 rfl (by kernel_rfl) (by kernel_rfl) (by kernel_rfl) rfl rfl rfl rfl rfl rfl ?_
        refine WD.tk 14 rfl (by kernel_rfl) rfl rfl (Yl.pickF rfl rfl) rfl ?_
        refine WD.say (t := 43) (v' := .bool (decide ((p : Int) ≤ (j : Int)) && !ltInt G[a]! G[p]!)) rfl (by (rw [g32]; rfl)) ?_
        refine WD.done (by kernel_rfl) ?_
        exact ⟨rfl, (), trivial, (by repeat' constructor), _, (by repeat' constructor)⟩
    · rintro ⟨⟩ -
      refine WC.cond rfl (fun g43 => ?_) (fun g43 => ?_)
      · refine WC.skip ?_
        refine WC.block ?_
        have hpj := and_le g43
        refine WC.region ?_
        refine WL.y (Yl.move rfl) rfl ?_
        refine WL.y (Yl.add rfl rfl (IntWalk.i64_in _ (by omega))) rfl ?_
        refine WL.y (Yl.assign rfl) rfl ?_
        refine WL.nil ?_
        exact ⟨rfl, p + 1, ⟨by omega, by rw [← up_go g43]; exact hpI⟩, by omega, (by repeat' constructor), _, (by repeat' constructor)⟩
      · refine WC.exit ?_
        refine WC.seq ?_
        refine WC.block ?_
        have hpe : p = I := by rw [← hpI]; exact (up_stop g43).symm
        subst hpe
        refine WC.loop (α := Nat) (fun q => [(0, v), (1, .int .i64 (a : Int)), (9, .int .i64 (p : Int)), (10, .int .i64 (q : Int))]) (fun _ => [ownR v 34 1 n (ints .u64 G.toList)]) (fun q => q < n ∧ scanDown (fun x => ltInt G[a]! x) G p q = J) (fun q => q) j ⟨hjn, hJ⟩ ⟨(by repeat' constructor), _, (by repeat' constructor)⟩ ?_
        rintro q ⟨hqn, hqJ⟩
        refine WC.seq ?_
        refine WC.midX (α := Unit) (fun _ => [(0, v), (1, .int .i64 (a : Int)), (9, .int .i64 (p : Int)), (10, .int .i64 (q : Int)), (59, .bool (decide ((p : Int) ≤ (q : Int)) && ltInt G[a]! G[q]!))]) (fun _ => [ownR v 34 1 n (ints .u64 G.toList)]) (fun _ => True) ?_ ?_
        · refine WC.drawAny (Hs := [ownR v 34 1 n (ints .u64 G.toList)]) mixed (by kernel_rfl) ⟨_, (by repeat' constructor)⟩ ?_
          refine WD.tk 0 rfl (by kernel_rfl) rfl rfl (Yl.move rfl) rfl ?_
          refine WD.tk 1 rfl (by kernel_rfl) rfl rfl (Yl.move rfl) rfl ?_
          refine WD.tk 2 rfl (by kernel_rfl) rfl rfl (Yl.leq rfl rfl) rfl ?_
          refine WD.tk 3 rfl (by kernel_rfl) rfl rfl (Yl.move rfl) rfl ?_
          refine WD.both (t := 49) rfl (fun g49 => ?_) (fun g49 => ?_)
          · refine WD.takeOn 4 rfl (by kernel_rfl) (by kernel_rfl) (by kernel_rfl) rfl rfl rfl rfl (Yl.move rfl) rfl ?_
            refine WD.takeOn 5 rfl (by kernel_rfl) (by kernel_rfl) (by kernel_rfl) rfl rfl rfl rfl (Yl.move rfl) rfl ?_
            refine WD.takeOn 6 rfl (by kernel_rfl) (by kernel_rfl) (by kernel_rfl) rfl rfl rfl rfl (Yl.indexF un48 sz34 rfl rfl hF rfl (by omega)) rfl ?_
            refine WD.takeOn 7 rfl (by kernel_rfl) (by kernel_rfl) (by kernel_rfl) rfl rfl rfl rfl (Yl.loadE on34 rfl (Reads.own (by repeat constructor)) (so_getV (by omega))) rfl ?_
            refine WD.takeOn 8 rfl (by kernel_rfl) (by kernel_rfl) (by kernel_rfl) rfl rfl rfl rfl (Yl.move rfl) rfl ?_
            refine WD.takeOn 9 rfl (by kernel_rfl) (by kernel_rfl) (by kernel_rfl) rfl rfl rfl rfl (Yl.move rfl) rfl ?_
            refine WD.takeOn 10 rfl (by kernel_rfl) (by kernel_rfl) (by kernel_rfl) rfl rfl rfl rfl (Yl.indexF un48 sz34 rfl rfl hF rfl (by omega)) rfl ?_
            refine WD.takeOn 11 rfl (by kernel_rfl) (by kernel_rfl) (by kernel_rfl) rfl rfl rfl rfl (Yl.loadE on34 rfl (Reads.own (by repeat constructor)) (so_getV (by omega))) rfl ?_
            refine WD.one 12 (by kernel_rfl) ?_
            refine WO.callC (xs := [.tmp 53, .tmp 57]) (cap := []) rfl (.on rfl rfl) rfl rfl en138 (by repeat' constructor) (fun w hw => lessV_any _ _ w hw.left.here) rfl (fun _ => ⟨_, (by repeat' constructor)⟩) ?_
            rintro ⟨⟩ -
            refine WD.tk 13 rfl (by kernel_rfl) rfl rfl (Yl.pickT rfl rfl) rfl ?_
            refine WD.say (t := 59) (v' := .bool (decide ((p : Int) ≤ (q : Int)) && ltInt G[a]! G[q]!)) rfl (by (rw [g49]; rfl)) ?_
            refine WD.done (by kernel_rfl) ?_
            exact ⟨rfl, (), trivial, (by repeat' constructor), _, (by repeat' constructor)⟩
          · refine WD.takeOff 4 rfl (by kernel_rfl) (by kernel_rfl) (by kernel_rfl) rfl rfl rfl rfl rfl rfl ?_
            refine WD.takeOff 5 rfl (by kernel_rfl) (by kernel_rfl) (by kernel_rfl) rfl rfl rfl rfl rfl rfl ?_
            refine WD.takeOff 6 rfl (by kernel_rfl) (by kernel_rfl) (by kernel_rfl) rfl rfl rfl rfl rfl rfl ?_
            refine WD.takeOff 7 rfl (by kernel_rfl) (by kernel_rfl) (by kernel_rfl) rfl rfl rfl rfl rfl rfl ?_
            refine WD.takeOff 8 rfl (by kernel_rfl) (by kernel_rfl) (by kernel_rfl) rfl rfl rfl rfl rfl rfl ?_
            refine WD.takeOff 9 rfl (by kernel_rfl) (by kernel_rfl) (by kernel_rfl) rfl rfl rfl rfl rfl rfl ?_
            refine WD.takeOff 10 rfl (by kernel_rfl) (by kernel_rfl) (by kernel_rfl) rfl rfl rfl rfl rfl rfl ?_
            refine WD.takeOff 11 rfl (by kernel_rfl) (by kernel_rfl) (by kernel_rfl) rfl rfl rfl rfl rfl rfl ?_
            refine WD.one 12 (by kernel_rfl) ?_
            refine WO.off rfl rfl rfl rfl rfl rfl rfl ?_
            refine WD.tk 13 rfl (by kernel_rfl) rfl rfl (Yl.pickF rfl rfl) rfl ?_
            refine WD.say (t := 59) (v' := .bool (decide ((p : Int) ≤ (q : Int)) && ltInt G[a]! G[q]!)) rfl (by (rw [g49]; rfl)) ?_
            refine WD.done (by kernel_rfl) ?_
            exact ⟨rfl, (), trivial, (by repeat' constructor), _, (by repeat' constructor)⟩
        · rintro ⟨⟩ -
          refine WC.cond rfl (fun g59 => ?_) (fun g59 => ?_)
          · refine WC.skip ?_
            refine WC.block ?_
            have hpq := and_le g59
            refine WC.region ?_
            refine WL.y (Yl.move rfl) rfl ?_
            refine WL.y (Yl.sub rfl rfl (IntWalk.i64_in _ (by omega))) rfl ?_
            refine WL.say (t := 61) (v' := .int .i64 ((q - 1 : Nat) : Int)) rfl (by (refine congrArg _ ?_; omega)) ?_
            refine WL.y (Yl.assign rfl) rfl ?_
            refine WL.nil ?_
            exact ⟨rfl, q - 1, ⟨by omega, by rw [← down_go (by omega) g59]; exact hqJ⟩, by omega, (by repeat' constructor), _, (by repeat' constructor)⟩
          · refine WC.exit ?_
            refine WC.seq ?_
            refine WC.seq ?_
            have hqe : q = J := by rw [← hqJ]; exact (down_stop (by omega) g59).symm
            subst hqe
            refine WC.region ?_
            refine WL.y (Yl.move rfl) rfl ?_
            refine WL.y (Yl.move rfl) rfl ?_
            refine WL.y (Yl.gtr rfl rfl) rfl ?_
            refine WL.nil ?_
            refine WC.condD rfl (fun g64 => ?_) (fun g64 => ?_)
            · refine WC.exit ?_
              refine WC.seq ?_
              have hpq : p > q := by omega
              rw [if_pos hpq] at hTG
              subst hTG
              refine WC.region ?_
              refine WL.y (Yl.move rfl) rfl ?_
              refine WL.y (Yl.assign rfl) rfl ?_
              refine WL.nil ?_
              refine WC.ret ?_
              repeat (with_reducible (first | refine peelT ?_ | refine peelB ?_ | refine peelTX ?_ | refine peelBX ?_ | refine peelBN ?_ | refine peelBO rfl ?_))
              exact ret1 (.inr rfl) Tryz.results139 rfl fun w' h => ⟨(), trivial, rfl, h.sub (by repeat' constructor)⟩
            · refine WC.skip ?_
              refine WC.seq ?_
              have hpq : ¬ p > q := by omega
              rw [if_neg hpq] at hTG
              refine WC.drawAny (Hs := []) mixed (by kernel_rfl) ⟨_, (by repeat' constructor)⟩ ?_
              refine WD.tk 0 rfl (by kernel_rfl) rfl rfl (Yl.move rfl) rfl ?_
              refine WD.tk 1 rfl (by kernel_rfl) rfl rfl (Yl.move rfl) rfl ?_
              refine WD.tk 2 rfl (by kernel_rfl) rfl rfl (Yl.move rfl) rfl ?_
              refine WD.tk 3 rfl (by kernel_rfl) rfl rfl (Yl.move rfl) rfl ?_
              refine WD.tk 4 rfl (by kernel_rfl) rfl rfl (Yl.move rfl) rfl ?_
              refine WD.tk 5 rfl (by kernel_rfl) rfl rfl (Yl.move rfl) rfl ?_
              refine WD.tk 6 rfl (by kernel_rfl) rfl rfl (Yl.indexF un48 sz34 rfl rfl hF rfl (by omega)) rfl ?_
              refine WD.tk 8 rfl (by kernel_rfl) rfl rfl (Yl.move rfl) rfl ?_
              refine WD.tk 9 rfl (by kernel_rfl) rfl rfl (Yl.move rfl) rfl ?_
              refine WD.tk 10 rfl (by kernel_rfl) rfl rfl (Yl.indexF un48 sz34 rfl rfl hF rfl (by omega)) rfl ?_
              refine WD.two 7 11 (by kernel_rfl) ?_ ?_
              · refine WO.y rfl rfl .no (Yl.loadE on34 rfl (Reads.own (by repeat constructor)) (so_getV (by omega))) rfl ?_
                refine WD.one 11 (by kernel_rfl) ?_
                refine WO.y rfl rfl .no (Yl.loadE on34 rfl (Reads.own (by repeat constructor)) (so_getV (by omega))) rfl ?_
                refine WD.tk 12 rfl (by kernel_rfl) rfl rfl (Yl.indexF un48 sz34 rfl rfl hF rfl (by omega)) rfl ?_
                refine WD.one 13 (by kernel_rfl) ?_
                refine WO.sto rfl rfl .no (Sto.elem (j := p) sz34 rfl rfl (by repeat constructor) rfl (by omega) rfl) ⟨_, (by repeat' constructor)⟩ ?_
                refine WD.tk 14 rfl (by kernel_rfl) rfl rfl (Yl.indexF un48 sz34 rfl rfl hF rfl (by omega)) rfl ?_
                refine WD.one 15 (by kernel_rfl) ?_
                refine WO.sto rfl rfl .no (Sto.elem (j := q) (cs' := ints .u64 (swp G (p) (q)).toList) sz34 rfl rfl (by repeat constructor) rfl (by omega) (so_swpV G (p) (q))) ⟨_, (by repeat' constructor)⟩ ?_
                refine WD.done (by kernel_rfl) ?_
                refine WC.seq ?_
                refine WC.region ?_
                refine WL.y (Yl.move rfl) rfl ?_
                refine WL.y (Yl.add rfl rfl (IntWalk.i64_in _ (by omega))) rfl ?_
                refine WL.y (Yl.assign rfl) rfl ?_
                refine WL.nil ?_
                refine WC.region ?_
                refine WL.y (Yl.move rfl) rfl ?_
                refine WL.y (Yl.sub rfl rfl (IntWalk.i64_in _ (by omega))) rfl ?_
                refine WL.say (t := 82) (v' := .int .i64 ((q - 1 : Nat) : Int)) rfl (by (refine congrArg _ ?_; omega)) ?_
                refine WL.y (Yl.assign rfl) rfl ?_
                refine WL.nil ?_
                exact ⟨rfl, (p + 1, q - 1, swp G p q), ⟨by dsimp only; omega, by dsimp only; omega, by dsimp only; rw [swp_size]; exact hG, hTG⟩, by dsimp only; omega, (by repeat' constructor), _, (by repeat' constructor)⟩
              · refine WO.y rfl rfl .no (Yl.loadE on34 rfl (Reads.own (by repeat constructor)) (so_getV (by omega))) rfl ?_
                refine WD.one 7 (by kernel_rfl) ?_
                refine WO.y rfl rfl .no (Yl.loadE on34 rfl (Reads.own (by repeat constructor)) (so_getV (by omega))) rfl ?_
                refine WD.tk 12 rfl (by kernel_rfl) rfl rfl (Yl.indexF un48 sz34 rfl rfl hF rfl (by omega)) rfl ?_
                refine WD.one 13 (by kernel_rfl) ?_
                refine WO.sto rfl rfl .no (Sto.elem (j := p) sz34 rfl rfl (by repeat constructor) rfl (by omega) rfl) ⟨_, (by repeat' constructor)⟩ ?_
                refine WD.tk 14 rfl (by kernel_rfl) rfl rfl (Yl.indexF un48 sz34 rfl rfl hF rfl (by omega)) rfl ?_
                refine WD.one 15 (by kernel_rfl) ?_
                refine WO.sto rfl rfl .no (Sto.elem (j := q) (cs' := ints .u64 (swp G (p) (q)).toList) sz34 rfl rfl (by repeat constructor) rfl (by omega) (so_swpV G (p) (q))) ⟨_, (by repeat' constructor)⟩ ?_
                refine WD.done (by kernel_rfl) ?_
                refine WC.seq ?_
                refine WC.region ?_
                refine WL.y (Yl.move rfl) rfl ?_
                refine WL.y (Yl.add rfl rfl (IntWalk.i64_in _ (by omega))) rfl ?_
                refine WL.y (Yl.assign rfl) rfl ?_
                refine WL.nil ?_
                refine WC.region ?_
                refine WL.y (Yl.move rfl) rfl ?_
                refine WL.y (Yl.sub rfl rfl (IntWalk.i64_in _ (by omega))) rfl ?_
                refine WL.say (t := 82) (v' := .int .i64 ((q - 1 : Nat) : Int)) rfl (by (refine congrArg _ ?_; omega)) ?_
                refine WL.y (Yl.assign rfl) rfl ?_
                refine WL.nil ?_
                exact ⟨rfl, (p + 1, q - 1, swp G p q), ⟨by dsimp only; omega, by dsimp only; omega, by dsimp only; rw [swp_size]; exact hG, hTG⟩, by dsimp only; omega, (by repeat' constructor), _, (by repeat' constructor)⟩
end Go.Proofs.YtbgimajbehodnaaGreatDoor
