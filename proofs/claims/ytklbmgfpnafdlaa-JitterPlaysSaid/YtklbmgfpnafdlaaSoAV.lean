/- Sorting rows of uint64: comparing, the middle of three, insertion: the walks. -/
import Derived.Test.YtklbmgfpnafdlaaFacts
import Derived.Test.YtklbmgfpnafdlaaLibH
import Derived.Sort.AssemblyPlain
namespace Go.Proofs.Ytklbmgfpnafdlaa
open Go Go.RowKit Go.Sort

theorem so_getV {D : Array Int} {i : Nat} (h : i < D.size) : (ints .u64 D.toList)[i]? = some (.int .u64 D[i]!) := by
  unfold ints
  rw [List.getElem?_map, Array.getElem?_toList, Array.getElem?_eq_getElem h, getElem!_pos D i h]
  rfl
theorem swp_size (D : Array Int) (i j : Nat) : (swp D i j).size = D.size := by unfold swp; simp
theorem so_swpV (D : Array Int) (i j : Nat) : ((ints .u64 D.toList).set i (.int .u64 D[j]!)).set j (.int .u64 D[i]!) = ints .u64 (swp D i j).toList := by
  unfold ints swp
  rw [Array.toList_setIfInBounds, Array.toList_setIfInBounds, List.map_set, List.map_set]

theorem Yl.indexF {c : Cx} {env : Env} {ds : List Deferred} {H : List Res} {dst : Option Tmp} {ty : TypeId} {pos : String} {af : Array Edge} {g : Option (Nat × Bool)} {t e : TypeId} {x i : Operand} {k : IntKind} {z : Int} {j n size : Nat} {v : Value} (hu : c.P.underlying t = some (.slice e)) (hsz : (c.P.info? e).map (·.size) = some size)
    (hx : ev env x = some v) (hi : ev env i = some (.int k z)) (hF : 0 < n → ∃ a cap, v = .slice (some a) n cap) (hz : z = (j : Int)) (hj : j < n) : Yl c env ds H ⟨dst, .indexAddr t x i, ty, pos, af, g⟩ (elemP v j size) := by
  obtain ⟨a, cap, rfl⟩ := hF (by omega)
  exact Yl.indexV hu hsz hx hi hz hj
theorem sl_form {w : World} {e : TypeId} {v : Value} {n : Nat} {cs : List Value} (h : Sown w e 1 v n cs) : 0 < n → ∃ a cap, v = .slice (some a) n cap := by
  intro hn
  rcases h.2 with ⟨_, h0⟩ | ⟨b, off, cap, cur, hv, _⟩
  · omega
  · exact ⟨_, _, hv⟩

theorem nanV_any (x : Int) (w : World) (hw : OK w (fpL []) [] w) : Fn Try.prog 88 [.int .u64 x] [] w (fun _ : Unit => True) (fun _ => .bool false) (fun _ => []) := by
  refine enterF Try.func88 rfl Try.ntmps88 rfl hw ?_
  refine WC.seq ?_
  refine WC.region ?_
  refine WL.y (Yl.assign rfl) rfl ?_ -- t2
  refine WL.nil ?_
  refine WC.seq ?_
  refine WC.region ?_
  refine WL.y (Yl.move rfl) rfl ?_ -- t3
  refine WL.y (Yl.move rfl) rfl ?_ -- t4
  refine WL.y (Yl.neq rfl rfl) rfl ?_ -- t5
  refine WL.say (t := 5) (v' := .bool false) rfl (by simp) ?_
  refine WL.y (Yl.assign rfl) rfl ?_ -- t2
  refine WL.nil ?_
  refine WC.ret ?_
  repeat (first | (with_reducible refine peelT ?_) | (with_reducible refine peelB ?_) | (with_reducible refine peelTX ?_) | (with_reducible refine peelBX ?_) | (with_reducible refine peelBN ?_) | (with_reducible refine peelBO rfl ?_))
  exact ret1 (.inr rfl) Try.results88 rfl fun w' h => ⟨(), trivial, rfl, h.sub (by repeat (first | exact TakeL.nil | (apply TakeL.cons; · repeat (first | exact Take1.head | apply Take1.tail))))⟩
theorem lessV_any (x y : Int) (w : World) (hw : OK w (fpL []) [] w) : Fn Try.prog 78 [.int .u64 x, .int .u64 y] [] w (fun _ : Unit => True) (fun _ => .bool (ltInt x y)) (fun _ => []) := by
  refine enterF Try.func78 rfl Try.ntmps78 rfl hw ?_
  refine WC.seq ?_
  refine WC.region ?_
  refine WL.y (Yl.assign rfl) rfl ?_ -- t4
  refine WL.nil ?_
  refine WC.seq ?_
  refine WC.region ?_
  refine WL.y (Yl.move rfl) rfl ?_ -- t5
  refine WL.callC (xs := [.tmp 5]) (cap := []) rfl rfl en88 (by repeat (first | exact TakeL.nil | (apply TakeL.cons; · repeat (first | exact Take1.head | apply Take1.tail)))) (fun w hw => nanV_any x w hw.left.here) rfl ?_ -- t6 cmp.isNaN[uint64]
  rintro ⟨⟩ -
  refine WL.y (Yl.move rfl) rfl ?_ -- t7
  refine WL.know (t := 7) (b' := false) rfl (by first | rfl | (simp; done) | (simp; omega)) ?_
  refine WL.off rfl rfl rfl rfl ?_ -- t8
  refine WL.off rfl rfl rfl rfl ?_ -- t9
  refine WL.off rfl rfl rfl rfl ?_ -- t10
  refine WL.y (Yl.pickF rfl rfl) rfl ?_ -- t11
  refine WL.y (Yl.move rfl) rfl ?_ -- t12
  refine WL.know (t := 12) (b' := false) rfl (by first | rfl | (simp; done) | (simp; omega)) ?_
  refine WL.on rfl rfl ?_
  refine WL.y (Yl.move rfl) rfl ?_ -- t13
  refine WL.on rfl rfl ?_
  refine WL.y (Yl.move rfl) rfl ?_ -- t14
  refine WL.on rfl rfl ?_
  refine WL.y (Yl.lss rfl rfl) rfl ?_ -- t15
  refine WL.y (Yl.pickF rfl rfl) rfl ?_ -- t16
  refine WL.y (Yl.assign rfl) rfl ?_ -- t4
  refine WL.nil ?_
  refine WC.ret ?_
  repeat (first | (with_reducible refine peelT ?_) | (with_reducible refine peelB ?_) | (with_reducible refine peelTX ?_) | (with_reducible refine peelBX ?_) | (with_reducible refine peelBN ?_) | (with_reducible refine peelBO rfl ?_))
  exact ret1 (.inr rfl) Try.results78 rfl fun w' h => ⟨(), trivial, rfl, h.sub (by repeat (first | exact TakeL.nil | (apply TakeL.cons; · repeat (first | exact Take1.head | apply Take1.tail))))⟩
theorem ordV_any (v : Value) (n : Nat) (D : Array Int) (a b sw bs : Nat) (hD : D.size = n) (ha : a < n) (hb : b < n) (hs : sw ≤ 1000) (w : World) (hw : OK w (fpL [ownR v 22 1 n (ints .u64 D.toList), blkR bs 3 [.int .i64 (sw : Int)]]) [ownR v 22 1 n (ints .u64 D.toList), blkR bs 3 [.int .i64 (sw : Int)]] w) :
    Fn Try.prog 89 [v, .int .i64 (a : Int), .int .i64 (b : Int), .pointer (some ⟨bs, 0, none⟩)] [ownR v 22 1 n (ints .u64 D.toList), blkR bs 3 [.int .i64 (sw : Int)]] w (fun _ : Unit => True) (fun _ => .tuple #[.int .i64 ((order2 ltInt D a b sw).1 : Int), .int .i64 ((order2 ltInt D a b sw).2.1 : Int)]) (fun _ => [ownR v 22 1 n (ints .u64 D.toList), blkR bs 3 [.int .i64 ((order2 ltInt D a b sw).2.2 : Int)]]) := by
  refine enterF Try.func89 rfl Try.ntmps89 rfl hw ?_
  refine WC.seq ?_
  refine WC.region ?_
  refine WL.y (Yl.assign rfl) rfl ?_ -- t8
  refine WL.y (Yl.assign rfl) rfl ?_ -- t9
  refine WL.nil ?_
  refine WC.seq ?_
  refine WC.seq ?_
  refine WC.drawAny (Hs := [ownR v 22 1 n (ints .u64 D.toList), blkR bs 3 [.int .i64 (sw : Int)]]) mixed (by kernel_rfl) ⟨_, (by repeat (first | exact TakeL.nil | (apply TakeL.cons; · repeat (first | exact Take1.head | apply Take1.tail))))⟩ ?_
  refine WD.take 0 rfl (by kernel_rfl) (by kernel_rfl) (by kernel_rfl) rfl rfl (Yl.move rfl) rfl ?_ -- t10
  refine WD.take 1 rfl (by kernel_rfl) (by kernel_rfl) (by kernel_rfl) rfl rfl (Yl.move rfl) rfl ?_ -- t11
  refine WD.take 2 rfl (by kernel_rfl) (by kernel_rfl) (by kernel_rfl) rfl rfl (Yl.index un105 sz22 rfl rfl (Reads.own (by repeat (first | exact Take1.head | apply Take1.tail))) rfl (by omega)) rfl ?_ -- t12
  refine WD.take 3 rfl (by kernel_rfl) (by kernel_rfl) (by kernel_rfl) rfl rfl (Yl.loadE on22 rfl (Reads.own (by repeat (first | exact Take1.head | apply Take1.tail))) (so_getV (by omega))) rfl ?_
  refine WD.take 4 rfl (by kernel_rfl) (by kernel_rfl) (by kernel_rfl) rfl rfl (Yl.move rfl) rfl ?_ -- t14
  refine WD.take 5 rfl (by kernel_rfl) (by kernel_rfl) (by kernel_rfl) rfl rfl (Yl.move rfl) rfl ?_ -- t15
  refine WD.take 6 rfl (by kernel_rfl) (by kernel_rfl) (by kernel_rfl) rfl rfl (Yl.index un105 sz22 rfl rfl (Reads.own (by repeat (first | exact Take1.head | apply Take1.tail))) rfl (by omega)) rfl ?_ -- t16
  refine WD.take 7 rfl (by kernel_rfl) (by kernel_rfl) (by kernel_rfl) rfl rfl (Yl.loadE on22 rfl (Reads.own (by repeat (first | exact Take1.head | apply Take1.tail))) (so_getV (by omega))) rfl ?_
  refine WD.one 8 (by kernel_rfl) ?_
  refine WO.callC (xs := [.tmp 13, .tmp 17]) (cap := []) rfl .no rfl rfl en78 (by repeat (first | exact TakeL.nil | (apply TakeL.cons; · repeat (first | exact Take1.head | apply Take1.tail)))) (fun w hw => lessV_any _ _ w hw.left.here) rfl (fun _ => ⟨_, (by repeat (first | exact TakeL.nil | (apply TakeL.cons; · repeat (first | exact Take1.head | apply Take1.tail))))⟩) ?_ -- t18 cmp.Less[uint64]
  rintro ⟨⟩ -
  refine WD.done (by kernel_rfl) ?_
  refine WC.cond rfl (fun g18 => ?_) (fun g18 => ?_)
  · refine WC.seq ?_
    refine WC.region ?_
    refine WL.y (Yl.move rfl) rfl ?_ -- t19
    refine WL.y (Yl.nilCheck rfl) rfl ?_ -- t20
    refine WL.y (Yl.load on3 rfl (by repeat (first | exact Take1.head | apply Take1.tail)) (by rfl)) rfl ?_ -- t21
    refine WL.y (Yl.add rfl rfl (IntWalk.i64_in _ (by omega))) rfl ?_ -- t22
    refine WL.y (Yl.nilCheck rfl) rfl ?_ -- t23
    refine WL.sto (Sto.one sz3 rfl rfl (by repeat (first | exact Take1.head | apply Take1.tail)) rfl (by rfl) (by rfl)) (fun _ h => nomatch h) ?_ -- st 1
    refine WL.nil ?_
    refine WC.seq ?_
    refine WC.region ?_
    refine WL.y (Yl.move rfl) rfl ?_ -- t24
    refine WL.y (Yl.move rfl) rfl ?_ -- t25
    refine WL.y (Yl.assign rfl) rfl ?_ -- t8
    refine WL.y (Yl.assign rfl) rfl ?_ -- t9
    refine WL.nil ?_
    refine WC.ret ?_
    repeat (first | (with_reducible refine peelT ?_) | (with_reducible refine peelB ?_) | (with_reducible refine peelTX ?_) | (with_reducible refine peelBX ?_) | (with_reducible refine peelBN ?_) | (with_reducible refine peelBO rfl ?_))
    exact ret2 (.inr rfl) Try.results89 rfl rfl fun w' h => ⟨(), trivial, by unfold order2; rw [if_pos g18], by unfold order2; rw [if_pos g18]; exact h.sub (by repeat (first | exact TakeL.nil | (apply TakeL.cons; · repeat (first | exact Take1.head | apply Take1.tail))))⟩
  · refine WC.skip ?_
    refine WC.seq ?_
    refine WC.region ?_
    refine WL.y (Yl.move rfl) rfl ?_ -- t26
    refine WL.y (Yl.move rfl) rfl ?_ -- t27
    refine WL.y (Yl.assign rfl) rfl ?_ -- t8
    refine WL.y (Yl.assign rfl) rfl ?_ -- t9
    refine WL.nil ?_
    refine WC.ret ?_
    repeat (first | (with_reducible refine peelT ?_) | (with_reducible refine peelB ?_) | (with_reducible refine peelTX ?_) | (with_reducible refine peelBX ?_) | (with_reducible refine peelBN ?_) | (with_reducible refine peelBO rfl ?_))
    exact ret2 (.inr rfl) Try.results89 rfl rfl fun w' h => ⟨(), trivial, by unfold order2; rw [if_neg (ne_true_of_eq_false g18)], by unfold order2; rw [if_neg (ne_true_of_eq_false g18)]; exact h.sub (by repeat (first | exact TakeL.nil | (apply TakeL.cons; · repeat (first | exact Take1.head | apply Take1.tail))))⟩
theorem order2_in {D : Array Int} {a b sw n : Nat} (ha : a < n) (hb : b < n) : (order2 ltInt D a b sw).1 < n ∧ (order2 ltInt D a b sw).2.1 < n ∧ (order2 ltInt D a b sw).2.2 ≤ sw + 1 := by
  unfold order2
  split
  · exact ⟨hb, ha, Nat.le_refl _⟩
  · exact ⟨ha, hb, Nat.le_succ _⟩
theorem medV_any (v : Value) (n : Nat) (D : Array Int) (a b c sw bs : Nat) (hD : D.size = n) (ha : a < n) (hb : b < n) (hc : c < n) (hs : sw ≤ 900) (w : World) (hw : OK w (fpL [ownR v 22 1 n (ints .u64 D.toList), blkR bs 3 [.int .i64 (sw : Int)]]) [ownR v 22 1 n (ints .u64 D.toList), blkR bs 3 [.int .i64 (sw : Int)]] w) :
    Fn Try.prog 87 [v, .int .i64 (a : Int), .int .i64 (b : Int), .int .i64 (c : Int), .pointer (some ⟨bs, 0, none⟩)] [ownR v 22 1 n (ints .u64 D.toList), blkR bs 3 [.int .i64 (sw : Int)]] w (fun _ : Unit => True) (fun _ => .int .i64 ((median ltInt D a b c sw).1 : Int)) (fun _ => [ownR v 22 1 n (ints .u64 D.toList), blkR bs 3 [.int .i64 ((median ltInt D a b c sw).2 : Int)]]) := by
  unfold median
  dsimp only
  obtain ⟨p1, p2, p3⟩ := order2_in (D := D) (sw := sw) ha hb
  obtain ⟨r1, hr1⟩ : ∃ r, order2 ltInt D a b sw = r := ⟨_, rfl⟩
  rw [hr1] at p1 p2 p3 ⊢
  obtain ⟨q1, q2, q3⟩ := order2_in (D := D) (sw := r1.2.2) p2 hc
  obtain ⟨r2, hr2⟩ : ∃ r, order2 ltInt D r1.2.1 c r1.2.2 = r := ⟨_, rfl⟩
  rw [hr2] at q1 q2 q3 ⊢
  refine enterF Try.func87 rfl Try.ntmps87 rfl hw ?_
  refine WC.seq ?_
  refine WC.region ?_
  refine WL.y (Yl.assign rfl) rfl ?_ -- t10
  refine WL.nil ?_
  refine WC.seq ?_
  refine WC.region ?_
  refine WL.y (Yl.move rfl) rfl ?_ -- t12
  refine WL.y (Yl.move rfl) rfl ?_ -- t13
  refine WL.y (Yl.move rfl) rfl ?_ -- t14
  refine WL.y (Yl.move rfl) rfl ?_ -- t15
  refine WL.callC (xs := [.tmp 12, .tmp 13, .tmp 14, .tmp 15]) (cap := []) rfl rfl en89 (by repeat (first | exact TakeL.nil | (apply TakeL.cons; · repeat (first | exact Take1.head | apply Take1.tail)))) (fun w hw => ordV_any v n D a b sw bs hD ha hb (by omega) w hw.left.here) rfl ?_ -- t16 slices.order2Ordered[uint64]
  rintro ⟨⟩ -
  rw [hr1]
  dsimp only [List.cons_append, List.nil_append]
  refine WL.y (Yl.move rfl) rfl ?_ -- t11
  refine WL.y (Yl.extract rfl rfl) rfl ?_ -- t17
  refine WL.y (Yl.extract rfl rfl) rfl ?_ -- t18
  refine WL.y (Yl.assign rfl) rfl ?_ -- t1
  refine WL.y (Yl.assign rfl) rfl ?_ -- t2
  refine WL.nil ?_
  refine WC.seq ?_
  refine WC.region ?_
  refine WL.y (Yl.move rfl) rfl ?_ -- t20
  refine WL.y (Yl.move rfl) rfl ?_ -- t21
  refine WL.y (Yl.move rfl) rfl ?_ -- t22
  refine WL.y (Yl.move rfl) rfl ?_ -- t23
  refine WL.callC (xs := [.tmp 20, .tmp 21, .tmp 22, .tmp 23]) (cap := []) rfl rfl en89 (by repeat (first | exact TakeL.nil | (apply TakeL.cons; · repeat (first | exact Take1.head | apply Take1.tail)))) (fun w hw => ordV_any v n D r1.2.1 c r1.2.2 bs hD p2 hc (by omega) w hw.left.here) rfl ?_ -- t24 slices.order2Ordered[uint64]
  rintro ⟨⟩ -
  rw [hr2]
  dsimp only [List.cons_append, List.nil_append]
  refine WL.y (Yl.move rfl) rfl ?_ -- t19
  refine WL.y (Yl.extract rfl rfl) rfl ?_ -- t25
  refine WL.y (Yl.extract rfl rfl) rfl ?_ -- t26
  refine WL.y (Yl.assign rfl) rfl ?_ -- t2
  refine WL.y (Yl.assign rfl) rfl ?_ -- t3
  refine WL.nil ?_
  refine WC.seq ?_
  refine WC.region ?_
  refine WL.y (Yl.move rfl) rfl ?_ -- t28
  refine WL.y (Yl.move rfl) rfl ?_ -- t29
  refine WL.y (Yl.move rfl) rfl ?_ -- t30
  refine WL.y (Yl.move rfl) rfl ?_ -- t31
  refine WL.callC (xs := [.tmp 28, .tmp 29, .tmp 30, .tmp 31]) (cap := []) rfl rfl en89 (by repeat (first | exact TakeL.nil | (apply TakeL.cons; · repeat (first | exact Take1.head | apply Take1.tail)))) (fun w hw => ordV_any v n D r1.1 r2.1 r2.2.2 bs hD p1 q1 (by omega) w hw.left.here) rfl ?_ -- t32 slices.order2Ordered[uint64]
  rintro ⟨⟩ -
  dsimp only [List.cons_append, List.nil_append]
  refine WL.y (Yl.move rfl) rfl ?_ -- t27
  refine WL.y (Yl.extract rfl rfl) rfl ?_ -- t33
  refine WL.y (Yl.extract rfl rfl) rfl ?_ -- t34
  refine WL.y (Yl.assign rfl) rfl ?_ -- t1
  refine WL.y (Yl.assign rfl) rfl ?_ -- t2
  refine WL.nil ?_
  refine WC.seq ?_
  refine WC.region ?_
  refine WL.y (Yl.move rfl) rfl ?_ -- t35
  refine WL.y (Yl.assign rfl) rfl ?_ -- t10
  refine WL.nil ?_
  refine WC.ret ?_
  repeat (first | (with_reducible refine peelT ?_) | (with_reducible refine peelB ?_) | (with_reducible refine peelTX ?_) | (with_reducible refine peelBX ?_) | (with_reducible refine peelBN ?_) | (with_reducible refine peelBO rfl ?_))
  exact ret1 (.inr rfl) Try.results87 rfl fun w' h => ⟨(), trivial, rfl, h.sub (by repeat (first | exact TakeL.nil | (apply TakeL.cons; · repeat (first | exact Take1.head | apply Take1.tail))))⟩
theorem median_in {D : Array Int} {a b c sw n : Nat} (ha : a < n) (hb : b < n) (hc : c < n) : (median ltInt D a b c sw).1 < n ∧ (median ltInt D a b c sw).2 ≤ sw + 3 := by
  unfold median
  dsimp only
  obtain ⟨p1, p2, p3⟩ := order2_in (D := D) (sw := sw) ha hb
  obtain ⟨q1, q2, q3⟩ := order2_in (D := D) (sw := (order2 ltInt D a b sw).2.2) p2 hc
  obtain ⟨s1, s2, s3⟩ := order2_in (D := D) (sw := (order2 ltInt D (order2 ltInt D a b sw).2.1 c (order2 ltInt D a b sw).2.2).2.2) p1 q1
  exact ⟨s2, by omega⟩
theorem medAV_any (v : Value) (n : Nat) (D : Array Int) (a sw bs : Nat) (hD : D.size = n) (hn : n ≤ 1099511627776) (ha : 1 ≤ a ∧ a + 1 < n) (hs : sw ≤ 900) (w : World) (hw : OK w (fpL [ownR v 22 1 n (ints .u64 D.toList), blkR bs 3 [.int .i64 (sw : Int)]]) [ownR v 22 1 n (ints .u64 D.toList), blkR bs 3 [.int .i64 (sw : Int)]] w) :
    Fn Try.prog 86 [v, .int .i64 (a : Int), .pointer (some ⟨bs, 0, none⟩)] [ownR v 22 1 n (ints .u64 D.toList), blkR bs 3 [.int .i64 (sw : Int)]] w (fun _ : Unit => True) (fun _ => .int .i64 ((medianAdjacent ltInt D a sw).1 : Int)) (fun _ => [ownR v 22 1 n (ints .u64 D.toList), blkR bs 3 [.int .i64 ((medianAdjacent ltInt D a sw).2 : Int)]]) := by
  unfold medianAdjacent
  refine enterF Try.func86 rfl Try.ntmps86 rfl hw ?_
  refine WC.seq ?_
  refine WC.region ?_
  refine WL.y (Yl.assign rfl) rfl ?_ -- t6
  refine WL.nil ?_
  refine WC.seq ?_
  refine WC.region ?_
  refine WL.y (Yl.move rfl) rfl ?_ -- t7
  refine WL.y (Yl.move rfl) rfl ?_ -- t8
  refine WL.y (Yl.sub rfl rfl (IntWalk.i64_in _ (by omega))) rfl ?_ -- t9
  refine WL.say (t := 9) (v' := .int .i64 ((a - 1 : Nat) : Int)) rfl (by (refine congrArg _ ?_; omega)) ?_
  refine WL.y (Yl.move rfl) rfl ?_ -- t10
  refine WL.y (Yl.move rfl) rfl ?_ -- t11
  refine WL.y (Yl.add rfl rfl (IntWalk.i64_in _ (by omega))) rfl ?_ -- t12
  refine WL.y (Yl.move rfl) rfl ?_ -- t13
  refine WL.callC (xs := [.tmp 7, .tmp 9, .tmp 10, .tmp 12, .tmp 13]) (cap := []) rfl rfl en87 (by repeat (first | exact TakeL.nil | (apply TakeL.cons; · repeat (first | exact Take1.head | apply Take1.tail)))) (fun w hw => medV_any v n D (a - 1) a (a + 1) sw bs hD (by omega) (by omega) (by omega) hs w hw.left.here) rfl ?_ -- t14 slices.medianOrdered[uint64]
  rintro ⟨⟩ -
  dsimp only [List.cons_append, List.nil_append]
  refine WL.y (Yl.assign rfl) rfl ?_ -- t6
  refine WL.nil ?_
  refine WC.ret ?_
  repeat (first | (with_reducible refine peelT ?_) | (with_reducible refine peelB ?_) | (with_reducible refine peelTX ?_) | (with_reducible refine peelBX ?_) | (with_reducible refine peelBN ?_) | (with_reducible refine peelBO rfl ?_))
  exact ret1 (.inr rfl) Try.results86 rfl fun w' h => ⟨(), trivial, rfl, h.sub (by repeat (first | exact TakeL.nil | (apply TakeL.cons; · repeat (first | exact Take1.head | apply Take1.tail))))⟩

/-! ### Insertion -/
theorem ins_go {a j : Nat} {D : Array Int} (h : a < j) (hl : ltInt D[j]! D[j - 1]! = true) : insInner ltInt a j D = insInner ltInt a (j - 1) (swp D j (j - 1)) := by
  cases j with
  | zero => omega
  | succ j =>
    rw [insInner, if_pos (by rw [Bool.and_eq_true]; exact ⟨decide_eq_true h, hl⟩)]
    rfl
theorem ins_stop {a j : Nat} {D : Array Int} (h : ¬ (a < j ∧ ltInt D[j]! D[j - 1]! = true)) : insInner ltInt a j D = D := by
  cases j with
  | zero => rfl
  | succ j =>
    rw [insInner, if_neg (fun e => h (by rw [Bool.and_eq_true] at e; exact ⟨of_decide_eq_true e.1, e.2⟩))]
theorem insOut_go {a b i : Nat} {D : Array Int} (h : i < b) : insOuter ltInt a b i D = insOuter ltInt a b (i + 1) (insInner ltInt a i D) := by rw [insOuter, if_pos h]
theorem insOut_stop {a b i : Nat} {D : Array Int} (h : ¬ i < b) : insOuter ltInt a b i D = D := by rw [insOuter, if_neg h]

set_option maxRecDepth 100000 in
theorem insV_any (v : Value) (n : Nat) (D : Array Int) (a b : Nat) (hD : D.size = n) (hn : n ≤ 1099511627776) (hab : a ≤ b) (hb : b ≤ n) (w : World) (hw : OK w (fpL [ownR v 22 1 n (ints .u64 D.toList)]) [ownR v 22 1 n (ints .u64 D.toList)] w) :
    Fn Try.prog 72 [v, .int .i64 (a : Int), .int .i64 (b : Int)] [ownR v 22 1 n (ints .u64 D.toList)] w (fun _ : Unit => True) (fun _ => .tuple #[]) (fun _ => [ownR v 22 1 n (ints .u64 (insertionSort ltInt D a b).toList)]) := by
  have hF := sl_form (hw.get (r := ownR v 22 1 n (ints .u64 D.toList)) .head)
  unfold insertionSort
  obtain ⟨T, hT⟩ : ∃ T, insOuter ltInt a b (a + 1) D = T := ⟨_, rfl⟩
  rw [hT]
  refine enterF Try.func72 rfl Try.ntmps72 rfl hw ?_
  refine WC.seq ?_
  refine WC.region ?_
  refine WL.y (Yl.move rfl) rfl ?_ -- t8
  refine WL.y (Yl.add rfl rfl (IntWalk.i64_in _ (by omega))) rfl ?_ -- t9
  refine WL.y (Yl.assign rfl) rfl ?_ -- t6
  refine WL.nil ?_
  refine WC.block ?_
  refine WC.loop (α := Nat × Array Int) (fun p => [(0, v), (1, .int .i64 (a : Int)), (2, .int .i64 (b : Int)), (6, .int .i64 (p.1 : Int))]) (fun p => [ownR v 22 1 n (ints .u64 p.2.toList)]) (fun p => a < p.1 ∧ p.1 ≤ n + 1 ∧ p.2.size = n ∧ insOuter ltInt a b p.1 p.2 = T) (fun p => n + 1 - p.1) (a + 1, D) ⟨Nat.lt_succ_self _, by dsimp only; omega, hD, hT⟩ ⟨(by repeat (first | exact Sub.nil | refine Sub.cons rfl ?_)), _, (by repeat (first | exact TakeL.nil | (apply TakeL.cons; · repeat (first | exact Take1.head | apply Take1.tail))))⟩ ?_
  rintro ⟨i, E⟩ ⟨hi, hin, hE, hTE⟩
  dsimp only at hi hin hE hTE ⊢
  refine WC.seq ?_
  refine WC.seq ?_
  refine WC.region ?_
  refine WL.y (Yl.move rfl) rfl ?_ -- t10
  refine WL.y (Yl.move rfl) rfl ?_ -- t11
  refine WL.y (Yl.lss rfl rfl) rfl ?_ -- t12
  refine WL.nil ?_
  refine WC.condD rfl (fun g12 => ?_) (fun g12 => ?_)
  · refine WC.skip ?_
    refine WC.seq ?_
    refine WC.block ?_
    refine WC.seq ?_
    refine WC.region ?_
    refine WL.y (Yl.move rfl) rfl ?_ -- t15
    refine WL.y (Yl.assign rfl) rfl ?_ -- t7
    refine WL.nil ?_
    refine WC.block ?_
    have hib : i < b := by omega
    refine WC.loop (α := Nat × Array Int) (fun p => [(0, v), (1, .int .i64 (a : Int)), (2, .int .i64 (b : Int)), (6, .int .i64 (i : Int)), (7, .int .i64 (p.1 : Int))]) (fun p => [ownR v 22 1 n (ints .u64 p.2.toList)]) (fun p => p.1 ≤ i ∧ p.2.size = n ∧ insInner ltInt a p.1 p.2 = insInner ltInt a i E) (fun p => p.1) (i, E) ⟨Nat.le_refl _, hE, rfl⟩ ⟨(by repeat (first | exact Sub.nil | refine Sub.cons rfl ?_)), _, (by repeat (first | exact TakeL.nil | (apply TakeL.cons; · repeat (first | exact Take1.head | apply Take1.tail))))⟩ ?_
    rintro ⟨j, G⟩ ⟨hj, hG, hTG⟩
    dsimp only at hj hG hTG ⊢
    refine WC.seq ?_
    refine WC.midX (α := Unit) (fun _ => [(0, v), (1, .int .i64 (a : Int)), (2, .int .i64 (b : Int)), (6, .int .i64 (i : Int)), (7, .int .i64 (j : Int)), (30, .bool (decide ((a : Int) < (j : Int)) && ltInt G[j]! G[j - 1]!))]) (fun _ => [ownR v 22 1 n (ints .u64 G.toList)]) (fun _ => True) ?_ ?_
    · refine WC.drawAny (Hs := [ownR v 22 1 n (ints .u64 G.toList)]) mixed (by kernel_rfl) ⟨_, (by repeat (first | exact TakeL.nil | (apply TakeL.cons; · repeat (first | exact Take1.head | apply Take1.tail))))⟩ ?_
      refine WD.take 0 rfl (by kernel_rfl) (by kernel_rfl) (by kernel_rfl) rfl rfl (Yl.move rfl) rfl ?_ -- t16
      refine WD.take 1 rfl (by kernel_rfl) (by kernel_rfl) (by kernel_rfl) rfl rfl (Yl.move rfl) rfl ?_ -- t17
      refine WD.take 2 rfl (by kernel_rfl) (by kernel_rfl) (by kernel_rfl) rfl rfl (Yl.gtr rfl rfl) rfl ?_ -- t18
      refine WD.take 3 rfl (by kernel_rfl) (by kernel_rfl) (by kernel_rfl) rfl rfl (Yl.move rfl) rfl ?_ -- t19
      refine WD.both (t := 19) rfl (fun g19 => ?_) (fun g19 => ?_)
      · have hja : a < j := by have := of_decide_eq_true g19; omega
        refine WD.takeOn 4 rfl (by kernel_rfl) (by kernel_rfl) (by kernel_rfl) rfl rfl rfl rfl (Yl.move rfl) rfl ?_ -- t20
        refine WD.takeOn 5 rfl (by kernel_rfl) (by kernel_rfl) (by kernel_rfl) rfl rfl rfl rfl (Yl.move rfl) rfl ?_ -- t21
        refine WD.takeOn 6 rfl (by kernel_rfl) (by kernel_rfl) (by kernel_rfl) rfl rfl rfl rfl (Yl.index un105 sz22 rfl rfl (Reads.own (by repeat (first | exact Take1.head | apply Take1.tail))) rfl (by omega)) rfl ?_ -- t22
        refine WD.takeOn 7 rfl (by kernel_rfl) (by kernel_rfl) (by kernel_rfl) rfl rfl rfl rfl (Yl.loadE on22 rfl (Reads.own (by repeat (first | exact Take1.head | apply Take1.tail))) (so_getV (by omega))) rfl ?_
        refine WD.takeOn 8 rfl (by kernel_rfl) (by kernel_rfl) (by kernel_rfl) rfl rfl rfl rfl (Yl.move rfl) rfl ?_ -- t24
        refine WD.takeOn 9 rfl (by kernel_rfl) (by kernel_rfl) (by kernel_rfl) rfl rfl rfl rfl (Yl.move rfl) rfl ?_ -- t25
        refine WD.takeOn 10 rfl (by kernel_rfl) (by kernel_rfl) (by kernel_rfl) rfl rfl rfl rfl (Yl.sub rfl rfl (IntWalk.i64_in _ (by omega))) rfl ?_ -- t26
        refine WD.say (t := 26) (v' := .int .i64 ((j - 1 : Nat) : Int)) rfl (by (refine congrArg _ ?_; omega)) ?_
        refine WD.takeOn 11 rfl (by kernel_rfl) (by kernel_rfl) (by kernel_rfl) rfl rfl rfl rfl (Yl.index un105 sz22 rfl rfl (Reads.own (by repeat (first | exact Take1.head | apply Take1.tail))) rfl (by omega)) rfl ?_ -- t27
        refine WD.takeOn 12 rfl (by kernel_rfl) (by kernel_rfl) (by kernel_rfl) rfl rfl rfl rfl (Yl.loadE on22 rfl (Reads.own (by repeat (first | exact Take1.head | apply Take1.tail))) (so_getV (by omega))) rfl ?_
        refine WD.one 13 (by kernel_rfl) ?_
        refine WO.callC (xs := [.tmp 23, .tmp 28]) (cap := []) rfl (.on rfl rfl) rfl rfl en78 (by repeat (first | exact TakeL.nil | (apply TakeL.cons; · repeat (first | exact Take1.head | apply Take1.tail)))) (fun w hw => lessV_any _ _ w hw.left.here) rfl (fun _ => ⟨_, (by repeat (first | exact TakeL.nil | (apply TakeL.cons; · repeat (first | exact Take1.head | apply Take1.tail))))⟩) ?_ -- t29 cmp.Less[uint64]
        rintro ⟨⟩ -
        refine WD.take 14 rfl (by kernel_rfl) (by kernel_rfl) (by kernel_rfl) rfl rfl (Yl.pickT rfl rfl) rfl ?_ -- t30
        refine WD.say (t := 30) (v' := .bool (decide ((a : Int) < (j : Int)) && ltInt G[j]! G[j - 1]!)) rfl (by (rw [g19]; rfl)) ?_
        refine WD.done (by kernel_rfl) ?_
        exact ⟨rfl, (), trivial, (by repeat (first | exact Sub.nil | refine Sub.cons rfl ?_)), _, (by repeat (first | exact TakeL.nil | (apply TakeL.cons; · repeat (first | exact Take1.head | apply Take1.tail))))⟩
      · refine WD.takeOff 4 rfl (by kernel_rfl) (by kernel_rfl) (by kernel_rfl) rfl rfl rfl rfl rfl rfl ?_ -- t20
        refine WD.takeOff 5 rfl (by kernel_rfl) (by kernel_rfl) (by kernel_rfl) rfl rfl rfl rfl rfl rfl ?_ -- t21
        refine WD.takeOff 6 rfl (by kernel_rfl) (by kernel_rfl) (by kernel_rfl) rfl rfl rfl rfl rfl rfl ?_ -- t22
        refine WD.takeOff 7 rfl (by kernel_rfl) (by kernel_rfl) (by kernel_rfl) rfl rfl rfl rfl rfl rfl ?_ -- t23
        refine WD.takeOff 8 rfl (by kernel_rfl) (by kernel_rfl) (by kernel_rfl) rfl rfl rfl rfl rfl rfl ?_ -- t24
        refine WD.takeOff 9 rfl (by kernel_rfl) (by kernel_rfl) (by kernel_rfl) rfl rfl rfl rfl rfl rfl ?_ -- t25
        refine WD.takeOff 10 rfl (by kernel_rfl) (by kernel_rfl) (by kernel_rfl) rfl rfl rfl rfl rfl rfl ?_ -- t26
        refine WD.takeOff 11 rfl (by kernel_rfl) (by kernel_rfl) (by kernel_rfl) rfl rfl rfl rfl rfl rfl ?_ -- t27
        refine WD.takeOff 12 rfl (by kernel_rfl) (by kernel_rfl) (by kernel_rfl) rfl rfl rfl rfl rfl rfl ?_ -- t28
        refine WD.one 13 (by kernel_rfl) ?_
        refine WO.off rfl rfl rfl rfl rfl rfl rfl ?_ -- t29
        refine WD.take 14 rfl (by kernel_rfl) (by kernel_rfl) (by kernel_rfl) rfl rfl (Yl.pickF rfl rfl) rfl ?_ -- t30
        refine WD.say (t := 30) (v' := .bool (decide ((a : Int) < (j : Int)) && ltInt G[j]! G[j - 1]!)) rfl (by (rw [g19]; rfl)) ?_
        refine WD.done (by kernel_rfl) ?_
        exact ⟨rfl, (), trivial, (by repeat (first | exact Sub.nil | refine Sub.cons rfl ?_)), _, (by repeat (first | exact TakeL.nil | (apply TakeL.cons; · repeat (first | exact Take1.head | apply Take1.tail))))⟩
    · rintro ⟨⟩ -
      refine WC.cond rfl (fun g30 => ?_) (fun g30 => ?_)
      · refine WC.skip ?_
        refine WC.seq ?_
        refine WC.block ?_
        have hgo : a < j ∧ ltInt G[j]! G[j - 1]! = true := by
          rw [Bool.and_eq_true] at g30
          exact ⟨by have := of_decide_eq_true g30.1; omega, g30.2⟩
        obtain ⟨hja, hlt⟩ := hgo
        refine WC.drawAny (Hs := []) mixed (by kernel_rfl) ⟨_, (by repeat (first | exact TakeL.nil | (apply TakeL.cons; · repeat (first | exact Take1.head | apply Take1.tail))))⟩ ?_
        refine WD.take 0 rfl (by kernel_rfl) (by kernel_rfl) (by kernel_rfl) rfl rfl (Yl.move rfl) rfl ?_ -- t33
        refine WD.take 1 rfl (by kernel_rfl) (by kernel_rfl) (by kernel_rfl) rfl rfl (Yl.move rfl) rfl ?_ -- t34
        refine WD.take 2 rfl (by kernel_rfl) (by kernel_rfl) (by kernel_rfl) rfl rfl (Yl.move rfl) rfl ?_ -- t35
        refine WD.take 3 rfl (by kernel_rfl) (by kernel_rfl) (by kernel_rfl) rfl rfl (Yl.move rfl) rfl ?_ -- t36
        refine WD.take 4 rfl (by kernel_rfl) (by kernel_rfl) (by kernel_rfl) rfl rfl (Yl.sub rfl rfl (IntWalk.i64_in _ (by omega))) rfl ?_ -- t37
        refine WD.say (t := 37) (v' := .int .i64 ((j - 1 : Nat) : Int)) rfl (by (refine congrArg _ ?_; omega)) ?_
        refine WD.take 5 rfl (by kernel_rfl) (by kernel_rfl) (by kernel_rfl) rfl rfl (Yl.move rfl) rfl ?_ -- t38
        refine WD.take 6 rfl (by kernel_rfl) (by kernel_rfl) (by kernel_rfl) rfl rfl (Yl.move rfl) rfl ?_ -- t39
        refine WD.take 7 rfl (by kernel_rfl) (by kernel_rfl) (by kernel_rfl) rfl rfl (Yl.sub rfl rfl (IntWalk.i64_in _ (by omega))) rfl ?_ -- t40
        refine WD.say (t := 40) (v' := .int .i64 ((j - 1 : Nat) : Int)) rfl (by (refine congrArg _ ?_; omega)) ?_
        refine WD.take 8 rfl (by kernel_rfl) (by kernel_rfl) (by kernel_rfl) rfl rfl (Yl.indexF un105 sz22 rfl rfl hF rfl (by omega)) rfl ?_
        refine WD.take 10 rfl (by kernel_rfl) (by kernel_rfl) (by kernel_rfl) rfl rfl (Yl.move rfl) rfl ?_ -- t43
        refine WD.take 11 rfl (by kernel_rfl) (by kernel_rfl) (by kernel_rfl) rfl rfl (Yl.move rfl) rfl ?_ -- t44
        refine WD.take 12 rfl (by kernel_rfl) (by kernel_rfl) (by kernel_rfl) rfl rfl (Yl.indexF un105 sz22 rfl rfl hF rfl (by omega)) rfl ?_
        refine WD.two 9 13 (by kernel_rfl) ?_ ?_
        · refine WO.y rfl rfl .no (Yl.loadE on22 rfl (Reads.own (by repeat (first | exact Take1.head | apply Take1.tail))) (so_getV (by omega))) rfl ?_
          refine WD.one 13 (by kernel_rfl) ?_
          refine WO.y rfl rfl .no (Yl.loadE on22 rfl (Reads.own (by repeat (first | exact Take1.head | apply Take1.tail))) (so_getV (by omega))) rfl ?_
          refine WD.take 14 rfl (by kernel_rfl) (by kernel_rfl) (by kernel_rfl) rfl rfl (Yl.indexF un105 sz22 rfl rfl hF rfl (by omega)) rfl ?_
          refine WD.one 15 (by kernel_rfl) ?_
          refine WO.sto rfl rfl .no (Sto.elem (j := j) sz22 rfl rfl (by repeat (first | exact Take1.head | apply Take1.tail)) rfl (by omega) rfl) ⟨_, (by repeat (first | exact TakeL.nil | (apply TakeL.cons; · repeat (first | exact Take1.head | apply Take1.tail))))⟩ ?_
          refine WD.take 16 rfl (by kernel_rfl) (by kernel_rfl) (by kernel_rfl) rfl rfl (Yl.indexF un105 sz22 rfl rfl hF rfl (by omega)) rfl ?_
          refine WD.one 17 (by kernel_rfl) ?_
          refine WO.sto rfl rfl .no (Sto.elem (j := j - 1) (cs' := ints .u64 (swp G j (j - 1)).toList) sz22 rfl rfl (by repeat (first | exact Take1.head | apply Take1.tail)) rfl (by omega) (so_swpV G j (j - 1))) ⟨_, (by repeat (first | exact TakeL.nil | (apply TakeL.cons; · repeat (first | exact Take1.head | apply Take1.tail))))⟩ ?_
          refine WD.done (by kernel_rfl) ?_
          refine WC.region ?_
          refine WL.y (Yl.move rfl) rfl ?_ -- t31
          refine WL.y (Yl.sub rfl rfl (IntWalk.i64_in _ (by omega))) rfl ?_ -- t32
          refine WL.say (t := 32) (v' := .int .i64 ((j - 1 : Nat) : Int)) rfl (by (refine congrArg _ ?_; omega)) ?_
          refine WL.y (Yl.assign rfl) rfl ?_ -- t7
          refine WL.nil ?_
          exact ⟨rfl, (j - 1, swp G j (j - 1)), ⟨by dsimp only; omega, by dsimp only; rw [swp_size]; exact hG, by dsimp only; rw [← ins_go hja hlt]; exact hTG⟩, by dsimp only; omega, (by repeat (first | exact Sub.nil | refine Sub.cons rfl ?_)), _, (by repeat (first | exact TakeL.nil | (apply TakeL.cons; · repeat (first | exact Take1.head | apply Take1.tail))))⟩
        · refine WO.y rfl rfl .no (Yl.loadE on22 rfl (Reads.own (by repeat (first | exact Take1.head | apply Take1.tail))) (so_getV (by omega))) rfl ?_
          refine WD.one 9 (by kernel_rfl) ?_
          refine WO.y rfl rfl .no (Yl.loadE on22 rfl (Reads.own (by repeat (first | exact Take1.head | apply Take1.tail))) (so_getV (by omega))) rfl ?_
          refine WD.take 14 rfl (by kernel_rfl) (by kernel_rfl) (by kernel_rfl) rfl rfl (Yl.indexF un105 sz22 rfl rfl hF rfl (by omega)) rfl ?_
          refine WD.one 15 (by kernel_rfl) ?_
          refine WO.sto rfl rfl .no (Sto.elem (j := j) sz22 rfl rfl (by repeat (first | exact Take1.head | apply Take1.tail)) rfl (by omega) rfl) ⟨_, (by repeat (first | exact TakeL.nil | (apply TakeL.cons; · repeat (first | exact Take1.head | apply Take1.tail))))⟩ ?_
          refine WD.take 16 rfl (by kernel_rfl) (by kernel_rfl) (by kernel_rfl) rfl rfl (Yl.indexF un105 sz22 rfl rfl hF rfl (by omega)) rfl ?_
          refine WD.one 17 (by kernel_rfl) ?_
          refine WO.sto rfl rfl .no (Sto.elem (j := j - 1) (cs' := ints .u64 (swp G j (j - 1)).toList) sz22 rfl rfl (by repeat (first | exact Take1.head | apply Take1.tail)) rfl (by omega) (so_swpV G j (j - 1))) ⟨_, (by repeat (first | exact TakeL.nil | (apply TakeL.cons; · repeat (first | exact Take1.head | apply Take1.tail))))⟩ ?_
          refine WD.done (by kernel_rfl) ?_
          refine WC.region ?_
          refine WL.y (Yl.move rfl) rfl ?_ -- t31
          refine WL.y (Yl.sub rfl rfl (IntWalk.i64_in _ (by omega))) rfl ?_ -- t32
          refine WL.say (t := 32) (v' := .int .i64 ((j - 1 : Nat) : Int)) rfl (by (refine congrArg _ ?_; omega)) ?_
          refine WL.y (Yl.assign rfl) rfl ?_ -- t7
          refine WL.nil ?_
          exact ⟨rfl, (j - 1, swp G j (j - 1)), ⟨by dsimp only; omega, by dsimp only; rw [swp_size]; exact hG, by dsimp only; rw [← ins_go hja hlt]; exact hTG⟩, by dsimp only; omega, (by repeat (first | exact Sub.nil | refine Sub.cons rfl ?_)), _, (by repeat (first | exact TakeL.nil | (apply TakeL.cons; · repeat (first | exact Take1.head | apply Take1.tail))))⟩
      · refine WC.exit ?_
        have hst : insInner ltInt a j G = G := ins_stop (fun e => by
          have : (decide ((a : Int) < (j : Int)) && ltInt G[j]! G[j - 1]!) = true := by rw [Bool.and_eq_true]; exact ⟨decide_eq_true (by omega), e.2⟩
          rw [g30] at this
          cases this)
        refine WC.region ?_
        refine WL.y (Yl.move rfl) rfl ?_ -- t13
        refine WL.y (Yl.add rfl rfl (IntWalk.i64_in _ (by omega))) rfl ?_ -- t14
        refine WL.y (Yl.assign rfl) rfl ?_ -- t6
        refine WL.nil ?_
        exact ⟨rfl, (i + 1, G), ⟨by dsimp only; omega, by dsimp only; omega, hG, by dsimp only; rw [← hTE, insOut_go hib, ← hTG, hst]⟩, by dsimp only; omega, (by repeat (first | exact Sub.nil | refine Sub.cons rfl ?_)), _, (by repeat (first | exact TakeL.nil | (apply TakeL.cons; · repeat (first | exact Take1.head | apply Take1.tail))))⟩
  · refine WC.exit ?_
    repeat (first | (with_reducible refine peelT ?_) | (with_reducible refine peelB ?_) | (with_reducible refine peelTX ?_) | (with_reducible refine peelBX ?_) | (with_reducible refine peelBN ?_) | (with_reducible refine peelBO rfl ?_))
    have hib : ¬ i < b := by omega
    rw [insOut_stop hib] at hTE
    subst hTE
    exact ret0 (.inl rfl) Try.results72 fun w' h => ⟨(), trivial, rfl, h.sub (by repeat (first | exact TakeL.nil | (apply TakeL.cons; · repeat (first | exact Take1.head | apply Take1.tail))))⟩
end Go.Proofs.Ytklbmgfpnafdlaa
