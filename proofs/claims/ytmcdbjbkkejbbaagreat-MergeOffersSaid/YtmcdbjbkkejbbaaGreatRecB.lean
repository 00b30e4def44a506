/- Records: the reference's bytes, and what it takes: the walks. -/
import Derived.Test.YtmcdbjbkkejbbaaGreatRecA
namespace Go.Proofs.YtmcdbjbkkejbbaaGreat
open Go Go.RowKit

theorem rid_any (id : List Int) (hl : id.length = 16) (w : World) (hw : OK w (fpL []) [] w) :
    Fn Tryz.prog 28 [.agg (ints .u8 id).toArray] [] w (fun _ : Option Addr × Nat => True) (fun y => .slice y.1 16 y.2) (fun y => [ownR (.slice y.1 16 y.2) 5 1 16 (ints .u8 id)]) := by
  refine enterF Tryz.func28 rfl Tryz.ntmps28 rfl hw ?_
  refine WC.seq ?_
  refine WC.region ?_
  refine WL.to (To.box (cs := ints .u8 id) rfl rfl) rfl ?_ -- t1
  intro b1
  refine WL.y (Yl.assign rfl) rfl ?_ -- t2
  refine WL.nil ?_
  refine WC.seq ?_
  refine WC.region ?_
  refine WL.y (Yl.assign rfl) rfl ?_ -- t3
  refine WL.nil ?_
  refine WC.seq ?_
  refine WC.seq ?_
  refine WC.region ?_
  refine WL.y (Yl.assign rfl) rfl ?_ -- t4
  refine WL.nil ?_
  refine WC.block ?_
  refine WC.view (fun w h => h.addNil 5 1) ?_
  refine WC.loop (α := Nat × (Option Addr × Nat)) (fun p => [(1, .pointer (some ⟨b1, 0, none⟩)), (3, .slice p.2.1 p.1 p.2.2), (4, .int .i64 (p.1 : Int))]) (fun p => [ownR (.slice p.2.1 p.1 p.2.2) 5 1 p.1 (ints .u8 (id.take p.1)), blkR b1 30 (ints .u8 id)]) (fun p => p.1 ≤ 16) (fun p => 16 - p.1) (0, none, 0) (Nat.zero_le _) ⟨(by repeat (first | exact Sub.nil | refine Sub.cons rfl ?_)), _, (by repeat (first | exact TakeL.nil | (apply TakeL.cons; · repeat (first | exact Take1.head | apply Take1.tail))))⟩ ?_
  rintro ⟨j, ao, c⟩ hj
  dsimp only at hj ⊢
  refine WC.seq ?_
  refine WC.seq ?_
  refine WC.region ?_
  refine WL.y (Yl.move rfl) rfl ?_ -- t5
  refine WL.y (Yl.lss rfl rfl) rfl ?_ -- t6
  refine WL.nil ?_
  refine WC.condD rfl (fun g6 => ?_) (fun g6 => ?_)
  · refine WC.skip ?_
    refine WC.seq ?_
    refine WC.block ?_
    refine WC.region ?_
    refine WL.y (Yl.move rfl) rfl ?_ -- t9
    refine WL.y (Yl.move rfl) rfl ?_ -- t10
    refine WL.y (Yl.indexA un30 sz5 rfl rfl rfl (by omega)) rfl ?_ -- t11
    refine WL.y (Yl.load on5 rfl (by repeat (first | exact Take1.head | apply Take1.tail)) (show _ = some (.int .u8 (id.getD j 0)) by rw [show 0 + j * 1 = j by omega]; exact ints_get .u8 id j (by omega))) rfl ?_ -- t12
    refine WL.to (To.buildSlice (vs := [.int .u8 (id.getD j 0)]) un23 zs5 rfl rfl (by simp [Value.cells]) (by decide) (by decide)) rfl ?_ -- t13
    intro b13
    refine WL.to (To.append sl23 rfl rfl (by repeat (first | exact Take1.head | apply Take1.tail)) (Reads.of (RdOf.blk (cs := [.int .u8 (id.getD j 0)]) (cs' := ints .u8 [id.getD j 0]) (Nat.le_refl _) (by unfold maxLen; omega) (by simp) rfl) (by repeat (first | exact Take1.head | apply Take1.tail))) (ints_one _ _) rfl (by rw [ints_append, ← take_getD (show j < id.length by omega)]) (by unfold maxLen; omega) (by omega)) rfl ?_ -- t14
    rintro ⟨⟨ao14, c14⟩, hc14⟩
    dsimp only at hc14 ⊢
    refine WL.y (Yl.assign rfl) rfl ?_ -- t3
    refine WL.nil ?_
    refine WC.region ?_
    refine WL.y (Yl.move rfl) rfl ?_ -- t7
    refine WL.y (Yl.add rfl rfl (IntWalk.i64_in _ (by omega))) rfl ?_ -- t8
    refine WL.y (Yl.assign rfl) rfl ?_ -- t4
    refine WL.nil ?_
    exact ⟨rfl, (j + 1, ao14, c14), by dsimp only; omega, by dsimp only; omega, (by repeat (first | exact Sub.nil | refine Sub.cons rfl ?_)), _, (by repeat (first | exact TakeL.nil | (apply TakeL.cons; · repeat (first | exact Take1.head | apply Take1.tail))))⟩
  · refine WC.exit ?_
    refine WC.seq ?_
    refine WC.region ?_
    refine WL.y (Yl.move rfl) rfl ?_ -- t15
    refine WL.y (Yl.assign rfl) rfl ?_ -- t2
    refine WL.nil ?_
    refine WC.ret ?_
    repeat (first | (with_reducible refine peelT ?_) | (with_reducible refine peelB ?_) | (with_reducible refine peelTX ?_) | (with_reducible refine peelBX ?_) | (with_reducible refine peelBN ?_) | (with_reducible refine peelBO rfl ?_))
    have hj2 : j = 16 := by omega
    subst hj2
    exact ret1 (.inr rfl) Tryz.results28 rfl fun w' h => ⟨(ao, c), trivial, rfl, by rw [List.take_of_length_le (by omega)] at h; exact h.sub (by repeat (first | exact TakeL.nil | (apply TakeL.cons; · repeat (first | exact Take1.head | apply Take1.tail))))⟩

theorem rnumber_any (n : Int) (many : Nat) (hn : U64 n) (hm : many ≤ 8) (w : World) (hw : OK w (fpL []) [] w) :
    Fn Tryz.prog 29 [.int .u64 n, .int .i64 (many : Int)] [] w (fun _ : Nat => True) (fun b => .slice (some ⟨b, 0, none⟩) many many) (fun b => [ownR (.slice (some ⟨b, 0, none⟩) many many) 5 1 many (ints .u8 (be n many))]) := by
  refine enterF Tryz.func29 rfl Tryz.ntmps29 rfl hw ?_
  refine WC.seq ?_
  refine WC.region ?_
  refine WL.y (Yl.assign rfl) rfl ?_ -- t4
  refine WL.nil ?_
  refine WC.seq ?_
  refine WC.region ?_
  refine WL.y (Yl.move rfl) rfl ?_ -- t7
  refine WL.to (To.makeSlice un23 zb23_5 rfl rfl rfl (by omega) (by unfold maxLen; omega)) rfl ?_ -- t8
  intro b8
  refine WL.view (fun w h => h.blkOwn (b := b8) (size := 1) (n := many) (by repeat (first | exact Take1.head | apply Take1.tail)) (by unfold maxLen; omega) (by simp)) ?_
  refine WL.y (Yl.assign rfl) rfl ?_ -- t5
  refine WL.nil ?_
  refine WC.seq ?_
  refine WC.seq ?_
  refine WC.region ?_
  refine WL.y (Yl.move rfl) rfl ?_ -- t9
  refine WL.y (Yl.sub rfl rfl (IntWalk.i64_in _ (by omega))) rfl ?_ -- t10
  refine WL.y (Yl.assign rfl) rfl ?_ -- t6
  refine WL.nil ?_
  refine WC.block ?_
  refine WC.loop (α := Nat) (fun j => [(0, .int .u64 (n / 2 ^ (8 * j))), (5, .slice (some ⟨b8, 0, none⟩) many many), (6, .int .i64 ((many : Int) - 1 - (j : Int)))]) (fun j => [ownR (.slice (some ⟨b8, 0, none⟩) many many) 5 1 many (ints .u8 (numK n many j))]) (fun j => j ≤ many) (fun j => many - j) 0 (Nat.zero_le _) ⟨(by refine Sub.cons (by simp; rfl) (Sub.cons rfl (Sub.cons ?_ Sub.nil)); show some (Value.int .i64 _) = some (Value.int .i64 _); congr 2; omega), _, (by rw [numK_zero]; exact (by repeat (first | exact TakeL.nil | (apply TakeL.cons; · repeat (first | exact Take1.head | apply Take1.tail)))))⟩ ?_
  intro j hj
  have hp : (0 : Int) < 2 ^ (8 * j) := Int.pow_pos (by decide)
  have hq : 0 ≤ n / 2 ^ (8 * j) := Int.ediv_nonneg hn.1 (by omega)
  have hq2 : n / 2 ^ (8 * j) < 18446744073709551616 := by have := Int.ediv_le_self (2 ^ (8 * j)) hn.1; have := hn.2; omega
  refine WC.seq ?_
  refine WC.seq ?_
  refine WC.region ?_
  refine WL.y (Yl.move rfl) rfl ?_ -- t11
  refine WL.y (Yl.geq rfl rfl) rfl ?_ -- t12
  refine WL.nil ?_
  refine WC.condD rfl (fun g12 => ?_) (fun g12 => ?_)
  · refine WC.skip ?_
    refine WC.seq ?_
    refine WC.block ?_
    refine WC.seq ?_
    refine WC.region ?_
    refine WL.y (Yl.move rfl) rfl ?_ -- t15
    refine WL.y (Yl.move rfl) rfl ?_ -- t16
    refine WL.y (Yl.move rfl) rfl ?_ -- t17
    refine WL.y (Yl.rem rfl rfl (by omega) (Int.tmod_eq_emod_of_nonneg hq)) rfl ?_
    refine WL.y (Yl.conv un31 un5 rfl (IntWalk.u8_in _ (by omega))) rfl ?_ -- t19
    refine WL.y (Yl.index un23 sz5 rfl rfl (Reads.own (by repeat (first | exact Take1.head | apply Take1.tail))) (show ((many : Int) - 1 - (j : Int)) = ((many - 1 - j : Nat) : Int) by omega) (by omega)) rfl ?_ -- t20
    refine WL.sto (Sto.elem sz5 rfl rfl (by repeat (first | exact Take1.head | apply Take1.tail)) rfl (by omega) (cs' := ints .u8 (numK n many (j + 1))) (numK_step n (by omega))) (fun _ h => nomatch h) ?_
    refine WL.nil ?_
    refine WC.region ?_
    refine WL.y (Yl.move rfl) rfl ?_ -- t21
    refine WL.y (Yl.quo rfl rfl (by omega) (r := n / 2 ^ (8 * (j + 1))) (by rw [Int.tdiv_eq_ediv_of_nonneg hq, u64_in _ (by omega)]; exact div256 n j)) rfl ?_
    refine WL.y (Yl.assign rfl) rfl ?_ -- t0
    refine WL.nil ?_
    refine WC.region ?_
    refine WL.y (Yl.move rfl) rfl ?_ -- t13
    refine WL.y (Yl.sub rfl rfl (IntWalk.i64_in _ (by omega))) rfl ?_ -- t14
    refine WL.y (Yl.assign rfl) rfl ?_ -- t6
    refine WL.nil ?_
    exact ⟨rfl, j + 1, by omega, by omega, (by refine Sub.cons rfl (Sub.cons rfl (Sub.cons ?_ Sub.nil)); show some (Value.int .i64 _) = some (Value.int .i64 _); congr 2; omega), _, (by repeat (first | exact TakeL.nil | (apply TakeL.cons; · repeat (first | exact Take1.head | apply Take1.tail))))⟩
  · refine WC.exit ?_
    refine WC.seq ?_
    refine WC.region ?_
    refine WL.y (Yl.move rfl) rfl ?_ -- t23
    refine WL.y (Yl.assign rfl) rfl ?_ -- t4
    refine WL.nil ?_
    refine WC.ret ?_
    repeat (first | (with_reducible refine peelT ?_) | (with_reducible refine peelB ?_) | (with_reducible refine peelTX ?_) | (with_reducible refine peelBX ?_) | (with_reducible refine peelBN ?_) | (with_reducible refine peelBO rfl ?_))
    have hj2 : j = many := by omega
    subst hj2
    exact ret1 (.inr rfl) Tryz.results29 rfl fun w' h => ⟨b8, trivial, rfl, by rw [numK_all] at h; exact h.sub (by repeat (first | exact TakeL.nil | (apply TakeL.cons; · repeat (first | exact Take1.head | apply Take1.tail))))⟩

theorem rbytes_any (r : Rc) (hr : r.ok) (w : World) (hw : OK w (fpL []) [] w) :
    Fn Tryz.prog 11 [.agg r.cells.toArray] [] w (fun _ : Option Addr × Nat => True) (fun y => .slice y.1 43 y.2) (fun y => [ownR (.slice y.1 43 y.2) 5 1 43 (ints .u8 (recB r))]) := by
  have h := hr.len
  refine enterF Tryz.func11 rfl Tryz.ntmps11 rfl hw ?_
  refine WC.seq ?_
  refine WC.region ?_
  refine WL.to (To.box (cs := r.cells) rfl rfl) rfl ?_ -- t1
  intro b1
  refine WL.y (Yl.assign rfl) rfl ?_ -- t2
  refine WL.nil ?_
  refine WC.midE (α := Option Addr × Nat) (fun z => [(3, .slice z.1 19 z.2)]) (fun z => [ownR (.slice z.1 19 z.2) 5 1 19 (ints .u8 (r.id ++ [r.peer, 0, r.oc])), blkR b1 33 r.cells]) (fun _ => True) ?_ ?_
  · refine WC.drawAny (Hs := [blkR b1 33 r.cells]) mixed (by kernel_rfl) ⟨_, (by repeat (first | exact TakeL.nil | (apply TakeL.cons; · repeat (first | exact Take1.head | apply Take1.tail))))⟩ ?_
    refine WD.take 0 rfl (by kernel_rfl) (by kernel_rfl) (by kernel_rfl) rfl rfl (Yl.field fo33_0 rfl) rfl ?_ -- t4
    refine WD.take 1 rfl (by kernel_rfl) (by kernel_rfl) (by kernel_rfl) rfl rfl (Yl.loadN ag30 rfl (by repeat (first | exact Take1.head | apply Take1.tail)) (leB (by rw [Rc.cells_len h]; omega)) (Rc.cid h)) rfl ?_ -- t5
    refine WD.take 3 rfl (by kernel_rfl) (by kernel_rfl) (by kernel_rfl) rfl rfl (Yl.field fo33_1 rfl) rfl ?_ -- t7
    refine WD.take 4 rfl (by kernel_rfl) (by kernel_rfl) (by kernel_rfl) rfl rfl (Yl.load on5 rfl (by repeat (first | exact Take1.head | apply Take1.tail)) (Rc.c16 h)) rfl ?_ -- t8
    refine WD.take 5 rfl (by kernel_rfl) (by kernel_rfl) (by kernel_rfl) rfl rfl (Yl.field fo33_3 rfl) rfl ?_ -- t9
    refine WD.take 6 rfl (by kernel_rfl) (by kernel_rfl) (by kernel_rfl) rfl rfl (Yl.load on5 rfl (by repeat (first | exact Take1.head | apply Take1.tail)) (Rc.c18 h)) rfl ?_ -- t10
    refine WD.two 2 7 (by kernel_rfl) ?_ ?_
    · refine WO.callC (xs := [.tmp 5]) (cap := []) rfl .no rfl rfl en28 (by repeat (first | exact TakeL.nil | (apply TakeL.cons; · repeat (first | exact Take1.head | apply Take1.tail)))) (fun w hw => rid_any r.id h w hw.left.here) rfl (fun _ => ⟨_, (by repeat (first | exact TakeL.nil | (apply TakeL.cons; · repeat (first | exact Take1.head | apply Take1.tail))))⟩) ?_ -- t6 hailer/hailerref09.Id
      intro y6 _
      refine WD.one 7 (by kernel_rfl) ?_
      refine WO.to rfl rfl .no (To.buildSlice (vs := [.int .u8 r.peer, .int .u8 0, .int .u8 r.oc]) un23 zs5 rfl rfl (by simp [Value.cells]) (by decide) (by decide)) rfl (fun _ => ⟨_, (by repeat (first | exact TakeL.nil | (apply TakeL.cons; · repeat (first | exact Take1.head | apply Take1.tail))))⟩) ?_ -- t11
      intro b11
      refine WD.one 8 (by kernel_rfl) ?_
      refine WO.to rfl rfl .no (To.append sl23 rfl rfl (by repeat (first | exact Take1.head | apply Take1.tail)) (Reads.of (RdOf.blk (cs := [.int .u8 r.peer, .int .u8 0, .int .u8 r.oc]) (cs' := ints .u8 [r.peer, 0, r.oc]) (Nat.le_refl _) (by unfold maxLen; omega) (by simp) rfl) (by repeat (first | exact Take1.head | apply Take1.tail))) (ints_one _ _) rfl (ints_append _ _ _) (by unfold maxLen; omega) (by omega)) rfl (fun _ => ⟨_, (by repeat (first | exact TakeL.nil | (apply TakeL.cons; · repeat (first | exact Take1.head | apply Take1.tail))))⟩) ?_ -- t12
      rintro ⟨⟨ao12, c12⟩, hc12⟩
      dsimp only at hc12 ⊢
      refine WD.take 9 rfl (by kernel_rfl) (by kernel_rfl) (by kernel_rfl) rfl rfl (Yl.assign rfl) rfl ?_ -- t3
      refine WD.done (by kernel_rfl) ?_
      exact ⟨rfl, (ao12, c12), trivial, (by repeat (first | exact Sub.nil | refine Sub.cons rfl ?_)), (by repeat (first | exact Sub.nil | refine Sub.cons rfl ?_)), _, (by repeat (first | exact TakeL.nil | (apply TakeL.cons; · repeat (first | exact Take1.head | apply Take1.tail))))⟩
    · refine WO.to rfl rfl .no (To.buildSlice (vs := [.int .u8 r.peer, .int .u8 0, .int .u8 r.oc]) un23 zs5 rfl rfl (by simp [Value.cells]) (by decide) (by decide)) rfl (fun _ => ⟨_, (by repeat (first | exact TakeL.nil | (apply TakeL.cons; · repeat (first | exact Take1.head | apply Take1.tail))))⟩) ?_ -- t11
      intro b11
      refine WD.one 2 (by kernel_rfl) ?_
      refine WO.callC (xs := [.tmp 5]) (cap := []) rfl .no rfl rfl en28 (by repeat (first | exact TakeL.nil | (apply TakeL.cons; · repeat (first | exact Take1.head | apply Take1.tail)))) (fun w hw => rid_any r.id h w hw.left.here) rfl (fun _ => ⟨_, (by repeat (first | exact TakeL.nil | (apply TakeL.cons; · repeat (first | exact Take1.head | apply Take1.tail))))⟩) ?_ -- t6 hailer/hailerref09.Id
      intro y6 _
      refine WD.one 8 (by kernel_rfl) ?_
      refine WO.to rfl rfl .no (To.append sl23 rfl rfl (by repeat (first | exact Take1.head | apply Take1.tail)) (Reads.of (RdOf.blk (cs := [.int .u8 r.peer, .int .u8 0, .int .u8 r.oc]) (cs' := ints .u8 [r.peer, 0, r.oc]) (Nat.le_refl _) (by unfold maxLen; omega) (by simp) rfl) (by repeat (first | exact Take1.head | apply Take1.tail))) (ints_one _ _) rfl (ints_append _ _ _) (by unfold maxLen; omega) (by omega)) rfl (fun _ => ⟨_, (by repeat (first | exact TakeL.nil | (apply TakeL.cons; · repeat (first | exact Take1.head | apply Take1.tail))))⟩) ?_ -- t12
      rintro ⟨⟨ao12, c12⟩, hc12⟩
      dsimp only at hc12 ⊢
      refine WD.take 9 rfl (by kernel_rfl) (by kernel_rfl) (by kernel_rfl) rfl rfl (Yl.assign rfl) rfl ?_ -- t3
      refine WD.done (by kernel_rfl) ?_
      exact ⟨rfl, (ao12, c12), trivial, (by repeat (first | exact Sub.nil | refine Sub.cons rfl ?_)), (by repeat (first | exact Sub.nil | refine Sub.cons rfl ?_)), _, (by repeat (first | exact TakeL.nil | (apply TakeL.cons; · repeat (first | exact Take1.head | apply Take1.tail))))⟩
  · rintro ⟨ao12, c12⟩ _
    refine WC.seq ?_
    refine WC.seq ?_
    refine WC.region ?_
    refine WL.y (Yl.field fo33_2 rfl) rfl ?_ -- t13
    refine WL.y (Yl.load on4 rfl (by repeat (first | exact Take1.head | apply Take1.tail)) (Rc.c17 h)) rfl ?_ -- t14
    refine WL.nil ?_
    refine WC.cond rfl (fun g14 => ?_) (fun g14 => ?_)
    · refine WC.region ?_
      refine WL.y (Yl.move rfl) rfl ?_ -- t15
      refine WL.y (Yl.index (j := 17) un23 sz5 rfl rfl (Reads.own (by repeat (first | exact Take1.head | apply Take1.tail))) rfl (by omega)) rfl ?_ -- t16
      refine WL.sto (Sto.elem sz5 rfl rfl (by repeat (first | exact Take1.head | apply Take1.tail)) rfl (by omega) (cs' := ints .u8 (r.id ++ [r.peer, 1, r.oc])) (set17 h _ _ _ _)) (fun _ h => nomatch h) ?_
      refine WL.nil ?_
      refine WC.seq ?_
      refine WC.region ?_
      refine WL.y (Yl.move rfl) rfl ?_ -- t17
      refine WL.y (Yl.field fo33_4 rfl) rfl ?_ -- t18
      refine WL.y (Yl.load on31 rfl (by repeat (first | exact Take1.head | apply Take1.tail)) (Rc.c19 h)) rfl ?_ -- t19
      refine WL.callC (xs := [.tmp 19, _]) (cap := []) rfl rfl en29 (by repeat (first | exact TakeL.nil | (apply TakeL.cons; · repeat (first | exact Take1.head | apply Take1.tail)))) (fun w hw => rnumber_any r.bg 8 hr.bg (by omega) w hw.left.here) rfl ?_ -- t20 hailer/hailerref09.Number
      intro y20 _
      refine WL.to (To.append sl23 rfl rfl (by repeat (first | exact Take1.head | apply Take1.tail)) (Reads.own (by repeat (first | exact Take1.head | apply Take1.tail))) (ints_one _ _) rfl (ints_append _ _ _) (by unfold maxLen; omega) (by omega)) rfl ?_ -- t21
      rintro ⟨⟨ao21, c21⟩, hc21⟩
      dsimp only at hc21 ⊢
      refine WL.y (Yl.assign rfl) rfl ?_ -- t3
      refine WL.nil ?_
      refine WC.seq ?_
      refine WC.region ?_
      refine WL.y (Yl.move rfl) rfl ?_ -- t22
      refine WL.y (Yl.field fo33_5 rfl) rfl ?_ -- t23
      refine WL.y (Yl.load on31 rfl (by repeat (first | exact Take1.head | apply Take1.tail)) (Rc.c20 h)) rfl ?_ -- t24
      refine WL.callC (xs := [.tmp 24, _]) (cap := []) rfl rfl en29 (by repeat (first | exact TakeL.nil | (apply TakeL.cons; · repeat (first | exact Take1.head | apply Take1.tail)))) (fun w hw => rnumber_any r.an 8 hr.an (by omega) w hw.left.here) rfl ?_ -- t25 hailer/hailerref09.Number
      intro y25 _
      refine WL.to (To.append sl23 rfl rfl (by repeat (first | exact Take1.head | apply Take1.tail)) (Reads.own (by repeat (first | exact Take1.head | apply Take1.tail))) (ints_one _ _) rfl (ints_append _ _ _) (by unfold maxLen; omega) (by omega)) rfl ?_ -- t26
      rintro ⟨⟨ao26, c26⟩, hc26⟩
      dsimp only at hc26 ⊢
      refine WL.y (Yl.assign rfl) rfl ?_ -- t3
      refine WL.nil ?_
      refine WC.seq ?_
      refine WC.region ?_
      refine WL.y (Yl.move rfl) rfl ?_ -- t27
      refine WL.y (Yl.field fo33_6 rfl) rfl ?_ -- t28
      refine WL.y (Yl.load on31 rfl (by repeat (first | exact Take1.head | apply Take1.tail)) (Rc.c21 h)) rfl ?_ -- t29
      refine WL.callC (xs := [.tmp 29, _]) (cap := []) rfl rfl en29 (by repeat (first | exact TakeL.nil | (apply TakeL.cons; · repeat (first | exact Take1.head | apply Take1.tail)))) (fun w hw => rnumber_any r.en 8 hr.en (by omega) w hw.left.here) rfl ?_ -- t30 hailer/hailerref09.Number
      intro y30 _
      refine WL.to (To.append sl23 rfl rfl (by repeat (first | exact Take1.head | apply Take1.tail)) (Reads.own (by repeat (first | exact Take1.head | apply Take1.tail))) (ints_one _ _) rfl (ints_append _ _ _) (by unfold maxLen; omega) (by omega)) rfl ?_ -- t31
      rintro ⟨⟨ao31, c31⟩, hc31⟩
      dsimp only at hc31 ⊢
      refine WL.y (Yl.assign rfl) rfl ?_ -- t2
      refine WL.nil ?_
      refine WC.ret ?_
      repeat (first | (with_reducible refine peelT ?_) | (with_reducible refine peelB ?_) | (with_reducible refine peelTX ?_) | (with_reducible refine peelBX ?_) | (with_reducible refine peelBN ?_) | (with_reducible refine peelBO rfl ?_))
      have e : r.id ++ [r.peer, 1, r.oc] ++ be r.bg 8 ++ be r.an 8 ++ be r.en 8 = recB r := by simp [recB, flagB, g14]
      exact ret1 (.inr rfl) Tryz.results11 rfl fun w' hh => ⟨(ao31, c31), trivial, rfl, by rw [e] at hh; exact hh.sub (by repeat (first | exact TakeL.nil | (apply TakeL.cons; · repeat (first | exact Take1.head | apply Take1.tail))))⟩
    · refine WC.skip ?_
      refine WC.seq ?_
      refine WC.region ?_
      refine WL.y (Yl.move rfl) rfl ?_ -- t17
      refine WL.y (Yl.field fo33_4 rfl) rfl ?_ -- t18
      refine WL.y (Yl.load on31 rfl (by repeat (first | exact Take1.head | apply Take1.tail)) (Rc.c19 h)) rfl ?_ -- t19
      refine WL.callC (xs := [.tmp 19, _]) (cap := []) rfl rfl en29 (by repeat (first | exact TakeL.nil | (apply TakeL.cons; · repeat (first | exact Take1.head | apply Take1.tail)))) (fun w hw => rnumber_any r.bg 8 hr.bg (by omega) w hw.left.here) rfl ?_ -- t20 hailer/hailerref09.Number
      intro y20 _
      refine WL.to (To.append sl23 rfl rfl (by repeat (first | exact Take1.head | apply Take1.tail)) (Reads.own (by repeat (first | exact Take1.head | apply Take1.tail))) (ints_one _ _) rfl (ints_append _ _ _) (by unfold maxLen; omega) (by omega)) rfl ?_ -- t21
      rintro ⟨⟨ao21, c21⟩, hc21⟩
      dsimp only at hc21 ⊢
      refine WL.y (Yl.assign rfl) rfl ?_ -- t3
      refine WL.nil ?_
      refine WC.seq ?_
      refine WC.region ?_
      refine WL.y (Yl.move rfl) rfl ?_ -- t22
      refine WL.y (Yl.field fo33_5 rfl) rfl ?_ -- t23
      refine WL.y (Yl.load on31 rfl (by repeat (first | exact Take1.head | apply Take1.tail)) (Rc.c20 h)) rfl ?_ -- t24
      refine WL.callC (xs := [.tmp 24, _]) (cap := []) rfl rfl en29 (by repeat (first | exact TakeL.nil | (apply TakeL.cons; · repeat (first | exact Take1.head | apply Take1.tail)))) (fun w hw => rnumber_any r.an 8 hr.an (by omega) w hw.left.here) rfl ?_ -- t25 hailer/hailerref09.Number
      intro y25 _
      refine WL.to (To.append sl23 rfl rfl (by repeat (first | exact Take1.head | apply Take1.tail)) (Reads.own (by repeat (first | exact Take1.head | apply Take1.tail))) (ints_one _ _) rfl (ints_append _ _ _) (by unfold maxLen; omega) (by omega)) rfl ?_ -- t26
      rintro ⟨⟨ao26, c26⟩, hc26⟩
      dsimp only at hc26 ⊢
      refine WL.y (Yl.assign rfl) rfl ?_ -- t3
      refine WL.nil ?_
      refine WC.seq ?_
      refine WC.region ?_
      refine WL.y (Yl.move rfl) rfl ?_ -- t27
      refine WL.y (Yl.field fo33_6 rfl) rfl ?_ -- t28
      refine WL.y (Yl.load on31 rfl (by repeat (first | exact Take1.head | apply Take1.tail)) (Rc.c21 h)) rfl ?_ -- t29
      refine WL.callC (xs := [.tmp 29, _]) (cap := []) rfl rfl en29 (by repeat (first | exact TakeL.nil | (apply TakeL.cons; · repeat (first | exact Take1.head | apply Take1.tail)))) (fun w hw => rnumber_any r.en 8 hr.en (by omega) w hw.left.here) rfl ?_ -- t30 hailer/hailerref09.Number
      intro y30 _
      refine WL.to (To.append sl23 rfl rfl (by repeat (first | exact Take1.head | apply Take1.tail)) (Reads.own (by repeat (first | exact Take1.head | apply Take1.tail))) (ints_one _ _) rfl (ints_append _ _ _) (by unfold maxLen; omega) (by omega)) rfl ?_ -- t31
      rintro ⟨⟨ao31, c31⟩, hc31⟩
      dsimp only at hc31 ⊢
      refine WL.y (Yl.assign rfl) rfl ?_ -- t2
      refine WL.nil ?_
      refine WC.ret ?_
      repeat (first | (with_reducible refine peelT ?_) | (with_reducible refine peelB ?_) | (with_reducible refine peelTX ?_) | (with_reducible refine peelBX ?_) | (with_reducible refine peelBN ?_) | (with_reducible refine peelBO rfl ?_))
      have e : r.id ++ [r.peer, 0, r.oc] ++ be r.bg 8 ++ be r.an 8 ++ be r.en 8 = recB r := by simp [recB, flagB, g14]
      exact ret1 (.inr rfl) Tryz.results11 rfl fun w' hh => ⟨(ao31, c31), trivial, rfl, by rw [e] at hh; exact hh.sub (by repeat (first | exact TakeL.nil | (apply TakeL.cons; · repeat (first | exact Take1.head | apply Take1.tail))))⟩

theorem rtake_any (bs : List Int) (v : Value) (hB : Bytes bs) (hsz : bs.length ≤ 140737488355328) (w : World) (hx : RdS w (fpL []) v 1 bs.length (ints .u8 bs)) (hw : OK w (fpL []) [] w) :
    Fn Tryz.prog 33 [v] [] w (fun _ : Unit => True) (fun _ => .tuple #[.agg (recT bs).1.cells.toArray, .bool (recT bs).2]) (fun _ => []) := by
  obtain ⟨al, cl, rfl, hcl, hml⟩ := hx.rd.form
  refine enterF Tryz.func33 rfl Tryz.ntmps33 rfl hw ?_
  refine WC.seq ?_
  refine WC.region ?_
  refine WL.to (To.alloc (cs := Rc.zero.cells) zr33 rfl) rfl ?_ -- t2
  intro b2
  refine WL.y (Yl.assign rfl) rfl ?_ -- t3
  refine WL.nil ?_
  refine WC.seq ?_
  refine WC.midK [(13, .bool (!(decide (bs.length = 43) && decide (bs.getD 17 0 ≤ 1))))] [blkR b2 33 Rc.zero.cells] ?_ ?_
  · refine WC.region ?_
    refine WL.y (Yl.move rfl) rfl ?_ -- t5
    refine WL.y (Yl.len un23 rfl) rfl ?_ -- t6
    refine WL.y (Yl.neq rfl rfl) rfl ?_ -- t7
    refine WL.y (Yl.move rfl) rfl ?_ -- t8
    refine WL.both (t := 8) rfl (fun g8 => ?_) (fun g8 => ?_)
    · refine WL.off rfl rfl rfl rfl ?_ -- t9
      refine WL.off rfl rfl rfl rfl ?_ -- t10
      refine WL.off rfl rfl rfl rfl ?_ -- t11
      refine WL.off rfl rfl rfl rfl ?_ -- t12
      refine WL.y (Yl.pickT rfl rfl) rfl ?_ -- t13
      refine WL.say (t := 13) (v' := .bool (!(decide (bs.length = 43) && decide (bs.getD 17 0 ≤ 1)))) rfl (by (simp only [decide_eq_true_eq, decide_eq_false_iff_not] at *; refine congrArg Value.bool ?_; rw [Bool.eq_iff_iff]; simp; omega)) ?_
      refine WL.nil ?_
      exact ⟨rfl, (by repeat (first | exact Sub.nil | refine Sub.cons rfl ?_)), (by repeat (first | exact Sub.nil | refine Sub.cons rfl ?_)), _, (by repeat (first | exact TakeL.nil | (apply TakeL.cons; · repeat (first | exact Take1.head | apply Take1.tail))))⟩
    · refine WL.on rfl rfl ?_
      refine WL.y (Yl.move rfl) rfl ?_ -- t9
      refine WL.on rfl rfl ?_
      have h43 : bs.length = 43 := by simp at g8; omega
      refine WL.y (Yl.index (j := 17) un23 sz5 rfl rfl (Reads.s hx) rfl (by omega)) rfl ?_ -- t10
      refine WL.on rfl rfl ?_
      refine WL.y (Yl.loadE on5 rfl (Reads.s hx) (ints_get .u8 bs 17 (by omega))) rfl ?_ -- t11
      refine WL.on rfl rfl ?_
      refine WL.y (Yl.gtr rfl rfl) rfl ?_ -- t12
      refine WL.y (Yl.pickF rfl rfl) rfl ?_ -- t13
      refine WL.say (t := 13) (v' := .bool (!(decide (bs.length = 43) && decide (bs.getD 17 0 ≤ 1)))) rfl (by (simp only [decide_eq_true_eq, decide_eq_false_iff_not] at *; refine congrArg Value.bool ?_; rw [Bool.eq_iff_iff]; simp; omega)) ?_
      refine WL.nil ?_
      exact ⟨rfl, (by repeat (first | exact Sub.nil | refine Sub.cons rfl ?_)), (by repeat (first | exact Sub.nil | refine Sub.cons rfl ?_)), _, (by repeat (first | exact TakeL.nil | (apply TakeL.cons; · repeat (first | exact Take1.head | apply Take1.tail))))⟩
  · refine WC.cond rfl (fun g13 => ?_) (fun g13 => ?_)
    · refine WC.seq ?_
      refine WC.region ?_
      refine WL.y (Yl.build rfl (cs := Rc.zero.cells) (fun _ => by kernel_rfl)) rfl ?_ -- t14
      refine WL.sto (Sto.agg sz33 rfl rfl (by repeat (first | exact Take1.head | apply Take1.tail)) (Rc.ones _) rfl (by rfl) (Rc.all (r := Rc.zero) rfl Rc.zero.cells rfl)) (fun _ h => nomatch h) ?_ -- st 1
      refine WL.y (Yl.assign rfl) rfl ?_ -- t3
      refine WL.nil ?_
      refine WC.ret ?_
      repeat (first | (with_reducible refine peelT ?_) | (with_reducible refine peelB ?_) | (with_reducible refine peelTX ?_) | (with_reducible refine peelBX ?_) | (with_reducible refine peelBN ?_) | (with_reducible refine peelBO rfl ?_))
      have e : recT bs = (Rc.zero, false) := by
        have : goodB bs = false := by unfold goodB; rw [notT g13]; rfl
        simp [recT, this]
      exact retC2 (.inr rfl) Tryz.results33 ag33 rfl rfl (by repeat (first | exact Take1.head | apply Take1.tail)) rfl fun w' hh => ⟨(), trivial, by rw [e], hh.sub (by repeat (first | exact TakeL.nil | (apply TakeL.cons; · repeat (first | exact Take1.head | apply Take1.tail))))⟩
    · refine WC.skip ?_
      refine WC.midE (α := Nat) (fun b4 => [(4, .pointer (some ⟨b4, 0, none⟩))]) (fun b4 => [blkR b4 33 (recOf bs).cells, blkR b2 33 Rc.zero.cells]) (fun _ => True) ?_ ?_
      · refine WC.drawAny (Hs := []) mixed (by kernel_rfl) ⟨_, (by repeat (first | exact TakeL.nil | (apply TakeL.cons; · repeat (first | exact Take1.head | apply Take1.tail))))⟩ ?_
        have e13 := notF g13
        have h43 : bs.length = 43 := by simp at e13; exact e13.1
        have hid := recOf_id h43
        refine WD.take 0 rfl (by kernel_rfl) (by kernel_rfl) (by kernel_rfl) rfl rfl (Yl.move rfl) rfl ?_ -- t15
        refine WD.take 2 rfl (by kernel_rfl) (by kernel_rfl) (by kernel_rfl) rfl rfl (Yl.move rfl) rfl ?_ -- t17
        refine WD.take 3 rfl (by kernel_rfl) (by kernel_rfl) (by kernel_rfl) rfl rfl (Yl.index (j := 16) un23 sz5 rfl rfl (Reads.s hx) rfl (by omega)) rfl ?_ -- t18
        refine WD.take 4 rfl (by kernel_rfl) (by kernel_rfl) (by kernel_rfl) rfl rfl (Yl.loadE on5 rfl (Reads.s hx) (ints_get .u8 bs 16 (by omega))) rfl ?_ -- t19
        refine WD.take 5 rfl (by kernel_rfl) (by kernel_rfl) (by kernel_rfl) rfl rfl (Yl.move rfl) rfl ?_ -- t20
        refine WD.take 6 rfl (by kernel_rfl) (by kernel_rfl) (by kernel_rfl) rfl rfl (Yl.index (j := 17) un23 sz5 rfl rfl (Reads.s hx) rfl (by omega)) rfl ?_ -- t21
        refine WD.take 7 rfl (by kernel_rfl) (by kernel_rfl) (by kernel_rfl) rfl rfl (Yl.loadE on5 rfl (Reads.s hx) (ints_get .u8 bs 17 (by omega))) rfl ?_ -- t22
        refine WD.take 8 rfl (by kernel_rfl) (by kernel_rfl) (by kernel_rfl) rfl rfl (Yl.eql rfl rfl) rfl ?_ -- t23
        refine WD.take 9 rfl (by kernel_rfl) (by kernel_rfl) (by kernel_rfl) rfl rfl (Yl.move rfl) rfl ?_ -- t24
        refine WD.take 10 rfl (by kernel_rfl) (by kernel_rfl) (by kernel_rfl) rfl rfl (Yl.index (j := 18) un23 sz5 rfl rfl (Reads.s hx) rfl (by omega)) rfl ?_ -- t25
        refine WD.take 11 rfl (by kernel_rfl) (by kernel_rfl) (by kernel_rfl) rfl rfl (Yl.loadE on5 rfl (Reads.s hx) (ints_get .u8 bs 18 (by omega))) rfl ?_ -- t26
        refine WD.take 12 rfl (by kernel_rfl) (by kernel_rfl) (by kernel_rfl) rfl rfl (Yl.move rfl) rfl ?_ -- t27
        refine WD.take 13 rfl (by kernel_rfl) (by kernel_rfl) (by kernel_rfl) rfl rfl (Yl.slice (l := 19) (h := 27) un23 sz5 rfl ⟨_, rfl⟩ ⟨_, rfl⟩ (by omega) (by omega)) rfl ?_ -- t28
        refine WD.take 15 rfl (by kernel_rfl) (by kernel_rfl) (by kernel_rfl) rfl rfl (Yl.move rfl) rfl ?_ -- t30
        refine WD.take 16 rfl (by kernel_rfl) (by kernel_rfl) (by kernel_rfl) rfl rfl (Yl.slice (l := 27) (h := 35) un23 sz5 rfl ⟨_, rfl⟩ ⟨_, rfl⟩ (by omega) (by omega)) rfl ?_ -- t31
        refine WD.take 18 rfl (by kernel_rfl) (by kernel_rfl) (by kernel_rfl) rfl rfl (Yl.move rfl) rfl ?_ -- t33
        refine WD.take 19 rfl (by kernel_rfl) (by kernel_rfl) (by kernel_rfl) rfl rfl (Yl.slice (l := 35) (h := 43) un23 sz5 rfl ⟨_, rfl⟩ ⟨_, rfl⟩ (by omega) (by omega)) rfl ?_ -- t34
        refine WD.two 1 22 (by kernel_rfl) ?_ ?_
        · refine WO.callC (xs := [.tmp 15]) (cap := []) rfl .no rfl rfl en63 (by repeat (first | exact TakeL.nil | (apply TakeL.cons; · repeat (first | exact Take1.head | apply Take1.tail)))) (fun w hw => ofId_any bs (.slice al bs.length cl) (by omega) w (hw.srcS hx) hw.left.here) rfl (fun _ => ⟨_, (by repeat (first | exact TakeL.nil | (apply TakeL.cons; · repeat (first | exact Take1.head | apply Take1.tail))))⟩) ?_ -- t16 hailer/hailerref09.OfId
          rintro ⟨⟩ -
          refine WD.two 14 22 (by kernel_rfl) ?_ ?_
          · refine WO.callC (xs := [.tmp 28]) (cap := []) rfl .no rfl rfl en64 (by repeat (first | exact TakeL.nil | (apply TakeL.cons; · repeat (first | exact Take1.head | apply Take1.tail)))) (fun w hw => of_any ((bs.drop 19).take 8) (subS (.slice al bs.length cl) 19 27 cl 1) ((hB.drop 19).take 8) (by simp; omega) w (hw.srcS (hx.sub8 (by omega))) hw.left.here) rfl (fun _ => ⟨_, (by repeat (first | exact TakeL.nil | (apply TakeL.cons; · repeat (first | exact Take1.head | apply Take1.tail))))⟩) ?_ -- t29 hailer/hailerref09.Of
            rintro ⟨⟩ -
            refine WD.two 17 22 (by kernel_rfl) ?_ ?_
            · refine WO.callC (xs := [.tmp 31]) (cap := []) rfl .no rfl rfl en64 (by repeat (first | exact TakeL.nil | (apply TakeL.cons; · repeat (first | exact Take1.head | apply Take1.tail)))) (fun w hw => of_any ((bs.drop 27).take 8) (subS (.slice al bs.length cl) 27 35 cl 1) ((hB.drop 27).take 8) (by simp; omega) w (hw.srcS (hx.sub8 (by omega))) hw.left.here) rfl (fun _ => ⟨_, (by repeat (first | exact TakeL.nil | (apply TakeL.cons; · repeat (first | exact Take1.head | apply Take1.tail))))⟩) ?_ -- t32 hailer/hailerref09.Of
              rintro ⟨⟩ -
              refine WD.two 20 22 (by kernel_rfl) ?_ ?_
              · refine WO.callC (xs := [.tmp 34]) (cap := []) rfl .no rfl rfl en64 (by repeat (first | exact TakeL.nil | (apply TakeL.cons; · repeat (first | exact Take1.head | apply Take1.tail)))) (fun w hw => of_any ((bs.drop 35).take 8) (subS (.slice al bs.length cl) 35 43 cl 1) ((hB.drop 35).take 8) (by simp; omega) w (hw.srcS (hx.sub8 (by omega))) hw.left.here) rfl (fun _ => ⟨_, (by repeat (first | exact TakeL.nil | (apply TakeL.cons; · repeat (first | exact Take1.head | apply Take1.tail))))⟩) ?_ -- t35 hailer/hailerref09.Of
                rintro ⟨⟩ -
                refine WD.take 21 rfl (by kernel_rfl) (by kernel_rfl) (by kernel_rfl) rfl rfl (Yl.build rfl (cs := (recOf bs).cells) (build_rec hid _ _ _ _ _ _)) rfl ?_ -- t36
                refine WD.one 22 (by kernel_rfl) ?_
                refine WO.to rfl rfl .no (To.alloc (cs := Rc.zero.cells) zr33 rfl) rfl (fun _ => ⟨_, (by repeat (first | exact TakeL.nil | (apply TakeL.cons; · repeat (first | exact Take1.head | apply Take1.tail))))⟩) ?_ -- t4
                intro b4
                refine WD.one 23 (by kernel_rfl) ?_
                refine WO.sto rfl rfl .no (Sto.agg sz33 rfl rfl (by repeat (first | exact Take1.head | apply Take1.tail)) (Rc.ones _) (Rc.cells_len hid) (by rfl) (Rc.all (r := Rc.zero) rfl (recOf bs).cells (Rc.cells_len hid))) ⟨_, (by repeat (first | exact TakeL.nil | (apply TakeL.cons; · repeat (first | exact Take1.head | apply Take1.tail))))⟩ ?_ -- st 2
                refine WD.done (by kernel_rfl) ?_
                exact ⟨rfl, b4, trivial, (by repeat (first | exact Sub.nil | refine Sub.cons rfl ?_)), (by repeat (first | exact Sub.nil | refine Sub.cons rfl ?_)), _, (by repeat (first | exact TakeL.nil | (apply TakeL.cons; · repeat (first | exact Take1.head | apply Take1.tail))))⟩
              · refine WO.to rfl rfl .no (To.alloc (cs := Rc.zero.cells) zr33 rfl) rfl (fun _ => ⟨_, (by repeat (first | exact TakeL.nil | (apply TakeL.cons; · repeat (first | exact Take1.head | apply Take1.tail))))⟩) ?_ -- t4
                intro b4
                refine WD.one 20 (by kernel_rfl) ?_
                refine WO.callC (xs := [.tmp 34]) (cap := []) rfl .no rfl rfl en64 (by repeat (first | exact TakeL.nil | (apply TakeL.cons; · repeat (first | exact Take1.head | apply Take1.tail)))) (fun w hw => of_any ((bs.drop 35).take 8) (subS (.slice al bs.length cl) 35 43 cl 1) ((hB.drop 35).take 8) (by simp; omega) w (hw.srcS (hx.sub8 (by omega))) hw.left.here) rfl (fun _ => ⟨_, (by repeat (first | exact TakeL.nil | (apply TakeL.cons; · repeat (first | exact Take1.head | apply Take1.tail))))⟩) ?_ -- t35 hailer/hailerref09.Of
                rintro ⟨⟩ -
                refine WD.take 21 rfl (by kernel_rfl) (by kernel_rfl) (by kernel_rfl) rfl rfl (Yl.build rfl (cs := (recOf bs).cells) (build_rec hid _ _ _ _ _ _)) rfl ?_ -- t36
                refine WD.one 23 (by kernel_rfl) ?_
                refine WO.sto rfl rfl .no (Sto.agg sz33 rfl rfl (by repeat (first | exact Take1.head | apply Take1.tail)) (Rc.ones _) (Rc.cells_len hid) (by rfl) (Rc.all (r := Rc.zero) rfl (recOf bs).cells (Rc.cells_len hid))) ⟨_, (by repeat (first | exact TakeL.nil | (apply TakeL.cons; · repeat (first | exact Take1.head | apply Take1.tail))))⟩ ?_ -- st 2
                refine WD.done (by kernel_rfl) ?_
                exact ⟨rfl, b4, trivial, (by repeat (first | exact Sub.nil | refine Sub.cons rfl ?_)), (by repeat (first | exact Sub.nil | refine Sub.cons rfl ?_)), _, (by repeat (first | exact TakeL.nil | (apply TakeL.cons; · repeat (first | exact Take1.head | apply Take1.tail))))⟩
            · refine WO.to rfl rfl .no (To.alloc (cs := Rc.zero.cells) zr33 rfl) rfl (fun _ => ⟨_, (by repeat (first | exact TakeL.nil | (apply TakeL.cons; · repeat (first | exact Take1.head | apply Take1.tail))))⟩) ?_ -- t4
              intro b4
              refine WD.one 17 (by kernel_rfl) ?_
              refine WO.callC (xs := [.tmp 31]) (cap := []) rfl .no rfl rfl en64 (by repeat (first | exact TakeL.nil | (apply TakeL.cons; · repeat (first | exact Take1.head | apply Take1.tail)))) (fun w hw => of_any ((bs.drop 27).take 8) (subS (.slice al bs.length cl) 27 35 cl 1) ((hB.drop 27).take 8) (by simp; omega) w (hw.srcS (hx.sub8 (by omega))) hw.left.here) rfl (fun _ => ⟨_, (by repeat (first | exact TakeL.nil | (apply TakeL.cons; · repeat (first | exact Take1.head | apply Take1.tail))))⟩) ?_ -- t32 hailer/hailerref09.Of
              rintro ⟨⟩ -
              refine WD.one 20 (by kernel_rfl) ?_
              refine WO.callC (xs := [.tmp 34]) (cap := []) rfl .no rfl rfl en64 (by repeat (first | exact TakeL.nil | (apply TakeL.cons; · repeat (first | exact Take1.head | apply Take1.tail)))) (fun w hw => of_any ((bs.drop 35).take 8) (subS (.slice al bs.length cl) 35 43 cl 1) ((hB.drop 35).take 8) (by simp; omega) w (hw.srcS (hx.sub8 (by omega))) hw.left.here) rfl (fun _ => ⟨_, (by repeat (first | exact TakeL.nil | (apply TakeL.cons; · repeat (first | exact Take1.head | apply Take1.tail))))⟩) ?_ -- t35 hailer/hailerref09.Of
              rintro ⟨⟩ -
              refine WD.take 21 rfl (by kernel_rfl) (by kernel_rfl) (by kernel_rfl) rfl rfl (Yl.build rfl (cs := (recOf bs).cells) (build_rec hid _ _ _ _ _ _)) rfl ?_ -- t36
              refine WD.one 23 (by kernel_rfl) ?_
              refine WO.sto rfl rfl .no (Sto.agg sz33 rfl rfl (by repeat (first | exact Take1.head | apply Take1.tail)) (Rc.ones _) (Rc.cells_len hid) (by rfl) (Rc.all (r := Rc.zero) rfl (recOf bs).cells (Rc.cells_len hid))) ⟨_, (by repeat (first | exact TakeL.nil | (apply TakeL.cons; · repeat (first | exact Take1.head | apply Take1.tail))))⟩ ?_ -- st 2
              refine WD.done (by kernel_rfl) ?_
              exact ⟨rfl, b4, trivial, (by repeat (first | exact Sub.nil | refine Sub.cons rfl ?_)), (by repeat (first | exact Sub.nil | refine Sub.cons rfl ?_)), _, (by repeat (first | exact TakeL.nil | (apply TakeL.cons; · repeat (first | exact Take1.head | apply Take1.tail))))⟩
          · refine WO.to rfl rfl .no (To.alloc (cs := Rc.zero.cells) zr33 rfl) rfl (fun _ => ⟨_, (by repeat (first | exact TakeL.nil | (apply TakeL.cons; · repeat (first | exact Take1.head | apply Take1.tail))))⟩) ?_ -- t4
            intro b4
            refine WD.one 14 (by kernel_rfl) ?_
            refine WO.callC (xs := [.tmp 28]) (cap := []) rfl .no rfl rfl en64 (by repeat (first | exact TakeL.nil | (apply TakeL.cons; · repeat (first | exact Take1.head | apply Take1.tail)))) (fun w hw => of_any ((bs.drop 19).take 8) (subS (.slice al bs.length cl) 19 27 cl 1) ((hB.drop 19).take 8) (by simp; omega) w (hw.srcS (hx.sub8 (by omega))) hw.left.here) rfl (fun _ => ⟨_, (by repeat (first | exact TakeL.nil | (apply TakeL.cons; · repeat (first | exact Take1.head | apply Take1.tail))))⟩) ?_ -- t29 hailer/hailerref09.Of
            rintro ⟨⟩ -
            refine WD.one 17 (by kernel_rfl) ?_
            refine WO.callC (xs := [.tmp 31]) (cap := []) rfl .no rfl rfl en64 (by repeat (first | exact TakeL.nil | (apply TakeL.cons; · repeat (first | exact Take1.head | apply Take1.tail)))) (fun w hw => of_any ((bs.drop 27).take 8) (subS (.slice al bs.length cl) 27 35 cl 1) ((hB.drop 27).take 8) (by simp; omega) w (hw.srcS (hx.sub8 (by omega))) hw.left.here) rfl (fun _ => ⟨_, (by repeat (first | exact TakeL.nil | (apply TakeL.cons; · repeat (first | exact Take1.head | apply Take1.tail))))⟩) ?_ -- t32 hailer/hailerref09.Of
            rintro ⟨⟩ -
            refine WD.one 20 (by kernel_rfl) ?_
            refine WO.callC (xs := [.tmp 34]) (cap := []) rfl .no rfl rfl en64 (by repeat (first | exact TakeL.nil | (apply TakeL.cons; · repeat (first | exact Take1.head | apply Take1.tail)))) (fun w hw => of_any ((bs.drop 35).take 8) (subS (.slice al bs.length cl) 35 43 cl 1) ((hB.drop 35).take 8) (by simp; omega) w (hw.srcS (hx.sub8 (by omega))) hw.left.here) rfl (fun _ => ⟨_, (by repeat (first | exact TakeL.nil | (apply TakeL.cons; · repeat (first | exact Take1.head | apply Take1.tail))))⟩) ?_ -- t35 hailer/hailerref09.Of
            rintro ⟨⟩ -
            refine WD.take 21 rfl (by kernel_rfl) (by kernel_rfl) (by kernel_rfl) rfl rfl (Yl.build rfl (cs := (recOf bs).cells) (build_rec hid _ _ _ _ _ _)) rfl ?_ -- t36
            refine WD.one 23 (by kernel_rfl) ?_
            refine WO.sto rfl rfl .no (Sto.agg sz33 rfl rfl (by repeat (first | exact Take1.head | apply Take1.tail)) (Rc.ones _) (Rc.cells_len hid) (by rfl) (Rc.all (r := Rc.zero) rfl (recOf bs).cells (Rc.cells_len hid))) ⟨_, (by repeat (first | exact TakeL.nil | (apply TakeL.cons; · repeat (first | exact Take1.head | apply Take1.tail))))⟩ ?_ -- st 2
            refine WD.done (by kernel_rfl) ?_
            exact ⟨rfl, b4, trivial, (by repeat (first | exact Sub.nil | refine Sub.cons rfl ?_)), (by repeat (first | exact Sub.nil | refine Sub.cons rfl ?_)), _, (by repeat (first | exact TakeL.nil | (apply TakeL.cons; · repeat (first | exact Take1.head | apply Take1.tail))))⟩
        · refine WO.to rfl rfl .no (To.alloc (cs := Rc.zero.cells) zr33 rfl) rfl (fun _ => ⟨_, (by repeat (first | exact TakeL.nil | (apply TakeL.cons; · repeat (first | exact Take1.head | apply Take1.tail))))⟩) ?_ -- t4
          intro b4
          refine WD.one 1 (by kernel_rfl) ?_
          refine WO.callC (xs := [.tmp 15]) (cap := []) rfl .no rfl rfl en63 (by repeat (first | exact TakeL.nil | (apply TakeL.cons; · repeat (first | exact Take1.head | apply Take1.tail)))) (fun w hw => ofId_any bs (.slice al bs.length cl) (by omega) w (hw.srcS hx) hw.left.here) rfl (fun _ => ⟨_, (by repeat (first | exact TakeL.nil | (apply TakeL.cons; · repeat (first | exact Take1.head | apply Take1.tail))))⟩) ?_ -- t16 hailer/hailerref09.OfId
          rintro ⟨⟩ -
          refine WD.one 14 (by kernel_rfl) ?_
          refine WO.callC (xs := [.tmp 28]) (cap := []) rfl .no rfl rfl en64 (by repeat (first | exact TakeL.nil | (apply TakeL.cons; · repeat (first | exact Take1.head | apply Take1.tail)))) (fun w hw => of_any ((bs.drop 19).take 8) (subS (.slice al bs.length cl) 19 27 cl 1) ((hB.drop 19).take 8) (by simp; omega) w (hw.srcS (hx.sub8 (by omega))) hw.left.here) rfl (fun _ => ⟨_, (by repeat (first | exact TakeL.nil | (apply TakeL.cons; · repeat (first | exact Take1.head | apply Take1.tail))))⟩) ?_ -- t29 hailer/hailerref09.Of
          rintro ⟨⟩ -
          refine WD.one 17 (by kernel_rfl) ?_
          refine WO.callC (xs := [.tmp 31]) (cap := []) rfl .no rfl rfl en64 (by repeat (first | exact TakeL.nil | (apply TakeL.cons; · repeat (first | exact Take1.head | apply Take1.tail)))) (fun w hw => of_any ((bs.drop 27).take 8) (subS (.slice al bs.length cl) 27 35 cl 1) ((hB.drop 27).take 8) (by simp; omega) w (hw.srcS (hx.sub8 (by omega))) hw.left.here) rfl (fun _ => ⟨_, (by repeat (first | exact TakeL.nil | (apply TakeL.cons; · repeat (first | exact Take1.head | apply Take1.tail))))⟩) ?_ -- t32 hailer/hailerref09.Of
          rintro ⟨⟩ -
          refine WD.one 20 (by kernel_rfl) ?_
          refine WO.callC (xs := [.tmp 34]) (cap := []) rfl .no rfl rfl en64 (by repeat (first | exact TakeL.nil | (apply TakeL.cons; · repeat (first | exact Take1.head | apply Take1.tail)))) (fun w hw => of_any ((bs.drop 35).take 8) (subS (.slice al bs.length cl) 35 43 cl 1) ((hB.drop 35).take 8) (by simp; omega) w (hw.srcS (hx.sub8 (by omega))) hw.left.here) rfl (fun _ => ⟨_, (by repeat (first | exact TakeL.nil | (apply TakeL.cons; · repeat (first | exact Take1.head | apply Take1.tail))))⟩) ?_ -- t35 hailer/hailerref09.Of
          rintro ⟨⟩ -
          refine WD.take 21 rfl (by kernel_rfl) (by kernel_rfl) (by kernel_rfl) rfl rfl (Yl.build rfl (cs := (recOf bs).cells) (build_rec hid _ _ _ _ _ _)) rfl ?_ -- t36
          refine WD.one 23 (by kernel_rfl) ?_
          refine WO.sto rfl rfl .no (Sto.agg sz33 rfl rfl (by repeat (first | exact Take1.head | apply Take1.tail)) (Rc.ones _) (Rc.cells_len hid) (by rfl) (Rc.all (r := Rc.zero) rfl (recOf bs).cells (Rc.cells_len hid))) ⟨_, (by repeat (first | exact TakeL.nil | (apply TakeL.cons; · repeat (first | exact Take1.head | apply Take1.tail))))⟩ ?_ -- st 2
          refine WD.done (by kernel_rfl) ?_
          exact ⟨rfl, b4, trivial, (by repeat (first | exact Sub.nil | refine Sub.cons rfl ?_)), (by repeat (first | exact Sub.nil | refine Sub.cons rfl ?_)), _, (by repeat (first | exact TakeL.nil | (apply TakeL.cons; · repeat (first | exact Take1.head | apply Take1.tail))))⟩
      · intro b4 _
        have e13 := notF g13
        have h43 : bs.length = 43 := by simp at e13; exact e13.1
        have hid := recOf_id h43
        have hok := recOf_ok hB h43
        refine WC.seq ?_
        refine WC.seq ?_
        refine WC.region ?_
        refine WL.y (Yl.loadN ag33 rfl (by repeat (first | exact Take1.head | apply Take1.tail)) (leB (by rw [Rc.cells_len hid]; omega)) (Rc.call hid)) rfl ?_ -- t37
        refine WL.callC (xs := [.tmp 37]) (cap := []) rfl rfl en35 (by repeat (first | exact TakeL.nil | (apply TakeL.cons; · repeat (first | exact Take1.head | apply Take1.tail)))) (fun w hw => rmay_any (recOf bs) hok w hw.left.here) rfl ?_ -- t38 hailer/hailerref11.May
        rintro ⟨⟩ -
        refine WL.y (Yl.not rfl) rfl ?_ -- t39
        refine WL.nil ?_
        refine WC.cond rfl (fun g39 => ?_) (fun g39 => ?_)
        · refine WC.seq ?_
          refine WC.region ?_
          refine WL.y (Yl.build rfl (cs := Rc.zero.cells) (fun _ => by kernel_rfl)) rfl ?_ -- t40
          refine WL.sto (Sto.agg sz33 rfl rfl (by repeat (first | exact Take1.head | apply Take1.tail)) (Rc.ones _) rfl (by rfl) (Rc.all (r := Rc.zero) rfl Rc.zero.cells rfl)) (fun _ h => nomatch h) ?_ -- st 3
          refine WL.y (Yl.assign rfl) rfl ?_ -- t3
          refine WL.nil ?_
          refine WC.ret ?_
          repeat (first | (with_reducible refine peelT ?_) | (with_reducible refine peelB ?_) | (with_reducible refine peelTX ?_) | (with_reducible refine peelBX ?_) | (with_reducible refine peelBN ?_) | (with_reducible refine peelBO rfl ?_))
          have e : recT bs = (Rc.zero, false) := by
            have : goodB bs = false := by unfold goodB; rw [notT g39, Bool.and_false]
            simp [recT, this]
          exact retC2 (.inr rfl) Tryz.results33 ag33 rfl rfl (by repeat (first | exact Take1.head | apply Take1.tail)) rfl fun w' hh => ⟨(), trivial, by rw [e], hh.sub (by repeat (first | exact TakeL.nil | (apply TakeL.cons; · repeat (first | exact Take1.head | apply Take1.tail))))⟩
        · refine WC.skip ?_
          refine WC.seq ?_
          refine WC.region ?_
          refine WL.y (Yl.loadN ag33 rfl (by repeat (first | exact Take1.head | apply Take1.tail)) (leB (by rw [Rc.cells_len hid]; omega)) (Rc.call hid)) rfl ?_ -- t41
          refine WL.sto (Sto.agg sz33 rfl rfl (by repeat (first | exact Take1.head | apply Take1.tail)) (Rc.ones _) (Rc.cells_len hid) (by rfl) (Rc.all (r := Rc.zero) rfl (recOf bs).cells (Rc.cells_len hid))) (fun _ h => nomatch h) ?_ -- st 4
          refine WL.y (Yl.assign rfl) rfl ?_ -- t3
          refine WL.nil ?_
          refine WC.ret ?_
          repeat (first | (with_reducible refine peelT ?_) | (with_reducible refine peelB ?_) | (with_reducible refine peelTX ?_) | (with_reducible refine peelBX ?_) | (with_reducible refine peelBN ?_) | (with_reducible refine peelBO rfl ?_))
          have e : recT bs = (recOf bs, true) := by
            have : goodB bs = true := by unfold goodB; rw [e13, notF g39]; rfl
            simp [recT, this]
          exact retC2 (.inr rfl) Tryz.results33 ag33 rfl rfl (by repeat (first | exact Take1.head | apply Take1.tail)) (Rc.cells_len hid) fun w' hh => ⟨(), trivial, by rw [e], hh.sub (by repeat (first | exact TakeL.nil | (apply TakeL.cons; · repeat (first | exact Take1.head | apply Take1.tail))))⟩
end Go.Proofs.YtmcdbjbkkejbbaaGreat
