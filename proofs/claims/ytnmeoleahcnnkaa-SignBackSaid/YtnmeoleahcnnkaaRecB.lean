/- Records: the reference's bytes, and what it takes: the walks. -/
import Derived.Test.YtnmeoleahcnnkaaRecA
namespace Go.Proofs.Ytnmeoleahcnnkaa
open Go Go.RowKit
theorem rid_any (id : List Int) (hl : id.length = 16) (w : World) (hw : OK w (fpL []) [] w) :
    Fn Try.prog 24 [.agg (ints .u8 id).toArray] [] w (fun _ : Option Addr × Nat => True) (fun y => .slice y.1 16 y.2) (fun y => [ownR (.slice y.1 16 y.2) 5 1 16 (ints .u8 id)]) := by
  refine enterF Try.func24 rfl Try.ntmps24 rfl hw ?_
  refine WC.seq ?_
  refine WC.region ?_
  refine WL.to (To.box (cs := ints .u8 id) rfl rfl) rfl ?_ -- t1
  intro b1
  refine WL.y (Yl.assign rfl) rfl ?_ -- t2
  refine WL.nil ?_
  refine WC.seq ?_
  refine WC.region ?_
  refine WL.y (Yl.assign rfl) rfl ?_ -- t3
  refine WL.nil ?_
  refine WC.seq ?_
  refine WC.seq ?_
  refine WC.region ?_
  refine WL.y (Yl.assign rfl) rfl ?_ -- t4
  refine WL.nil ?_
  refine WC.block ?_
  refine WC.view (fun w h => h.addNil 5 1) ?_
  refine WC.loop (α := Nat × (Option Addr × Nat)) (fun p => [(1, .pointer (some ⟨b1, 0, none⟩)), (3, .slice p.2.1 p.1 p.2.2), (4, .int .i64 (p.1 : Int))]) (fun p => [ownR (.slice p.2.1 p.1 p.2.2) 5 1 p.1 (ints .u8 (id.take p.1)), blkR b1 27 (ints .u8 id)]) (fun p => p.1 ≤ 16) (fun p => 16 - p.1) (0, none, 0) (Nat.zero_le _) ⟨(by repeat (first | exact Sub.nil | refine Sub.cons rfl ?_)), _, (by repeat (first | exact TakeL.nil | (apply TakeL.cons; · repeat (first | exact Take1.head | apply Take1.tail))))⟩ ?_
  rintro ⟨j, ao, c⟩ hj
  dsimp only at hj ⊢
  refine WC.seq ?_
  refine WC.seq ?_
  refine WC.region ?_
  refine WL.y (Yl.move rfl) rfl ?_ -- t5
  refine WL.y (Yl.lss rfl rfl) rfl ?_ -- t6
  refine WL.nil ?_
  refine WC.condD rfl (fun g6 => ?_) (fun g6 => ?_)
  · refine WC.skip ?_
    refine WC.seq ?_
    refine WC.block ?_
    refine WC.region ?_
    refine WL.y (Yl.move rfl) rfl ?_ -- t9
    refine WL.y (Yl.move rfl) rfl ?_ -- t10
    refine WL.y (Yl.indexA un27 sz5 rfl rfl rfl (by omega)) rfl ?_ -- t11
    refine WL.y (Yl.load on5 rfl (by repeat (first | exact Take1.head | apply Take1.tail)) (show _ = some (.int .u8 (id.getD j 0)) by rw [show 0 + j * 1 = j by omega]; exact ints_get .u8 id j (by omega))) rfl ?_ -- t12
    refine WL.to (To.buildSlice (vs := [.int .u8 (id.getD j 0)]) un22 zs5 rfl rfl (by simp [Value.cells]) (by decide) (by decide)) rfl ?_ -- t13
    intro b13
    refine WL.to (To.append sl22 rfl rfl (by repeat (first | exact Take1.head | apply Take1.tail)) (Reads.of (RdOf.blk (cs := [.int .u8 (id.getD j 0)]) (cs' := ints .u8 [id.getD j 0]) (Nat.le_refl _) (by unfold maxLen; omega) (by simp) rfl) (by repeat (first | exact Take1.head | apply Take1.tail))) (ints_one _ _) rfl (by rw [ints_append, ← take_getD (show j < id.length by omega)]) (by unfold maxLen; omega) (by omega)) rfl ?_ -- t14
    rintro ⟨⟨ao14, c14⟩, hc14⟩
    dsimp only at hc14 ⊢
    refine WL.y (Yl.assign rfl) rfl ?_ -- t3
    refine WL.nil ?_
    refine WC.region ?_
    refine WL.y (Yl.move rfl) rfl ?_ -- t7
    refine WL.y (Yl.add rfl rfl (IntWalk.i64_in _ (by omega))) rfl ?_ -- t8
    refine WL.y (Yl.assign rfl) rfl ?_ -- t4
    refine WL.nil ?_
    exact ⟨rfl, (j + 1, ao14, c14), by dsimp only; omega, by dsimp only; omega, (by repeat (first | exact Sub.nil | refine Sub.cons rfl ?_)), _, (by repeat (first | exact TakeL.nil | (apply TakeL.cons; · repeat (first | exact Take1.head | apply Take1.tail))))⟩
  · refine WC.exit ?_
    refine WC.seq ?_
    refine WC.region ?_
    refine WL.y (Yl.move rfl) rfl ?_ -- t15
    refine WL.y (Yl.assign rfl) rfl ?_ -- t2
    refine WL.nil ?_
    refine WC.ret ?_
    repeat (first | (with_reducible refine peelT ?_) | (with_reducible refine peelB ?_) | (with_reducible refine peelTX ?_) | (with_reducible refine peelBX ?_) | (with_reducible refine peelBN ?_) | (with_reducible refine peelBO rfl ?_))
    have hj2 : j = 16 := by omega
    subst hj2
    exact ret1 (.inr rfl) Try.results24 rfl fun w' h => ⟨(ao, c), trivial, rfl, by rw [List.take_of_length_le (by omega)] at h; exact h.sub (by repeat (first | exact TakeL.nil | (apply TakeL.cons; · repeat (first | exact Take1.head | apply Take1.tail))))⟩

theorem rnumber_any (n : Int) (many : Nat) (hn : U64 n) (hm : many ≤ 8) (w : World) (hw : OK w (fpL []) [] w) :
    Fn Try.prog 26 [.int .u64 n, .int .i64 (many : Int)] [] w (fun _ : Nat => True) (fun b => .slice (some ⟨b, 0, none⟩) many many) (fun b => [ownR (.slice (some ⟨b, 0, none⟩) many many) 5 1 many (ints .u8 (be n many))]) := by
  refine enterF Try.func26 rfl Try.ntmps26 rfl hw ?_
  refine WC.seq ?_
  refine WC.region ?_
  refine WL.y (Yl.assign rfl) rfl ?_ -- t4
  refine WL.nil ?_
  refine WC.seq ?_
  refine WC.region ?_
  refine WL.y (Yl.move rfl) rfl ?_ -- t7
  refine WL.to (To.makeSlice un22 zb22_5 rfl rfl rfl (by omega) (by unfold maxLen; omega)) rfl ?_ -- t8
  intro b8
  refine WL.view (fun w h => h.blkOwn (b := b8) (size := 1) (n := many) (by repeat (first | exact Take1.head | apply Take1.tail)) (by unfold maxLen; omega) (by simp)) ?_
  refine WL.y (Yl.assign rfl) rfl ?_ -- t5
  refine WL.nil ?_
  refine WC.seq ?_
  refine WC.seq ?_
  refine WC.region ?_
  refine WL.y (Yl.move rfl) rfl ?_ -- t9
  refine WL.y (Yl.sub rfl rfl (IntWalk.i64_in _ (by omega))) rfl ?_ -- t10
  refine WL.y (Yl.assign rfl) rfl ?_ -- t6
  refine WL.nil ?_
  refine WC.block ?_
  refine WC.loop (α := Nat) (fun j => [(0, .int .u64 (n / 2 ^ (8 * j))), (5, .slice (some ⟨b8, 0, none⟩) many many), (6, .int .i64 ((many : Int) - 1 - (j : Int)))]) (fun j => [ownR (.slice (some ⟨b8, 0, none⟩) many many) 5 1 many (ints .u8 (numK n many j))]) (fun j => j ≤ many) (fun j => many - j) 0 (Nat.zero_le _) ⟨(by refine Sub.cons (by simp; rfl) (Sub.cons rfl (Sub.cons ?_ Sub.nil)); show some (Value.int .i64 _) = some (Value.int .i64 _); congr 2; omega), _, (by rw [numK_zero]; exact (by repeat (first | exact TakeL.nil | (apply TakeL.cons; · repeat (first | exact Take1.head | apply Take1.tail)))))⟩ ?_
  intro j hj
  have hp : (0 : Int) < 2 ^ (8 * j) := Int.pow_pos (by decide)
  have hq : 0 ≤ n / 2 ^ (8 * j) := Int.ediv_nonneg hn.1 (by omega)
  have hq2 : n / 2 ^ (8 * j) < 18446744073709551616 := by have := Int.ediv_le_self (2 ^ (8 * j)) hn.1; have := hn.2; omega
  refine WC.seq ?_
  refine WC.seq ?_
  refine WC.region ?_
  refine WL.y (Yl.move rfl) rfl ?_ -- t11
  refine WL.y (Yl.geq rfl rfl) rfl ?_ -- t12
  refine WL.nil ?_
  refine WC.condD rfl (fun g12 => ?_) (fun g12 => ?_)
  · refine WC.skip ?_
    refine WC.seq ?_
    refine WC.block ?_
    refine WC.seq ?_
    refine WC.region ?_
    refine WL.y (Yl.move rfl) rfl ?_ -- t15
    refine WL.y (Yl.move rfl) rfl ?_ -- t16
    refine WL.y (Yl.move rfl) rfl ?_ -- t17
    refine WL.y (Yl.rem rfl rfl (by omega) (Int.tmod_eq_emod_of_nonneg hq)) rfl ?_
    refine WL.y (Yl.conv un65 un5 rfl (IntWalk.u8_in _ (by omega))) rfl ?_ -- t19
    refine WL.y (Yl.index un22 sz5 rfl rfl (Reads.own (by repeat (first | exact Take1.head | apply Take1.tail))) (show ((many : Int) - 1 - (j : Int)) = ((many - 1 - j : Nat) : Int) by omega) (by omega)) rfl ?_ -- t20
    refine WL.sto (Sto.elem sz5 rfl rfl (by repeat (first | exact Take1.head | apply Take1.tail)) rfl (by omega) (cs' := ints .u8 (numK n many (j + 1))) (numK_step n (by omega))) (fun _ h => nomatch h) ?_
    refine WL.nil ?_
    refine WC.region ?_
    refine WL.y (Yl.move rfl) rfl ?_ -- t21
    refine WL.y (Yl.quo rfl rfl (by omega) (r := n / 2 ^ (8 * (j + 1))) (by rw [Int.tdiv_eq_ediv_of_nonneg hq, u64_in _ (by omega)]; exact div256 n j)) rfl ?_
    refine WL.y (Yl.assign rfl) rfl ?_ -- t0
    refine WL.nil ?_
    refine WC.region ?_
    refine WL.y (Yl.move rfl) rfl ?_ -- t13
    refine WL.y (Yl.sub rfl rfl (IntWalk.i64_in _ (by omega))) rfl ?_ -- t14
    refine WL.y (Yl.assign rfl) rfl ?_ -- t6
    refine WL.nil ?_
    exact ⟨rfl, j + 1, by omega, by omega, (by refine Sub.cons rfl (Sub.cons rfl (Sub.cons ?_ Sub.nil)); show some (Value.int .i64 _) = some (Value.int .i64 _); congr 2; omega), _, (by repeat (first | exact TakeL.nil | (apply TakeL.cons; · repeat (first | exact Take1.head | apply Take1.tail))))⟩
  · refine WC.exit ?_
    refine WC.seq ?_
    refine WC.region ?_
    refine WL.y (Yl.move rfl) rfl ?_ -- t23
    refine WL.y (Yl.assign rfl) rfl ?_ -- t4
    refine WL.nil ?_
    refine WC.ret ?_
    repeat (first | (with_reducible refine peelT ?_) | (with_reducible refine peelB ?_) | (with_reducible refine peelTX ?_) | (with_reducible refine peelBX ?_) | (with_reducible refine peelBN ?_) | (with_reducible refine peelBO rfl ?_))
    have hj2 : j = many := by omega
    subst hj2
    exact ret1 (.inr rfl) Try.results26 rfl fun w' h => ⟨b8, trivial, rfl, by rw [numK_all] at h; exact h.sub (by repeat (first | exact TakeL.nil | (apply TakeL.cons; · repeat (first | exact Take1.head | apply Take1.tail))))⟩

end Go.Proofs.Ytnmeoleahcnnkaa
