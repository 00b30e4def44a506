/- The reference's padded text: the walk, of words of 32 bits. -/
import Derived.Test.YtfdnnlcfolgegaaShaN
namespace Go.Proofs.Ytfdnnlcfolgegaa
open Go Go.RowKit

theorem padded32_any (bs : List Int) (v : Value) (hl : bs.length ≤ 100000) (w : World) (hx : RdS w (fpL []) v 1 bs.length (ints .u8 bs)) (hw : OK w (fpL []) [] w) :
    Fn Try.prog 68 [v, .int .i64 32] [] w (fun _ : Option Addr × Nat => True) (fun y => .slice y.1 (rpadF 4 bs).length y.2) (fun y => [ownR (.slice y.1 (rpadF 4 bs).length y.2) 5 1 (rpadF 4 bs).length (ints .u8 (rpadF 4 bs))]) := by
  obtain ⟨al, cl, rfl, hcl, hml⟩ := hx.rd.form
  have hpl : (rpadF 4 bs).length = bs.length + 1 + zeroN 4 bs.length + 8 := by simp [rpadF, rlnF_len]; omega
  have hz : zeroN 4 bs.length = (64 - (bs.length + 1 + 8) % 64) % 64 := rfl
  obtain ⟨N, hN⟩ : ∃ N : Int, 8 * (bs.length : Int) = N := ⟨_, rfl⟩
  have hN0 : 0 ≤ N ∧ N < 18446744073709551616 := by omega
  refine enterF Try.func68 rfl Try.ntmps68 rfl hw ?_
  refine WC.seq ?_
  refine WC.region ?_
  refine WL.y (Yl.assign rfl) rfl ?_ -- t4
  refine WL.nil ?_
  refine WC.seq ?_
  refine WC.region ?_
  refine WL.to (To.buildSlice (vs := []) un53 zs5 rfl rfl (by simp) (by decide) (by decide)) rfl ?_
  intro b9
  rw [show flat [] = [] from rfl]
  refine WL.view (fun w h => h.blkOwn (b := b9) (size := 1) (n := 0) (by repeat (first | exact Take1.head | apply Take1.tail)) (by unfold maxLen; omega) rfl) ?_
  refine WL.y (Yl.move rfl) rfl ?_ -- t10
  refine WL.to (To.append sl53 rfl rfl (by repeat (first | exact Take1.head | apply Take1.tail)) (Reads.s hx) (ints_one _ _) (Nat.zero_add _) (List.nil_append _) (by unfold maxLen; omega) (by omega)) rfl ?_ -- t11
  rintro ⟨⟨ao11, c11⟩, hc11⟩
  dsimp only at hc11 ⊢
  refine WL.to (To.buildSlice (vs := [.int .u8 128]) un53 zs5 rfl rfl (by simp [Value.cells]) (by decide) (by decide)) rfl ?_ -- t12
  intro b12
  refine WL.to (To.append sl53 rfl rfl (by repeat (first | exact Take1.head | apply Take1.tail)) (Reads.of (RdOf.blk (size := 1) (cs := [.int .u8 128]) (cs' := [.int .u8 128]) (Nat.le_refl _) (by unfold maxLen; omega) (by simp) rfl) (by repeat (first | exact Take1.head | apply Take1.tail))) (by intro v hv; rw [List.mem_singleton.1 hv]; rfl) rfl (show ints .u8 bs ++ [.int .u8 128] = ints .u8 (bs ++ ([128] ++ List.replicate 0 0)) by simp [ints]) (by unfold maxLen; omega) (by omega)) rfl ?_ -- t13
  rintro ⟨⟨ao13, c13⟩, hc13⟩
  dsimp only at hc13 ⊢
  refine WL.y (Yl.assign rfl) rfl ?_ -- t5
  refine WL.nil ?_
  refine WC.seq ?_
  refine WC.block ?_
  refine WC.loop (α := Nat × (Option Addr × Nat)) (fun p => [(0, .slice al bs.length cl), (1, .int .i64 32), (5, .slice p.2.1 (bs.length + 1 + p.1) p.2.2)]) (fun p => [ownR (.slice p.2.1 (bs.length + 1 + p.1) p.2.2) 5 1 (bs.length + 1 + p.1) (ints .u8 (bs ++ ([128] ++ List.replicate p.1 0)))]) (fun p => p.1 ≤ zeroN 4 bs.length) (fun p => zeroN 4 bs.length - p.1) (0, ao13, c13) (Nat.zero_le _) ⟨(by repeat (first | exact Sub.nil | refine Sub.cons rfl ?_)), _, (by repeat (first | exact TakeL.nil | (apply TakeL.cons; · repeat (first | exact Take1.head | apply Take1.tail))))⟩ ?_
  rintro ⟨j, ao, ca⟩ hj
  dsimp only at hj ⊢
  refine WC.seq ?_
  refine WC.seq ?_
  refine WC.region ?_
  refine WL.y (Yl.move rfl) rfl ?_ -- t14
  refine WL.y (Yl.len un53 rfl) rfl ?_ -- t15
  refine WL.y (Yl.move rfl) rfl ?_ -- t16
  refine WL.y (Yl.mul rfl rfl (IntWalk.i64_in _ (by omega))) rfl ?_ -- t17
  refine WL.y (Yl.rem rfl rfl (by omega) (i64_rem (by omega))) rfl ?_ -- t18
  refine WL.y (Yl.move rfl) rfl ?_ -- t19
  refine WL.y (Yl.mul rfl rfl (IntWalk.i64_in _ (by omega))) rfl ?_ -- t20
  refine WL.y (Yl.move rfl) rfl ?_ -- t21
  refine WL.y (Yl.quo rfl rfl (by omega) (i64_quo (by omega) (by omega))) rfl ?_ -- t22
  refine WL.y (Yl.sub rfl rfl (IntWalk.i64_in _ (by omega))) rfl ?_ -- t23
  refine WL.y (Yl.neq rfl rfl) rfl ?_ -- t24
  refine WL.nil ?_
  refine WC.condD rfl (fun g24 => ?_) (fun g24 => ?_)
  · refine WC.skip ?_
    refine WC.block ?_
    refine WC.region ?_
    refine WL.y (Yl.move rfl) rfl ?_ -- t25
    refine WL.to (To.buildSlice (vs := [.int .u8 0]) un53 zs5 rfl rfl (by simp [Value.cells]) (by decide) (by decide)) rfl ?_ -- t26
    intro b26
    refine WL.to (To.append sl53 rfl rfl (by repeat (first | exact Take1.head | apply Take1.tail)) (Reads.of (RdOf.blk (size := 1) (cs := [.int .u8 0]) (cs' := [.int .u8 0]) (Nat.le_refl _) (by unfold maxLen; omega) (by simp) rfl) (by repeat (first | exact Take1.head | apply Take1.tail))) (by intro v hv; rw [List.mem_singleton.1 hv]; rfl) rfl (show ints .u8 (bs ++ ([128] ++ List.replicate j 0)) ++ [.int .u8 0] = ints .u8 (bs ++ ([128] ++ List.replicate (j + 1) 0)) by rw [List.replicate_succ']; simp [ints]) (by unfold maxLen; omega) (by omega)) rfl ?_ -- t27
    rintro ⟨⟨ao27, c27⟩, hc27⟩
    dsimp only at hc27 ⊢
    refine WL.y (Yl.assign rfl) rfl ?_ -- t5
    refine WL.nil ?_
    exact ⟨rfl, (j + 1, ao27, c27), by dsimp only; omega, by dsimp only; omega, (by repeat (first | exact Sub.nil | refine Sub.cons rfl ?_)), _, (by repeat (first | exact TakeL.nil | (apply TakeL.cons; · repeat (first | exact Take1.head | apply Take1.tail))))⟩
  · refine WC.exit ?_
    refine WC.seq ?_
    refine WC.region ?_
    refine WL.y (Yl.move rfl) rfl ?_ -- t28
    refine WL.y (Yl.quo rfl rfl (by omega) (i64_quo (by omega) (by omega))) rfl ?_ -- t29
    refine WL.say (t := 29) (v' := .int .i64 8) rfl (by rfl) ?_
    refine WL.to (To.makeSlice (n := 8) un53 zb53_5 rfl rfl rfl (by omega) (by unfold maxLen; omega)) rfl ?_
    intro b30
    refine WL.view (fun w h => h.blkOwn (b := b30) (size := 1) (n := 8) (by repeat (first | exact Take1.head | apply Take1.tail)) (by unfold maxLen; omega) rfl) ?_
    rw [show List.replicate 8 (Value.int .u8 0) = ints .u8 (rlnF 8 N 0) from rfl]
    refine WL.y (Yl.assign rfl) rfl ?_ -- t6
    refine WL.nil ?_
    refine WC.seq ?_
    refine WC.region ?_
    refine WL.y (Yl.move rfl) rfl ?_ -- t31
    refine WL.y (Yl.len un53 rfl) rfl ?_ -- t32
    refine WL.y (Yl.conv un3 un24 rfl (u64_in' ⟨by omega, by omega⟩)) rfl ?_ -- t33
    refine WL.y (Yl.mul rfl rfl rfl) rfl ?_ -- t34
    refine WL.say (t := 34) (v' := .int .u64 (N / 256 ^ 0)) rfl (by (rw [u64_in' ⟨by omega, by omega⟩, hN]; simp)) ?_
    refine WL.y (Yl.assign rfl) rfl ?_ -- t7
    refine WL.nil ?_
    refine WC.seq ?_
    refine WC.seq ?_
    refine WC.region ?_
    refine WL.y (Yl.move rfl) rfl ?_ -- t35
    refine WL.y (Yl.len un53 rfl) rfl ?_ -- t36
    refine WL.y (Yl.sub rfl rfl (IntWalk.i64_in _ (by omega))) rfl ?_ -- t37
    refine WL.say (t := 37) (v' := .int .i64 (8 - 1 - ((0 : Nat) : Int))) rfl (by rfl) ?_
    refine WL.y (Yl.assign rfl) rfl ?_ -- t8
    refine WL.nil ?_
    refine WC.block ?_
    have hj2 : j = zeroN 4 bs.length := by omega
    subst hj2
    refine WC.loop (α := Nat) (fun i => [(5, .slice ao (bs.length + 1 + zeroN 4 bs.length) ca), (6, .slice (some ⟨b30, 0, none⟩) 8 8), (7, .int .u64 (N / 256 ^ i)), (8, .int .i64 (8 - 1 - (i : Int)))]) (fun i => [ownR (.slice (some ⟨b30, 0, none⟩) 8 8) 5 1 8 (ints .u8 (rlnF 8 N i)), ownR (.slice ao (bs.length + 1 + zeroN 4 bs.length) ca) 5 1 (bs.length + 1 + zeroN 4 bs.length) (ints .u8 (bs ++ ([128] ++ List.replicate (zeroN 4 bs.length) 0)))]) (fun i => i ≤ 8) (fun i => 8 - i) 0 (Nat.zero_le _) ⟨(by repeat (first | exact Sub.nil | refine Sub.cons rfl ?_)), _, (by repeat (first | exact TakeL.nil | (apply TakeL.cons; · repeat (first | exact Take1.head | apply Take1.tail))))⟩ ?_
    intro i hi
    have hrl := rlnF_len 8 N i
    have hq : W64 (N / 256 ^ i) := ⟨Int.ediv_nonneg hN0.1 (Int.le_of_lt (Int.pow_pos (by decide))), by have := Int.ediv_le_self (256 ^ i) hN0.1; omega⟩
    refine WC.seq ?_
    refine WC.seq ?_
    refine WC.region ?_
    refine WL.y (Yl.move rfl) rfl ?_ -- t38
    refine WL.y (Yl.geq rfl rfl) rfl ?_ -- t39
    refine WL.nil ?_
    refine WC.condD rfl (fun g39 => ?_) (fun g39 => ?_)
    · refine WC.skip ?_
      refine WC.seq ?_
      refine WC.block ?_
      refine WC.seq ?_
      refine WC.region ?_
      refine WL.y (Yl.move rfl) rfl ?_ -- t42
      refine WL.y (Yl.move rfl) rfl ?_ -- t43
      refine WL.say (t := 43) (v' := .int .i64 ((8 - 1 - i : Nat) : Int)) rfl (by (refine congrArg _ ?_; omega)) ?_
      refine WL.y (Yl.move rfl) rfl ?_ -- t44
      refine WL.y (Yl.rem rfl rfl (by omega) (Int.tmod_eq_emod_of_nonneg hq.1)) rfl ?_
      refine WL.y (Yl.conv un24 un5 rfl rfl) rfl ?_ -- t46
      refine WL.y (Yl.index un53 sz5 rfl rfl (Reads.of RdOf.own (by repeat (first | exact Take1.head | apply Take1.tail))) rfl (by omega)) rfl ?_ -- t47
      refine WL.sto (Sto.elem sz5 rfl rfl (by repeat (first | exact Take1.head | apply Take1.tail)) rfl (by omega) (by rfl)) (fun _ h => nomatch h) ?_ -- st 1
      refine WL.nil ?_
      refine WC.region ?_
      refine WL.y (Yl.move rfl) rfl ?_ -- t48
      refine WL.y (Yl.quo rfl rfl (by omega) (u64_quo hq (by omega))) rfl ?_
      refine WL.say (t := 49) (v' := .int .u64 (N / 256 ^ (i + 1))) rfl (by (rw [Int.pow_succ, ediv_mul' (Int.le_of_lt (Int.pow_pos (by decide)))])) ?_
      refine WL.y (Yl.assign rfl) rfl ?_ -- t7
      refine WL.nil ?_
      refine WC.region ?_
      refine WL.y (Yl.move rfl) rfl ?_ -- t40
      refine WL.y (Yl.sub rfl rfl (IntWalk.i64_in _ (by omega))) rfl ?_ -- t41
      refine WL.say (t := 41) (v' := .int .i64 (8 - 1 - ((i + 1 : Nat) : Int))) rfl (by (refine congrArg _ ?_; omega)) ?_
      refine WL.y (Yl.assign rfl) rfl ?_ -- t8
      refine WL.nil ?_
      rw [ints_set]
      exact ⟨rfl, i + 1, by omega, by omega, (by repeat (first | exact Sub.nil | refine Sub.cons rfl ?_)), _, (by repeat (first | exact TakeL.nil | (apply TakeL.cons; · repeat (first | exact Take1.head | apply Take1.tail))))⟩
    · refine WC.exit ?_
      refine WC.seq ?_
      refine WC.region ?_
      have hi2 : i = 8 := by omega
      subst hi2
      refine WL.y (Yl.move rfl) rfl ?_ -- t50
      refine WL.y (Yl.move rfl) rfl ?_ -- t51
      refine WL.to (To.append sl53 rfl rfl (by repeat (first | exact Take1.head | apply Take1.tail)) (Reads.of RdOf.own (by repeat (first | exact Take1.head | apply Take1.tail))) (ints_one _ _) (show _ = (rpadF 4 bs).length by rw [hpl]) (show _ = ints .u8 (rpadF 4 bs) by unfold rpadF; rw [hN]; simp [ints]) (by unfold maxLen; omega) (by omega)) rfl ?_ -- t52
      rintro ⟨⟨ao52, c52⟩, hc52⟩
      dsimp only at hc52 ⊢
      refine WL.y (Yl.assign rfl) rfl ?_ -- t4
      refine WL.nil ?_
      refine WC.ret ?_
      repeat (first | (with_reducible refine peelT ?_) | (with_reducible refine peelB ?_) | (with_reducible refine peelTX ?_) | (with_reducible refine peelBX ?_) | (with_reducible refine peelBN ?_) | (with_reducible refine peelBO rfl ?_))
      exact ret1 (.inr rfl) Try.results68 rfl fun w' h => ⟨(ao52, c52), trivial, rfl, h.sub (by repeat (first | exact TakeL.nil | (apply TakeL.cons; · repeat (first | exact Take1.head | apply Take1.tail))))⟩
end Go.Proofs.Ytfdnnlcfolgegaa
