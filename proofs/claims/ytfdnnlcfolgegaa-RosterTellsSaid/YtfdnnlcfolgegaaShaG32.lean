/- The sum of texts: the walk, of words of 32 bits. -/
import Derived.Test.YtfdnnlcfolgegaaShaL
import Derived.Test.YtfdnnlcfolgegaaShaC
import Derived.Test.YtfdnnlcfolgegaaShaB32
namespace Go.Proofs.Ytfdnnlcfolgegaa
open Go Go.RowKit

theorem flat_take {ls : List (List Int)} {i : Nat} {bs : List Int} (h : ls[i]? = some bs) : (ls.take (i + 1)).flatten = (ls.take i).flatten ++ bs := by
  rw [List.take_add_one, h]
  simp
theorem flat_le {ls : List (List Int)} (i : Nat) : (ls.take i).flatten.length ≤ ls.flatten.length := by
  conv => rhs; rw [← List.take_append_drop i ls]
  rw [List.flatten_append, List.length_append]
  omega

set_option maxRecDepth 100000 in
theorem sum32_any (m : Nat) (ho ko : Option Addr) (hc kc : Nat) (T : Tn) (hT : T.ok 32) (H0 ks : List Int) (ls : List (List Int)) (vs : List Value) (lv : Value) (hH : H0.length = 8) (hks : ks.length = 64) (hvl : vs.length = ls.length) (htot : ls.flatten.length ≤ 100000) (hmany : ls.length ≤ 100000) (w : World)
    (hm : BlkS w (fpL [ownR (.slice ho 8 hc) 103 1 8 (ints .u32 H0)]) m 121 (mC (.slice ho 8 hc) (.slice ko 64 kc) 4 T)) (hk : RdS w (fpL [ownR (.slice ho 8 hc) 103 1 8 (ints .u32 H0)]) (.slice ko 64 kc) 1 64 (ints .u32 ks))
    (hlv : RdS w (fpL [ownR (.slice ho 8 hc) 103 1 8 (ints .u32 H0)]) lv 1 ls.length vs) (hls : ∀ (i : Nat) v bs, vs[i]? = some v → ls[i]? = some bs → RdS w (fpL [ownR (.slice ho 8 hc) 103 1 8 (ints .u32 H0)]) v 1 bs.length (ints .u8 bs))
    (hw : OK w (fpL [ownR (.slice ho 8 hc) 103 1 8 (ints .u32 H0)]) [ownR (.slice ho 8 hc) 103 1 8 (ints .u32 H0)] w) :
    Fn Try.prog 64 [.pointer (some ⟨m, 0, none⟩), lv] [ownR (.slice ho 8 hc) 103 1 8 (ints .u32 H0)] w (fun _ : Option Addr × Nat => True) (fun y => .slice y.1 (8 * 4) y.2) (fun y => [ownR (.slice y.1 (8 * 4) y.2) 5 1 (8 * 4) (ints .u8 (sumF .u32 32 4 64 T ks H0 ls.flatten))]) := by
  obtain ⟨la, lc, rfl, hlcl, hlml⟩ := hlv.rd.form
  refine enterF Try.func64 rfl Try.ntmps64 rfl hw ?_
  refine WC.seq ?_
  refine WC.region ?_
  refine WL.y (Yl.assign rfl) rfl ?_ -- t4
  refine WL.nil ?_
  refine WC.seq ?_
  refine WC.region ?_
  refine WL.y (Yl.move rfl) rfl ?_ -- t16
  refine WL.y (Yl.nilCheck rfl) rfl ?_ -- t17
  refine WL.y (Yl.field fo121_2 rfl) rfl ?_ -- t18
  refine WL.y (Yl.loadS on3 rfl hm (by rfl)) rfl ?_ -- t19
  refine WL.y (Yl.mul rfl rfl (IntWalk.i64_in _ (by omega))) rfl ?_ -- t20
  refine WL.y (Yl.assign rfl) rfl ?_ -- t5
  refine WL.nil ?_
  refine WC.seq ?_
  refine WC.region ?_
  refine WL.y (Yl.assign rfl) rfl ?_ -- t6
  refine WL.nil ?_
  refine WC.seq ?_
  refine WC.region ?_
  refine WL.y (Yl.assign rfl) rfl ?_ -- t7
  refine WL.nil ?_
  refine WC.seq ?_
  refine WC.seq ?_
  refine WC.region ?_
  refine WL.y (Yl.move rfl) rfl ?_ -- t21
  refine WL.y (Yl.len un96 rfl) rfl ?_ -- t22
  refine WL.y (Yl.move rfl) rfl ?_ -- t23
  refine WL.nil ?_
  refine WC.block ?_
  refine WC.view (fun w h => h.addNil 5 1) ?_
  refine WC.loop (α := Nat × Nat × (Option Addr × Nat)) (fun p => [(0, .pointer (some ⟨m, 0, none⟩)), (5, .int .i64 64), (6, .slice p.2.2.1 ((ls.take p.1).flatten.length - p.2.1 * 64) p.2.2.2), (7, .int .u64 ((ls.take p.1).flatten.length : Int)), (21, .slice la ls.length lc), (22, .int .i64 (ls.length : Int)), (23, .int .i64 (p.1 : Int))]) (fun p => [ownR (.slice p.2.2.1 ((ls.take p.1).flatten.length - p.2.1 * 64) p.2.2.2) 5 1 ((ls.take p.1).flatten.length - p.2.1 * 64) (ints .u8 ((ls.take p.1).flatten.drop (p.2.1 * 64))), ownR (.slice ho 8 hc) 103 1 8 (ints .u32 (bkF .u32 32 4 64 T ks H0 (ls.take p.1).flatten p.2.1))]) (fun p => p.1 ≤ ls.length ∧ p.2.1 * 64 ≤ (ls.take p.1).flatten.length ∧ (ls.take p.1).flatten.length - p.2.1 * 64 < 64 ∧ (ls.take p.1).flatten.length - p.2.1 * 64 ≤ p.2.2.2) (fun p => ls.length - p.1) (0, 0, (none, 0)) ⟨Nat.zero_le _, by simp, by simp, by simp⟩ ⟨(by repeat (first | exact Sub.nil | refine Sub.cons rfl ?_)), _, (by repeat (first | exact TakeL.nil | (apply TakeL.cons; · repeat (first | exact Take1.head | apply Take1.tail))))⟩ ?_
  rintro ⟨i, c0, ⟨ao, ac⟩⟩ ⟨hi, hcl0, hcs0, hca0⟩
  dsimp only at hi hcl0 hcs0 hca0 ⊢
  have hfl := flat_le (ls := ls) i
  obtain ⟨msg, hmsg⟩ : ∃ msg, (ls.take i).flatten = msg := ⟨_, rfl⟩
  rw [hmsg] at hcl0 hcs0 hca0 hfl ⊢
  refine WC.seq ?_
  refine WC.region ?_
  refine WL.y (Yl.lss rfl rfl) rfl ?_ -- t24
  refine WL.nil ?_
  refine WC.seq ?_
  refine WC.condD rfl (fun g24 => ?_) (fun g24 => ?_)
  · refine WC.skip ?_
    refine WC.seq ?_
    refine WC.block ?_
    refine WC.seq ?_
    refine WC.region ?_
    obtain ⟨bv, hbv⟩ : ∃ v, vs[i]? = some v := ⟨_, List.getElem?_eq_getElem (by omega)⟩
    obtain ⟨bs, hbs⟩ : ∃ b, ls[i]? = some b := ⟨_, List.getElem?_eq_getElem (by omega)⟩
    have hx := hls i bv bs hbv hbs
    obtain ⟨bal, bcl, rfl, hbcl, hbml⟩ := hx.rd.form
    have hnext : (ls.take (i + 1)).flatten = msg ++ bs := by rw [flat_take hbs, hmsg]
    have hnl : (msg ++ bs).length ≤ 100000 := by have := flat_le (ls := ls) (i + 1); rw [hnext] at this; omega
    have hnl2 : (msg ++ bs).length = msg.length + bs.length := List.length_append
    refine WL.y (Yl.index un96 sz53 rfl rfl (Reads.s hlv) rfl (by omega)) rfl ?_ -- t25
    refine WL.y (Yl.loadE on53 rfl (Reads.s hlv) hbv) rfl ?_ -- t26
    refine WL.y (Yl.assign rfl) rfl ?_ -- t9
    refine WL.nil ?_
    refine WC.seq ?_
    refine WC.region ?_
    refine WL.y (Yl.move rfl) rfl ?_ -- t27
    refine WL.y (Yl.move rfl) rfl ?_ -- t28
    refine WL.y (Yl.len un53 rfl) rfl ?_ -- t29
    refine WL.y (Yl.conv un3 un24 rfl (u64_in' ⟨by omega, by omega⟩)) rfl ?_ -- t30
    refine WL.y (Yl.add rfl rfl rfl) rfl ?_ -- t31
    refine WL.say (t := 31) (v' := .int .u64 ((msg ++ bs).length : Int)) rfl (by (rw [u64_in' ⟨by omega, by omega⟩, hnl2]; simp)) ?_
    refine WL.y (Yl.assign rfl) rfl ?_ -- t7
    refine WL.nil ?_
    refine WC.seq ?_
    refine WC.region ?_
    refine WL.y (Yl.move rfl) rfl ?_ -- t32
    refine WL.y (Yl.move rfl) rfl ?_ -- t33
    refine WL.to (To.append sl53 rfl rfl (by repeat (first | exact Take1.head | apply Take1.tail)) (Reads.s hx) (ints_one _ _) (show msg.length - c0 * 64 + bs.length = (msg ++ bs).length - c0 * 64 by omega) (show _ = ints .u8 ((msg ++ bs).drop (c0 * 64)) by rw [List.drop_append_of_le_length hcl0]; simp [ints]) (by unfold maxLen; omega) (by omega)) rfl ?_ -- t34
    rintro ⟨⟨ao34, c34⟩, hc34⟩
    dsimp only at hc34 ⊢
    refine WL.y (Yl.assign rfl) rfl ?_ -- t6
    refine WL.nil ?_
    refine WC.block ?_
    rw [← bkF_app (z := 4) (cs := bs) (by omega : c0 * (16 * 4) ≤ msg.length)]
    refine WC.loop (α := Nat × (Option Addr × Nat)) (fun p => [(0, .pointer (some ⟨m, 0, none⟩)), (5, .int .i64 64), (6, .slice p.2.1 ((msg ++ bs).length - p.1 * 64) p.2.2), (7, .int .u64 ((msg ++ bs).length : Int)), (21, .slice la ls.length lc), (22, .int .i64 (ls.length : Int)), (23, .int .i64 (i : Int))]) (fun p => [ownR (.slice p.2.1 ((msg ++ bs).length - p.1 * 64) p.2.2) 5 1 ((msg ++ bs).length - p.1 * 64) (ints .u8 ((msg ++ bs).drop (p.1 * 64))), ownR (.slice ho 8 hc) 103 1 8 (ints .u32 (bkF .u32 32 4 64 T ks H0 (msg ++ bs) p.1))]) (fun p => p.1 * 64 ≤ (msg ++ bs).length ∧ (msg ++ bs).length - p.1 * 64 ≤ p.2.2) (fun p => (msg ++ bs).length - p.1 * 64) (c0, (ao34, c34)) ⟨by dsimp only; omega, by dsimp only; omega⟩ ⟨(by repeat (first | exact Sub.nil | refine Sub.cons rfl ?_)), _, (by repeat (first | exact TakeL.nil | (apply TakeL.cons; · repeat (first | exact Take1.head | apply Take1.tail))))⟩ ?_
    rintro ⟨c, ⟨qo, qc⟩⟩ ⟨hcc, hqc⟩
    dsimp only at hcc hqc ⊢
    refine WC.seq ?_
    refine WC.seq ?_
    refine WC.region ?_
    refine WL.y (Yl.move rfl) rfl ?_ -- t35
    refine WL.y (Yl.len un53 rfl) rfl ?_ -- t36
    refine WL.y (Yl.move rfl) rfl ?_ -- t37
    refine WL.y (Yl.geq rfl rfl) rfl ?_ -- t38
    refine WL.nil ?_
    refine WC.condD rfl (fun g38 => ?_) (fun g38 => ?_)
    · refine WC.skip ?_
      refine WC.seq ?_
      refine WC.block ?_
      refine WC.region ?_
      refine WL.y (Yl.move rfl) rfl ?_ -- t42
      refine WL.y (Yl.move rfl) rfl ?_ -- t43
      refine WL.y (Yl.move rfl) rfl ?_ -- t44
      refine WL.y (Yl.slice (h := 64) un53 sz5 rfl rfl ⟨.i64, rfl⟩ (by omega) (by omega)) rfl ?_
      refine WL.callC (xs := [.tmp 42, .tmp 45]) (cap := []) rfl rfl en80 (by repeat (first | exact TakeL.nil | (apply TakeL.cons; · repeat (first | exact Take1.head | apply Take1.tail)))) (fun w hw => block32_any m ho ko hc kc T hT (bkF .u32 32 4 64 T ks H0 (msg ++ bs) c) ks (((msg ++ bs).drop (c * 64)).take 64) _ (by rw [bkF_len, hH]) hks (by simp; omega) w (hw.srcBS (A := [_]) hm) (hw.srcS (A := [_]) hk) ((hw.src (A := [_]) ((RdOf.own (v := .slice qo ((msg ++ bs).length - c * 64) qc) (e := 5) (cs := ints .u8 ((msg ++ bs).drop (c * 64)))).sub (l := 0) (h := 16 * 4) (by omega) (by omega) (cs' := ints .u8 (((msg ++ bs).drop (c * 64)).take 64)) (by simp [ints])) (by repeat (first | exact Take1.head | apply Take1.tail))).len (by simp; omega)) hw.left.here) rfl ?_ -- t46 (*hailer/sha.machine[uint32]).block
      rintro ⟨⟩ -
      refine WL.nil ?_
      refine WC.region ?_
      refine WL.view (fun w h => h.tail (ao := qo) (cap := qc) (l := 64) (by repeat (first | exact Take1.head | apply Take1.tail)) (by omega)) ?_
      refine WL.y (Yl.move rfl) rfl ?_ -- t39
      refine WL.y (Yl.move rfl) rfl ?_ -- t40
      refine WL.y (Yl.slice (l := 64) un53 sz5 rfl ⟨.i64, rfl⟩ rfl (by omega) (by omega)) rfl ?_
      refine WL.y (Yl.assign rfl) rfl ?_ -- t6
      refine WL.nil ?_
      refine ⟨rfl, (c + 1, ((if qc = 64 then qo else qo.map (·.add (64 * 1))), qc - 64)), ⟨by dsimp only; omega, by dsimp only; omega⟩, by dsimp only; omega, ?_⟩
      dsimp only
      rw [show (msg ++ bs).length - (c + 1) * 64 = (msg ++ bs).length - c * 64 - 64 by omega, ← ints_more]
      exact ⟨(by repeat (first | exact Sub.nil | refine Sub.cons rfl ?_)), _, (by repeat (first | exact TakeL.nil | (apply TakeL.cons; · repeat (first | exact Take1.head | apply Take1.tail))))⟩
    · refine WC.exit ?_
      refine WC.region ?_
      refine WL.y (Yl.add rfl rfl (IntWalk.i64_in _ (by omega))) rfl ?_ -- t47
      refine WL.y (Yl.move rfl) rfl ?_ -- t23
      refine WL.nil ?_
      refine ⟨rfl, (i + 1, c, (qo, qc)), ⟨by dsimp only; omega, by dsimp only; rw [hnext]; omega, by dsimp only; rw [hnext]; omega, by dsimp only; rw [hnext]; omega⟩, by dsimp only; omega, ?_⟩
      dsimp only
      rw [hnext]
      exact ⟨(by repeat (first | exact Sub.nil | refine Sub.cons rfl ?_)), _, (by repeat (first | exact TakeL.nil | (apply TakeL.cons; · repeat (first | exact Take1.head | apply Take1.tail))))⟩
  · refine WC.exit ?_
    refine WC.seq ?_
    refine WC.region ?_
    have hmsg2 : ls.flatten = msg := by rw [← hmsg, show i = ls.length by omega, List.take_length]
    have hz : zeroN 4 msg.length = (64 - (msg.length + 1 + 8) % 64) % 64 := rfl
    obtain ⟨p, hp⟩ : ∃ p, zeroN 4 msg.length = p := ⟨_, rfl⟩
    rw [hp] at hz
    refine WL.y (Yl.move rfl) rfl ?_ -- t48
    refine WL.y (Yl.move rfl) rfl ?_ -- t49
    refine WL.y (Yl.len un53 rfl) rfl ?_ -- t50
    refine WL.y (Yl.move rfl) rfl ?_ -- t51
    refine WL.y (Yl.len un53 rfl) rfl ?_ -- t52
    refine WL.view (fun w h => h.clip (ao := ao) (cap := ac) (by repeat (first | exact Take1.head | apply Take1.tail))) ?_
    refine WL.y (Yl.slice3 un53 sz5 rfl rfl rfl (by omega) (by omega)) rfl ?_ -- t53
    refine WL.to (To.buildSlice (vs := [.int .u8 128]) un53 zs5 rfl rfl (by simp [Value.cells]) (by decide) (by decide)) rfl ?_ -- t54
    intro b54
    refine WL.to (To.append sl53 rfl rfl (by repeat (first | exact Take1.head | apply Take1.tail)) (Reads.of (RdOf.blk (size := 1) (cs := [.int .u8 128]) (cs' := [.int .u8 128]) (Nat.le_refl _) (by unfold maxLen; omega) (by simp) rfl) (by repeat (first | exact Take1.head | apply Take1.tail))) (by intro v hv; rw [List.mem_singleton.1 hv]; rfl) rfl (ints_snoc _ _ _) (by unfold maxLen; omega) (by omega)) rfl ?_ -- t55
    rintro ⟨⟨ao55, c55⟩, hc55⟩
    dsimp only at hc55 ⊢
    refine WL.y (Yl.assign rfl) rfl ?_ -- t6
    refine WL.nil ?_
    refine WC.seq ?_
    refine WC.block ?_
    refine WC.loop (α := Nat × (Option Addr × Nat)) (fun q => [(0, .pointer (some ⟨m, 0, none⟩)), (5, .int .i64 64), (6, .slice q.2.1 (msg.length - c0 * 64 + 1 + q.1) q.2.2), (7, .int .u64 (msg.length : Int))]) (fun q => [ownR (.slice q.2.1 (msg.length - c0 * 64 + 1 + q.1) q.2.2) 5 1 (msg.length - c0 * 64 + 1 + q.1) (ints .u8 (msg.drop (c0 * 64) ++ [128] ++ List.replicate q.1 0)), ownR (.slice ho 8 hc) 103 1 8 (ints .u32 (bkF .u32 32 4 64 T ks H0 msg c0))]) (fun q => q.1 ≤ p) (fun q => p - q.1) (0, (ao55, c55)) (Nat.zero_le _) ⟨(by repeat (first | exact Sub.nil | refine Sub.cons rfl ?_)), _, (by rw [List.replicate_zero, List.append_nil]; exact (by repeat (first | exact TakeL.nil | (apply TakeL.cons; · repeat (first | exact Take1.head | apply Take1.tail)))))⟩ ?_
    rintro ⟨j, ⟨zo, zc⟩⟩ hj
    dsimp only at hj ⊢
    refine WC.seq ?_
    refine WC.seq ?_
    refine WC.region ?_
    refine WL.y (Yl.move rfl) rfl ?_ -- t56
    refine WL.y (Yl.len un53 rfl) rfl ?_ -- t57
    refine WL.y (Yl.move rfl) rfl ?_ -- t58
    refine WL.y (Yl.nilCheck rfl) rfl ?_ -- t59
    refine WL.y (Yl.field fo121_2 rfl) rfl ?_ -- t60
    refine WL.y (Yl.loadS on3 rfl hm (by rfl)) rfl ?_ -- t61
    refine WL.y (Yl.mul rfl rfl (IntWalk.i64_in _ (by omega))) rfl ?_ -- t62
    refine WL.y (Yl.add rfl rfl (IntWalk.i64_in _ (by omega))) rfl ?_ -- t63
    refine WL.y (Yl.move rfl) rfl ?_ -- t64
    refine WL.y (Yl.rem rfl rfl (by omega) (i64_rem (by omega))) rfl ?_ -- t65
    refine WL.y (Yl.neq rfl rfl) rfl ?_ -- t66
    refine WL.nil ?_
    refine WC.condD rfl (fun g66 => ?_) (fun g66 => ?_)
    · refine WC.skip ?_
      refine WC.block ?_
      refine WC.region ?_
      refine WL.y (Yl.move rfl) rfl ?_ -- t67
      refine WL.to (To.buildSlice (vs := [.int .u8 0]) un53 zs5 rfl rfl (by simp [Value.cells]) (by decide) (by decide)) rfl ?_ -- t68
      intro b68
      refine WL.to (To.append sl53 rfl rfl (by repeat (first | exact Take1.head | apply Take1.tail)) (Reads.of (RdOf.blk (size := 1) (cs := [.int .u8 0]) (cs' := [.int .u8 0]) (Nat.le_refl _) (by unfold maxLen; omega) (by simp) rfl) (by repeat (first | exact Take1.head | apply Take1.tail))) (by intro v hv; rw [List.mem_singleton.1 hv]; rfl) rfl (show _ = ints .u8 (msg.drop (c0 * 64) ++ [128] ++ List.replicate (j + 1) 0) by rw [ints_snoc, List.append_assoc _ _ [0], ← List.replicate_succ']) (by unfold maxLen; omega) (by omega)) rfl ?_ -- t69
      rintro ⟨⟨ao69, c69⟩, hc69⟩
      dsimp only at hc69 ⊢
      refine WL.y (Yl.assign rfl) rfl ?_ -- t6
      refine WL.nil ?_
      exact ⟨rfl, (j + 1, ao69, c69), by dsimp only; omega, by dsimp only; omega, (by repeat (first | exact Sub.nil | refine Sub.cons rfl ?_)), _, (by repeat (first | exact TakeL.nil | (apply TakeL.cons; · repeat (first | exact Take1.head | apply Take1.tail))))⟩
    · refine WC.exit ?_
      refine WC.seq ?_
      refine WC.region ?_
      have hjp : j = p := by omega
      subst hjp
      refine WL.y (Yl.move rfl) rfl ?_ -- t70
      refine WL.y (Yl.nilCheck rfl) rfl ?_ -- t71
      refine WL.y (Yl.field fo121_2 rfl) rfl ?_ -- t72
      refine WL.y (Yl.loadS on3 rfl hm (by rfl)) rfl ?_ -- t73
      refine WL.y (Yl.mul rfl rfl (IntWalk.i64_in _ (by omega))) rfl ?_ -- t74
      refine WL.to (To.makeSlice (n := 8) un53 zb53_5 rfl rfl rfl (by omega) (by unfold maxLen; omega)) rfl ?_
      intro b75
      refine WL.y (Yl.assign rfl) rfl ?_ -- t10
      refine WL.nil ?_
      refine WC.seq ?_
      refine WC.seq ?_
      refine WC.region ?_
      refine WL.y (Yl.move rfl) rfl ?_ -- t76
      refine WL.nil ?_
      refine WC.block ?_
      refine WC.view (fun w h => h.blkOwn (b := b75) (size := 1) (n := 8) (by repeat (first | exact Take1.head | apply Take1.tail)) (by unfold maxLen; omega) rfl) ?_
      rw [show List.replicate 8 (Value.int .u8 0) = ints .u8 (lnF 4 msg.length 0) by simp [lnF, ints]]
      refine WC.loop (α := Nat) (fun k => [(0, .pointer (some ⟨m, 0, none⟩)), (5, .int .i64 64), (6, .slice zo (msg.length - c0 * 64 + 1 + j) zc), (7, .int .u64 (msg.length : Int)), (10, .slice (some ⟨b75, 0, none⟩) 8 8), (76, .int .i64 (k : Int))]) (fun k => [ownR (.slice (some ⟨b75, 0, none⟩) 8 8) 5 1 8 (ints .u8 (lnF 4 msg.length k)), ownR (.slice zo (msg.length - c0 * 64 + 1 + j) zc) 5 1 (msg.length - c0 * 64 + 1 + j) (ints .u8 (msg.drop (c0 * 64) ++ [128] ++ List.replicate j 0)), ownR (.slice ho 8 hc) 103 1 8 (ints .u32 (bkF .u32 32 4 64 T ks H0 msg c0))]) (fun k => k ≤ 8) (fun k => 8 - k) 0 (Nat.zero_le _) ⟨(by repeat (first | exact Sub.nil | refine Sub.cons rfl ?_)), _, (by repeat (first | exact TakeL.nil | (apply TakeL.cons; · repeat (first | exact Take1.head | apply Take1.tail))))⟩ ?_
      intro k hk8
      refine WC.seq ?_
      refine WC.region ?_
      refine WL.y (Yl.lss rfl rfl) rfl ?_ -- t77
      refine WL.nil ?_
      refine WC.seq ?_
      refine WC.condD rfl (fun g77 => ?_) (fun g77 => ?_)
      · refine WC.skip ?_
        refine WC.seq ?_
        refine WC.block ?_
        refine WC.seq ?_
        refine WC.region ?_
        refine WL.y (Yl.move rfl) rfl ?_ -- t78
        refine WL.y (Yl.assign rfl) rfl ?_ -- t11
        refine WL.nil ?_
        refine WC.region ?_
        refine WL.y (Yl.move rfl) rfl ?_ -- t79
        refine WL.y (Yl.move rfl) rfl ?_ -- t80
        refine WL.y (Yl.len un53 rfl) rfl ?_ -- t81
        refine WL.y (Yl.sub rfl rfl (IntWalk.i64_in _ (by omega))) rfl ?_ -- t82
        refine WL.y (Yl.move rfl) rfl ?_ -- t83
        refine WL.y (Yl.sub rfl rfl (IntWalk.i64_in _ (by omega))) rfl ?_ -- t84
        refine WL.y (Yl.move rfl) rfl ?_ -- t85
        refine WL.y (Yl.shl rfl rfl ⟨by omega, (by simp [IntKind.bits]; try omega)⟩ rfl) rfl ?_ -- t86
        refine WL.y (Yl.move rfl) rfl ?_ -- t87
        refine WL.y (Yl.mul rfl rfl (IntWalk.i64_in _ (by omega))) rfl ?_ -- t88
        refine WL.y (Yl.shr rfl rfl ⟨by omega, (by simp [IntKind.bits]; try omega)⟩ rfl) rfl ?_ -- t89
        refine WL.y (Yl.conv un24 un5 rfl rfl) rfl ?_ -- t90
        refine WL.y (Yl.index (j := 8 - 1 - k) un53 sz5 rfl rfl (Reads.of RdOf.own (by repeat (first | exact Take1.head | apply Take1.tail))) (by omega) (by omega)) rfl ?_
        refine WL.sto (Sto.elem sz5 rfl rfl (by repeat (first | exact Take1.head | apply Take1.tail)) rfl (by omega) (by rfl)) (fun _ h => nomatch h) ?_ -- st 1
        refine WL.nil ?_
        refine WC.region ?_
        refine WL.y (Yl.add rfl rfl (IntWalk.i64_in _ (by omega))) rfl ?_ -- t92
        refine WL.y (Yl.move rfl) rfl ?_ -- t76
        refine WL.nil ?_
        rw [ints_set]
        exact ⟨rfl, k + 1, by omega, by omega, (by repeat (first | exact Sub.nil | refine Sub.cons rfl ?_)), _, (by repeat (first | exact TakeL.nil | (apply TakeL.cons; · repeat (first | exact Take1.head | apply Take1.tail))))⟩
      · refine WC.exit ?_
        refine WC.seq ?_
        refine WC.region ?_
        have hk9 : k = 8 := by omega
        subst hk9
        obtain ⟨P, hP⟩ : ∃ P, padF 4 msg = P := ⟨_, rfl⟩
        have hP2 : P = msg ++ ([128] ++ List.replicate j 0 ++ lnF 4 msg.length 8) := by rw [← hP, ← hp]; rfl
        have hPl : P.length = msg.length + 1 + j + 8 := by rw [hP2]; simp [lnF_len]; omega
        have hPm : P.length % 64 = 0 := by omega
        refine WL.y (Yl.move rfl) rfl ?_ -- t93
        refine WL.y (Yl.move rfl) rfl ?_ -- t94
        refine WL.to (To.append sl53 rfl rfl (by repeat (first | exact Take1.head | apply Take1.tail)) (Reads.of RdOf.own (by repeat (first | exact Take1.head | apply Take1.tail))) (ints_one _ _) (show msg.length - c0 * 64 + 1 + j + 8 = P.length - c0 * 64 by omega) (show _ = ints .u8 (P.drop (c0 * 64)) by rw [hP2, List.drop_append_of_le_length hcl0]; simp [ints]) (by unfold maxLen; omega) (by omega)) rfl ?_ -- t95
        rintro ⟨⟨ao95, c95⟩, hc95⟩
        dsimp only at hc95 ⊢
        refine WL.y (Yl.assign rfl) rfl ?_ -- t6
        refine WL.nil ?_
        refine WC.seq ?_
        refine WC.block ?_
        rw [show bkF .u32 32 4 64 T ks H0 msg c0 = bkF .u32 32 4 64 T ks H0 P c0 by rw [hP2]; exact (bkF_app (by omega)).symm]
        refine WC.loop (α := Nat × (Option Addr × Nat)) (fun q => [(0, .pointer (some ⟨m, 0, none⟩)), (5, .int .i64 64), (6, .slice q.2.1 (P.length - q.1 * 64) q.2.2)]) (fun q => [ownR (.slice q.2.1 (P.length - q.1 * 64) q.2.2) 5 1 (P.length - q.1 * 64) (ints .u8 (P.drop (q.1 * 64))), ownR (.slice ho 8 hc) 103 1 8 (ints .u32 (bkF .u32 32 4 64 T ks H0 P q.1))]) (fun q => q.1 * 64 ≤ P.length ∧ P.length - q.1 * 64 ≤ q.2.2) (fun q => P.length - q.1 * 64) (c0, (ao95, c95)) ⟨by dsimp only; omega, by dsimp only; omega⟩ ⟨(by repeat (first | exact Sub.nil | refine Sub.cons rfl ?_)), _, (by repeat (first | exact TakeL.nil | (apply TakeL.cons; · repeat (first | exact Take1.head | apply Take1.tail))))⟩ ?_
        rintro ⟨c, ⟨qo, qc⟩⟩ ⟨hcc, hqc⟩
        dsimp only at hcc hqc ⊢
        refine WC.seq ?_
        refine WC.seq ?_
        refine WC.region ?_
        refine WL.y (Yl.move rfl) rfl ?_ -- t96
        refine WL.y (Yl.len un53 rfl) rfl ?_ -- t97
        refine WL.y (Yl.gtr rfl rfl) rfl ?_ -- t98
        refine WL.nil ?_
        refine WC.condD rfl (fun g98 => ?_) (fun g98 => ?_)
        · refine WC.skip ?_
          refine WC.seq ?_
          refine WC.block ?_
          refine WC.region ?_
          refine WL.y (Yl.move rfl) rfl ?_ -- t102
          refine WL.y (Yl.move rfl) rfl ?_ -- t103
          refine WL.y (Yl.move rfl) rfl ?_ -- t104
          refine WL.y (Yl.slice (h := 64) un53 sz5 rfl rfl ⟨.i64, rfl⟩ (by omega) (by omega)) rfl ?_
          refine WL.callC (xs := [.tmp 102, .tmp 105]) (cap := []) rfl rfl en80 (by repeat (first | exact TakeL.nil | (apply TakeL.cons; · repeat (first | exact Take1.head | apply Take1.tail)))) (fun w hw => block32_any m ho ko hc kc T hT (bkF .u32 32 4 64 T ks H0 P c) ks ((P.drop (c * 64)).take 64) _ (by rw [bkF_len, hH]) hks (by simp; omega) w (hw.srcBS (A := [_]) hm) (hw.srcS (A := [_]) hk) ((hw.src (A := [_]) ((RdOf.own (v := .slice qo (P.length - c * 64) qc) (e := 5) (cs := ints .u8 (P.drop (c * 64)))).sub (l := 0) (h := 64) (by omega) (by omega) (cs' := ints .u8 ((P.drop (c * 64)).take 64)) (by simp [ints])) (by repeat (first | exact Take1.head | apply Take1.tail))).len (by simp; omega)) hw.left.here) rfl ?_ -- t106 (*hailer/sha.machine[uint32]).block
          rintro ⟨⟩ -
          refine WL.nil ?_
          refine WC.region ?_
          refine WL.view (fun w h => h.tail (ao := qo) (cap := qc) (l := 64) (by repeat (first | exact Take1.head | apply Take1.tail)) (by omega)) ?_
          refine WL.y (Yl.move rfl) rfl ?_ -- t99
          refine WL.y (Yl.move rfl) rfl ?_ -- t100
          refine WL.y (Yl.slice (l := 64) un53 sz5 rfl ⟨.i64, rfl⟩ rfl (by omega) (by omega)) rfl ?_
          refine WL.y (Yl.assign rfl) rfl ?_ -- t6
          refine WL.nil ?_
          refine ⟨rfl, (c + 1, ((if qc = 64 then qo else qo.map (·.add (64 * 1))), qc - 64)), ⟨by dsimp only; omega, by dsimp only; omega⟩, by dsimp only; omega, ?_⟩
          dsimp only
          rw [show P.length - (c + 1) * 64 = P.length - c * 64 - 64 by omega, ← ints_more]
          exact ⟨(by repeat (first | exact Sub.nil | refine Sub.cons rfl ?_)), _, (by repeat (first | exact TakeL.nil | (apply TakeL.cons; · repeat (first | exact Take1.head | apply Take1.tail))))⟩
        · refine WC.exit ?_
          refine WC.seq ?_
          refine WC.region ?_
          refine WL.y (Yl.assign rfl) rfl ?_ -- t12
          refine WL.nil ?_
          refine WC.seq ?_
          refine WC.seq ?_
          refine WC.region ?_
          obtain ⟨HH, hHH⟩ : ∃ HH, bkF .u32 32 4 64 T ks H0 P c = HH := ⟨_, rfl⟩
          have hHl : HH.length = 8 := by rw [← hHH, bkF_len, hH]
          rw [hHH]
          refine WL.y (Yl.move rfl) rfl ?_ -- t107
          refine WL.y (Yl.nilCheck rfl) rfl ?_ -- t108
          refine WL.y (Yl.field fo121_0 rfl) rfl ?_ -- t109
          refine WL.y (Yl.loadS on115 rfl hm (by rfl)) rfl ?_ -- t110
          refine WL.y (Yl.len un115 rfl) rfl ?_ -- t111
          refine WL.y (Yl.move rfl) rfl ?_ -- t112
          refine WL.nil ?_
          refine WC.block ?_
          refine WC.view (fun w h => h.addNil 5 1) ?_
          refine WC.loop (α := Nat × (Option Addr × Nat)) (fun q => [(0, .pointer (some ⟨m, 0, none⟩)), (110, .slice ho 8 hc), (111, .int .i64 8), (112, .int .i64 (q.1 : Int)), (12, .slice q.2.1 (q.1 * 4) q.2.2)]) (fun q => [ownR (.slice q.2.1 (q.1 * 4) q.2.2) 5 1 (q.1 * 4) (ints .u8 (dgF 4 (HH.take q.1))), ownR (.slice ho 8 hc) 103 1 8 (ints .u32 HH)]) (fun q => q.1 ≤ 8) (fun q => 8 - q.1) (0, (none, 0)) (Nat.zero_le _) ⟨(by repeat (first | exact Sub.nil | refine Sub.cons rfl ?_)), _, (by repeat (first | exact TakeL.nil | (apply TakeL.cons; · repeat (first | exact Take1.head | apply Take1.tail))))⟩ ?_
          rintro ⟨i6, ⟨do6, dc6⟩⟩ hi6
          dsimp only at hi6 ⊢
          refine WC.seq ?_
          refine WC.region ?_
          refine WL.y (Yl.lss rfl rfl) rfl ?_ -- t113
          refine WL.nil ?_
          refine WC.seq ?_
          refine WC.condD rfl (fun g113 => ?_) (fun g113 => ?_)
          · refine WC.skip ?_
            refine WC.seq ?_
            refine WC.block ?_
            refine WC.seq ?_
            refine WC.region ?_
            refine WL.y (Yl.index un115 sz103 rfl rfl (Reads.of RdOf.own (by repeat (first | exact Take1.head | apply Take1.tail))) rfl (by omega)) rfl ?_ -- t114
            refine WL.y (Yl.loadE on103 rfl (Reads.of RdOf.own (by repeat (first | exact Take1.head | apply Take1.tail))) (ints_get _ HH i6 (by omega))) rfl ?_ -- t115
            refine WL.y (Yl.assign rfl) rfl ?_ -- t14
            refine WL.nil ?_
            refine WC.seq ?_
            refine WC.region ?_
            refine WL.y (Yl.move rfl) rfl ?_ -- t116
            refine WL.y (Yl.nilCheck rfl) rfl ?_ -- t117
            refine WL.y (Yl.field fo121_2 rfl) rfl ?_ -- t118
            refine WL.y (Yl.loadS on3 rfl hm (by rfl)) rfl ?_ -- t119
            refine WL.y (Yl.sub rfl rfl (IntWalk.i64_in _ (by omega))) rfl ?_ -- t120
            refine WL.y (Yl.assign rfl) rfl ?_ -- t15
            refine WL.nil ?_
            refine WC.block ?_
            refine WC.loop (α := Nat × (Option Addr × Nat)) (fun q => [(0, .pointer (some ⟨m, 0, none⟩)), (110, .slice ho 8 hc), (111, .int .i64 8), (112, .int .i64 (i6 : Int)), (14, .int .u32 (HH.getD i6 0)), (15, .int .i64 (4 - 1 - (q.1 : Int))), (12, .slice q.2.1 (i6 * 4 + q.1) q.2.2)]) (fun q => [ownR (.slice q.2.1 (i6 * 4 + q.1) q.2.2) 5 1 (i6 * 4 + q.1) (ints .u8 (dgF 4 (HH.take i6) ++ wdF 4 (HH.getD i6 0) q.1)), ownR (.slice ho 8 hc) 103 1 8 (ints .u32 HH)]) (fun q => q.1 ≤ 4) (fun q => 4 - q.1) (0, (do6, dc6)) (Nat.zero_le _) ⟨(by repeat (first | exact Sub.nil | refine Sub.cons rfl ?_)), _, (by rw [show wdF 4 (HH.getD i6 0) 0 = [] from rfl, List.append_nil]; exact (by repeat (first | exact TakeL.nil | (apply TakeL.cons; · repeat (first | exact Take1.head | apply Take1.tail)))))⟩ ?_
            rintro ⟨j7, ⟨eo, ec⟩⟩ hj7
            dsimp only at hj7 ⊢
            refine WC.seq ?_
            refine WC.seq ?_
            refine WC.region ?_
            refine WL.y (Yl.move rfl) rfl ?_ -- t121
            refine WL.y (Yl.geq rfl rfl) rfl ?_ -- t122
            refine WL.nil ?_
            refine WC.condD rfl (fun g122 => ?_) (fun g122 => ?_)
            · refine WC.skip ?_
              refine WC.seq ?_
              refine WC.block ?_
              refine WC.region ?_
              refine WL.y (Yl.move rfl) rfl ?_ -- t125
              refine WL.y (Yl.move rfl) rfl ?_ -- t126
              refine WL.y (Yl.move rfl) rfl ?_ -- t127
              refine WL.y (Yl.mul rfl rfl (IntWalk.i64_in _ (by omega))) rfl ?_ -- t128
              refine WL.y (Yl.shr rfl rfl ⟨by omega, (by simp [IntKind.bits]; try omega)⟩ rfl) rfl ?_ -- t129
              refine WL.y (Yl.conv un103 un5 rfl rfl) rfl ?_ -- t130
              refine WL.to (To.buildSlice (vs := [.int .u8 (IntKind.u8.wrap (HH.getD i6 0 / 2 ^ (8 * (((4 : Nat) : Int) - 1 - (j7 : Int))).toNat))]) un53 zs5 rfl rfl (by simp [Value.cells]) (by decide) (by decide)) rfl ?_ -- t131
              intro b131
              refine WL.to (To.append sl53 rfl rfl (by repeat (first | exact Take1.head | apply Take1.tail)) (Reads.of (RdOf.blk (size := 1) (cs := [.int .u8 (IntKind.u8.wrap (HH.getD i6 0 / 2 ^ (8 * (((4 : Nat) : Int) - 1 - (j7 : Int))).toNat))]) (cs' := [.int .u8 (IntKind.u8.wrap (HH.getD i6 0 / 2 ^ (8 * (((4 : Nat) : Int) - 1 - (j7 : Int))).toNat))]) (Nat.le_refl _) (by unfold maxLen; omega) (by simp) rfl) (by repeat (first | exact Take1.head | apply Take1.tail))) (by intro v hv; rw [List.mem_singleton.1 hv]; rfl) rfl (show _ = ints .u8 (dgF 4 (HH.take i6) ++ wdF 4 (HH.getD i6 0) (j7 + 1)) by rw [ints_snoc, wdF_succ, List.append_assoc]) (by unfold maxLen; omega) (by omega)) rfl ?_ -- t132
              rintro ⟨⟨ao132, c132⟩, hc132⟩
              dsimp only at hc132 ⊢
              refine WL.y (Yl.assign rfl) rfl ?_ -- t12
              refine WL.nil ?_
              refine WC.region ?_
              refine WL.y (Yl.move rfl) rfl ?_ -- t123
              refine WL.y (Yl.sub rfl rfl (IntWalk.i64_in _ (by omega))) rfl ?_ -- t124
              refine WL.say (t := 124) (v' := .int .i64 (4 - 1 - ((j7 + 1 : Nat) : Int))) rfl (by (refine congrArg _ ?_; omega)) ?_
              refine WL.y (Yl.assign rfl) rfl ?_ -- t15
              refine WL.nil ?_
              exact ⟨rfl, (j7 + 1, ao132, c132), by dsimp only; omega, by dsimp only; omega, (by repeat (first | exact Sub.nil | refine Sub.cons rfl ?_)), _, (by repeat (first | exact TakeL.nil | (apply TakeL.cons; · repeat (first | exact Take1.head | apply Take1.tail))))⟩
            · refine WC.exit ?_
              refine WC.region ?_
              refine WL.y (Yl.add rfl rfl (IntWalk.i64_in _ (by omega))) rfl ?_ -- t133
              refine WL.y (Yl.move rfl) rfl ?_ -- t112
              refine WL.nil ?_
              have hj8 : j7 = 4 := by omega
              subst hj8
              refine ⟨rfl, (i6 + 1, eo, ec), by dsimp only; omega, by dsimp only; omega, ?_⟩
              dsimp only
              rw [dgF_snoc 4 (by omega), Nat.succ_mul]
              exact ⟨(by repeat (first | exact Sub.nil | refine Sub.cons rfl ?_)), _, (by repeat (first | exact TakeL.nil | (apply TakeL.cons; · repeat (first | exact Take1.head | apply Take1.tail))))⟩
          · refine WC.exit ?_
            refine WC.seq ?_
            refine WC.region ?_
            refine WL.y (Yl.move rfl) rfl ?_ -- t134
            refine WL.y (Yl.assign rfl) rfl ?_ -- t4
            refine WL.nil ?_
            refine WC.ret ?_
            repeat (first | (with_reducible refine peelT ?_) | (with_reducible refine peelB ?_) | (with_reducible refine peelTX ?_) | (with_reducible refine peelBX ?_) | (with_reducible refine peelBN ?_) | (with_reducible refine peelBO rfl ?_))
            have hi8 : i6 = 8 := by omega
            subst hi8
            have e : sumF .u32 32 4 64 T ks H0 ls.flatten = dgF 4 HH := by
              unfold sumF
              rw [hmsg2, hP, show P.length / (16 * 4) = c by omega, hHH]
            rw [e]
            exact ret1 (.inr rfl) Try.results64 rfl fun w' h => ⟨(do6, dc6), trivial, rfl, by rw [List.take_of_length_le (by omega)] at h; exact h.sub (by repeat (first | exact TakeL.nil | (apply TakeL.cons; · repeat (first | exact Take1.head | apply Take1.tail))))⟩
end Go.Proofs.Ytfdnnlcfolgegaa
