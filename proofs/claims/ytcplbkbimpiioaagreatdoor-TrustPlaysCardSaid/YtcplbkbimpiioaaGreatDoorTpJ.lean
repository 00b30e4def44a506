/- The document's book: whether a device may be, keys, states: the walks. -/
import Derived.Test.YtcplbkbimpiioaaGreatDoorTpE
import Derived.Test.YtcplbkbimpiioaaGreatDoorTruRb
namespace Go.Proofs.YtcplbkbimpiioaaGreatDoor
open Go Go.RowKit
abbrev rbR (b : Nat) (acc : Int) (ov : Value) (C : List Ct) : Res := blkR b 38 (rbC acc ov C)
theorem rmay_any (b : Nat) (acc : Int) (ov : Value) (C : List Ct) (a d : Int) (w : World) (hw : OK w (fpL [rbR b acc ov C]) [rbR b acc ov C] w) :
    Fn Tryz.prog 26 [.pointer (some ⟨b, 0, none⟩), .agg #[.int .u8 a, .int .u8 d]] [rbR b acc ov C] w (fun _ : Unit => True) (fun _ => .bool (decide (mayF acc a d = 0))) (fun _ => [rbR b acc ov C]) := by
  refine enterF Tryz.func26 rfl Tryz.ntmps26 rfl hw ?_
  refine WC.seq ?_
  refine WC.region ?_
  refine WL.to (To.box (cs := [.int .u8 a, .int .u8 d]) rfl rfl) rfl ?_
  intro b3
  refine WL.y (Yl.assign rfl) rfl ?_
  refine WL.nil ?_
  refine WC.midX (α := Unit) (fun _ => [(4, .bool (decide (mayF acc a d = 0)))]) (fun _ => [rbR b acc ov C]) (fun _ => True) ?_ ?_
  · refine WC.drawRead mixed (by kernel_rfl) ?_
    refine WH.y (Yl.field fo40_0 rfl) rfl ?_
    refine WH.y (Yl.load on5 rfl (by repeat constructor) (by rfl)) rfl ?_
    refine WH.y (Yl.lss rfl rfl) rfl ?_
    refine WH.y (Yl.move rfl) rfl ?_
    refine WH.both (t := 8) rfl (fun g8 => ?_) (fun g8 => ?_)
    · refine WH.on rfl rfl ?_
      refine WH.y (Yl.field fo40_1 rfl) rfl ?_
      refine WH.on rfl rfl ?_
      refine WH.y (Yl.load on5 rfl (by repeat constructor) (by rfl)) rfl ?_
      refine WH.on rfl rfl ?_
      refine WH.y (Yl.lss rfl rfl) rfl ?_
      refine WH.y (Yl.pickT rfl rfl) rfl ?_
      refine WH.y (Yl.move rfl) rfl ?_
      refine WH.both (t := 13) rfl (fun g13 => ?_) (fun g13 => ?_)
      · refine WH.on rfl rfl ?_
        refine WH.y (Yl.field fo40_0 rfl) rfl ?_
        refine WH.on rfl rfl ?_
        refine WH.y (Yl.load on5 rfl (by repeat constructor) (by rfl)) rfl ?_
        refine WH.on rfl rfl ?_
        refine WH.y (Yl.move rfl) rfl ?_
        refine WH.on rfl rfl ?_
        refine WH.y (Yl.nilCheck rfl) rfl ?_
        refine WH.on rfl rfl ?_
        refine WH.y (Yl.field fo38_0 rfl) rfl ?_
        refine WH.on rfl rfl ?_
        refine WH.y (Yl.load (T := 38) (cs := rbC acc ov C) on5 rfl (by repeat constructor) rfl) rfl ?_
        refine WH.on rfl rfl ?_
        refine WH.y (Yl.neq rfl rfl) rfl ?_
        refine WH.y (Yl.pickT rfl rfl) rfl ?_
        refine WH.say (t := 21) (v' := .bool (decide (mayF acc a d = 0))) rfl (by (refine congrArg Value.bool ?_; unfold mayF; split <;> simp_all <;> omega)) ?_
        refine WH.y (Yl.assign rfl) rfl ?_
        refine WH.nil ?_
        exact ⟨rfl, (), trivial, (by repeat' constructor), _, (by repeat' constructor)⟩
      · refine WH.off rfl rfl rfl rfl ?_
        refine WH.off rfl rfl rfl rfl ?_
        refine WH.off rfl rfl rfl rfl ?_
        refine WH.off rfl rfl rfl rfl ?_
        refine WH.off rfl rfl rfl rfl ?_
        refine WH.off rfl rfl rfl rfl ?_
        refine WH.off rfl rfl rfl rfl ?_
        refine WH.y (Yl.pickF rfl rfl) rfl ?_
        refine WH.say (t := 21) (v' := .bool (decide (mayF acc a d = 0))) rfl (by (refine congrArg Value.bool ?_; unfold mayF; split <;> simp_all <;> omega)) ?_
        refine WH.y (Yl.assign rfl) rfl ?_
        refine WH.nil ?_
        exact ⟨rfl, (), trivial, (by repeat' constructor), _, (by repeat' constructor)⟩
    · refine WH.off rfl rfl rfl rfl ?_
      refine WH.off rfl rfl rfl rfl ?_
      refine WH.off rfl rfl rfl rfl ?_
      refine WH.y (Yl.pickF rfl rfl) rfl ?_
      refine WH.y (Yl.move rfl) rfl ?_
      refine WH.off rfl rfl rfl rfl ?_
      refine WH.off rfl rfl rfl rfl ?_
      refine WH.off rfl rfl rfl rfl ?_
      refine WH.off rfl rfl rfl rfl ?_
      refine WH.off rfl rfl rfl rfl ?_
      refine WH.off rfl rfl rfl rfl ?_
      refine WH.off rfl rfl rfl rfl ?_
      refine WH.y (Yl.pickF rfl rfl) rfl ?_
      refine WH.say (t := 21) (v' := .bool (decide (mayF acc a d = 0))) rfl (by (refine congrArg Value.bool ?_; unfold mayF; split <;> simp_all <;> omega)) ?_
      refine WH.y (Yl.assign rfl) rfl ?_
      refine WH.nil ?_
      exact ⟨rfl, (), trivial, (by repeat' constructor), _, (by repeat' constructor)⟩
  · rintro ⟨⟩ -
    refine WC.ret ?_
    repeat (with_reducible (first | refine peelT ?_ | refine peelB ?_ | refine peelTX ?_ | refine peelBX ?_ | refine peelBN ?_ | refine peelBO rfl ?_))
    exact ret1 (.inr rfl) Tryz.results26 rfl fun w' h => ⟨(), trivial, rfl, h.sub (by repeat' constructor)⟩
set_option maxRecDepth 100000 in
theorem rstate_any (b : Nat) (acc : Int) (ov : Value) (C : List Ct) (hC : COk C) (a : Nat) (w : World) (hw : OK w (fpL [rbR b acc ov C]) [rbR b acc ov C] w) :
    Fn Tryz.prog 37 [.pointer (some ⟨b, 0, none⟩), .int .u8 (a : Int)] [rbR b acc ov C] w (fun _ : Unit => True) (fun _ => .int .u8 (rstAt C a)) (fun _ => [rbR b acc ov C]) := by
  refine enterF Tryz.func37 rfl Tryz.ntmps37 rfl hw ?_
  refine WC.seq ?_
  refine WC.region ?_
  refine WL.y (Yl.assign rfl) rfl ?_
  refine WL.nil ?_
  refine WC.seq ?_
  refine WC.seq ?_
  refine WC.region ?_
  refine WL.y (Yl.move rfl) rfl ?_
  refine WL.y (Yl.gtr rfl rfl) rfl ?_
  refine WL.nil ?_
  refine WC.condD rfl (fun g6 => ?_) (fun g6 => ?_)
  · refine WC.seq ?_
    refine WC.region ?_
    refine WL.y (Yl.assign rfl) rfl ?_
    refine WL.nil ?_
    refine WC.ret ?_
    repeat (with_reducible (first | refine peelT ?_ | refine peelB ?_ | refine peelTX ?_ | refine peelBX ?_ | refine peelBN ?_ | refine peelBO rfl ?_))
    have hn : C[a]? = none := List.getElem?_eq_none_iff.2 (by have := hC.1; omega)
    exact ret1 (.inr rfl) Tryz.results37 rfl fun w' h => ⟨(), trivial, by rw [rstAt_no hn], h.sub (by repeat' constructor)⟩
  · refine WC.skip ?_
    refine WC.seq ?_
    have h8 : a < 8 := by omega
    obtain ⟨c, hc⟩ : ∃ c, C[a]? = some c := ⟨_, List.getElem?_eq_getElem (by rw [hC.1]; exact h8)⟩
    refine WC.region ?_
    refine WL.y (Yl.move rfl) rfl ?_
    refine WL.y (Yl.move rfl) rfl ?_
    refine WL.y (Yl.nilCheck rfl) rfl ?_
    refine WL.y (Yl.field fo38_2 rfl) rfl ?_
    refine WL.y (Yl.indexA un36 sz35 rfl rfl rfl (by omega)) rfl ?_
    refine WL.y (Yl.field fo35_2 rfl) rfl ?_
    refine WL.y (Yl.load (T := 38) (cs := rbC acc ov C) on5 rfl (by repeat constructor) (rb_cell hC hc (Ct.rst (hC.get hc)) (by omega))) rfl ?_
    refine WL.y (Yl.assign rfl) rfl ?_
    refine WL.nil ?_
    refine WC.ret ?_
    repeat (with_reducible (first | refine peelT ?_ | refine peelB ?_ | refine peelTX ?_ | refine peelBX ?_ | refine peelBN ?_ | refine peelBO rfl ?_))
    exact ret1 (.inr rfl) Tryz.results37 rfl fun w' h => ⟨(), trivial, by rw [rstAt_of hc], h.sub (by repeat' constructor)⟩
/-- The keys of the first i devices. -/
def rkTo (C : List Ct) (a i : Nat) : List Ky := match C[a]? with
  | none => []
  | some c => kTo c i
theorem rkTo_of {C : List Ct} {a : Nat} {c : Ct} (h : C[a]? = some c) (i : Nat) : rkTo C a i = kTo c i := by unfold rkTo; rw [h]
theorem rkTo_0 (C : List Ct) (a : Nat) : rkTo C a 0 = [] := by
  unfold rkTo
  cases C[a]? <;> rfl
theorem rkTo_4 {C : List Ct} (hC : COk C) (a : Nat) : rkTo C a 4 = rkysAt C a := by
  unfold rkTo
  cases h : C[a]? with
  | none => rw [rkysAt_no h]
  | some c => dsimp only; rw [rkysAt_of h, kTo_end (hC.get h)]
theorem rkTo_no {C : List Ct} (hC : COk C) {a : Nat} (h : 8 ≤ a) (i : Nat) : rkTo C a i = rkysAt C a := by
  have hn : C[a]? = none := List.getElem?_eq_none_iff.2 (by have := hC.1; omega)
  unfold rkTo
  rw [rkysAt_no hn, hn]
theorem rkTo_le {C : List Ct} (hC : COk C) (a : Nat) {i : Nat} (hi : i ≤ 4) : (rkTo C a i).length ≤ 4 := by
  unfold rkTo
  cases h : C[a]? with
  | none => exact Nat.zero_le _
  | some c =>
    have h1 := Ct.to_lt (hC.get h) hi
    have h2 := Ct.devs_le (hC.get h)
    dsimp only
    unfold kTo
    rw [List.length_map]; omega
set_option maxRecDepth 100000 in
theorem rmany_any (b : Nat) (acc : Int) (ov : Value) (C : List Ct) (hC : COk C) (a : Nat) (w : World) (hw : OK w (fpL [rbR b acc ov C]) [rbR b acc ov C] w) :
    Fn Tryz.prog 28 [.pointer (some ⟨b, 0, none⟩), .int .u8 (a : Int)] [rbR b acc ov C] w (fun _ : Unit => True) (fun _ => .int .i64 ((rkysAt C a).length : Int)) (fun _ => [rbR b acc ov C]) := by
  refine enterF Tryz.func28 rfl Tryz.ntmps28 rfl hw ?_
  refine WC.seq ?_
  refine WC.region ?_
  refine WL.y (Yl.assign rfl) rfl ?_
  refine WL.nil ?_
  refine WC.seq ?_
  refine WC.region ?_
  refine WL.y (Yl.assign rfl) rfl ?_
  refine WL.nil ?_
  refine WC.seq ?_
  refine WC.seq ?_
  refine WC.region ?_
  refine WL.y (Yl.assign rfl) rfl ?_
  refine WL.nil ?_
  refine WC.block ?_
  refine WC.loop (α := Nat) (fun i => [(0, .pointer (some ⟨b, 0, none⟩)), (1, .int .u8 (a : Int)), (5, .int .i64 ((rkTo C a i).length : Int)), (6, .int .i64 (i : Int))]) (fun _ => [rbR b acc ov C]) (fun i => i ≤ 4) (fun i => 4 - i) 0 (Nat.zero_le _) ⟨(by rw [rkTo_0]; exact (by repeat' constructor)), _, (by repeat' constructor)⟩ ?_
  intro i hi
  refine WC.seq ?_
  refine WC.midX (α := Unit) (fun _ => [(0, .pointer (some ⟨b, 0, none⟩)), (1, .int .u8 (a : Int)), (5, .int .i64 ((rkTo C a i).length : Int)), (6, .int .i64 (i : Int)), (12, .bool (decide (i < 4 ∧ a < 8)))]) (fun _ => [rbR b acc ov C]) (fun _ => True) ?_ ?_
  · refine WC.region ?_
    refine WL.y (Yl.move rfl) rfl ?_
    refine WL.y (Yl.lss rfl rfl) rfl ?_
    refine WL.y (Yl.move rfl) rfl ?_
    refine WL.both (t := 9) rfl (fun g9 => ?_) (fun g9 => ?_)
    · refine WL.on rfl rfl ?_
      refine WL.y (Yl.move rfl) rfl ?_
      refine WL.on rfl rfl ?_
      refine WL.y (Yl.lss rfl rfl) rfl ?_
      refine WL.y (Yl.pickT rfl rfl) rfl ?_
      refine WL.say (t := 12) (v' := .bool (decide (i < 4 ∧ a < 8))) rfl (by (refine congrArg Value.bool ?_; have := of_decide_eq_true g9; rw [decide_eq_decide]; omega)) ?_
      refine WL.nil ?_
      exact ⟨rfl, (), trivial, (by repeat' constructor), _, (by repeat' constructor)⟩
    · refine WL.off rfl rfl rfl rfl ?_
      refine WL.off rfl rfl rfl rfl ?_
      refine WL.y (Yl.pickF rfl rfl) rfl ?_
      refine WL.say (t := 12) (v' := .bool (decide (i < 4 ∧ a < 8))) rfl (by exact congrArg Value.bool (decide_eq_false (by have := of_decide_eq_false g9; omega)).symm) ?_
      refine WL.nil ?_
      exact ⟨rfl, (), trivial, (by repeat' constructor), _, (by repeat' constructor)⟩
  · rintro ⟨⟩ -
    refine WC.cond rfl (fun g12 => ?_) (fun g12 => ?_)
    · refine WC.skip ?_
      refine WC.seq ?_
      refine WC.block ?_
      refine WC.seq ?_
      obtain ⟨hi4, h8⟩ : i < 4 ∧ a < 8 := of_decide_eq_true g12
      obtain ⟨c, hc⟩ : ∃ c, C[a]? = some c := ⟨_, List.getElem?_eq_getElem (by rw [hC.1]; exact h8)⟩
      have hok := hC.get hc
      obtain ⟨hd, hb⟩ : ∃ hd, c.has[i]? = some hd := ⟨_, List.getElem?_eq_getElem (by rw [hok.hl]; exact hi4)⟩
      obtain ⟨k, hk⟩ : ∃ k0, c.ks[i]? = some k0 := ⟨_, List.getElem?_eq_getElem (by rw [hok.kl]; exact hi4)⟩
      have hnx := kTo_next hok hi4 hk hb
      have hle := rkTo_le hC a (i := i) hi
      have hle2 := rkTo_le hC a (i := i + 1) (by omega)
      rw [← rkTo_of hc, ← rkTo_of hc] at hnx
      refine WC.region ?_
      refine WL.y (Yl.move rfl) rfl ?_
      refine WL.y (Yl.move rfl) rfl ?_
      refine WL.y (Yl.move rfl) rfl ?_
      refine WL.y (Yl.nilCheck rfl) rfl ?_
      refine WL.y (Yl.field fo38_2 rfl) rfl ?_
      refine WL.y (Yl.indexA un36 sz35 rfl rfl rfl (by omega)) rfl ?_
      refine WL.y (Yl.field fo35_0 rfl) rfl ?_
      refine WL.y (Yl.indexA un30 sz4 rfl rfl rfl (by omega)) rfl ?_
      refine WL.y (Yl.load (T := 38) (cs := rbC acc ov C) on4 rfl (by repeat constructor) (rb_cell hC hc (Ct.rhasAt hb) (by omega))) rfl ?_
      refine WL.nil ?_
      refine WC.cond rfl (fun g23 => ?_) (fun g23 => ?_)
      · refine WC.region ?_
        refine WL.y (Yl.move rfl) rfl ?_
        refine WL.y (Yl.add rfl rfl (IntWalk.i64_in _ (by omega))) rfl ?_
        refine WL.say (t := 25) (v' := .int .i64 ((rkTo C a (i + 1)).length : Int)) rfl (by (rw [hnx, g23]; simp)) ?_
        refine WL.y (Yl.assign rfl) rfl ?_
        refine WL.nil ?_
        refine WC.region ?_
        refine WL.y (Yl.move rfl) rfl ?_
        refine WL.y (Yl.add rfl rfl (IntWalk.i64_in _ (by omega))) rfl ?_
        refine WL.y (Yl.assign rfl) rfl ?_
        refine WL.nil ?_
        exact ⟨rfl, i + 1, by omega, by omega, (by repeat' constructor), _, (by repeat' constructor)⟩
      · refine WC.skip ?_
        refine WC.region ?_
        refine WL.y (Yl.move rfl) rfl ?_
        refine WL.y (Yl.add rfl rfl (IntWalk.i64_in _ (by omega))) rfl ?_
        refine WL.y (Yl.assign rfl) rfl ?_
        refine WL.nil ?_
        have e : rkTo C a (i + 1) = rkTo C a i := by rw [hnx, g23]; simp
        exact ⟨rfl, i + 1, by omega, by omega, (by rw [e]; exact (by repeat' constructor)), _, (by repeat' constructor)⟩
    · refine WC.exit ?_
      refine WC.seq ?_
      refine WC.region ?_
      refine WL.y (Yl.move rfl) rfl ?_
      refine WL.y (Yl.assign rfl) rfl ?_
      refine WL.nil ?_
      refine WC.ret ?_
      repeat (with_reducible (first | refine peelT ?_ | refine peelB ?_ | refine peelTX ?_ | refine peelBX ?_ | refine peelBN ?_ | refine peelBO rfl ?_))
      have e : rkTo C a i = rkysAt C a := by
        have hn := of_decide_eq_false g12
        by_cases h8 : 8 ≤ a
        · exact rkTo_no hC h8 i
        · have : i = 4 := by omega
          subst this
          exact rkTo_4 hC a
      exact ret1 (.inr rfl) Tryz.results28 rfl fun w' h => ⟨(), trivial, by rw [e], h.sub (by repeat' constructor)⟩
set_option maxRecDepth 100000 in
theorem rkeys_any (b : Nat) (acc : Int) (ov : Value) (C : List Ct) (hC : COk C) (a : Nat) (w : World) (hw : OK w (fpL [rbR b acc ov C]) [rbR b acc ov C] w) :
    Fn Tryz.prog 34 [.pointer (some ⟨b, 0, none⟩), .int .u8 (a : Int)] [rbR b acc ov C] w (fun _ : Option Addr × Nat => True) (fun y => .slice y.1 (rkysAt C a).length y.2) (fun y => [rwK (.slice y.1 (rkysAt C a).length y.2) (rkysAt C a).length (rkysAt C a), rbR b acc ov C]) := by
  refine enterF Tryz.func34 rfl Tryz.ntmps34 rfl hw ?_
  refine WC.seq ?_
  refine WC.region ?_
  refine WL.y (Yl.assign rfl) rfl ?_
  refine WL.nil ?_
  refine WC.seq ?_
  refine WC.region ?_
  refine WL.y (Yl.assign rfl) rfl ?_
  refine WL.nil ?_
  refine WC.seq ?_
  refine WC.seq ?_
  refine WC.region ?_
  refine WL.y (Yl.assign rfl) rfl ?_
  refine WL.nil ?_
  refine WC.block ?_
  refine WC.view (fun w h => h.addNil 32 32) ?_
  refine WC.loop (α := Nat × (Option Addr × Nat)) (fun p => [(0, .pointer (some ⟨b, 0, none⟩)), (1, .int .u8 (a : Int)), (5, .slice p.2.1 (rkTo C a p.1).length p.2.2), (6, .int .i64 (p.1 : Int))]) (fun p => [rwK (.slice p.2.1 (rkTo C a p.1).length p.2.2) (rkTo C a p.1).length (rkTo C a p.1), rbR b acc ov C]) (fun p => p.1 ≤ 4) (fun p => 4 - p.1) (0, none, 0) (Nat.zero_le _) ⟨(by dsimp only; rw [rkTo_0]; exact (by repeat' constructor)), _, (by dsimp only; rw [rkTo_0]; exact (by repeat' constructor))⟩ ?_
  rintro ⟨i, a5, c5⟩ hi
  dsimp only at hi ⊢
  refine WC.seq ?_
  refine WC.midX (α := Unit) (fun _ => [(0, .pointer (some ⟨b, 0, none⟩)), (1, .int .u8 (a : Int)), (5, .slice a5 (rkTo C a i).length c5), (6, .int .i64 (i : Int)), (12, .bool (decide (i < 4 ∧ a < 8)))]) (fun _ => [rwK (.slice a5 (rkTo C a i).length c5) (rkTo C a i).length (rkTo C a i), rbR b acc ov C]) (fun _ => True) ?_ ?_
  · refine WC.region ?_
    refine WL.y (Yl.move rfl) rfl ?_
    refine WL.y (Yl.lss rfl rfl) rfl ?_
    refine WL.y (Yl.move rfl) rfl ?_
    refine WL.both (t := 9) rfl (fun g9 => ?_) (fun g9 => ?_)
    · refine WL.on rfl rfl ?_
      refine WL.y (Yl.move rfl) rfl ?_
      refine WL.on rfl rfl ?_
      refine WL.y (Yl.lss rfl rfl) rfl ?_
      refine WL.y (Yl.pickT rfl rfl) rfl ?_
      refine WL.say (t := 12) (v' := .bool (decide (i < 4 ∧ a < 8))) rfl (by (refine congrArg Value.bool ?_; have := of_decide_eq_true g9; rw [decide_eq_decide]; omega)) ?_
      refine WL.nil ?_
      exact ⟨rfl, (), trivial, (by repeat' constructor), _, (by repeat' constructor)⟩
    · refine WL.off rfl rfl rfl rfl ?_
      refine WL.off rfl rfl rfl rfl ?_
      refine WL.y (Yl.pickF rfl rfl) rfl ?_
      refine WL.say (t := 12) (v' := .bool (decide (i < 4 ∧ a < 8))) rfl (by exact congrArg Value.bool (decide_eq_false (by have := of_decide_eq_false g9; omega)).symm) ?_
      refine WL.nil ?_
      exact ⟨rfl, (), trivial, (by repeat' constructor), _, (by repeat' constructor)⟩
  · rintro ⟨⟩ -
    refine WC.cond rfl (fun g12 => ?_) (fun g12 => ?_)
    · refine WC.skip ?_
      refine WC.seq ?_
      refine WC.block ?_
      refine WC.seq ?_
      obtain ⟨hi4, h8⟩ : i < 4 ∧ a < 8 := of_decide_eq_true g12
      obtain ⟨c, hc⟩ : ∃ c, C[a]? = some c := ⟨_, List.getElem?_eq_getElem (by rw [hC.1]; exact h8)⟩
      have hok := hC.get hc
      obtain ⟨hd, hb⟩ : ∃ hd, c.has[i]? = some hd := ⟨_, List.getElem?_eq_getElem (by rw [hok.hl]; exact hi4)⟩
      obtain ⟨k, hk⟩ : ∃ k0, c.ks[i]? = some k0 := ⟨_, List.getElem?_eq_getElem (by rw [hok.kl]; exact hi4)⟩
      have hnx := kTo_next hok hi4 hk hb
      have hle := rkTo_le hC a (i := i) hi
      have hle2 := rkTo_le hC a (i := i + 1) (by omega)
      rw [← rkTo_of hc, ← rkTo_of hc] at hnx
      refine WC.region ?_
      refine WL.y (Yl.move rfl) rfl ?_
      refine WL.y (Yl.move rfl) rfl ?_
      refine WL.y (Yl.move rfl) rfl ?_
      refine WL.y (Yl.nilCheck rfl) rfl ?_
      refine WL.y (Yl.field fo38_2 rfl) rfl ?_
      refine WL.y (Yl.indexA un36 sz35 rfl rfl rfl (by omega)) rfl ?_
      refine WL.y (Yl.field fo35_0 rfl) rfl ?_
      refine WL.y (Yl.indexA un30 sz4 rfl rfl rfl (by omega)) rfl ?_
      refine WL.y (Yl.load (T := 38) (cs := rbC acc ov C) on4 rfl (by repeat constructor) (rb_cell hC hc (Ct.rhasAt hb) (by omega))) rfl ?_
      refine WL.nil ?_
      refine WC.cond rfl (fun g23 => ?_) (fun g23 => ?_)
      · refine WC.region ?_
        refine WL.y (Yl.move rfl) rfl ?_
        refine WL.y (Yl.move rfl) rfl ?_
        refine WL.y (Yl.move rfl) rfl ?_
        refine WL.y (Yl.move rfl) rfl ?_
        refine WL.y (Yl.nilCheck rfl) rfl ?_
        refine WL.y (Yl.field fo38_2 rfl) rfl ?_
        refine WL.y (Yl.indexA un36 sz35 rfl rfl rfl (by omega)) rfl ?_
        refine WL.y (Yl.field fo35_1 rfl) rfl ?_
        refine WL.y (Yl.indexA un33 sz32 rfl rfl rfl (by omega)) rfl ?_
        refine WL.y (Yl.loadNP (T := 38) (cs := rbC acc ov C) ag32 rfl (by repeat constructor) (by rw [hC.len]; omega) (rb_part hC hc (Ct.rkey hok hk) (by omega) (by omega))) rfl ?_
        refine WL.to (To.buildSlice (vs := [kyV k]) un22 zs32 rfl rfl (fun v hv => by rw [List.mem_singleton] at hv; subst hv; unfold kyV; simp [Value.cells, Ky.clen]) (by decide) (by decide)) rfl ?_
        intro b34
        refine WL.to (To.append sl22 rfl rfl (by repeat constructor) (Reads.of (RdOf.blk (size := 32) (n := 1) (cs := flat [kyV k]) (cs' := vcs kyV [k]) (Nat.le_refl _) (by unfold maxLen; omega) (by simp [flat, kyV, Value.cells, Ky.clen]) (by rw [List.drop_zero, List.take_of_length_le (by simp [flat, kyV, Value.cells, Ky.clen])]; rfl)) (by repeat constructor)) (vtK.ones _) (show (rkTo C a i).length + 1 = (rkTo C a (i + 1)).length by rw [hnx, g23]; simp) (show vcs kyV (rkTo C a i) ++ vcs kyV [k] = vcs kyV (rkTo C a (i + 1)) by rw [hnx, g23, if_pos rfl, vcs_app]) (by unfold maxLen; omega) (by omega)) rfl ?_
        rintro ⟨⟨ao35, c35⟩, hc35⟩
        dsimp only at hc35 ⊢
        refine WL.y (Yl.assign rfl) rfl ?_
        refine WL.nil ?_
        refine WC.region ?_
        refine WL.y (Yl.move rfl) rfl ?_
        refine WL.y (Yl.add rfl rfl (IntWalk.i64_in _ (by omega))) rfl ?_
        refine WL.y (Yl.assign rfl) rfl ?_
        refine WL.nil ?_
        exact ⟨rfl, (i + 1, ao35, c35), by dsimp only; omega, by dsimp only; omega, (by repeat' constructor), _, (by repeat' constructor)⟩
      · refine WC.skip ?_
        refine WC.region ?_
        refine WL.y (Yl.move rfl) rfl ?_
        refine WL.y (Yl.add rfl rfl (IntWalk.i64_in _ (by omega))) rfl ?_
        refine WL.y (Yl.assign rfl) rfl ?_
        refine WL.nil ?_
        have e : rkTo C a (i + 1) = rkTo C a i := by rw [hnx, g23]; simp
        exact ⟨rfl, (i + 1, a5, c5), by dsimp only; omega, by dsimp only; omega, (by dsimp only; rw [e]; exact (by repeat' constructor)), _, (by dsimp only; rw [e]; exact (by repeat' constructor))⟩
    · refine WC.exit ?_
      refine WC.seq ?_
      refine WC.region ?_
      refine WL.y (Yl.move rfl) rfl ?_
      refine WL.y (Yl.assign rfl) rfl ?_
      refine WL.nil ?_
      refine WC.ret ?_
      repeat (with_reducible (first | refine peelT ?_ | refine peelB ?_ | refine peelTX ?_ | refine peelBX ?_ | refine peelBN ?_ | refine peelBO rfl ?_))
      have e : rkTo C a i = rkysAt C a := by
        have hn := of_decide_eq_false g12
        by_cases h8 : 8 ≤ a
        · exact rkTo_no hC h8 i
        · have : i = 4 := by omega
          subst this
          exact rkTo_4 hC a
      rw [e]
      exact ret1 (.inr rfl) Tryz.results34 rfl fun w' h => ⟨(a5, c5), trivial, rfl, h.sub (by repeat' constructor)⟩
end Go.Proofs.YtcplbkbimpiioaaGreatDoor

namespace Go.Proofs.YtcplbkbimpiioaaGreatDoor
open Go Go.RowKit
theorem set_same {C : List Ct} {a : Nat} {c : Ct} (h : C[a]? = some c) : C.set a c = C := by
  obtain ⟨hi, rfl⟩ := List.getElem?_eq_some_iff.1 h
  exact List.set_getElem_self _
theorem COk.at {C : List Ct} (h : COk C) {a : Nat} (ha : a < 8) (c : Ct) : (C.set a c)[a]? = some c := List.getElem?_set_self (by rw [h.1]; exact ha)
theorem rlearn_bad (b : Nat) (acc : Int) (ov : Value) (C : List Ct) (a d : Int) (k : Ky) (hm : mayF acc a d = 2) (w : World) (hw : OK w (fpL [rbR b acc ov C]) [rbR b acc ov C] w) :
    Fn Tryz.prog 7 [.pointer (some ⟨b, 0, none⟩), .agg #[.int .u8 a, .int .u8 d], kyV k] [rbR b acc ov C] w (fun _ : Unit => True) (fun _ => .tuple #[.bool false, .int .i64 2]) (fun _ => [rbR b acc ov C]) := by
  unfold kyV
  refine enterF Tryz.func7 rfl Tryz.ntmps7 rfl hw ?_
  refine WC.seq ?_
  refine WC.region ?_
  refine WL.to (To.box (cs := [.int .u8 a, .int .u8 d]) rfl rfl) rfl ?_
  intro b4
  refine WL.to (To.box (cs := k.cells) rfl rfl) rfl ?_
  intro b5
  refine WL.y (Yl.assign rfl) rfl ?_
  refine WL.y (Yl.assign rfl) rfl ?_
  refine WL.nil ?_
  refine WC.seq ?_
  refine WC.seq ?_
  refine WC.region ?_
  refine WL.y (Yl.move rfl) rfl ?_
  refine WL.y (Yl.loadN ag40 rfl (by repeat constructor) (by rfl) (by rfl)) rfl ?_
  refine WL.callC (xs := [.tmp 11, .tmp 12]) (cap := []) rfl rfl en26 (by repeat' constructor) (fun w hw => rmay_any b acc ov C a d w hw.left.here) rfl ?_
  rintro ⟨⟩ -
  rw [hm]
  refine WL.y (Yl.not rfl) rfl ?_
  refine WL.know (t := 14) (b' := true) rfl (by first | rfl | (simp; done) | (simp; omega)) ?_
  refine WL.nil ?_
  refine WC.condT rfl (by first | rfl | (simp; done) | (simp; omega)) ?_
  refine WC.seq ?_
  refine WC.region ?_
  refine WL.y (Yl.assign rfl) rfl ?_
  refine WL.y (Yl.assign rfl) rfl ?_
  refine WL.nil ?_
  refine WC.ret ?_
  repeat (with_reducible (first | refine peelT ?_ | refine peelB ?_ | refine peelTX ?_ | refine peelBX ?_ | refine peelBN ?_ | refine peelBO rfl ?_))
  exact ret2 (.inr rfl) Tryz.results7 rfl rfl fun w' h => ⟨(), trivial, rfl, h.sub (by repeat' constructor)⟩
theorem rforget_bad (b : Nat) (acc : Int) (ov : Value) (C : List Ct) (a d : Int) (hm : mayF acc a d = 2) (w : World) (hw : OK w (fpL [rbR b acc ov C]) [rbR b acc ov C] w) :
    Fn Tryz.prog 9 [.pointer (some ⟨b, 0, none⟩), .agg #[.int .u8 a, .int .u8 d]] [rbR b acc ov C] w (fun _ : Unit => True) (fun _ => .int .i64 2) (fun _ => [rbR b acc ov C]) := by
  refine enterF Tryz.func9 rfl Tryz.ntmps9 rfl hw ?_
  refine WC.seq ?_
  refine WC.region ?_
  refine WL.to (To.box (cs := [.int .u8 a, .int .u8 d]) rfl rfl) rfl ?_
  intro b3
  refine WL.y (Yl.assign rfl) rfl ?_
  refine WL.nil ?_
  refine WC.seq ?_
  refine WC.seq ?_
  refine WC.region ?_
  refine WL.y (Yl.move rfl) rfl ?_
  refine WL.y (Yl.loadN ag40 rfl (by repeat constructor) (by rfl) (by rfl)) rfl ?_
  refine WL.callC (xs := [.tmp 6, .tmp 7]) (cap := []) rfl rfl en26 (by repeat' constructor) (fun w hw => rmay_any b acc ov C a d w hw.left.here) rfl ?_
  rintro ⟨⟩ -
  rw [hm]
  refine WL.y (Yl.not rfl) rfl ?_
  refine WL.know (t := 9) (b' := true) rfl (by first | rfl | (simp; done) | (simp; omega)) ?_
  refine WL.nil ?_
  refine WC.condT rfl (by first | rfl | (simp; done) | (simp; omega)) ?_
  refine WC.seq ?_
  refine WC.region ?_
  refine WL.y (Yl.assign rfl) rfl ?_
  refine WL.nil ?_
  refine WC.ret ?_
  repeat (with_reducible (first | refine peelT ?_ | refine peelB ?_ | refine peelTX ?_ | refine peelBX ?_ | refine peelBN ?_ | refine peelBO rfl ?_))
  exact ret1 (.inr rfl) Tryz.results9 rfl fun w' h => ⟨(), trivial, rfl, h.sub (by repeat' constructor)⟩
set_option maxRecDepth 100000 in
theorem rlearn_any (b : Nat) (acc : Int) (ov : Value) (C : List Ct) (hC : COk C) (a i : Nat) (k : Ky) (hm : mayF acc (a : Int) (i : Int) = 0) (c : Ct) (hc : C[a]? = some c) (w : World) (hw : OK w (fpL [rbR b acc ov C]) [rbR b acc ov C] w) :
    Fn Tryz.prog 7 [.pointer (some ⟨b, 0, none⟩), .agg #[.int .u8 (a : Int), .int .u8 (i : Int)], kyV k] [rbR b acc ov C] w (fun _ : Unit => True) (fun _ => .tuple #[.bool (chgT c i k), .int .i64 0]) (fun _ => [rbR b acc ov (C.set a (rlearnT c i k))]) := by
  obtain ⟨ha, hi, _⟩ := mayF_rng hm
  have h8 : a < 8 := by omega
  have hi4 : i < 4 := by omega
  have hok := hC.get hc
  obtain ⟨hd, hb⟩ : ∃ hd, c.has[i]? = some hd := ⟨_, List.getElem?_eq_getElem (by rw [hok.hl]; exact hi4)⟩
  obtain ⟨k0, hk0⟩ : ∃ k0, c.ks[i]? = some k0 := ⟨_, List.getElem?_eq_getElem (by rw [hok.kl]; exact hi4)⟩
  have hb2 : c.has.getD i false = hd := by rw [List.getD_eq_getElem?_getD, hb]; rfl
  have hk2 : c.ks.getD i Ky.zero = k0 := by rw [List.getD_eq_getElem?_getD, hk0]; rfl
  obtain ⟨sm, hsm⟩ : ∃ sm, (hd && decide (k0 = k)) = sm := ⟨_, rfl⟩
  obtain ⟨s1, hs1⟩ : ∃ s1, (if c.st = 2 ∧ sm = false then 3 else c.st) = s1 := ⟨_, rfl⟩
  obtain ⟨s2, hs2⟩ : ∃ s2, (if s1 = 0 then 1 else s1) = s2 := ⟨_, rfl⟩
  have hfin : rlearnT c i k = ⟨c.ks.set i k, c.has.set i true, s2⟩ := by
    unfold rlearnT
    dsimp only
    rw [hb2, hk2, hsm, hs1, hs2]
  have hchg : chgT c i k = (hd && !sm) := by
    unfold chgT
    rw [hb2, hk2, ← hsm]
    cases hd <;> rfl
  rw [hfin, hchg]
  obtain ⟨C1, hC1⟩ : ∃ C1, C.set a { c with st := s1 } = C1 := ⟨_, rfl⟩
  have hok1 : ({ c with st := s1 } : Ct).ok := ⟨hok.kl, hok.hl⟩
  have hc1 : C1[a]? = some { c with st := s1 } := by rw [← hC1]; exact hC.at h8 _
  have hO1 : COk C1 := by rw [← hC1]; exact hC.set a hok1
  obtain ⟨C2, hC2⟩ : ∃ C2, C.set a { c with st := s2 } = C2 := ⟨_, rfl⟩
  have hok2 : ({ c with st := s2 } : Ct).ok := ⟨hok.kl, hok.hl⟩
  have hc2 : C2[a]? = some { c with st := s2 } := by rw [← hC2]; exact hC.at h8 _
  have hO2 : COk C2 := by rw [← hC2]; exact hC.set a hok2
  have hok3 : (⟨c.ks, c.has.set i true, s2⟩ : Ct).ok := ⟨hok.kl, by dsimp only; rw [List.length_set, hok.hl]⟩
  have hc3 : (C2.set a ⟨c.ks, c.has.set i true, s2⟩)[a]? = some ⟨c.ks, c.has.set i true, s2⟩ := hO2.at h8 _
  have hO3 : COk (C2.set a ⟨c.ks, c.has.set i true, s2⟩) := hO2.set a hok3
  unfold kyV
  refine enterF Tryz.func7 rfl Tryz.ntmps7 rfl hw ?_
  refine WC.seq ?_
  refine WC.region ?_
  refine WL.to (To.box (cs := [.int .u8 (a : Int), .int .u8 (i : Int)]) rfl rfl) rfl ?_
  intro b4
  refine WL.to (To.box (cs := k.cells) rfl rfl) rfl ?_
  intro b5
  refine WL.y (Yl.assign rfl) rfl ?_
  refine WL.y (Yl.assign rfl) rfl ?_
  refine WL.nil ?_
  refine WC.seq ?_
  refine WC.seq ?_
  refine WC.region ?_
  refine WL.y (Yl.move rfl) rfl ?_
  refine WL.y (Yl.loadN ag40 rfl (by repeat constructor) (by rfl) (by rfl)) rfl ?_
  refine WL.callC (xs := [.tmp 11, .tmp 12]) (cap := []) rfl rfl en26 (by repeat' constructor) (fun w hw => rmay_any b acc ov C (a : Int) (i : Int) w hw.left.here) rfl ?_
  rintro ⟨⟩ -
  rw [hm]
  refine WL.y (Yl.not rfl) rfl ?_
  refine WL.know (t := 14) (b' := false) rfl (by first | rfl | (simp; done) | (simp; omega)) ?_
  refine WL.nil ?_
  refine WC.condF rfl (by first | rfl | (simp; done) | (simp; omega)) ?_
  refine WC.skip ?_
  refine WC.seq ?_
  refine WC.drawRead mixed (by kernel_rfl) ?_
  refine WH.y (Yl.move rfl) rfl ?_
  refine WH.y (Yl.field fo40_0 rfl) rfl ?_
  refine WH.y (Yl.load on5 rfl (by repeat constructor) (by rfl)) rfl ?_
  refine WH.y (Yl.nilCheck rfl) rfl ?_
  refine WH.y (Yl.field fo38_2 rfl) rfl ?_
  refine WH.y (Yl.indexA un36 sz35 rfl rfl rfl (by omega)) rfl ?_
  refine WH.y (Yl.assign rfl) rfl ?_
  refine WH.nil ?_
  refine WC.seq ?_
  refine WC.drawRead mixed (by kernel_rfl) ?_
  refine WH.y (Yl.move rfl) rfl ?_
  refine WH.y (Yl.field fo40_1 rfl) rfl ?_
  refine WH.y (Yl.load on5 rfl (by repeat constructor) (by rfl)) rfl ?_
  refine WH.y (Yl.nilCheck rfl) rfl ?_
  refine WH.y (Yl.field fo35_0 rfl) rfl ?_
  refine WH.y (Yl.indexA un30 sz4 rfl rfl rfl (by omega)) rfl ?_
  refine WH.y (Yl.load (T := 38) (cs := rbC acc ov C) on4 rfl (by repeat constructor) (rb_cell hC hc (Ct.rhasAt hb) (by omega))) rfl ?_
  refine WH.y (Yl.assign rfl) rfl ?_
  refine WH.nil ?_
  refine WC.midX (α := Unit) (fun _ => [(0, .pointer (some ⟨b, 0, none⟩)), (4, .pointer (some ⟨b4, 0, none⟩)), (5, .pointer (some ⟨b5, 0, none⟩)), (8, .pointer (some ⟨b, 0 + 2 + a * 133, none⟩)), (9, .bool hd), (10, .bool sm)]) (fun _ => [rbR b acc ov C, blkR b4 40 [.int .u8 (a : Int), .int .u8 (i : Int)], blkR b5 32 k.cells]) (fun _ => True) ?_ ?_
  · refine WC.drawRead mixed (by kernel_rfl) ?_
    refine WH.y (Yl.move rfl) rfl ?_
    refine WH.y (Yl.move rfl) rfl ?_
    refine WH.both (t := 29) rfl (fun g29 => ?_) (fun g29 => ?_)
    · refine WH.on rfl rfl ?_
      refine WH.y (Yl.move rfl) rfl ?_
      refine WH.on rfl rfl ?_
      refine WH.y (Yl.field fo40_1 rfl) rfl ?_
      refine WH.on rfl rfl ?_
      refine WH.y (Yl.load on5 rfl (by repeat constructor) (by rfl)) rfl ?_
      refine WH.on rfl rfl ?_
      refine WH.y (Yl.nilCheck rfl) rfl ?_
      refine WH.on rfl rfl ?_
      refine WH.y (Yl.field fo35_1 rfl) rfl ?_
      refine WH.on rfl rfl ?_
      refine WH.y (Yl.indexA un33 sz32 rfl rfl rfl (by omega)) rfl ?_
      refine WH.on rfl rfl ?_
      refine WH.y (Yl.loadNP (T := 38) (cs := rbC acc ov C) ag32 rfl (by repeat constructor) (by rw [hC.len]; omega) (rb_part hC hc (Ct.rkey hok hk0) (by omega) (by omega))) rfl ?_
      refine WH.on rfl rfl ?_
      refine WH.y (Yl.loadNP (T := 32) (cs := k.cells) ag32 rfl (by repeat constructor) (by rw [k.clen]; omega) (by rw [List.drop_zero, List.take_of_length_le (by rw [k.clen]; omega)])) rfl ?_
      refine WH.on rfl rfl ?_
      refine WH.y (Yl.eqK (p := k0) (q := k) rfl rfl rfl) rfl ?_
      refine WH.y (Yl.pickT rfl rfl) rfl ?_
      refine WH.say (t := 39) (v' := .bool sm) rfl (by (rw [← hsm]; simp_all)) ?_
      refine WH.y (Yl.assign rfl) rfl ?_
      refine WH.nil ?_
      exact ⟨rfl, (), trivial, (by repeat' constructor), _, (by repeat' constructor)⟩
    · refine WH.off rfl rfl rfl rfl ?_
      refine WH.off rfl rfl rfl rfl ?_
      refine WH.off rfl rfl rfl rfl ?_
      refine WH.off rfl rfl rfl rfl ?_
      refine WH.off rfl rfl rfl rfl ?_
      refine WH.off rfl rfl rfl rfl ?_
      refine WH.off rfl rfl rfl rfl ?_
      refine WH.off rfl rfl rfl rfl ?_
      refine WH.off rfl rfl rfl rfl ?_
      refine WH.y (Yl.pickF rfl rfl) rfl ?_
      refine WH.say (t := 39) (v' := .bool sm) rfl (by (rw [← hsm]; simp_all)) ?_
      refine WH.y (Yl.assign rfl) rfl ?_
      refine WH.nil ?_
      exact ⟨rfl, (), trivial, (by repeat' constructor), _, (by repeat' constructor)⟩
  · rintro ⟨⟩ -
    refine WC.midX (α := Unit) (fun _ => [(0, .pointer (some ⟨b, 0, none⟩)), (4, .pointer (some ⟨b4, 0, none⟩)), (5, .pointer (some ⟨b5, 0, none⟩)), (8, .pointer (some ⟨b, 0 + 2 + a * 133, none⟩)), (9, .bool hd), (10, .bool sm)]) (fun _ => [rbR b acc ov C1, blkR b4 40 [.int .u8 (a : Int), .int .u8 (i : Int)], blkR b5 32 k.cells]) (fun _ => True) ?_ ?_
    · refine WC.seq ?_
      refine WC.region ?_
      refine WL.y (Yl.move rfl) rfl ?_
      refine WL.y (Yl.nilCheck rfl) rfl ?_
      refine WL.y (Yl.field fo35_2 rfl) rfl ?_
      refine WL.y (Yl.load (T := 38) (cs := rbC acc ov C) on5 rfl (by repeat constructor) (rb_cell hC hc (Ct.rst hok) (by omega))) rfl ?_
      refine WL.y (Yl.eql rfl rfl) rfl ?_
      refine WL.y (Yl.move rfl) rfl ?_
      refine WL.both (t := 45) rfl (fun g45 => ?_) (fun g45 => ?_)
      · refine WL.on rfl rfl ?_
        refine WL.y (Yl.move rfl) rfl ?_
        refine WL.on rfl rfl ?_
        refine WL.y (Yl.not rfl) rfl ?_
        refine WL.y (Yl.pickT rfl rfl) rfl ?_
        refine WL.nil ?_
        refine WC.cond rfl (fun g48 => ?_) (fun g48 => ?_)
        · refine WC.region ?_
          refine WL.y (Yl.move rfl) rfl ?_
          refine WL.y (Yl.nilCheck rfl) rfl ?_
          refine WL.y (Yl.field fo35_2 rfl) rfl ?_
          refine WL.sto (Sto.oneP (T := 38) (cs := rbC acc ov C) sz5 rfl rfl (by repeat constructor) rfl (by rw [hC.len]; omega) (rb_set hC hc (Ct.rsetSt hok 3) (by omega) (by omega))) (fun _ h => nomatch h) ?_
          refine WL.nil ?_
          have e : s1 = 3 := by rw [← hs1, if_pos (by simp_all)]
          rw [← hC1, e]
          exact ⟨rfl, (), trivial, (by repeat' constructor), _, (by repeat' constructor)⟩
        · refine WC.skip ?_
          have e : s1 = c.st := by rw [← hs1, if_neg (by simp_all)]
          rw [← hC1, e, set_same hc]
          exact ⟨rfl, (), trivial, (by repeat' constructor), _, (by repeat' constructor)⟩
      · refine WL.off rfl rfl rfl rfl ?_
        refine WL.off rfl rfl rfl rfl ?_
        refine WL.y (Yl.pickF rfl rfl) rfl ?_
        refine WL.nil ?_
        refine WC.condF rfl (by first | rfl | (simp; done) | (simp; omega)) ?_
        refine WC.skip ?_
        have e : s1 = c.st := by rw [← hs1, if_neg (by simp_all)]
        rw [← hC1, e, set_same hc]
        exact ⟨rfl, (), trivial, (by repeat' constructor), _, (by repeat' constructor)⟩
    · rintro ⟨⟩ -
      refine WC.midX (α := Unit) (fun _ => [(0, .pointer (some ⟨b, 0, none⟩)), (4, .pointer (some ⟨b4, 0, none⟩)), (5, .pointer (some ⟨b5, 0, none⟩)), (8, .pointer (some ⟨b, 0 + 2 + a * 133, none⟩)), (9, .bool hd), (10, .bool sm)]) (fun _ => [rbR b acc ov C2, blkR b4 40 [.int .u8 (a : Int), .int .u8 (i : Int)], blkR b5 32 k.cells]) (fun _ => True) ?_ ?_
      · refine WC.seq ?_
        refine WC.region ?_
        refine WL.y (Yl.move rfl) rfl ?_
        refine WL.y (Yl.nilCheck rfl) rfl ?_
        refine WL.y (Yl.field fo35_2 rfl) rfl ?_
        refine WL.y (Yl.load (T := 38) (cs := rbC acc ov C1) on5 rfl (by repeat constructor) (rb_cell hO1 hc1 (Ct.rst hok1) (by omega))) rfl ?_
        refine WL.y (Yl.eql rfl rfl) rfl ?_
        refine WL.nil ?_
        refine WC.cond rfl (fun g56 => ?_) (fun g56 => ?_)
        · refine WC.region ?_
          refine WL.y (Yl.move rfl) rfl ?_
          refine WL.y (Yl.nilCheck rfl) rfl ?_
          refine WL.y (Yl.field fo35_2 rfl) rfl ?_
          refine WL.sto (Sto.oneP (T := 38) (cs := rbC acc ov C1) sz5 rfl rfl (by repeat constructor) rfl (by rw [hO1.len]; omega) (rb_set hO1 hc1 (Ct.rsetSt hok1 1) (by omega) (by omega))) (fun _ h => nomatch h) ?_
          refine WL.nil ?_
          have e : s2 = 1 := by rw [← hs2, if_pos (of_decide_eq_true g56)]
          rw [← hC2, e, ← hC1, List.set_set]
          exact ⟨rfl, (), trivial, (by repeat' constructor), _, (by repeat' constructor)⟩
        · refine WC.skip ?_
          have e : s2 = s1 := by rw [← hs2, if_neg (of_decide_eq_false g56)]
          rw [← hC2, e, hC1]
          exact ⟨rfl, (), trivial, (by repeat' constructor), _, (by repeat' constructor)⟩
      · rintro ⟨⟩ -
        refine WC.seq ?_
        refine WC.drawTail 6 mixed (by kernel_rfl) ?_
        refine WH.y (Yl.move rfl) rfl ?_
        refine WH.y (Yl.field fo40_1 rfl) rfl ?_
        refine WH.y (Yl.load on5 rfl (by repeat constructor) (by rfl)) rfl ?_
        refine WH.y (Yl.nilCheck rfl) rfl ?_
        refine WH.y (Yl.field fo35_0 rfl) rfl ?_
        refine WH.y (Yl.indexA un30 sz4 rfl rfl rfl (by omega)) rfl ?_
        refine WH.nil ?_
        refine WP.sto (Sto.oneP (T := 38) (cs := rbC acc ov C2) sz4 rfl rfl (by repeat constructor) rfl (by rw [hO2.len]; omega) (rb_set hO2 hc2 (Ct.rsetHas (by rw [hok2.hl]; exact hi4) true) (by omega) (by omega))) (fun _ h => nomatch h) ?_
        refine WP.nil ?_
        refine WC.seq ?_
        refine WC.drawTail 7 mixed (by kernel_rfl) ?_
        refine WH.y (Yl.move rfl) rfl ?_
        refine WH.y (Yl.field fo40_1 rfl) rfl ?_
        refine WH.y (Yl.load on5 rfl (by repeat constructor) (by rfl)) rfl ?_
        refine WH.y (Yl.loadNP (T := 32) (cs := k.cells) ag32 rfl (by repeat constructor) (by rw [k.clen]; omega) (by rw [List.drop_zero, List.take_of_length_le (by rw [k.clen]; omega)])) rfl ?_
        refine WH.y (Yl.nilCheck rfl) rfl ?_
        refine WH.y (Yl.field fo35_1 rfl) rfl ?_
        refine WH.y (Yl.indexA un33 sz32 rfl rfl rfl (by omega)) rfl ?_
        refine WH.nil ?_
        refine WP.sto (Sto.aggP (T := 38) (cs := rbC acc ov (C2.set a ⟨c.ks, c.has.set i true, s2⟩)) sz32 rfl rfl (by repeat constructor) k.ones k.clen (by rw [hO3.len]; omega) (rb_put hO3 hc3 (Ct.rsetKey hok3 hi4 k) (by omega) (by omega) rfl)) (fun _ h => nomatch h) ?_
        refine WP.nil ?_
        refine WC.seq ?_
        refine WC.region ?_
        refine WL.y (Yl.move rfl) rfl ?_
        refine WL.y (Yl.move rfl) rfl ?_
        refine WL.both (t := 74) rfl (fun g74 => ?_) (fun g74 => ?_)
        · refine WL.on rfl rfl ?_
          refine WL.y (Yl.move rfl) rfl ?_
          refine WL.on rfl rfl ?_
          refine WL.y (Yl.not rfl) rfl ?_
          refine WL.y (Yl.pickT rfl rfl) rfl ?_
          refine WL.say (t := 77) (v' := .bool (hd && !sm)) rfl (by simp_all) ?_
          refine WL.y (Yl.assign rfl) rfl ?_
          refine WL.y (Yl.assign rfl) rfl ?_
          refine WL.nil ?_
          refine WC.ret ?_
          repeat (with_reducible (first | refine peelT ?_ | refine peelB ?_ | refine peelTX ?_ | refine peelBX ?_ | refine peelBN ?_ | refine peelBO rfl ?_))
          refine ret2 (.inr rfl) Tryz.results7 rfl rfl fun w' h => ⟨(), trivial, rfl, ?_⟩
          rw [← hC2, List.set_set, List.set_set] at h
          exact h.sub (by repeat' constructor)
        · refine WL.off rfl rfl rfl rfl ?_
          refine WL.off rfl rfl rfl rfl ?_
          refine WL.y (Yl.pickF rfl rfl) rfl ?_
          refine WL.say (t := 77) (v' := .bool (hd && !sm)) rfl (by simp_all) ?_
          refine WL.y (Yl.assign rfl) rfl ?_
          refine WL.y (Yl.assign rfl) rfl ?_
          refine WL.nil ?_
          refine WC.ret ?_
          repeat (with_reducible (first | refine peelT ?_ | refine peelB ?_ | refine peelTX ?_ | refine peelBX ?_ | refine peelBN ?_ | refine peelBO rfl ?_))
          refine ret2 (.inr rfl) Tryz.results7 rfl rfl fun w' h => ⟨(), trivial, rfl, ?_⟩
          rw [← hC2, List.set_set, List.set_set] at h
          exact h.sub (by repeat' constructor)
set_option maxRecDepth 100000 in
theorem rforget_any (b : Nat) (acc : Int) (ov : Value) (C : List Ct) (hC : COk C) (a i : Nat) (hm : mayF acc (a : Int) (i : Int) = 0) (c : Ct) (hc : C[a]? = some c) (w : World) (hw : OK w (fpL [rbR b acc ov C]) [rbR b acc ov C] w) :
    Fn Tryz.prog 9 [.pointer (some ⟨b, 0, none⟩), .agg #[.int .u8 (a : Int), .int .u8 (i : Int)]] [rbR b acc ov C] w (fun _ : Unit => True) (fun _ => .int .i64 (if c.has.getD i false then 0 else 4)) (fun _ => [rbR b acc ov (if c.has.getD i false then C.set a (rforgetT c i) else C)]) := by
  obtain ⟨ha, hi, _⟩ := mayF_rng hm
  have h8 : a < 8 := by omega
  have hi4 : i < 4 := by omega
  have hok := hC.get hc
  obtain ⟨hd, hb⟩ : ∃ hd, c.has[i]? = some hd := ⟨_, List.getElem?_eq_getElem (by rw [hok.hl]; exact hi4)⟩
  have hb2 : c.has.getD i false = hd := by rw [List.getD_eq_getElem?_getD, hb]; rfl
  rw [hb2]
  obtain ⟨s1, hs1⟩ : ∃ s1, (if c.st = 2 then 3 else c.st) = s1 := ⟨_, rfl⟩
  obtain ⟨s2, hs2⟩ : ∃ s2, (if (kysOf (c.ks.set i Ky.zero) (c.has.set i false)).length = 0 then 0 else s1) = s2 := ⟨_, rfl⟩
  have hfin : rforgetT c i = ⟨c.ks.set i Ky.zero, c.has.set i false, s2⟩ := by
    unfold rforgetT
    dsimp only
    rw [hs1, hs2]
  rw [hfin]
  have hok1 : (⟨c.ks, c.has.set i false, c.st⟩ : Ct).ok := ⟨hok.kl, by dsimp only; rw [List.length_set, hok.hl]⟩
  have hc1 := hC.at h8 ⟨c.ks, c.has.set i false, c.st⟩
  have hO1 := hC.set a hok1
  have hokF : ∀ s, (⟨c.ks.set i Ky.zero, c.has.set i false, s⟩ : Ct).ok := fun s => ⟨by dsimp only; rw [List.length_set, hok.kl], by dsimp only; rw [List.length_set, hok.hl]⟩
  have hcF := fun s => hC.at h8 ⟨c.ks.set i Ky.zero, c.has.set i false, s⟩
  have hOF := fun s => hC.set a (hokF s)
  refine enterF Tryz.func9 rfl Tryz.ntmps9 rfl hw ?_
  refine WC.seq ?_
  refine WC.region ?_
  refine WL.to (To.box (cs := [.int .u8 (a : Int), .int .u8 (i : Int)]) rfl rfl) rfl ?_
  intro b3
  refine WL.y (Yl.assign rfl) rfl ?_
  refine WL.nil ?_
  refine WC.seq ?_
  refine WC.seq ?_
  refine WC.region ?_
  refine WL.y (Yl.move rfl) rfl ?_
  refine WL.y (Yl.loadN ag40 rfl (by repeat constructor) (by rfl) (by rfl)) rfl ?_
  refine WL.callC (xs := [.tmp 6, .tmp 7]) (cap := []) rfl rfl en26 (by repeat' constructor) (fun w hw => rmay_any b acc ov C (a : Int) (i : Int) w hw.left.here) rfl ?_
  rintro ⟨⟩ -
  rw [hm]
  refine WL.y (Yl.not rfl) rfl ?_
  refine WL.know (t := 9) (b' := false) rfl (by first | rfl | (simp; done) | (simp; omega)) ?_
  refine WL.nil ?_
  refine WC.condF rfl (by first | rfl | (simp; done) | (simp; omega)) ?_
  refine WC.skip ?_
  refine WC.seq ?_
  refine WC.drawRead mixed (by kernel_rfl) ?_
  refine WH.y (Yl.move rfl) rfl ?_
  refine WH.y (Yl.field fo40_0 rfl) rfl ?_
  refine WH.y (Yl.load on5 rfl (by repeat constructor) (by rfl)) rfl ?_
  refine WH.y (Yl.nilCheck rfl) rfl ?_
  refine WH.y (Yl.field fo38_2 rfl) rfl ?_
  refine WH.y (Yl.indexA un36 sz35 rfl rfl rfl (by omega)) rfl ?_
  refine WH.y (Yl.assign rfl) rfl ?_
  refine WH.nil ?_
  refine WC.seq ?_
  refine WC.seq ?_
  refine WC.drawRead mixed (by kernel_rfl) ?_
  refine WH.y (Yl.move rfl) rfl ?_
  refine WH.y (Yl.field fo40_1 rfl) rfl ?_
  refine WH.y (Yl.load on5 rfl (by repeat constructor) (by rfl)) rfl ?_
  refine WH.y (Yl.nilCheck rfl) rfl ?_
  refine WH.y (Yl.field fo35_0 rfl) rfl ?_
  refine WH.y (Yl.indexA un30 sz4 rfl rfl rfl (by omega)) rfl ?_
  refine WH.y (Yl.load (T := 38) (cs := rbC acc ov C) on4 rfl (by repeat constructor) (rb_cell hC hc (Ct.rhasAt hb) (by omega))) rfl ?_
  refine WH.y (Yl.not rfl) rfl ?_
  refine WH.nil ?_
  refine WC.cond rfl (fun g23 => ?_) (fun g23 => ?_)
  · refine WC.seq ?_
    refine WC.region ?_
    refine WL.y (Yl.assign rfl) rfl ?_
    refine WL.nil ?_
    refine WC.ret ?_
    repeat (with_reducible (first | refine peelT ?_ | refine peelB ?_ | refine peelTX ?_ | refine peelBX ?_ | refine peelBN ?_ | refine peelBO rfl ?_))
    have hf : hd = false := by simpa using g23
    subst hf
    exact ret1 (.inr rfl) Tryz.results9 rfl fun w' h => ⟨(), trivial, rfl, h.sub (by repeat' constructor)⟩
  · refine WC.skip ?_
    refine WC.seq ?_
    have hf : hd = true := by simpa using g23
    subst hf
    rw [if_pos rfl, if_pos rfl]
    refine WC.drawTail 6 mixed (by kernel_rfl) ?_
    refine WH.y (Yl.move rfl) rfl ?_
    refine WH.y (Yl.field fo40_1 rfl) rfl ?_
    refine WH.y (Yl.load on5 rfl (by repeat constructor) (by rfl)) rfl ?_
    refine WH.y (Yl.nilCheck rfl) rfl ?_
    refine WH.y (Yl.field fo35_0 rfl) rfl ?_
    refine WH.y (Yl.indexA un30 sz4 rfl rfl rfl (by omega)) rfl ?_
    refine WH.nil ?_
    refine WP.sto (Sto.oneP (T := 38) (cs := rbC acc ov C) sz4 rfl rfl (by repeat constructor) rfl (by rw [hC.len]; omega) (rb_set hC hc (Ct.rsetHas (by rw [hok.hl]; exact hi4) false) (by omega) (by omega))) (fun _ h => nomatch h) ?_
    refine WP.nil ?_
    refine WC.seq ?_
    refine WC.drawTail 7 mixed (by kernel_rfl) ?_
    refine WH.y (Yl.move rfl) rfl ?_
    refine WH.y (Yl.field fo40_1 rfl) rfl ?_
    refine WH.y (Yl.load on5 rfl (by repeat constructor) (by rfl)) rfl ?_
    refine WH.y (Yl.build rfl (cs := Ky.zero.cells) (fun _ => by kernel_rfl)) rfl ?_
    refine WH.y (Yl.nilCheck rfl) rfl ?_
    refine WH.y (Yl.field fo35_1 rfl) rfl ?_
    refine WH.y (Yl.indexA un33 sz32 rfl rfl rfl (by omega)) rfl ?_
    refine WH.nil ?_
    refine WP.sto (Sto.aggP (T := 38) (cs := rbC acc ov (C.set a ⟨c.ks, c.has.set i false, c.st⟩)) sz32 rfl rfl (by repeat constructor) Ky.zero.ones Ky.zero.clen (by rw [hO1.len]; omega) (rb_put hO1 hc1 (Ct.rsetKey hok1 hi4 Ky.zero) (by omega) (by omega) rfl)) (fun _ h => nomatch h) ?_
    refine WP.nil ?_
    refine WC.midX (α := Unit) (fun _ => [(0, .pointer (some ⟨b, 0, none⟩)), (3, .pointer (some ⟨b3, 0, none⟩)), (5, .pointer (some ⟨b, 0 + 2 + a * 133, none⟩))]) (fun _ => [rbR b acc ov (C.set a ⟨c.ks.set i Ky.zero, c.has.set i false, s1⟩), blkR b3 40 [.int .u8 (a : Int), .int .u8 (i : Int)]]) (fun _ => True) ?_ ?_
    · rw [List.set_set]
      refine WC.seq ?_
      refine WC.region ?_
      refine WL.y (Yl.move rfl) rfl ?_
      refine WL.y (Yl.nilCheck rfl) rfl ?_
      refine WL.y (Yl.field fo35_2 rfl) rfl ?_
      refine WL.y (Yl.load (T := 38) (cs := rbC acc ov (C.set a ⟨c.ks.set i Ky.zero, c.has.set i false, c.st⟩)) on5 rfl (by repeat constructor) (rb_cell (hOF _) (hcF _) (Ct.rst (hokF _)) (by omega))) rfl ?_
      refine WL.y (Yl.eql rfl rfl) rfl ?_
      refine WL.nil ?_
      refine WC.cond rfl (fun g41 => ?_) (fun g41 => ?_)
      · refine WC.region ?_
        refine WL.y (Yl.move rfl) rfl ?_
        refine WL.y (Yl.nilCheck rfl) rfl ?_
        refine WL.y (Yl.field fo35_2 rfl) rfl ?_
        refine WL.sto (Sto.oneP (T := 38) (cs := rbC acc ov (C.set a ⟨c.ks.set i Ky.zero, c.has.set i false, c.st⟩)) sz5 rfl rfl (by repeat constructor) rfl (by rw [(hOF _).len]; omega) (rb_set (hOF _) (hcF _) (Ct.rsetSt (hokF _) 3) (by omega) (by omega))) (fun _ h => nomatch h) ?_
        refine WL.nil ?_
        have e : s1 = 3 := by rw [← hs1, if_pos (of_decide_eq_true g41)]
        rw [e, List.set_set]
        exact ⟨rfl, (), trivial, (by repeat' constructor), _, (by repeat' constructor)⟩
      · refine WC.skip ?_
        have e : s1 = c.st := by rw [← hs1, if_neg (of_decide_eq_false g41)]
        rw [e]
        exact ⟨rfl, (), trivial, (by repeat' constructor), _, (by repeat' constructor)⟩
    · rintro ⟨⟩ -
      refine WC.seq ?_
      refine WC.seq ?_
      refine WC.region ?_
      refine WL.y (Yl.move rfl) rfl ?_
      refine WL.y (Yl.field fo40_0 rfl) rfl ?_
      refine WL.y (Yl.load on5 rfl (by repeat constructor) (by rfl)) rfl ?_
      refine WL.callC (xs := [.tmp 45, .tmp 47]) (cap := []) rfl rfl en28 (by repeat' constructor) (fun w hw => rmany_any b acc ov _ (hOF s1) a w hw.left.here) rfl ?_
      rintro ⟨⟩ -
      rw [rkysAt_of (hcF s1)]
      refine WL.y (Yl.eql rfl rfl) rfl ?_
      refine WL.nil ?_
      refine WC.cond rfl (fun g49 => ?_) (fun g49 => ?_)
      · refine WC.region ?_
        refine WL.y (Yl.move rfl) rfl ?_
        refine WL.y (Yl.nilCheck rfl) rfl ?_
        refine WL.y (Yl.field fo35_2 rfl) rfl ?_
        refine WL.sto (Sto.oneP (T := 38) (cs := rbC acc ov (C.set a ⟨c.ks.set i Ky.zero, c.has.set i false, s1⟩)) sz5 rfl rfl (by repeat constructor) rfl (by rw [(hOF _).len]; omega) (rb_set (hOF _) (hcF _) (Ct.rsetSt (hokF _) 0) (by omega) (by omega))) (fun _ h => nomatch h) ?_
        refine WL.nil ?_
        refine WC.seq ?_
        refine WC.region ?_
        refine WL.y (Yl.assign rfl) rfl ?_
        refine WL.nil ?_
        refine WC.ret ?_
        repeat (with_reducible (first | refine peelT ?_ | refine peelB ?_ | refine peelTX ?_ | refine peelBX ?_ | refine peelBN ?_ | refine peelBO rfl ?_))
        have hz : (kysOf (c.ks.set i Ky.zero) (c.has.set i false)).length = 0 := by have := of_decide_eq_true g49; unfold Ct.kys at this; dsimp only at this; omega
        have e : s2 = 0 := by rw [← hs2, if_pos hz]
        refine ret1 (.inr rfl) Tryz.results9 rfl fun w' h => ⟨(), trivial, rfl, ?_⟩
        rw [List.set_set] at h
        rw [e]
        exact h.sub (by repeat' constructor)
      · refine WC.skip ?_
        refine WC.seq ?_
        refine WC.region ?_
        refine WL.y (Yl.assign rfl) rfl ?_
        refine WL.nil ?_
        refine WC.ret ?_
        repeat (with_reducible (first | refine peelT ?_ | refine peelB ?_ | refine peelTX ?_ | refine peelBX ?_ | refine peelBN ?_ | refine peelBO rfl ?_))
        have hz : ¬ (kysOf (c.ks.set i Ky.zero) (c.has.set i false)).length = 0 := by have := of_decide_eq_false g49; unfold Ct.kys at this; dsimp only at this; omega
        have e : s2 = s1 := by rw [← hs2, if_neg hz]
        rw [e]
        exact ret1 (.inr rfl) Tryz.results9 rfl fun w' h => ⟨(), trivial, rfl, h.sub (by repeat' constructor)⟩
end Go.Proofs.YtcplbkbimpiioaaGreatDoor

namespace Go.Proofs.YtcplbkbimpiioaaGreatDoor
open Go Go.RowKit
theorem be_2' {n : Nat} (h : n < 65536) : be (n : Int) 2 = [(n : Int) / 256, (n : Int) % 256] := by
  simp [be, beK, List.range_succ]
  omega
theorem two_any (n : Nat) (hn : n < 65536) (w : World) (hw : OK w (fpL []) [] w) :
    Fn Tryz.prog 80 [.int .i64 (n : Int)] [] w (fun _ : Option Addr × Nat => True) (fun y => .slice y.1 2 y.2) (fun y => [ownR (.slice y.1 2 y.2) 5 1 2 (ints .u8 (be n 2))]) := by
  rw [be_2' hn]
  refine enterF Tryz.func80 rfl Tryz.ntmps80 rfl hw ?_
  refine WC.seq ?_
  refine WC.region ?_
  refine WL.y (Yl.assign rfl) rfl ?_
  refine WL.nil ?_
  refine WC.seq ?_
  refine WC.region ?_
  refine WL.y (Yl.move rfl) rfl ?_
  refine WL.y (Yl.quo rfl rfl (by omega) (i64_quo (by omega) (by omega))) rfl ?_
  refine WL.y (Yl.conv un3 un5 rfl (show IntKind.u8.wrap (Int.tdiv (n : Int) 256) = (n : Int) / 256 by rw [Int.tdiv_eq_ediv_of_nonneg (by omega), IntKind.wrap_u8]; omega)) rfl ?_
  refine WL.y (Yl.move rfl) rfl ?_
  refine WL.y (Yl.rem rfl rfl (by omega) (i64_rem (by omega))) rfl ?_
  refine WL.y (Yl.conv un3 un5 rfl (show IntKind.u8.wrap (Int.tmod (n : Int) 256) = (n : Int) % 256 by rw [Int.tmod_eq_emod_of_nonneg (by omega), IntKind.wrap_u8]; omega)) rfl ?_
  refine WL.to (To.buildSlice (vs := [.int .u8 ((n : Int) / 256), .int .u8 ((n : Int) % 256)]) un54 zs5 rfl rfl (by simp [Value.cells]) (by decide) (by decide)) rfl ?_
  intro b9
  refine WL.view (fun w h => h.blkOwn (b := b9) (size := 1) (n := 2) (by repeat constructor) (by unfold maxLen; omega) rfl) ?_
  refine WL.y (Yl.assign rfl) rfl ?_
  refine WL.nil ?_
  refine WC.ret ?_
  repeat (with_reducible (first | refine peelT ?_ | refine peelB ?_ | refine peelTX ?_ | refine peelBX ?_ | refine peelBN ?_ | refine peelBO rfl ?_))
  exact ret1 (.inr rfl) Tryz.results80 rfl fun w' h => ⟨(some ⟨b9, 0, none⟩, 2), trivial, rfl, h.sub (by repeat' constructor)⟩
set_option maxRecDepth 100000 in
theorem rnumB_any (b : Nat) (oa : Option Addr) (oc : Nat) (acc : Int) (ha : 0 ≤ acc ∧ acc < 256) (own : List Ky) (ho : own.length ≤ 12) (C : List Ct) (hC : COk C) (a : Nat) (ha2 : a < 256) (w : World) (hw : OK w (fpL ([rbR b acc (.slice oa own.length oc) C, rwK (.slice oa own.length oc) own.length own])) ([rbR b acc (.slice oa own.length oc) C, rwK (.slice oa own.length oc) own.length own]) w) :
    Fn Tryz.prog 13 [.pointer (some ⟨b, 0, none⟩), .int .u8 (a : Int)] ([rbR b acc (.slice oa own.length oc) C, rwK (.slice oa own.length oc) own.length own]) w (fun _ : Unit => True) (fun _ => .tuple #[.string (strOfNums (numT acc own (a : Int) (rkysAt C a))), .bool (!decide ((rkysAt C a).length = 0))]) (fun _ => [rbR b acc (.slice oa own.length oc) C, rwK (.slice oa own.length oc) own.length own]) := by
  have hl4 : (rkysAt C a).length ≤ 4 := by rw [← rkTo_4 hC a]; exact rkTo_le hC a (Nat.le_refl _)
  have hky := fun w h => rkeys_any b acc (.slice oa own.length oc) C hC a w h
  have hmy := fun w h => rmany_any b acc (.slice oa own.length oc) C hC a w h
  obtain ⟨K, hK⟩ : ∃ K, rkysAt C a = K := ⟨_, rfl⟩
  rw [hK] at hl4 hky hmy ⊢
  refine enterF Tryz.func13 rfl Tryz.ntmps13 rfl hw ?_
  refine WC.seq ?_
  refine WC.region ?_
  refine WL.y (Yl.assign rfl) rfl ?_
  refine WL.y (Yl.assign rfl) rfl ?_
  refine WL.nil ?_
  refine WC.seq ?_
  refine WC.seq ?_
  refine WC.region ?_
  refine WL.y (Yl.move rfl) rfl ?_
  refine WL.y (Yl.move rfl) rfl ?_
  refine WL.callC (xs := [.tmp 6, .tmp 7]) (cap := []) rfl rfl en28 (by repeat' constructor) (fun w hw => hmy w hw.left.here) rfl ?_
  rintro ⟨⟩ -
  refine WL.y (Yl.eql rfl rfl) rfl ?_
  refine WL.nil ?_
  refine WC.cond rfl (fun g9 => ?_) (fun g9 => ?_)
  · refine WC.seq ?_
    refine WC.region ?_
    refine WL.y (Yl.assign rfl) rfl ?_
    refine WL.y (Yl.assign rfl) rfl ?_
    refine WL.nil ?_
    refine WC.ret ?_
    repeat (with_reducible (first | refine peelT ?_ | refine peelB ?_ | refine peelTX ?_ | refine peelBX ?_ | refine peelBN ?_ | refine peelBO rfl ?_))
    have h0 : K.length = 0 := by have := of_decide_eq_true g9; omega
    refine ret2 (.inr rfl) Tryz.results13 rfl rfl fun w' h => ⟨(), trivial, by unfold numT; rw [if_pos h0, decide_eq_true h0]; rfl, h.sub (by repeat' constructor)⟩
  · refine WC.skip ?_
    refine WC.seq ?_
    have h0 : ¬ K.length = 0 := by have := of_decide_eq_false g9; omega
    refine WC.drawAny (Hs := [rbR b acc (.slice oa own.length oc) C, rwK (.slice oa own.length oc) own.length own]) mixed (by kernel_rfl) ⟨_, (by repeat' constructor)⟩ ?_
    refine WD.tk 0 rfl (by kernel_rfl) rfl rfl (Yl.move rfl) rfl ?_
    refine WD.tk 1 rfl (by kernel_rfl) rfl rfl (Yl.nilCheck rfl) rfl ?_
    refine WD.tk 2 rfl (by kernel_rfl) rfl rfl (Yl.field fo38_0 rfl) rfl ?_
    refine WD.tk 3 rfl (by kernel_rfl) rfl rfl (Yl.load (T := 38) (cs := rbC acc (.slice oa own.length oc) C) on5 rfl (by repeat constructor) rfl) rfl ?_
    refine WD.tk 4 rfl (by kernel_rfl) rfl rfl (Yl.move rfl) rfl ?_
    refine WD.tk 5 rfl (by kernel_rfl) rfl rfl (Yl.nilCheck rfl) rfl ?_
    refine WD.tk 6 rfl (by kernel_rfl) rfl rfl (Yl.field fo38_1 rfl) rfl ?_
    refine WD.tk 7 rfl (by kernel_rfl) rfl rfl (Yl.load (T := 38) (cs := rbC acc (.slice oa own.length oc) C) on22 rfl (by repeat constructor) rfl) rfl ?_
    refine WD.tk 9 rfl (by kernel_rfl) rfl rfl (Yl.move rfl) rfl ?_
    refine WD.tk 10 rfl (by kernel_rfl) rfl rfl (Yl.move rfl) rfl ?_
    refine WD.tk 11 rfl (by kernel_rfl) rfl rfl (Yl.move rfl) rfl ?_
    refine WD.one 8 (by kernel_rfl) ?_
    refine WO.callC (xs := [.tmp 13, .tmp 17]) (cap := []) rfl .no rfl rfl en33 (by repeat' constructor) (fun w hw => rdig_any acc ha (.slice oa own.length oc) own (by omega) w (hw.src (A := []) (r := rwK (.slice oa own.length oc) own.length own) RdOf.own (by repeat constructor)) hw.left.here) rfl (fun _ => ⟨_, (by repeat' constructor)⟩) ?_
    rintro ⟨⟩ -
    refine WD.one 12 (by kernel_rfl) ?_
    refine WO.callC (xs := [.tmp 20, .tmp 21]) (cap := []) rfl .no rfl rfl en34 (by repeat' constructor) (fun w hw => hky w hw.left.here) rfl (fun _ => ⟨_, (by repeat' constructor)⟩) ?_
    rintro ⟨a22, c22⟩ -
    refine WD.one 13 (by kernel_rfl) ?_
    refine WO.callC (xs := [.tmp 19, .tmp 22]) (cap := []) rfl .no rfl rfl en33 (by repeat' constructor) (fun w hw => rdig_any (a : Int) (by omega) (.slice a22 K.length c22) K (by omega) w (hw.src (A := []) (r := rwK (.slice a22 K.length c22) K.length K) RdOf.own (by repeat constructor)) hw.left.here) rfl (fun _ => ⟨_, (by repeat' constructor)⟩) ?_
    rintro ⟨⟩ -
    refine WD.one 14 (by kernel_rfl) ?_
    refine WO.callC (xs := [.tmp 18, .tmp 23]) (cap := []) rfl .no rfl rfl en32 (by repeat' constructor) (fun w hw => rnum_any (digF acc own) (digF (a : Int) K) (digF_dig _ _).bytes (digF_dig _ _).bytes (by rw [digF_len, digF_len]; omega) w hw.left.here) rfl (fun _ => ⟨_, (by repeat' constructor)⟩) ?_
    rintro ⟨⟩ -
    refine WD.tk 15 rfl (by kernel_rfl) rfl rfl (Yl.assign rfl) rfl ?_
    refine WD.tk 16 rfl (by kernel_rfl) rfl rfl (Yl.assign rfl) rfl ?_
    refine WD.done (by kernel_rfl) ?_
    refine WC.ret ?_
    repeat (with_reducible (first | refine peelT ?_ | refine peelB ?_ | refine peelTX ?_ | refine peelBX ?_ | refine peelBN ?_ | refine peelBO rfl ?_))
    refine ret2 (.inr rfl) Tryz.results13 rfl rfl fun w' h => ⟨(), trivial, by unfold numT; rw [if_neg h0, decide_eq_false h0]; rfl, h.sub (by repeat' constructor)⟩
theorem bare_next {ts : List Int} {i : Nat} (hi : i < ts.length) : bareF (ts.take (i + 1)) = bareF (ts.take i) ++ (if ts.getD i 0 ≠ 32 then [ts.getD i 0] else []) := by
  rw [take_getD hi]
  unfold bareF
  rw [List.filter_append]
  congr 1
  by_cases h : ts.getD i 0 ≠ 32
  · rw [if_pos h]; simp only [List.filter_cons, List.filter_nil, decide_eq_true h, if_true]
  · rw [if_neg h]; simp only [List.filter_cons, List.filter_nil, decide_eq_false h, Bool.false_eq_true, if_false]
theorem bare_le (ts : List Int) (i : Nat) : (bareF (ts.take i)).length ≤ ts.length := by
  unfold bareF
  have h1 := List.length_filter_le (fun x => decide (x ≠ 32)) (ts.take i)
  have h2 := List.length_take_le i ts
  have h3 := List.length_take_le' i ts
  omega
set_option maxRecDepth 100000 in
theorem rverify_any (b : Nat) (oa : Option Addr) (oc : Nat) (acc : Int) (ha : 0 ≤ acc ∧ acc < 256) (own : List Ky) (ho : own.length ≤ 12) (C : List Ct) (hC : COk C) (a : Nat) (ha2 : a < 256) (ts : List Int) (hB : Bytes ts) (hl : ts.length ≤ 1000000) (w : World) (hw : OK w (fpL ([rbR b acc (.slice oa own.length oc) C, rwK (.slice oa own.length oc) own.length own])) ([rbR b acc (.slice oa own.length oc) C, rwK (.slice oa own.length oc) own.length own]) w) :
    Fn Tryz.prog 11 [.pointer (some ⟨b, 0, none⟩), .int .u8 (a : Int), .string (strOfNums ts)] ([rbR b acc (.slice oa own.length oc) C, rwK (.slice oa own.length oc) own.length own]) w (fun _ : Unit => True) (fun _ => .int .i64 (verE (rkysAt C a) ts (numT acc own (a : Int) (rkysAt C a)))) (fun _ => [rbR b acc (.slice oa own.length oc) (rverC C a ts (numT acc own (a : Int) (rkysAt C a))), rwK (.slice oa own.length oc) own.length own]) := by
  have hby := numT_by acc own (a : Int) (rkysAt C a)
  have hrn := fun w h => rnumB_any b oa oc acc ha own ho C hC a ha2 w h
  obtain ⟨W, hW⟩ : ∃ W, numT acc own (a : Int) (rkysAt C a) = W := ⟨_, rfl⟩
  rw [hW] at hby hrn ⊢
  unfold verE
  refine enterF Tryz.func11 rfl Tryz.ntmps11 rfl hw ?_
  refine WC.seq ?_
  refine WC.region ?_
  refine WL.y (Yl.assign rfl) rfl ?_
  refine WL.nil ?_
  refine WC.seq ?_
  refine WC.region ?_
  refine WL.y (Yl.move rfl) rfl ?_
  refine WL.y (Yl.move rfl) rfl ?_
  refine WL.callC (xs := [.tmp 12, .tmp 13]) (cap := []) rfl rfl en13 (by repeat' constructor) (fun w hw => hrn w hw.left.here) rfl ?_
  rintro ⟨⟩ -
  refine WL.y (Yl.move rfl) rfl ?_
  refine WL.y (Yl.extract rfl rfl) rfl ?_
  refine WL.y (Yl.extract rfl rfl) rfl ?_
  refine WL.y (Yl.assign rfl) rfl ?_
  refine WL.y (Yl.assign rfl) rfl ?_
  refine WL.nil ?_
  refine WC.seq ?_
  refine WC.seq ?_
  refine WC.region ?_
  refine WL.y (Yl.move rfl) rfl ?_
  refine WL.y (Yl.not rfl) rfl ?_
  refine WL.nil ?_
  refine WC.cond rfl (fun g18 => ?_) (fun g18 => ?_)
  · refine WC.seq ?_
    refine WC.region ?_
    refine WL.y (Yl.assign rfl) rfl ?_
    refine WL.nil ?_
    refine WC.ret ?_
    repeat (with_reducible (first | refine peelT ?_ | refine peelB ?_ | refine peelTX ?_ | refine peelBX ?_ | refine peelBN ?_ | refine peelBO rfl ?_))
    have h0 : (rkysAt C a).length = 0 := by simpa using g18
    have e : rverC C a ts W = C := by
      unfold rverC
      cases hc : C[a]? with
      | none => rfl
      | some c => rw [rkysAt_of hc] at h0; dsimp only; rw [if_pos h0]
    rw [e, if_pos h0]
    exact ret1 (.inr rfl) Tryz.results11 rfl fun w' h => ⟨(), trivial, rfl, h.sub (by repeat' constructor)⟩
  · refine WC.skip ?_
    refine WC.seq ?_
    have h0 : ¬ (rkysAt C a).length = 0 := by simpa using g18
    have h8 : a < 8 := by
      refine Classical.byContradiction fun hn => h0 ?_
      rw [rkysAt_no (List.getElem?_eq_none_iff.2 (by have := hC.1; omega))]; rfl
    obtain ⟨c, hc⟩ : ∃ c, C[a]? = some c := ⟨_, List.getElem?_eq_getElem (by rw [hC.1]; exact h8)⟩
    have hrv : rverC C a ts W = if bareF ts = W then C.set a { c with st := 2 } else C := by
      unfold rverC
      rw [hc]
      rw [rkysAt_of hc] at h0
      dsimp only
      rw [if_neg h0]
    rw [hrv, if_neg h0]
    refine WC.region ?_
    refine WL.y (Yl.assign rfl) rfl ?_
    refine WL.nil ?_
    refine WC.seq ?_
    refine WC.seq ?_
    refine WC.region ?_
    refine WL.y (Yl.assign rfl) rfl ?_
    refine WL.nil ?_
    refine WC.block ?_
    refine WC.view (fun w h => h.addNil 5 1) ?_
    refine WC.loop (α := Nat × (Option Addr × Nat)) (fun p => [(0, .pointer (some ⟨b, 0, none⟩)), (1, .int .u8 (a : Int)), (2, .string (strOfNums ts)), (7, .string (strOfNums W)), (9, .slice p.2.1 (bareF (ts.take p.1)).length p.2.2), (10, .int .i64 (p.1 : Int))]) (fun p => [ownR (.slice p.2.1 (bareF (ts.take p.1)).length p.2.2) 5 1 (bareF (ts.take p.1)).length (ints .u8 (bareF (ts.take p.1))), rbR b acc (.slice oa own.length oc) C, rwK (.slice oa own.length oc) own.length own]) (fun p => p.1 ≤ ts.length) (fun p => ts.length - p.1) (0, none, 0) (Nat.zero_le _) ⟨(by repeat' constructor), _, (by repeat' constructor)⟩ ?_
    rintro ⟨i, a9, c9⟩ hi
    dsimp only at hi ⊢
    have hble := bare_le ts i
    refine WC.seq ?_
    refine WC.seq ?_
    refine WC.region ?_
    refine WL.y (Yl.move rfl) rfl ?_
    refine WL.y (Yl.move rfl) rfl ?_
    refine WL.y (Yl.lenT un9 rfl) rfl ?_
    refine WL.y (Yl.lss rfl rfl) rfl ?_
    refine WL.nil ?_
    refine WC.condD rfl (fun g22 => ?_) (fun g22 => ?_)
    · refine WC.skip ?_
      refine WC.seq ?_
      refine WC.block ?_
      refine WC.seq ?_
      have hil : i < ts.length := by omega
      have hnx := bare_next hil
      have hble2 := bare_le ts (i + 1)
      refine WC.region ?_
      refine WL.y (Yl.move rfl) rfl ?_
      refine WL.y (Yl.move rfl) rfl ?_
      refine WL.y (Yl.idxStr un9 rfl rfl (getD_of hil) hB) rfl ?_
      refine WL.y (Yl.neq rfl rfl) rfl ?_
      refine WL.nil ?_
      refine WC.cond rfl (fun g28 => ?_) (fun g28 => ?_)
      · refine WC.region ?_
        refine WL.y (Yl.move rfl) rfl ?_
        refine WL.y (Yl.move rfl) rfl ?_
        refine WL.y (Yl.move rfl) rfl ?_
        refine WL.y (Yl.idxStr un9 rfl rfl (getD_of hil) hB) rfl ?_
        refine WL.to (To.buildSlice (vs := [.int .u8 (ts.getD i 0)]) un54 zs5 rfl rfl (by simp [Value.cells]) (by decide) (by decide)) rfl ?_
        intro b33
        have hne : ts.getD i 0 ≠ 32 := by simpa using g28
        rw [if_pos hne] at hnx
        refine WL.to (To.append sl54 rfl rfl (by repeat constructor) (Reads.of (RdOf.blk (cs := [.int .u8 (ts.getD i 0)]) (cs' := ints .u8 [ts.getD i 0]) (Nat.le_refl _) (by unfold maxLen; omega) (by simp) rfl) (by repeat constructor)) (ints_one _ _) (show (bareF (ts.take i)).length + 1 = (bareF (ts.take (i + 1))).length by rw [hnx]; simp) (show ints .u8 (bareF (ts.take i)) ++ ints .u8 [ts.getD i 0] = ints .u8 (bareF (ts.take (i + 1))) by rw [hnx, ints_append]) (by unfold maxLen; omega) (by omega)) rfl ?_
        rintro ⟨⟨ao34, c34⟩, hc34⟩
        dsimp only at hc34 ⊢
        refine WL.y (Yl.assign rfl) rfl ?_
        refine WL.nil ?_
        refine WC.region ?_
        refine WL.y (Yl.move rfl) rfl ?_
        refine WL.y (Yl.add rfl rfl (IntWalk.i64_in _ (by omega))) rfl ?_
        refine WL.y (Yl.assign rfl) rfl ?_
        refine WL.nil ?_
        exact ⟨rfl, (i + 1, ao34, c34), by dsimp only; omega, by dsimp only; omega, (by repeat' constructor), _, (by repeat' constructor)⟩
      · refine WC.skip ?_
        refine WC.region ?_
        refine WL.y (Yl.move rfl) rfl ?_
        refine WL.y (Yl.add rfl rfl (IntWalk.i64_in _ (by omega))) rfl ?_
        refine WL.y (Yl.assign rfl) rfl ?_
        refine WL.nil ?_
        have e : bareF (ts.take (i + 1)) = bareF (ts.take i) := by
          have hne : ¬ ts.getD i 0 ≠ 32 := by simpa using g28
          rw [if_neg hne] at hnx
          rw [hnx, List.append_nil]
        rw [← e]
        exact ⟨rfl, (i + 1, a9, c9), by dsimp only; omega, by dsimp only; omega, (by repeat' constructor), _, (by repeat' constructor)⟩
    · refine WC.exit ?_
      refine WC.seq ?_
      refine WC.seq ?_
      have hil : i = ts.length := by omega
      subst hil
      rw [List.take_length]
      refine WC.region ?_
      refine WL.y (Yl.move rfl) rfl ?_
      refine WL.y (Yl.toStr (xs := bareF ts) un54 un5 un9 rfl (Reads.of (r := ownR (.slice a9 (bareF ts).length c9) 5 1 (bareF ts).length (ints .u8 (bareF ts))) RdOf.own (by repeat constructor))) rfl ?_
      refine WL.y (Yl.move rfl) rfl ?_
      refine WL.y (Yl.sNeT (bareF_by hB) hby rfl rfl) rfl ?_
      refine WL.nil ?_
      refine WC.cond rfl (fun g38 => ?_) (fun g38 => ?_)
      · refine WC.seq ?_
        refine WC.region ?_
        refine WL.y (Yl.assign rfl) rfl ?_
        refine WL.nil ?_
        refine WC.ret ?_
        repeat (with_reducible (first | refine peelT ?_ | refine peelB ?_ | refine peelTX ?_ | refine peelBX ?_ | refine peelBN ?_ | refine peelBO rfl ?_))
        have h1 : ¬ bareF ts = W := by simpa using g38
        rw [if_neg h1, if_neg h1]
        exact ret1 (.inr rfl) Tryz.results11 rfl fun w' h => ⟨(), trivial, rfl, h.sub (by repeat' constructor)⟩
      · refine WC.skip ?_
        refine WC.seq ?_
        have h1 : bareF ts = W := by simpa using g38
        have hok := hC.get hc
        rw [if_pos h1, if_pos h1]
        refine WC.region ?_
        refine WL.y (Yl.move rfl) rfl ?_
        refine WL.y (Yl.move rfl) rfl ?_
        refine WL.y (Yl.nilCheck rfl) rfl ?_
        refine WL.y (Yl.field fo38_2 rfl) rfl ?_
        refine WL.y (Yl.indexA un36 sz35 rfl rfl rfl (by omega)) rfl ?_
        refine WL.y (Yl.field fo35_2 rfl) rfl ?_
        refine WL.sto (Sto.oneP (T := 38) (cs := rbC acc (.slice oa own.length oc) C) sz5 rfl rfl (by repeat constructor) rfl (by rw [hC.len]; omega) (rb_set hC hc (Ct.rsetSt hok 2) (by omega) (by omega))) (fun _ h => nomatch h) ?_
        refine WL.nil ?_
        refine WC.seq ?_
        refine WC.region ?_
        refine WL.y (Yl.assign rfl) rfl ?_
        refine WL.nil ?_
        refine WC.ret ?_
        repeat (with_reducible (first | refine peelT ?_ | refine peelB ?_ | refine peelTX ?_ | refine peelBX ?_ | refine peelBN ?_ | refine peelBO rfl ?_))
        exact ret1 (.inr rfl) Tryz.results11 rfl fun w' h => ⟨(), trivial, rfl, h.sub (by repeat' constructor)⟩
set_option maxRecDepth 100000 in
theorem raccept_any (b : Nat) (acc : Int) (ov : Value) (C : List Ct) (hC : COk C) (a : Nat) (w : World) (hw : OK w (fpL [rbR b acc ov C]) [rbR b acc ov C] w) :
    Fn Tryz.prog 16 [.pointer (some ⟨b, 0, none⟩), .int .u8 (a : Int)] [rbR b acc ov C] w (fun _ : Unit => True) (fun _ => .int .i64 (if rstAt C a = 3 then 0 else 6)) (fun _ => [rbR b acc ov (raccC C a)]) := by
  refine enterF Tryz.func16 rfl Tryz.ntmps16 rfl hw ?_
  refine WC.seq ?_
  refine WC.region ?_
  refine WL.y (Yl.assign rfl) rfl ?_
  refine WL.nil ?_
  refine WC.seq ?_
  refine WC.seq ?_
  refine WC.region ?_
  refine WL.y (Yl.move rfl) rfl ?_
  refine WL.y (Yl.move rfl) rfl ?_
  refine WL.callC (xs := [.tmp 5, .tmp 6]) (cap := []) rfl rfl en37 (by repeat' constructor) (fun w hw => rstate_any b acc ov C hC a w hw.left.here) rfl ?_
  rintro ⟨⟩ -
  refine WL.y (Yl.neq rfl rfl) rfl ?_
  refine WL.nil ?_
  refine WC.cond rfl (fun g8 => ?_) (fun g8 => ?_)
  · refine WC.seq ?_
    refine WC.region ?_
    refine WL.y (Yl.assign rfl) rfl ?_
    refine WL.nil ?_
    refine WC.ret ?_
    repeat (with_reducible (first | refine peelT ?_ | refine peelB ?_ | refine peelTX ?_ | refine peelBX ?_ | refine peelBN ?_ | refine peelBO rfl ?_))
    have h3 : ¬ rstAt C a = 3 := by simpa using g8
    have e : raccC C a = C := by
      unfold raccC
      cases hc : C[a]? with
      | none => rfl
      | some c => rw [rstAt_of hc] at h3; dsimp only; rw [if_neg h3]
    rw [e, if_neg h3]
    exact ret1 (.inr rfl) Tryz.results16 rfl fun w' h => ⟨(), trivial, rfl, h.sub (by repeat' constructor)⟩
  · refine WC.skip ?_
    refine WC.seq ?_
    have h3 : rstAt C a = 3 := by simpa using g8
    obtain ⟨c, hc⟩ : ∃ c, C[a]? = some c := by
      cases hc : C[a]? with
      | none => rw [rstAt_no hc] at h3; cases h3
      | some c => exact ⟨c, rfl⟩
    have hok := hC.get hc
    have h8 : a < 8 := by have := (List.getElem?_eq_some_iff.1 hc).1; have := hC.1; omega
    have e : raccC C a = C.set a { c with st := 1 } := by
      unfold raccC
      rw [rstAt_of hc] at h3
      rw [hc]
      dsimp only
      rw [if_pos h3]
    rw [e, if_pos h3]
    refine WC.region ?_
    refine WL.y (Yl.move rfl) rfl ?_
    refine WL.y (Yl.move rfl) rfl ?_
    refine WL.y (Yl.nilCheck rfl) rfl ?_
    refine WL.y (Yl.field fo38_2 rfl) rfl ?_
    refine WL.y (Yl.indexA un36 sz35 rfl rfl rfl (by omega)) rfl ?_
    refine WL.y (Yl.field fo35_2 rfl) rfl ?_
    refine WL.sto (Sto.oneP (T := 38) (cs := rbC acc ov C) sz5 rfl rfl (by repeat constructor) rfl (by rw [hC.len]; omega) (rb_set hC hc (Ct.rsetSt hok 1) (by omega) (by omega))) (fun _ h => nomatch h) ?_
    refine WL.nil ?_
    refine WC.seq ?_
    refine WC.region ?_
    refine WL.y (Yl.assign rfl) rfl ?_
    refine WL.nil ?_
    refine WC.ret ?_
    repeat (with_reducible (first | refine peelT ?_ | refine peelB ?_ | refine peelTX ?_ | refine peelBX ?_ | refine peelBN ?_ | refine peelBO rfl ?_))
    exact ret1 (.inr rfl) Tryz.results16 rfl fun w' h => ⟨(), trivial, rfl, h.sub (by repeat' constructor)⟩
end Go.Proofs.YtcplbkbimpiioaaGreatDoor

namespace Go.Proofs.YtcplbkbimpiioaaGreatDoor
open Go Go.RowKit
theorem ints_cat {xs ys zs : List Int} (h : xs ++ ys = zs) : ints .u8 xs ++ ints .u8 ys = ints .u8 zs := by rw [← h, ints_append]
theorem ronAt_le {C : List Ct} (hC : COk C) (a : Nat) : (∀ o ∈ ronAt C a, o.l.length ≤ 4) ∧ (ronAt C a).length ≤ 1 := by
  unfold ronAt
  cases h : C[a]? with
  | none => exact ⟨(fun _ h => nomatch h), Nat.zero_le _⟩
  | some c =>
    dsimp only
    split
    · exact ⟨(fun _ h => nomatch h), Nat.zero_le _⟩
    · refine ⟨fun o ho => ?_, Nat.le_refl _⟩
      rw [List.mem_singleton] at ho
      subst ho
      exact Ct.devs_le (hC.get h)
theorem rosTo_le {C : List Ct} (hC : COk C) : ∀ n, (∀ o ∈ rosTo C n, o.l.length ≤ 4) ∧ (rosTo C n).length ≤ n
  | 0 => ⟨(fun _ h => nomatch h), Nat.le_refl _⟩
  | n + 1 => by
    obtain ⟨h1, h2⟩ := rosTo_le hC n
    obtain ⟨h3, h4⟩ := ronAt_le hC n
    rw [rosTo_next]
    refine ⟨fun o ho => ?_, by rw [List.length_append]; omega⟩
    rcases List.mem_append.1 ho with ho | ho
    · exact h1 o ho
    · exact h3 o ho
theorem ros_bytes {C : List Ct} (hC : COk C) {n : Nat} (hn : n ≤ 8) : (onsB (rosTo C n)).length ≤ 1088 := by
  obtain ⟨h1, h2⟩ := rosTo_le hC n
  have := onsB_le h1
  omega
set_option maxHeartbeats 1600000 in
set_option maxRecDepth 100000 in
theorem rbytes_any (b : Nat) (oa : Option Addr) (oc : Nat) (acc : Int) (own : List Ky) (ho : own.length ≤ 12) (C : List Ct) (hC : COk C) (w : World) (hw : OK w (fpL ([rbR b acc (.slice oa own.length oc) C, rwK (.slice oa own.length oc) own.length own])) ([rbR b acc (.slice oa own.length oc) C, rwK (.slice oa own.length oc) own.length own]) w) :
    Fn Tryz.prog 57 [.pointer (some ⟨b, 0, none⟩)] ([rbR b acc (.slice oa own.length oc) C, rwK (.slice oa own.length oc) own.length own]) w (fun _ : Option Addr × Nat => True) (fun y => .slice y.1 (bkB acc (setK own) (rosTo C 8)).length y.2) (fun y => [ownR (.slice y.1 (bkB acc (setK own) (rosTo C 8)).length y.2) 5 1 (bkB acc (setK own) (rosTo C 8)).length (ints .u8 (bkB acc (setK own) (rosTo C 8))), rbR b acc (.slice oa own.length oc) C, rwK (.slice oa own.length oc) own.length own]) := by
  have hSl := setK_len own
  have hset := fun w h1 h2 => rset_any (.slice oa own.length oc) own (by omega) w h1 h2
  have hbk := bkB_len acc (setK own) (rosTo C 8)
  have hro8 := rosTo_le hC 8
  obtain ⟨S, hS⟩ : ∃ S, setK own = S := ⟨_, rfl⟩
  rw [hS] at hSl hset hbk ⊢
  refine enterF Tryz.func57 rfl Tryz.ntmps57 rfl hw ?_
  refine WC.seq ?_
  refine WC.region ?_
  refine WL.y (Yl.assign rfl) rfl ?_
  refine WL.nil ?_
  refine WC.seq ?_
  refine WC.region ?_
  refine WL.y (Yl.move rfl) rfl ?_
  refine WL.y (Yl.nilCheck rfl) rfl ?_
  refine WL.y (Yl.field fo38_1 rfl) rfl ?_
  refine WL.y (Yl.load (T := 38) (cs := rbC acc (.slice oa own.length oc) C) on22 rfl (by repeat constructor) rfl) rfl ?_
  refine WL.callC (xs := [.tmp 14]) (cap := []) rfl rfl en67 (by repeat' constructor) (fun w hw => hset w (hw.src (A := []) (r := rwK (.slice oa own.length oc) own.length own) RdOf.own (by repeat constructor)) hw.left.here) rfl ?_
  rintro ⟨aS, cS⟩ -
  refine WL.y (Yl.assign rfl) rfl ?_
  refine WL.nil ?_
  refine WC.midX (α := Option Addr × Nat) (fun y => [(0, .pointer (some ⟨b, 0, none⟩)), (3, .slice aS S.length cS), (4, .slice y.1 ([acc] ++ be S.length 2 ++ allK (S.take 0)).length y.2)]) (fun y => [rwK (.slice aS S.length cS) S.length S, ownR (.slice y.1 ([acc] ++ be S.length 2 ++ allK (S.take 0)).length y.2) 5 1 ([acc] ++ be S.length 2 ++ allK (S.take 0)).length (ints .u8 ([acc] ++ be S.length 2 ++ allK (S.take 0))), rbR b acc (.slice oa own.length oc) C, rwK (.slice oa own.length oc) own.length own]) (fun _ => True) ?_ ?_
  · refine WC.drawAny (Hs := [rbR b acc (.slice oa own.length oc) C, rwK (.slice oa own.length oc) own.length own, rwK (.slice aS S.length cS) S.length S]) mixed (by kernel_rfl) ⟨_, (by repeat' constructor)⟩ ?_
    refine WD.tk 0 rfl (by kernel_rfl) rfl rfl (Yl.move rfl) rfl ?_
    refine WD.tk 1 rfl (by kernel_rfl) rfl rfl (Yl.nilCheck rfl) rfl ?_
    refine WD.tk 2 rfl (by kernel_rfl) rfl rfl (Yl.field fo38_0 rfl) rfl ?_
    refine WD.tk 3 rfl (by kernel_rfl) rfl rfl (Yl.load (T := 38) (cs := rbC acc (.slice oa own.length oc) C) on5 rfl (by repeat constructor) rfl) rfl ?_
    refine WD.tk 5 rfl (by kernel_rfl) rfl rfl (Yl.move rfl) rfl ?_
    refine WD.tk 6 rfl (by kernel_rfl) rfl rfl (Yl.len un22 rfl) rfl ?_
    refine WD.two 4 7 (by kernel_rfl) ?_ ?_
    · refine WO.to rfl rfl .no (To.buildSlice (vs := [.int .u8 acc]) un54 zs5 rfl rfl (by simp [Value.cells]) (by decide) (by decide)) rfl (fun _ => ⟨_, (by repeat' constructor)⟩) ?_
      intro b20
      refine WD.view (fun w h => h.blkOwn (b := b20) (size := 1) (n := 1) (by repeat constructor) (by unfold maxLen; omega) rfl) ?_
      refine WD.one 7 (by kernel_rfl) ?_
      refine WO.callC (xs := [.tmp 22]) (cap := []) rfl .no rfl rfl en80 (by repeat' constructor) (fun w hw => two_any S.length (by omega) w hw.left.here) rfl (fun _ => ⟨_, (by repeat' constructor)⟩) ?_
      rintro ⟨a23, c23⟩ -
      refine WD.one 8 (by kernel_rfl) ?_
      refine WO.to rfl rfl .no (To.append sl54 rfl rfl (by repeat constructor) (Reads.of (r := ownR (.slice a23 2 c23) 5 1 2 (ints .u8 (be S.length 2))) RdOf.own (by repeat constructor)) (ints_one _ _) (show 1 + 2 = ([acc] ++ be S.length 2 ++ allK (S.take 0)).length by simp [be_len, allK]) (ints_cat (xs := [acc]) (ys := be S.length 2) (zs := [acc] ++ be S.length 2 ++ allK (S.take 0)) (by simp [allK])) (by simp [be_len, allK]; unfold maxLen; omega) (by simp [be_len, allK])) rfl (fun _ => ⟨_, (by repeat' constructor)⟩) ?_
      rintro ⟨⟨ao24, c24⟩, hc24⟩
      dsimp only at hc24 ⊢
      refine WD.tk 9 rfl (by kernel_rfl) rfl rfl (Yl.assign rfl) rfl ?_
      refine WD.done (by kernel_rfl) ?_
      exact ⟨rfl, (ao24, c24), trivial, (by repeat' constructor), _, (by repeat' constructor)⟩
    · refine WO.callC (xs := [.tmp 22]) (cap := []) rfl .no rfl rfl en80 (by repeat' constructor) (fun w hw => two_any S.length (by omega) w hw.left.here) rfl (fun _ => ⟨_, (by repeat' constructor)⟩) ?_
      rintro ⟨a23, c23⟩ -
      refine WD.one 4 (by kernel_rfl) ?_
      refine WO.to rfl rfl .no (To.buildSlice (vs := [.int .u8 acc]) un54 zs5 rfl rfl (by simp [Value.cells]) (by decide) (by decide)) rfl (fun _ => ⟨_, (by repeat' constructor)⟩) ?_
      intro b20
      refine WD.view (fun w h => h.blkOwn (b := b20) (size := 1) (n := 1) (by repeat constructor) (by unfold maxLen; omega) rfl) ?_
      refine WD.one 8 (by kernel_rfl) ?_
      refine WO.to rfl rfl .no (To.append sl54 rfl rfl (by repeat constructor) (Reads.of (r := ownR (.slice a23 2 c23) 5 1 2 (ints .u8 (be S.length 2))) RdOf.own (by repeat constructor)) (ints_one _ _) (show 1 + 2 = ([acc] ++ be S.length 2 ++ allK (S.take 0)).length by simp [be_len, allK]) (ints_cat (xs := [acc]) (ys := be S.length 2) (zs := [acc] ++ be S.length 2 ++ allK (S.take 0)) (by simp [allK])) (by simp [be_len, allK]; unfold maxLen; omega) (by simp [be_len, allK])) rfl (fun _ => ⟨_, (by repeat' constructor)⟩) ?_
      rintro ⟨⟨ao24, c24⟩, hc24⟩
      dsimp only at hc24 ⊢
      refine WD.tk 9 rfl (by kernel_rfl) rfl rfl (Yl.assign rfl) rfl ?_
      refine WD.done (by kernel_rfl) ?_
      exact ⟨rfl, (ao24, c24), trivial, (by repeat' constructor), _, (by repeat' constructor)⟩
  · rintro ⟨ao24, c24⟩ -
    refine WC.seq ?_
    refine WC.seq ?_
    refine WC.region ?_
    refine WL.y (Yl.assign rfl) rfl ?_
    refine WL.nil ?_
    refine WC.block ?_
    refine WC.loop (α := Nat × (Option Addr × Nat)) (fun p => [(0, .pointer (some ⟨b, 0, none⟩)), (3, .slice aS S.length cS), (4, .slice p.2.1 ([acc] ++ be S.length 2 ++ allK (S.take p.1)).length p.2.2), (5, .int .i64 (p.1 : Int))]) (fun p => [rwK (.slice aS S.length cS) S.length S, ownR (.slice p.2.1 ([acc] ++ be S.length 2 ++ allK (S.take p.1)).length p.2.2) 5 1 ([acc] ++ be S.length 2 ++ allK (S.take p.1)).length (ints .u8 ([acc] ++ be S.length 2 ++ allK (S.take p.1))), rbR b acc (.slice oa own.length oc) C, rwK (.slice oa own.length oc) own.length own]) (fun p => p.1 ≤ S.length) (fun p => S.length - p.1) (0, ao24, c24) (Nat.zero_le _) ⟨(by repeat' constructor), _, (by repeat' constructor)⟩ ?_
    rintro ⟨i, a4, c4⟩ hi
    dsimp only at hi ⊢
    refine WC.seq ?_
    refine WC.seq ?_
    refine WC.region ?_
    refine WL.y (Yl.move rfl) rfl ?_
    refine WL.y (Yl.move rfl) rfl ?_
    refine WL.y (Yl.len un22 rfl) rfl ?_
    refine WL.y (Yl.lss rfl rfl) rfl ?_
    refine WL.nil ?_
    refine WC.condD rfl (fun g28 => ?_) (fun g28 => ?_)
    · refine WC.skip ?_
      refine WC.seq ?_
      refine WC.block ?_
      have hil : i < S.length := by omega
      obtain ⟨k, hk⟩ : ∃ k, S[i]? = some k := ⟨_, List.getElem?_eq_getElem hil⟩
      have hnx := allK_next hk
      have hal := allK_len (S.take i)
      rw [List.length_take, Nat.min_eq_left (by omega)] at hal
      refine WC.region ?_
      refine WL.y (Yl.move rfl) rfl ?_
      refine WL.y (Yl.move rfl) rfl ?_
      refine WL.y (Yl.move rfl) rfl ?_
      refine WL.y (Yl.index un22 sz32 rfl rfl (Reads.of (r := rwK (.slice aS S.length cS) S.length S) RdOf.own (by repeat constructor)) rfl (by omega)) rfl ?_
      refine WL.y (Yl.loadV (j := i) (u := k) vtK (fun _ _ => trivial) rfl (Reads.of (r := rwK (.slice aS S.length cS) S.length S) RdOf.own (by repeat constructor)) rfl hk) rfl ?_
      refine WL.callC (xs := [.tmp 35]) (cap := []) rfl rfl en68 (by repeat' constructor) (fun w hw => rkey_any k w hw.left.here) rfl ?_
      rintro ⟨a36, c36⟩ -
      refine WL.to (To.append sl54 rfl rfl (by repeat constructor) (Reads.of (r := ownR (.slice a36 32 c36) 5 1 32 (ints .u8 k.b)) RdOf.own (by repeat constructor)) (ints_one _ _) (show ([acc] ++ be S.length 2 ++ allK (S.take i)).length + 32 = ([acc] ++ be S.length 2 ++ allK (S.take (i + 1))).length by rw [hnx]; simp [k.len]; omega) (ints_cat (xs := [acc] ++ be S.length 2 ++ allK (S.take i)) (ys := k.b) (zs := [acc] ++ be S.length 2 ++ allK (S.take (i + 1))) (by rw [hnx]; simp)) (by rw [hnx]; simp [be_len, k.len, hal]; unfold maxLen; omega) (by rw [hnx]; simp [be_len, k.len, hal]; omega)) rfl ?_
      rintro ⟨⟨ao37, c37⟩, hc37⟩
      dsimp only at hc37 ⊢
      refine WL.y (Yl.assign rfl) rfl ?_
      refine WL.nil ?_
      refine WC.region ?_
      refine WL.y (Yl.move rfl) rfl ?_
      refine WL.y (Yl.add rfl rfl (IntWalk.i64_in _ (by omega))) rfl ?_
      refine WL.y (Yl.assign rfl) rfl ?_
      refine WL.nil ?_
      exact ⟨rfl, (i + 1, ao37, c37), by dsimp only; omega, by dsimp only; omega, (by repeat' constructor), _, (by repeat' constructor)⟩
    · refine WC.exit ?_
      refine WC.seq ?_
      have hil : i = S.length := by omega
      subst hil
      rw [List.take_length]
      have hal := allK_len S
      obtain ⟨OUT, hOUT⟩ : ∃ OUT, [acc] ++ be S.length 2 ++ allK S = OUT := ⟨_, rfl⟩
      have hOl : OUT.length ≤ 500 := by rw [← hOUT]; simp [be_len, hal]; omega
      rw [hOUT]
      refine WC.region ?_
      refine WL.y (Yl.assign rfl) rfl ?_
      refine WL.nil ?_
      refine WC.seq ?_
      refine WC.region ?_
      refine WL.y (Yl.assign rfl) rfl ?_
      refine WL.nil ?_
      refine WC.seq ?_
      refine WC.seq ?_
      refine WC.region ?_
      refine WL.y (Yl.assign rfl) rfl ?_
      refine WL.nil ?_
      refine WC.block ?_
      refine WC.view (fun w h => h.addNil 5 1) ?_
      refine WC.loop (α := Nat × (Option Addr × Nat)) (fun p => [(0, .pointer (some ⟨b, 0, none⟩)), (4, .slice a4 OUT.length c4), (6, .slice p.2.1 (onsB (rosTo C p.1)).length p.2.2), (7, .int .i64 ((rosTo C p.1).length : Int)), (8, .int .i64 (p.1 : Int))]) (fun p => [ownR (.slice p.2.1 (onsB (rosTo C p.1)).length p.2.2) 5 1 (onsB (rosTo C p.1)).length (ints .u8 (onsB (rosTo C p.1))), ownR (.slice a4 OUT.length c4) 5 1 OUT.length (ints .u8 OUT), rbR b acc (.slice oa own.length oc) C, rwK (.slice oa own.length oc) own.length own]) (fun p => p.1 ≤ 8) (fun p => 8 - p.1) (0, none, 0) (Nat.zero_le _) ⟨(by repeat' constructor), _, (by repeat' constructor)⟩ ?_
      rintro ⟨a, a6, c6⟩ ha8
      dsimp only at ha8 ⊢
      refine WC.seq ?_
      refine WC.seq ?_
      refine WC.region ?_
      refine WL.y (Yl.move rfl) rfl ?_
      refine WL.y (Yl.lss rfl rfl) rfl ?_
      refine WL.nil ?_
      refine WC.condD rfl (fun g39 => ?_) (fun g39 => ?_)
      · refine WC.skip ?_
        refine WC.seq ?_
        refine WC.block ?_
        refine WC.seq ?_
        have h8 : a < 8 := by omega
        obtain ⟨c, hc⟩ : ∃ c, C[a]? = some c := ⟨_, List.getElem?_eq_getElem (by rw [hC.1]; exact h8)⟩
        have hok := hC.get hc
        have hkl := Ct.kys_le hok
        have hdk : c.devs.length = c.kys.length := by rw [← Ct.devs_kys, List.length_map]
        have hrl := ros_bytes hC (n := a) (by omega)
        have hrn := (rosTo_le hC a).2
        have hnx : rosTo C (a + 1) = rosTo C a ++ (if c.kys.length = 0 then [] else [⟨(a : Int), c.st, c.devs⟩]) := by
          rw [rosTo_next]
          unfold ronAt
          rw [hc]
        obtain ⟨R, hR⟩ : ∃ R, onsB (rosTo C a) = R := ⟨_, rfl⟩
        rw [hR] at hrl ⊢
        refine WC.region ?_
        refine WL.y (Yl.move rfl) rfl ?_
        refine WL.y (Yl.move rfl) rfl ?_
        refine WL.y (Yl.conv un3 un5 rfl (show IntKind.u8.wrap (a : Int) = (a : Int) by rw [IntKind.wrap_u8]; omega)) rfl ?_
        refine WL.callC (xs := [.tmp 42, .tmp 44]) (cap := []) rfl rfl en28 (by repeat' constructor) (fun w hw => rmany_any b acc (.slice oa own.length oc) C hC a w hw.left.here) rfl ?_
        rintro ⟨⟩ -
        rw [rkysAt_of hc]
        refine WL.y (Yl.assign rfl) rfl ?_
        refine WL.nil ?_
        refine WC.seq ?_
        refine WC.seq ?_
        refine WC.region ?_
        refine WL.y (Yl.move rfl) rfl ?_
        refine WL.y (Yl.eql rfl rfl) rfl ?_
        refine WL.nil ?_
        refine WC.cond rfl (fun g47 => ?_) (fun g47 => ?_)
        · refine WC.exit ?_
          refine WC.region ?_
          refine WL.y (Yl.move rfl) rfl ?_
          refine WL.y (Yl.add rfl rfl (IntWalk.i64_in _ (by omega))) rfl ?_
          refine WL.y (Yl.assign rfl) rfl ?_
          refine WL.nil ?_
          have h0 : c.kys.length = 0 := by have := of_decide_eq_true g47; omega
          rw [if_pos h0, List.append_nil] at hnx
          rw [← hR]
          exact ⟨rfl, (a + 1, a6, c6), by dsimp only; omega, by dsimp only; omega, (by dsimp only; rw [hnx]; exact (by repeat' constructor)), _, (by dsimp only; rw [hnx]; exact (by repeat' constructor))⟩
        · refine WC.skip ?_
          refine WC.seq ?_
          have h0 : ¬ c.kys.length = 0 := by have := of_decide_eq_false g47; omega
          rw [if_neg h0] at hnx
          refine WC.region ?_
          refine WL.y (Yl.move rfl) rfl ?_
          refine WL.y (Yl.add rfl rfl (IntWalk.i64_in _ (by omega))) rfl ?_
          refine WL.y (Yl.assign rfl) rfl ?_
          refine WL.nil ?_
          refine WC.seq ?_
          refine WC.region ?_
          refine WL.y (Yl.move rfl) rfl ?_
          refine WL.y (Yl.move rfl) rfl ?_
          refine WL.y (Yl.conv un3 un5 rfl (show IntKind.u8.wrap (a : Int) = (a : Int) by rw [IntKind.wrap_u8]; omega)) rfl ?_
          refine WL.y (Yl.move rfl) rfl ?_
          refine WL.y (Yl.move rfl) rfl ?_
          refine WL.y (Yl.nilCheck rfl) rfl ?_
          refine WL.y (Yl.field fo38_2 rfl) rfl ?_
          refine WL.y (Yl.indexA un36 sz35 rfl rfl rfl (by omega)) rfl ?_
          refine WL.y (Yl.field fo35_2 rfl) rfl ?_
          refine WL.y (Yl.load (T := 38) (cs := rbC acc (.slice oa own.length oc) C) on5 rfl (by repeat constructor) (rb_cell hC hc (Ct.rst hok) (by omega))) rfl ?_
          refine WL.to (To.buildSlice (vs := [.int .u8 (a : Int), .int .u8 c.st]) un54 zs5 rfl rfl (by simp [Value.cells]) (by decide) (by decide)) rfl ?_
          intro b60
          refine WL.to (To.append sl54 rfl rfl (by repeat constructor) (Reads.of (RdOf.blk (size := 1) (n := 2) (cs := [.int .u8 (a : Int), .int .u8 c.st]) (cs' := ints .u8 [(a : Int), c.st]) (Nat.le_refl _) (by unfold maxLen; omega) (by simp) rfl) (by repeat constructor)) (ints_one _ _) (show R.length + 2 = (R ++ [(a : Int), c.st]).length by simp) (ints_cat (xs := R) (ys := [(a : Int), c.st]) (zs := R ++ [(a : Int), c.st]) (rfl)) (by simp; unfold maxLen; omega) (by simp; omega)) rfl ?_
          rintro ⟨⟨ao61, c61⟩, hc61⟩
          dsimp only at hc61 ⊢
          refine WL.y (Yl.move rfl) rfl ?_
          refine WL.callC (xs := [.tmp 62]) (cap := []) rfl rfl en80 (by repeat' constructor) (fun w hw => two_any c.kys.length (by omega) w hw.left.here) rfl ?_
          rintro ⟨a63, c63⟩ -
          refine WL.to (To.append sl54 rfl rfl (by repeat constructor) (Reads.of (r := ownR (.slice a63 2 c63) 5 1 2 (ints .u8 (be c.kys.length 2))) RdOf.own (by repeat constructor)) (ints_one _ _) (show (R ++ [(a : Int), c.st]).length + 2 = (R ++ [(a : Int), c.st] ++ be c.kys.length 2 ++ knsB (c.to 0)).length by simp [be_len, knsB, Ct.to, devsOf]) (ints_cat (xs := R ++ [(a : Int), c.st]) (ys := be c.kys.length 2) (zs := R ++ [(a : Int), c.st] ++ be c.kys.length 2 ++ knsB (c.to 0)) (by simp [knsB, Ct.to, devsOf])) (by simp [be_len, knsB, Ct.to, devsOf]; unfold maxLen; omega) (by simp [be_len, knsB, Ct.to, devsOf]; omega)) rfl ?_
          rintro ⟨⟨ao64, c64⟩, hc64⟩
          dsimp only at hc64 ⊢
          refine WL.y (Yl.assign rfl) rfl ?_
          refine WL.nil ?_
          refine WC.seq ?_
          refine WC.region ?_
          refine WL.y (Yl.assign rfl) rfl ?_
          refine WL.nil ?_
          refine WC.block ?_
          have hTl : (R ++ [(a : Int), c.st] ++ be c.kys.length 2).length = R.length + 4 := by simp [be_len]
          obtain ⟨T, hT⟩ : ∃ T, R ++ [(a : Int), c.st] ++ be c.kys.length 2 = T := ⟨_, rfl⟩
          rw [hT] at hTl ⊢
          refine WC.loop (α := Nat × (Option Addr × Nat)) (fun p => [(0, .pointer (some ⟨b, 0, none⟩)), (4, .slice a4 OUT.length c4), (6, .slice p.2.1 (T ++ knsB (c.to p.1)).length p.2.2), (7, .int .i64 (((rosTo C a).length : Int) + 1)), (8, .int .i64 (a : Int)), (10, .int .i64 (p.1 : Int))]) (fun p => [ownR (.slice p.2.1 (T ++ knsB (c.to p.1)).length p.2.2) 5 1 (T ++ knsB (c.to p.1)).length (ints .u8 (T ++ knsB (c.to p.1))), ownR (.slice a4 OUT.length c4) 5 1 OUT.length (ints .u8 OUT), rbR b acc (.slice oa own.length oc) C, rwK (.slice oa own.length oc) own.length own]) (fun p => p.1 ≤ 4) (fun p => 4 - p.1) (0, ao64, c64) (Nat.zero_le _) ⟨(by repeat' constructor), _, (by repeat' constructor)⟩ ?_
          rintro ⟨i, a7, c7⟩ hi4
          dsimp only at hi4 ⊢
          have hto := Ct.to_lt hok hi4
          have hkn := knsB_len (c.to i)
          refine WC.seq ?_
          refine WC.seq ?_
          refine WC.region ?_
          refine WL.y (Yl.move rfl) rfl ?_
          refine WL.y (Yl.lss rfl rfl) rfl ?_
          refine WL.nil ?_
          refine WC.condD rfl (fun g66 => ?_) (fun g66 => ?_)
          · refine WC.skip ?_
            refine WC.seq ?_
            refine WC.block ?_
            refine WC.seq ?_
            have hi5 : i < 4 := by omega
            obtain ⟨hd, hb⟩ : ∃ hd, c.has[i]? = some hd := ⟨_, List.getElem?_eq_getElem (by rw [hok.hl]; exact hi5)⟩
            obtain ⟨k, hk⟩ : ∃ k0, c.ks[i]? = some k0 := ⟨_, List.getElem?_eq_getElem (by rw [hok.kl]; exact hi5)⟩
            have hn2 := Ct.to_next hok hi5 hk hb
            refine WC.region ?_
            refine WL.y (Yl.move rfl) rfl ?_
            refine WL.y (Yl.move rfl) rfl ?_
            refine WL.y (Yl.move rfl) rfl ?_
            refine WL.y (Yl.nilCheck rfl) rfl ?_
            refine WL.y (Yl.field fo38_2 rfl) rfl ?_
            refine WL.y (Yl.indexA un36 sz35 rfl rfl rfl (by omega)) rfl ?_
            refine WL.y (Yl.field fo35_0 rfl) rfl ?_
            refine WL.y (Yl.indexA un30 sz4 rfl rfl rfl (by omega)) rfl ?_
            refine WL.y (Yl.load (T := 38) (cs := rbC acc (.slice oa own.length oc) C) on4 rfl (by repeat constructor) (rb_cell hC hc (Ct.rhasAt hb) (by omega))) rfl ?_
            refine WL.nil ?_
            refine WC.cond rfl (fun g77 => ?_) (fun g77 => ?_)
            · rw [g77, if_pos rfl] at hn2
              refine WC.drawAny (Hs := [rbR b acc (.slice oa own.length oc) C, rwK (.slice oa own.length oc) own.length own, ownR (.slice a4 OUT.length c4) 5 1 OUT.length (ints .u8 OUT)]) mixed (by kernel_rfl) ⟨_, (by repeat' constructor)⟩ ?_
              refine WD.tk 0 rfl (by kernel_rfl) rfl rfl (Yl.move rfl) rfl ?_
              refine WD.tk 1 rfl (by kernel_rfl) rfl rfl (Yl.move rfl) rfl ?_
              refine WD.tk 2 rfl (by kernel_rfl) rfl rfl (Yl.conv un3 un5 rfl (show IntKind.u8.wrap (i : Int) = (i : Int) by rw [IntKind.wrap_u8]; omega)) rfl ?_
              refine WD.tk 5 rfl (by kernel_rfl) rfl rfl (Yl.move rfl) rfl ?_
              refine WD.tk 6 rfl (by kernel_rfl) rfl rfl (Yl.move rfl) rfl ?_
              refine WD.tk 7 rfl (by kernel_rfl) rfl rfl (Yl.move rfl) rfl ?_
              refine WD.tk 8 rfl (by kernel_rfl) rfl rfl (Yl.nilCheck rfl) rfl ?_
              refine WD.tk 9 rfl (by kernel_rfl) rfl rfl (Yl.field fo38_2 rfl) rfl ?_
              refine WD.tk 10 rfl (by kernel_rfl) rfl rfl (Yl.indexA un36 sz35 rfl rfl rfl (by omega)) rfl ?_
              refine WD.tk 11 rfl (by kernel_rfl) rfl rfl (Yl.field fo35_1 rfl) rfl ?_
              refine WD.tk 12 rfl (by kernel_rfl) rfl rfl (Yl.indexA un33 sz32 rfl rfl rfl (by omega)) rfl ?_
              refine WD.tk 13 rfl (by kernel_rfl) rfl rfl (Yl.loadNP (T := 38) (cs := rbC acc (.slice oa own.length oc) C) ag32 rfl (by repeat constructor) (by rw [hC.len]; omega) (rb_part hC hc (Ct.rkey hok hk) (by omega) (by omega))) rfl ?_
              refine WD.one 3 (by kernel_rfl) ?_
              refine WO.to rfl rfl .no (To.buildSlice (vs := [.int .u8 (i : Int)]) un54 zs5 rfl rfl (by simp [Value.cells]) (by decide) (by decide)) rfl (fun _ => ⟨_, (by repeat' constructor)⟩) ?_
              intro b81
              refine WD.one 4 (by kernel_rfl) ?_
              refine WO.to rfl rfl .no (To.append sl54 rfl rfl (by repeat constructor) (Reads.of (RdOf.blk (size := 1) (n := 1) (cs := [.int .u8 (i : Int)]) (cs' := ints .u8 [(i : Int)]) (Nat.le_refl _) (by unfold maxLen; omega) (by simp) rfl) (by repeat constructor)) (ints_one _ _) (show (T ++ knsB (c.to i)).length + 1 = (T ++ knsB (c.to i) ++ [(i : Int)]).length by simp; omega) (ints_cat (xs := T ++ knsB (c.to i)) (ys := [(i : Int)]) (zs := T ++ knsB (c.to i) ++ [(i : Int)]) (rfl)) (by simp; unfold maxLen; omega) (by simp; omega)) rfl (fun _ => ⟨_, (by repeat' constructor)⟩) ?_
              rintro ⟨⟨ao82, c82⟩, hc82⟩
              dsimp only at hc82 ⊢
              refine WD.one 14 (by kernel_rfl) ?_
              refine WO.callC (xs := [.tmp 91]) (cap := []) rfl .no rfl rfl en68 (by repeat' constructor) (fun w hw => rkey_any k w hw.left.here) rfl (fun _ => ⟨_, (by repeat' constructor)⟩) ?_
              rintro ⟨a92, c92⟩ -
              refine WD.one 15 (by kernel_rfl) ?_
              refine WO.to rfl rfl .no (To.append sl54 rfl rfl (by repeat constructor) (Reads.of (r := ownR (.slice a92 32 c92) 5 1 32 (ints .u8 k.b)) RdOf.own (by repeat constructor)) (ints_one _ _) (show (T ++ knsB (c.to i) ++ [(i : Int)]).length + 32 = (T ++ knsB (c.to (i + 1))).length by rw [hn2, knsB_snoc]; simp [knB, k.len]; omega) (ints_cat (xs := T ++ knsB (c.to i) ++ [(i : Int)]) (ys := k.b) (zs := T ++ knsB (c.to (i + 1))) (by rw [hn2, knsB_snoc]; simp [knB])) (by rw [hn2, knsB_snoc]; simp [knB, k.len]; unfold maxLen; omega) (by rw [hn2, knsB_snoc]; simp [knB, k.len]; omega)) rfl (fun _ => ⟨_, (by repeat' constructor)⟩) ?_
              rintro ⟨⟨ao93, c93⟩, hc93⟩
              dsimp only at hc93 ⊢
              refine WD.tk 16 rfl (by kernel_rfl) rfl rfl (Yl.assign rfl) rfl ?_
              refine WD.done (by kernel_rfl) ?_
              refine WC.region ?_
              refine WL.y (Yl.move rfl) rfl ?_
              refine WL.y (Yl.add rfl rfl (IntWalk.i64_in _ (by omega))) rfl ?_
              refine WL.y (Yl.assign rfl) rfl ?_
              refine WL.nil ?_
              exact ⟨rfl, (i + 1, ao93, c93), by dsimp only; omega, by dsimp only; omega, (by repeat' constructor), _, (by repeat' constructor)⟩
            · refine WC.skip ?_
              refine WC.region ?_
              refine WL.y (Yl.move rfl) rfl ?_
              refine WL.y (Yl.add rfl rfl (IntWalk.i64_in _ (by omega))) rfl ?_
              refine WL.y (Yl.assign rfl) rfl ?_
              refine WL.nil ?_
              rw [g77, if_neg (by decide), List.append_nil] at hn2
              rw [← hn2]
              exact ⟨rfl, (i + 1, a7, c7), by dsimp only; omega, by dsimp only; omega, (by repeat' constructor), _, (by repeat' constructor)⟩
          · refine WC.exit ?_
            refine WC.region ?_
            refine WL.y (Yl.move rfl) rfl ?_
            refine WL.y (Yl.add rfl rfl (IntWalk.i64_in _ (by omega))) rfl ?_
            refine WL.y (Yl.assign rfl) rfl ?_
            refine WL.nil ?_
            have hi5 : i = 4 := by omega
            subst hi5
            have e : T ++ knsB (c.to 4) = onsB (rosTo C (a + 1)) := by
              rw [hnx, onsB_snoc, hR, Ct.to_end hok, ← hT]
              unfold onB
              dsimp only
              rw [hdk]
              simp
            have e2 : ((rosTo C a).length : Int) + 1 = ((rosTo C (a + 1)).length : Int) := by rw [hnx]; simp
            rw [e, e2]
            exact ⟨rfl, (a + 1, a7, c7), by dsimp only; omega, by dsimp only; omega, (by repeat' constructor), _, (by repeat' constructor)⟩
      · refine WC.exit ?_
        refine WC.seq ?_
        have ha : a = 8 := by omega
        subst ha
        have hrl := ros_bytes hC (n := 8) (by omega)
        refine WC.region ?_
        refine WL.y (Yl.move rfl) rfl ?_
        refine WL.y (Yl.move rfl) rfl ?_
        refine WL.callC (xs := [.tmp 95]) (cap := []) rfl rfl en80 (by repeat' constructor) (fun w hw => two_any (rosTo C 8).length (by omega) w hw.left.here) rfl ?_
        rintro ⟨a96, c96⟩ -
        refine WL.to (To.append sl54 rfl rfl (by repeat constructor) (Reads.of (r := ownR (.slice a96 2 c96) 5 1 2 (ints .u8 (be (rosTo C 8).length 2))) RdOf.own (by repeat constructor)) (ints_one _ _) (show OUT.length + 2 = (OUT ++ be (rosTo C 8).length 2).length by simp [be_len]) (ints_cat (xs := OUT) (ys := be (rosTo C 8).length 2) (zs := OUT ++ be (rosTo C 8).length 2) (rfl)) (by simp [be_len]; unfold maxLen; omega) (by simp [be_len]; omega)) rfl ?_
        rintro ⟨⟨ao97, c97⟩, hc97⟩
        dsimp only at hc97 ⊢
        refine WL.y (Yl.move rfl) rfl ?_
        refine WL.to (To.append sl54 rfl rfl (by repeat constructor) (Reads.of (r := ownR (.slice a6 (onsB (rosTo C 8)).length c6) 5 1 (onsB (rosTo C 8)).length (ints .u8 (onsB (rosTo C 8)))) RdOf.own (by repeat constructor)) (ints_one _ _) (show (OUT ++ be (rosTo C 8).length 2).length + (onsB (rosTo C 8)).length = (bkB acc S (rosTo C 8)).length by rw [← hOUT]; unfold bkB; simp; omega) (ints_cat (xs := OUT ++ be (rosTo C 8).length 2) (ys := onsB (rosTo C 8)) (zs := bkB acc S (rosTo C 8)) (by rw [← hOUT]; unfold bkB; simp)) (by unfold maxLen; omega) (by omega)) rfl ?_
        rintro ⟨⟨ao99, c99⟩, hc99⟩
        dsimp only at hc99 ⊢
        refine WL.y (Yl.assign rfl) rfl ?_
        refine WL.nil ?_
        refine WC.ret ?_
        repeat (with_reducible (first | refine peelT ?_ | refine peelB ?_ | refine peelTX ?_ | refine peelBX ?_ | refine peelBN ?_ | refine peelBO rfl ?_))
        exact ret1 (.inr rfl) Tryz.results57 rfl fun w' h => ⟨(ao99, c99), trivial, rfl, h.sub (by repeat' constructor)⟩
end Go.Proofs.YtcplbkbimpiioaaGreatDoor
