/- Fields taken: the walks. -/
import Derived.Test.YtahkaepmfnmhcaaWireG
namespace Go.Proofs.Ytahkaepmfnmhcaa
open Go Go.RowKit
set_option linter.unusedSectionVars false

theorem left_any (b : Nat) (ao : Option Addr) (cap : Nat) (bs : List Int) (wr : Bool) (w : World) (hw : OK w (fpL [inR b (.slice ao bs.length cap) wr]) [inR b (.slice ao bs.length cap) wr] w) :
    Fn Try.prog 15 [.pointer (some ⟨b, 0, none⟩)] [inR b (.slice ao bs.length cap) wr] w (fun _ : Unit => True) (fun _ => .int .i64 ((if wr then 0 else bs.length : Nat) : Int)) (fun _ => [inR b (.slice ao bs.length cap) wr]) := by
  refine enterF Try.func15 rfl Try.ntmps15 rfl hw ?_
  refine WC.seq ?_
  refine WC.region ?_
  refine WL.y (Yl.assign rfl) rfl ?_ -- t2
  refine WL.nil ?_
  refine WC.seq ?_
  refine WC.seq ?_
  refine WC.region ?_
  refine WL.y (Yl.move rfl) rfl ?_ -- t3
  refine WL.y (Yl.nilEq un35 rfl rfl) rfl ?_ -- t4
  refine WL.know (t := 4) (b' := false) rfl (by first | rfl | (simp; done) | (simp; omega)) ?_
  refine WL.y (Yl.move rfl) rfl ?_ -- t5
  refine WL.on rfl rfl ?_
  refine WL.y (Yl.move rfl) rfl ?_ -- t6
  refine WL.on rfl rfl ?_
  refine WL.y (Yl.nilCheck rfl) rfl ?_ -- t7
  refine WL.on rfl rfl ?_
  refine WL.y (Yl.field fo67_1 rfl) rfl ?_ -- t8
  refine WL.on rfl rfl ?_
  refine WL.y (Yl.load on4 rfl (by repeat (first | exact Take1.head | apply Take1.tail)) (by rfl)) rfl ?_ -- t9
  refine WL.y (Yl.pickF rfl rfl) rfl ?_ -- t10
  refine WL.nil ?_
  refine WC.cond rfl (fun g10 => ?_) (fun g10 => ?_)
  · refine WC.seq ?_
    refine WC.region ?_
    refine WL.y (Yl.assign rfl) rfl ?_ -- t2
    refine WL.nil ?_
    refine WC.ret ?_
    repeat (first | (with_reducible refine peelT ?_) | (with_reducible refine peelB ?_) | (with_reducible refine peelTX ?_) | (with_reducible refine peelBX ?_) | (with_reducible refine peelBN ?_) | (with_reducible refine peelBO rfl ?_))
    exact ret1 (.inr rfl) Try.results15 rfl fun w' h => ⟨(), trivial, by rw [show wr = true from g10]; rfl, h.sub (by repeat (first | exact TakeL.nil | (apply TakeL.cons; · repeat (first | exact Take1.head | apply Take1.tail))))⟩
  · refine WC.skip ?_
    refine WC.seq ?_
    refine WC.region ?_
    refine WL.y (Yl.move rfl) rfl ?_ -- t11
    refine WL.y (Yl.nilCheck rfl) rfl ?_ -- t12
    refine WL.y (Yl.field fo67_0 rfl) rfl ?_ -- t13
    refine WL.y (Yl.load on28 rfl (by repeat (first | exact Take1.head | apply Take1.tail)) (by rfl)) rfl ?_ -- t14
    refine WL.y (Yl.len un28 rfl) rfl ?_ -- t15
    refine WL.y (Yl.assign rfl) rfl ?_ -- t2
    refine WL.nil ?_
    refine WC.ret ?_
    repeat (first | (with_reducible refine peelT ?_) | (with_reducible refine peelB ?_) | (with_reducible refine peelTX ?_) | (with_reducible refine peelBX ?_) | (with_reducible refine peelBN ?_) | (with_reducible refine peelBO rfl ?_))
    exact ret1 (.inr rfl) Try.results15 rfl fun w' h => ⟨(), trivial, by rw [show wr = false from g10]; rfl, h.sub (by repeat (first | exact TakeL.nil | (apply TakeL.cons; · repeat (first | exact Take1.head | apply Take1.tail))))⟩

section
variable (b : Nat) (ao : Option Addr) (cap : Nat) (B : List Int) (W : Bool) (r : Res) (hr : RdOf r (.slice ao B.length cap) 1 B.length (ints .u8 B)) (hc : B.length ≤ cap) (hB : Bytes B) (w : World) (hw : OK w (fpL [inR b (.slice ao B.length cap) W, r]) [inR b (.slice ao B.length cap) W, r] w)
include hr hc hB hw
theorem takeOne_any : Fn Try.prog 36 [.pointer (some ⟨b, 0, none⟩)] [inR b (.slice ao B.length cap) W, r] w (NxΦ r 4 B W) (fun _ => .int .u32 (val (tkR 4 B W))) (fun x => [inR b (.slice x.1 (tkB 4 B W).length x.2) (tkW 4 B W), r]) := by
  refine enterF Try.func36 rfl Try.ntmps36 rfl hw ?_
  refine WC.seq ?_
  refine WC.region ?_
  refine WL.y (Yl.assign rfl) rfl ?_ -- t2
  refine WL.nil ?_
  refine WC.seq ?_
  refine WC.region ?_
  refine WL.y (Yl.move rfl) rfl ?_ -- t3
  refine WL.callC (xs := [.tmp 3]) (cap := []) rfl rfl en31 (by repeat (first | exact TakeL.nil | (apply TakeL.cons; · repeat (first | exact Take1.head | apply Take1.tail)))) (fun w hw => inU32_any b ao cap B W r hr hc hB w hw.left.here) rfl ?_ -- t4 (*hailer/wire.In).U32
  intro x hx
  refine WL.y (Yl.assign rfl) rfl ?_ -- t2
  refine WL.nil ?_
  refine WC.ret ?_
  repeat (first | (with_reducible refine peelT ?_) | (with_reducible refine peelB ?_) | (with_reducible refine peelTX ?_) | (with_reducible refine peelBX ?_) | (with_reducible refine peelBN ?_) | (with_reducible refine peelBO rfl ?_))
  exact ret1 (.inr rfl) Try.results36 rfl fun w' h => ⟨x, hx, rfl, h.sub (by repeat (first | exact TakeL.nil | (apply TakeL.cons; · repeat (first | exact Take1.head | apply Take1.tail))))⟩

theorem takeList_any (most : Int) : Fn Try.prog 35 [.pointer (some ⟨b, 0, none⟩), .int .i64 most, .func (.func 36) #[] #[]] [inR b (.slice ao B.length cap) W, r] w
    (fun x : (Option Addr × Nat) × Option Addr × Nat => RdOf r (.slice x.2.1 (tlS B W most).2.1.length x.2.2) 1 (tlS B W most).2.1.length (ints .u8 (tlS B W most).2.1) ∧ (tlS B W most).2.1.length ≤ x.2.2)
    (fun x => .slice x.1.1 (tlL B W most).length x.1.2)
    (fun x => [inR b (.slice x.2.1 (tlS B W most).2.1.length x.2.2) (tlS B W most).2.2, r, ownR (.slice x.1.1 (tlL B W most).length x.1.2) 49 1 (tlL B W most).length (ints .u32 (tlL B W most))]) := by
  have hv2 := val2 hB W
  unfold tlL
  obtain ⟨T, hT⟩ : ∃ T, tlS B W most = T := ⟨_, rfl⟩
  rw [hT]
  unfold tlS at hT
  have hk1 := hB.tkB 2 W
  refine enterF Try.func35 rfl Try.ntmps35 rfl hw ?_
  refine WC.seq ?_
  refine WC.region ?_
  refine WL.y (Yl.assign rfl) rfl ?_ -- t6
  refine WL.nil ?_
  refine WC.seq ?_
  refine WC.seq ?_
  refine WC.region ?_
  refine WL.y (Yl.move rfl) rfl ?_ -- t9
  refine WL.y (Yl.nilNe un35 rfl rfl) rfl ?_ -- t10
  refine WL.know (t := 10) (b' := true) rfl (by first | rfl | (simp; done) | (simp; omega)) ?_
  refine WL.y (Yl.move rfl) rfl ?_ -- t11
  refine WL.on rfl rfl ?_
  refine WL.y (Yl.move rfl) rfl ?_ -- t12
  refine WL.on rfl rfl ?_
  refine WL.y (Yl.eqlG rfl rfl (b := false) (fun w => by kernel_rfl)) rfl ?_
  refine WL.know (t := 13) (b' := false) rfl (by first | rfl | (simp; done) | (simp; omega)) ?_
  refine WL.y (Yl.pickT rfl rfl) rfl ?_ -- t14
  refine WL.nil ?_
  refine WC.condF rfl (by first | rfl | (simp; done) | (simp; omega)) ?_
  refine WC.skip ?_
  refine WC.seq ?_
  refine WC.region ?_
  refine WL.y (Yl.assign rfl) rfl ?_ -- t7
  refine WL.nil ?_
  refine WC.seq ?_
  refine WC.seq ?_
  refine WC.region ?_
  refine WL.y (Yl.move rfl) rfl ?_ -- t18
  refine WL.y (Yl.move rfl) rfl ?_ -- t19
  refine WL.callC (xs := [.tmp 18, .tmp 19]) (cap := []) rfl rfl en43 (by repeat (first | exact TakeL.nil | (apply TakeL.cons; · repeat (first | exact Take1.head | apply Take1.tail)))) (fun w hw => inMany_any b ao cap B W most r hr hc hB w hw.left.here) rfl ?_ -- t20 (*hailer/wire.In).many
  rintro ⟨a1, c1⟩ ⟨r1, hc1⟩
  dsimp only at r1 hc1 ⊢
  obtain ⟨B1, hB1⟩ : ∃ B1, tkB 2 B W = B1 := ⟨_, rfl⟩
  obtain ⟨W1, hW1⟩ : ∃ W1, mnW B W most = W1 := ⟨_, rfl⟩
  rw [hB1, hW1] at hT
  rw [hB1] at r1 hc1 hk1
  rw [hB1, hW1]
  obtain ⟨m, hm⟩ : ∃ m : Int, (if W1 = true then -1 else val (tkR 2 B W)) = m := ⟨_, rfl⟩
  rw [hm]
  have hmn : tlN B W most = m.toNat := by
    unfold tlN szK; rw [hW1, ← hm]; cases W1 <;> rfl
  rw [hmn] at hT
  have hm2 : -1 ≤ m ∧ m < 65536 := by rw [← hm]; split <;> omega
  refine WL.y (Yl.assign rfl) rfl ?_ -- t8
  refine WL.nil ?_
  refine WC.block ?_
  refine WC.view (fun w h => h.addNil 49 1) ?_
  refine WC.loop (α := Int × List Int × List Int × Bool × (Option Addr × Nat) × (Option Addr × Nat)) (fun p => [(0, .pointer (some ⟨b, 0, none⟩)), (2, .func (.func 36) #[] #[]), (6, .slice none 0 0), (7, .slice p.2.2.2.2.2.1 p.2.1.length p.2.2.2.2.2.2), (8, .int .i64 p.1)]) (fun p => [ownR (.slice p.2.2.2.2.2.1 p.2.1.length p.2.2.2.2.2.2) 49 1 p.2.1.length (ints .u32 p.2.1), inR b (.slice p.2.2.2.2.1.1 p.2.2.1.length p.2.2.2.2.1.2) p.2.2.2.1, r]) (fun p => T = (p.2.1 ++ (tkl p.1.toNat p.2.2.1 p.2.2.2.1).1, (tkl p.1.toNat p.2.2.1 p.2.2.2.1).2) ∧ RdOf r (.slice p.2.2.2.2.1.1 p.2.2.1.length p.2.2.2.2.1.2) 1 p.2.2.1.length (ints .u8 p.2.2.1) ∧ p.2.2.1.length ≤ p.2.2.2.2.1.2 ∧ Bytes p.2.2.1 ∧ -1 ≤ p.1 ∧ (p.2.1.length : Int) + p.1 < 65537) (fun p => p.1.toNat) (m, [], B1, W1, (a1, c1), (none, 0)) ⟨by rw [← hT]; rfl, r1, hc1, hk1, hm2.1, by simp; omega⟩ ⟨(by repeat (first | exact Sub.nil | refine Sub.cons rfl ?_)), _, (by repeat (first | exact TakeL.nil | (apply TakeL.cons; · repeat (first | exact Take1.head | apply Take1.tail))))⟩ ?_
  clear hT hm hmn hm2 hW1 r1 hc1 hB1 hk1
  rintro ⟨m, out, B1, W1, ⟨a1, c1⟩, ao2, c2⟩ ⟨hT, r1, hc1, hk1, hm1, hm2⟩
  dsimp only at hT r1 hc1 hk1 hm1 hm2 ⊢
  refine WC.seq ?_
  refine WC.midK [(29, .bool (decide (0 < m) && !W1))] [ownR (.slice ao2 out.length c2) 49 1 out.length (ints .u32 out), inR b (.slice a1 B1.length c1) W1, r] ?_ ?_
  · refine WC.region ?_
    refine WL.y (Yl.move rfl) rfl ?_ -- t21
    refine WL.y (Yl.gtr rfl rfl) rfl ?_ -- t22
    refine WL.y (Yl.move rfl) rfl ?_ -- t23
    refine WL.both (t := 23) rfl (fun g23 => ?_) (fun g23 => ?_)
    · refine WL.on rfl rfl ?_
      refine WL.y (Yl.move rfl) rfl ?_ -- t24
      refine WL.on rfl rfl ?_
      refine WL.y (Yl.nilCheck rfl) rfl ?_ -- t25
      refine WL.on rfl rfl ?_
      refine WL.y (Yl.field fo67_1 rfl) rfl ?_ -- t26
      refine WL.on rfl rfl ?_
      refine WL.y (Yl.load on4 rfl (by repeat (first | exact Take1.head | apply Take1.tail)) (by rfl)) rfl ?_ -- t27
      refine WL.on rfl rfl ?_
      refine WL.y (Yl.not rfl) rfl ?_ -- t28
      refine WL.y (Yl.pickT rfl rfl) rfl ?_ -- t29
      refine WL.say (t := 29) (v' := .bool (decide (0 < m) && !W1)) rfl (by (refine congrArg Value.bool ?_; simp [*])) ?_
      refine WL.nil ?_
      exact ⟨rfl, (by repeat (first | exact Sub.nil | refine Sub.cons rfl ?_)), (by repeat (first | exact Sub.nil | refine Sub.cons rfl ?_)), _, (by repeat (first | exact TakeL.nil | (apply TakeL.cons; · repeat (first | exact Take1.head | apply Take1.tail))))⟩
    · refine WL.off rfl rfl rfl rfl ?_ -- t24
      refine WL.off rfl rfl rfl rfl ?_ -- t25
      refine WL.off rfl rfl rfl rfl ?_ -- t26
      refine WL.off rfl rfl rfl rfl ?_ -- t27
      refine WL.off rfl rfl rfl rfl ?_ -- t28
      refine WL.y (Yl.pickF rfl rfl) rfl ?_ -- t29
      refine WL.say (t := 29) (v' := .bool (decide (0 < m) && !W1)) rfl (by (refine congrArg Value.bool ?_; simp [*])) ?_
      refine WL.nil ?_
      exact ⟨rfl, (by repeat (first | exact Sub.nil | refine Sub.cons rfl ?_)), (by repeat (first | exact Sub.nil | refine Sub.cons rfl ?_)), _, (by repeat (first | exact TakeL.nil | (apply TakeL.cons; · repeat (first | exact Take1.head | apply Take1.tail))))⟩
  · refine WC.cond rfl (fun g29 => ?_) (fun g29 => ?_)
    · refine WC.skip ?_
      refine WC.seq ?_
      refine WC.block ?_
      refine WC.region ?_
      refine WL.y (Yl.move rfl) rfl ?_ -- t32
      refine WL.y (Yl.move rfl) rfl ?_ -- t33
      refine WL.y (Yl.move rfl) rfl ?_ -- t34
      have g := g29
      simp only [Bool.and_eq_true, decide_eq_true_eq, Bool.not_eq_true'] at g
      obtain ⟨gm, rfl⟩ := g
      refine WL.callC (xs := [.tmp 34]) (cap := []) rfl rfl en36 (by repeat (first | exact TakeL.nil | (apply TakeL.cons; · repeat (first | exact Take1.head | apply Take1.tail)))) (fun w hw => takeOne_any b a1 c1 B1 false r r1 hc1 hk1 w hw.left.here) rfl ?_ -- t35 
      rintro ⟨a3, c3⟩ ⟨r3, hc3⟩
      dsimp only at r3 hc3 ⊢
      refine WL.to (To.buildSlice (vs := [.int .u32 (val (tkR 4 B1 false))]) un52 zs49 rfl rfl (by simp [Value.cells]) (by decide) (by decide)) rfl ?_ -- t36
      intro b36
      refine WL.to (To.append sl52 rfl rfl (by repeat (first | exact Take1.head | apply Take1.tail)) (Reads.of (RdOf.blk (cs := [.int .u32 (val (tkR 4 B1 false))]) (cs' := ints .u32 [val (tkR 4 B1 false)]) (Nat.le_refl _) (by unfold maxLen; omega) (by simp) rfl) (by repeat (first | exact Take1.head | apply Take1.tail))) (ints_one _ _) (show out.length + 1 = (out ++ [val (tkR 4 B1 false)]).length by simp) (ints_append _ _ _) (by simp; unfold maxLen; omega) (by simp; omega)) rfl ?_ -- t37
      rintro ⟨⟨ao37, c37⟩, hc37⟩
      dsimp only at hc37 ⊢
      refine WL.y (Yl.assign rfl) rfl ?_ -- t7
      refine WL.nil ?_
      refine WC.region ?_
      refine WL.y (Yl.move rfl) rfl ?_ -- t30
      refine WL.y (Yl.sub rfl rfl (IntWalk.i64_in _ (by omega))) rfl ?_ -- t31
      refine WL.y (Yl.assign rfl) rfl ?_ -- t8
      refine WL.nil ?_
      refine ⟨rfl, (m - 1, out ++ [val (tkR 4 B1 false)], tkB 4 B1 false, tkW 4 B1 false, (a3, c3), (ao37, c37)), ⟨?_, r3, hc3, hk1.tkB 4 false, by dsimp only; omega, by simp; omega⟩, by dsimp only; omega, (by repeat (first | exact Sub.nil | refine Sub.cons rfl ?_)), _, (by repeat (first | exact TakeL.nil | (apply TakeL.cons; · repeat (first | exact Take1.head | apply Take1.tail))))⟩
      dsimp only
      rw [hT, show m.toNat = (m - 1).toNat + 1 by omega]
      simp [tkl]
    · refine WC.exit ?_
      refine WC.seq ?_
      refine WC.seq ?_
      have hfin : T = (out, B1, W1) := by
        rw [hT]
        cases W1 with
        | true => rw [tkl_wr]; simp
        | false =>
          have : ¬ 0 < m := by simpa using g29
          rw [show m.toNat = 0 by omega]
          simp [tkl]
      clear hT
      subst hfin
      refine WC.region ?_
      refine WL.y (Yl.move rfl) rfl ?_ -- t38
      refine WL.y (Yl.nilEq un35 rfl rfl) rfl ?_ -- t39
      refine WL.know (t := 39) (b' := false) rfl (by first | rfl | (simp; done) | (simp; omega)) ?_
      refine WL.y (Yl.move rfl) rfl ?_ -- t40
      refine WL.on rfl rfl ?_
      refine WL.y (Yl.move rfl) rfl ?_ -- t41
      refine WL.on rfl rfl ?_
      refine WL.y (Yl.nilCheck rfl) rfl ?_ -- t42
      refine WL.on rfl rfl ?_
      refine WL.y (Yl.field fo67_1 rfl) rfl ?_ -- t43
      refine WL.on rfl rfl ?_
      refine WL.y (Yl.load on4 rfl (by repeat (first | exact Take1.head | apply Take1.tail)) (by rfl)) rfl ?_ -- t44
      refine WL.y (Yl.pickF rfl rfl) rfl ?_ -- t45
      refine WL.nil ?_
      refine WC.cond rfl (fun g45 => ?_) (fun g45 => ?_)
      · refine WC.seq ?_
        refine WC.region ?_
        refine WL.y (Yl.assign rfl) rfl ?_ -- t6
        refine WL.nil ?_
        refine WC.ret ?_
        repeat (first | (with_reducible refine peelT ?_) | (with_reducible refine peelB ?_) | (with_reducible refine peelTX ?_) | (with_reducible refine peelBX ?_) | (with_reducible refine peelBN ?_) | (with_reducible refine peelBO rfl ?_))
        have e : W1 = true := g45
        subst e
        exact ret1 (.inr rfl) Try.results35 rfl fun w' h => ⟨((none, 0), a1, c1), ⟨r1, hc1⟩, rfl, (h.addNil 49 1).sub (by repeat (first | exact TakeL.nil | (apply TakeL.cons; · repeat (first | exact Take1.head | apply Take1.tail))))⟩
      · refine WC.skip ?_
        refine WC.seq ?_
        refine WC.region ?_
        refine WL.y (Yl.move rfl) rfl ?_ -- t46
        refine WL.y (Yl.assign rfl) rfl ?_ -- t6
        refine WL.nil ?_
        refine WC.ret ?_
        repeat (first | (with_reducible refine peelT ?_) | (with_reducible refine peelB ?_) | (with_reducible refine peelTX ?_) | (with_reducible refine peelBX ?_) | (with_reducible refine peelBN ?_) | (with_reducible refine peelBO rfl ?_))
        have e : W1 = false := g45
        subst e
        exact ret1 (.inr rfl) Try.results35 rfl fun w' h => ⟨((ao2, c2), a1, c1), ⟨r1, hc1⟩, rfl, h.sub (by repeat (first | exact TakeL.nil | (apply TakeL.cons; · repeat (first | exact Take1.head | apply Take1.tail))))⟩
end
end Go.Proofs.Ytahkaepmfnmhcaa
