/- The whole record that bytes begin with; the newest whole slot: the walks. -/
import Derived.Test.YtjlgmaappebppaaDiskA
import Derived.Test.YtjlgmaappebppaaWireA
namespace Go.Proofs.Ytjlgmaappebppaa
open Go Go.RowKit

theorem RdS.cut {w : World} {T : Pm} {ao : Option Addr} {cap : Nat} {xs : List Int} (k : RdS w T (.slice ao xs.length cap) 1 xs.length (ints .u8 xs)) (l h : Nat) {zs : List Int} (h1 : l ≤ h) (h2 : h ≤ xs.length) (e : (xs.drop l).take (h - l) = zs) :
    RdS w T (subS (.slice ao xs.length cap) l h cap 1) 1 zs.length (ints .u8 zs) := fun w' hc => by
  have r := (k w' hc).sub l h h1 h2
  rw [Nat.mul_one, Nat.mul_one, ints_drop, ints_take, e] at r
  rw [show zs.length = h - l by rw [← e]; simp; omega]
  exact r
theorem Rd.cut {w : World} {ao : Option Addr} {cap : Nat} {xs : List Int} (k : Rd w 1 (.slice ao xs.length cap) xs.length (ints .u8 xs)) (l h : Nat) {zs : List Int} (h1 : l ≤ h) (h2 : h ≤ xs.length) (e : (xs.drop l).take (h - l) = zs) :
    Rd w 1 (subS (.slice ao xs.length cap) l h cap 1) zs.length (ints .u8 zs) := by
  have r := k.sub l h h1 h2
  rw [Nat.mul_one, Nat.mul_one, ints_drop, ints_take, e] at r
  rw [show zs.length = h - l by rw [← e]; simp; omega]
  exact r

theorem RdOf.cut {r : Res} {ao : Option Addr} {cap : Nat} {xs : List Int} (k : RdOf r (.slice ao xs.length cap) 1 xs.length (ints .u8 xs)) (l h : Nat) {zs : List Int} (h1 : l ≤ h) (h2 : h ≤ xs.length) (e : (xs.drop l).take (h - l) = zs) :
    RdOf r (subS (.slice ao xs.length cap) l h cap 1) 1 zs.length (ints .u8 zs) := ⟨fun w hr => (k.rd w hr).cut l h h1 h2 e⟩
def capV : Value → Nat
  | .slice _ _ c => c
  | _ => 0
def whN0 (x : List Int) : Int := if whOk x then whN x else 0
def whB0 (x : List Int) : List Int := if whOk x then whB x else []
def whV (v : Value) (x : List Int) : Value := if whOk x then subS v 14 (14 + whK x) (capV v) 1 else .slice none 0 0
theorem whOk_fit {x : List Int} (h : whOk x = true) : whFit x = true := by
  unfold whOk at h
  rw [Bool.and_eq_true, Bool.and_eq_true] at h
  exact h.1.1
theorem Rd.whV {w : World} {v : Value} {x : List Int} (k : Rd w 1 v x.length (ints .u8 x)) : Rd w 1 (Go.Proofs.Ytjlgmaappebppaa.whV v x) (whB0 x).length (ints .u8 (whB0 x)) := by
  obtain ⟨ao, cap, rfl, h1, h2⟩ := k.form
  unfold Go.Proofs.Ytjlgmaappebppaa.whV whB0
  cases h : whOk x with
  | false => exact ⟨rfl, .inl ⟨rfl, rfl⟩⟩
  | true =>
    have hf := whFit_T (whOk_fit h)
    exact k.cut 14 (14 + whK x) (by omega) (by omega) (by rw [show 14 + whK x - 14 = whK x by omega]; rfl)
theorem RdOf.whV {r : Res} {v : Value} {x : List Int} (k : RdOf r v 1 x.length (ints .u8 x)) : RdOf r (Go.Proofs.Ytjlgmaappebppaa.whV v x) 1 (whB0 x).length (ints .u8 (whB0 x)) := ⟨fun w h => (k.rd w h).whV⟩
theorem whOk_F1 {x : List Int} (h : whFit x = false) : whOk x = false := by unfold whOk; rw [h]; rfl
theorem whOk_F2 {x : List Int} (h : ¬ x.take 2 = [72, 68]) : whOk x = false := by unfold whOk; rw [decide_eq_false h]; simp
theorem no_len {x : List Int} (h : x.length < 22) : whOk x = false := whOk_F1 (by unfold whFit; rw [decide_eq_false (by omega)]; rfl)

set_option maxRecDepth 100000 in
theorem whole_any (x : List Int) (v : Value) (hB : Bytes x) (hl : x.length ≤ 90000) (w : World) (hx : RdS w (fpL []) v 1 x.length (ints .u8 x)) (hw : OK w (fpL []) [] w) :
    Fn Try.prog 22 [v] [] w (fun _ : Unit => True) (fun _ => .tuple #[.int .u64 (whN0 x), whV v x, .bool (whOk x)]) (fun _ => []) := by
  obtain ⟨al, cl, rfl, hcl, hml⟩ := hx.rd.form
  have nok : ∀ {w' : World}, whOk x = false → OK w (fpL []) [] w' → ∃ y : Unit, True ∧ Ending.returned (Value.tuple #[.int .u64 0, .slice none 0 0, .bool false]) = Ending.returned (.tuple #[.int .u64 (whN0 x), whV (.slice al x.length cl) x, .bool (whOk x)]) ∧ OK w (fpL []) [] w' := by
    intro w' h h2
    refine ⟨(), trivial, ?_, h2⟩
    unfold whN0 whV
    rw [h]; rfl
  refine enterF Try.func22 rfl Try.ntmps22 rfl hw ?_
  refine WC.seq ?_
  refine WC.region ?_
  refine WL.y (Yl.assign rfl) rfl ?_ -- t2
  refine WL.y (Yl.assign rfl) rfl ?_ -- t3
  refine WL.y (Yl.assign rfl) rfl ?_ -- t4
  refine WL.nil ?_
  refine WC.seq ?_
  refine WC.seq ?_
  refine WC.region ?_
  refine WL.y (Yl.move rfl) rfl ?_ -- t8
  refine WL.y (Yl.len un22 rfl) rfl ?_ -- t9
  refine WL.y (Yl.lss rfl rfl) rfl ?_ -- t10
  refine WL.y (Yl.move rfl) rfl ?_ -- t11
  refine WL.both (t := 11) rfl (fun g11 => ?_) (fun g11 => ?_)
  · refine WL.off rfl rfl rfl rfl ?_ -- t12
    refine WL.off rfl rfl rfl rfl ?_ -- t13
    refine WL.off rfl rfl rfl rfl ?_ -- t14
    refine WL.off rfl rfl rfl rfl ?_ -- t15
    refine WL.y (Yl.pickT rfl rfl) rfl ?_ -- t16
    refine WL.nil ?_
    refine WC.condT rfl (by first | rfl | (simp; done) | (simp; omega)) ?_
    refine WC.seq ?_
    refine WC.region ?_
    refine WL.y (Yl.assign rfl) rfl ?_ -- t2
    refine WL.y (Yl.assign rfl) rfl ?_ -- t3
    refine WL.y (Yl.assign rfl) rfl ?_ -- t4
    refine WL.nil ?_
    refine WC.ret ?_
    repeat (first | (with_reducible refine peelT ?_) | (with_reducible refine peelB ?_) | (with_reducible refine peelTX ?_) | (with_reducible refine peelBX ?_) | (with_reducible refine peelBN ?_) | (with_reducible refine peelBO rfl ?_))
    exact ret3 (.inr rfl) Try.results22 rfl rfl rfl fun w' h => nok (no_len (by have := of_decide_eq_true g11; omega)) (h.sub (by repeat (first | exact TakeL.nil | (apply TakeL.cons; · repeat (first | exact Take1.head | apply Take1.tail)))))
  · refine WL.on rfl rfl ?_
    skip
    refine WL.y (Yl.move rfl) rfl ?_ -- t12
    refine WL.on rfl rfl ?_
    have h22 : 22 ≤ x.length := by have := of_decide_eq_false g11; omega
    refine WL.y (Yl.slice (h := 2) un22 sz5 rfl rfl ⟨_, rfl⟩ (by omega) (by omega)) rfl ?_ -- t13
    refine WL.on rfl rfl ?_
    refine WL.y (Yl.toStr un22 un5 un9 rfl (Reads.s (hx.cut 0 2 (zs := x.take 2) (by omega) (by omega) rfl))) rfl ?_ -- t14
    refine WL.on rfl rfl ?_
    refine WL.y (Yl.sNe rfl rfl) rfl ?_ -- t15
    refine WL.y (Yl.pickF rfl rfl) rfl ?_ -- t16
    refine WL.nil ?_
    refine WC.cond rfl (fun g16 => ?_) (fun g16 => ?_)
    · refine WC.seq ?_
      refine WC.region ?_
      refine WL.y (Yl.assign rfl) rfl ?_ -- t2
      refine WL.y (Yl.assign rfl) rfl ?_ -- t3
      refine WL.y (Yl.assign rfl) rfl ?_ -- t4
      refine WL.nil ?_
      refine WC.ret ?_
      repeat (first | (with_reducible refine peelT ?_) | (with_reducible refine peelB ?_) | (with_reducible refine peelTX ?_) | (with_reducible refine peelBX ?_) | (with_reducible refine peelBN ?_) | (with_reducible refine peelBO rfl ?_))
      exact ret3 (.inr rfl) Try.results22 rfl rfl rfl fun w' h => nok (whOk_F2 (fun e => by rw [e] at g16; revert g16; decide +kernel)) (h.sub (by repeat (first | exact TakeL.nil | (apply TakeL.cons; · repeat (first | exact Take1.head | apply Take1.tail)))))
    · refine WC.skip ?_
      refine WC.seq ?_
      have hmag : x.take 2 = [72, 68] := by
        have e0 : (strOfNums [72, 68]).toList = [72, 68] := by decide +kernel
        have e1 : (strOfNums (x.take 2)).toList = (strOfNums [72, 68]).toList := by rw [e0]; simpa using g16
        have := strEq (hB.take 2) (ys := [72, 68]) (by intro y hy; simp at hy; omega)
        rw [e1] at this
        simpa using this
      have hT : Bytes ((x.drop 2).take 12) := (hB.drop 2).take 12
      have hTl : ((x.drop 2).take 12).length = 12 := by simp; omega
      have eR : tkR 8 ((x.drop 2).take 12) false = (x.drop 2).take 8 := by unfold tkR tkOk; rw [hTl]; simp [List.take_take]
      have eB : tkB 8 ((x.drop 2).take 12) false = (x.drop 10).take 4 := by unfold tkB tkOk; rw [hTl]; simp [List.drop_take]
      have eW : tkW 8 ((x.drop 2).take 12) false = false := by unfold tkW tkOk; rw [hTl]; rfl
      have hT2 : Bytes ((x.drop 10).take 4) := (hB.drop 10).take 4
      have hT2l : ((x.drop 10).take 4).length = 4 := by simp; omega
      have eR2 : tkR 4 ((x.drop 10).take 4) false = (x.drop 10).take 4 := by unfold tkR tkOk; rw [hT2l]; simp [List.take_take]
      have hN := whN_rng hB
      have hS := whS_rng hB
      have hK := whK_eq hB
      refine WC.region ?_
      refine WL.y (Yl.move rfl) rfl ?_ -- t17
      refine WL.y (Yl.slice (l := 2) (h := 14) un22 sz5 rfl ⟨_, rfl⟩ ⟨_, rfl⟩ (by omega) (by omega)) rfl ?_ -- t18
      refine WL.callC (xs := [.tmp 18]) (cap := []) rfl rfl en33 (by repeat (first | exact TakeL.nil | (apply TakeL.cons; · repeat (first | exact Take1.head | apply Take1.tail)))) (fun w hw => newIn_any (subS (.slice al x.length cl) 2 14 cl 1) ((x.drop 2).take 12) (by rw [hTl]; omega) w (hw.srcS (A := []) (hx.cut 2 14 (by omega) (by omega) rfl)) hw.left.here) rfl ?_ -- t19 hailer/wire.NewIn
      rintro ⟨bi, ai, ci⟩ hci
      dsimp only at hci ⊢
      refine WL.y (Yl.assign rfl) rfl ?_ -- t5
      refine WL.nil ?_
      refine WC.seq ?_
      refine WC.region ?_
      refine WL.y (Yl.move rfl) rfl ?_ -- t20
      refine WL.callC (xs := [.tmp 20]) (cap := []) rfl rfl en34 (by repeat (first | exact TakeL.nil | (apply TakeL.cons; · repeat (first | exact Take1.head | apply Take1.tail)))) (fun w hw => inU64_any bi ai ci ((x.drop 2).take 12) false (ownR (.slice ai ((x.drop 2).take 12).length ci) 5 1 ((x.drop 2).take 12).length (ints .u8 ((x.drop 2).take 12))) RdOf.own hci hT w hw.left.here) rfl ?_ -- t21 (*hailer/wire.In).U64
      rintro ⟨a1, c1⟩ ⟨r1, hc1⟩
      dsimp only at r1 hc1 ⊢
      rw [eB] at r1 hc1
      rw [eR, eB, eW]
      refine WL.say (t := 21) (v' := .int .u64 (whN x)) rfl (by rfl) ?_
      refine WL.y (Yl.move rfl) rfl ?_ -- t22
      refine WL.callC (xs := [.tmp 22]) (cap := []) rfl rfl en35 (by repeat (first | exact TakeL.nil | (apply TakeL.cons; · repeat (first | exact Take1.head | apply Take1.tail)))) (fun w hw => inU32_any bi a1 c1 ((x.drop 10).take 4) false (ownR (.slice ai ((x.drop 2).take 12).length ci) 5 1 ((x.drop 2).take 12).length (ints .u8 ((x.drop 2).take 12))) r1 hc1 hT2 w hw.left.here) rfl ?_ -- t23 (*hailer/wire.In).U32
      rintro ⟨a2, c2⟩ -
      rw [eR2]
      refine WL.y (Yl.conv un63 un31 rfl (show IntKind.u64.wrap (val ((x.drop 10).take 4)) = whS x from u64_in _ (by unfold whS at hS; omega))) rfl ?_ -- t24
      refine WL.y (Yl.assign rfl) rfl ?_ -- t2
      refine WL.y (Yl.assign rfl) rfl ?_ -- t6
      refine WL.nil ?_
      refine WC.seq ?_
      refine WC.seq ?_
      refine WC.region ?_
      refine WL.y (Yl.move rfl) rfl ?_ -- t25
      refine WL.y (Yl.eql rfl rfl) rfl ?_ -- t26
      refine WL.y (Yl.move rfl) rfl ?_ -- t27
      refine WL.both (t := 27) rfl (fun g27 => ?_) (fun g27 => ?_)
      · refine WL.off rfl rfl rfl rfl ?_ -- t28
        refine WL.off rfl rfl rfl rfl ?_ -- t29
        refine WL.y (Yl.pickT rfl rfl) rfl ?_ -- t30
        refine WL.y (Yl.move rfl) rfl ?_ -- t31
        refine WL.off rfl rfl rfl rfl ?_ -- t32
        refine WL.off rfl rfl rfl rfl ?_ -- t33
        refine WL.off rfl rfl rfl rfl ?_ -- t34
        refine WL.off rfl rfl rfl rfl ?_ -- t35
        refine WL.off rfl rfl rfl rfl ?_ -- t36
        refine WL.off rfl rfl rfl rfl ?_ -- t37
        refine WL.off rfl rfl rfl rfl ?_ -- t38
        refine WL.y (Yl.pickT rfl rfl) rfl ?_ -- t39
        refine WL.nil ?_
        refine WC.condT rfl (by first | rfl | (simp; done) | (simp; omega)) ?_
        refine WC.seq ?_
        refine WC.region ?_
        refine WL.y (Yl.assign rfl) rfl ?_ -- t2
        refine WL.y (Yl.assign rfl) rfl ?_ -- t3
        refine WL.y (Yl.assign rfl) rfl ?_ -- t4
        refine WL.nil ?_
        refine WC.ret ?_
        repeat (first | (with_reducible refine peelT ?_) | (with_reducible refine peelB ?_) | (with_reducible refine peelTX ?_) | (with_reducible refine peelBX ?_) | (with_reducible refine peelBN ?_) | (with_reducible refine peelBO rfl ?_))
        exact ret3 (.inr rfl) Try.results22 rfl rfl rfl fun w' h => nok (whOk_F1 (by have := of_decide_eq_true g27; unfold whFit; rw [decide_eq_false (p := whN x ≠ 0) (by omega)]; simp)) (h.sub (by repeat (first | exact TakeL.nil | (apply TakeL.cons; · repeat (first | exact Take1.head | apply Take1.tail)))))
      · refine WL.on rfl rfl ?_
        refine WL.y (Yl.move rfl) rfl ?_ -- t28
        refine WL.on rfl rfl ?_
        refine WL.y (Yl.gtr rfl rfl) rfl ?_ -- t29
        refine WL.y (Yl.pickF rfl rfl) rfl ?_ -- t30
        refine WL.y (Yl.move rfl) rfl ?_ -- t31
        refine WL.both (t := 31) rfl (fun g31 => ?_) (fun g31 => ?_)
        · refine WL.off rfl rfl rfl rfl ?_ -- t32
          refine WL.off rfl rfl rfl rfl ?_ -- t33
          refine WL.off rfl rfl rfl rfl ?_ -- t34
          refine WL.off rfl rfl rfl rfl ?_ -- t35
          refine WL.off rfl rfl rfl rfl ?_ -- t36
          refine WL.off rfl rfl rfl rfl ?_ -- t37
          refine WL.off rfl rfl rfl rfl ?_ -- t38
          refine WL.y (Yl.pickT rfl rfl) rfl ?_ -- t39
          refine WL.nil ?_
          refine WC.condT rfl (by first | rfl | (simp; done) | (simp; omega)) ?_
          refine WC.seq ?_
          refine WC.region ?_
          refine WL.y (Yl.assign rfl) rfl ?_ -- t2
          refine WL.y (Yl.assign rfl) rfl ?_ -- t3
          refine WL.y (Yl.assign rfl) rfl ?_ -- t4
          refine WL.nil ?_
          refine WC.ret ?_
          repeat (first | (with_reducible refine peelT ?_) | (with_reducible refine peelB ?_) | (with_reducible refine peelTX ?_) | (with_reducible refine peelBX ?_) | (with_reducible refine peelBN ?_) | (with_reducible refine peelBO rfl ?_))
          exact ret3 (.inr rfl) Try.results22 rfl rfl rfl fun w' h => nok (whOk_F1 (by have := of_decide_eq_true g31; unfold whFit; rw [decide_eq_false (p := whS x ≤ 8388608) (by omega)]; simp)) (h.sub (by repeat (first | exact TakeL.nil | (apply TakeL.cons; · repeat (first | exact Take1.head | apply Take1.tail)))))
        · refine WL.on rfl rfl ?_
          refine WL.y (Yl.move rfl) rfl ?_ -- t32
          refine WL.on rfl rfl ?_
          refine WL.y (Yl.move rfl) rfl ?_ -- t33
          refine WL.on rfl rfl ?_
          refine WL.y (Yl.len un22 rfl) rfl ?_ -- t34
          refine WL.on rfl rfl ?_
          refine WL.y (Yl.sub rfl rfl (IntWalk.i64_in _ (by omega))) rfl ?_ -- t35
          refine WL.on rfl rfl ?_
          refine WL.y (Yl.sub rfl rfl (IntWalk.i64_in _ (by omega))) rfl ?_ -- t36
          refine WL.on rfl rfl ?_
          have hk0 : whS x ≤ 8388608 := by have := of_decide_eq_false g31; omega
          refine WL.y (Yl.conv un3 un31 rfl (u64_in _ (by omega))) rfl ?_ -- t37
          refine WL.on rfl rfl ?_
          refine WL.y (Yl.gtr rfl rfl) rfl ?_ -- t38
          refine WL.y (Yl.pickF rfl rfl) rfl ?_ -- t39
          refine WL.nil ?_
          refine WC.condD rfl (fun g39 => ?_) (fun g39 => ?_)
          · refine WC.seq ?_
            refine WC.region ?_
            refine WL.y (Yl.assign rfl) rfl ?_ -- t2
            refine WL.y (Yl.assign rfl) rfl ?_ -- t3
            refine WL.y (Yl.assign rfl) rfl ?_ -- t4
            refine WL.nil ?_
            refine WC.ret ?_
            repeat (first | (with_reducible refine peelT ?_) | (with_reducible refine peelB ?_) | (with_reducible refine peelTX ?_) | (with_reducible refine peelBX ?_) | (with_reducible refine peelBN ?_) | (with_reducible refine peelBO rfl ?_))
            exact ret3 (.inr rfl) Try.results22 rfl rfl rfl fun w' h => nok (whOk_F1 (by unfold whFit; rw [decide_eq_false (p := whK x ≤ x.length - 22) (by omega)]; simp)) (h.sub (by repeat (first | exact TakeL.nil | (apply TakeL.cons; · repeat (first | exact Take1.head | apply Take1.tail)))))
          · refine WC.skip ?_
            refine WC.seq ?_
            have hkl : whK x + 22 ≤ x.length := by omega
            have hfit : whFit x = true := by
              have n0 := of_decide_eq_false g27
              unfold whFit
              rw [decide_eq_true (by omega), decide_eq_true n0, decide_eq_true hk0, decide_eq_true (by omega)]; rfl
            refine WC.region ?_
            refine WL.y (Yl.move rfl) rfl ?_ -- t40
            refine WL.y (Yl.conv un31 un3 rfl (IntWalk.i64_in _ (by omega))) rfl ?_ -- t41
            refine WL.y (Yl.add rfl rfl (IntWalk.i64_in _ (by omega))) rfl ?_ -- t42
            refine WL.say (t := 42) (v' := .int .i64 ((14 + whK x : Nat) : Int)) rfl (by (refine congrArg _ ?_; omega)) ?_
            refine WL.y (Yl.assign rfl) rfl ?_ -- t7
            refine WL.nil ?_
            refine WC.seq ?_
            refine WC.seq ?_
            refine WC.drawAny (Hs := []) mixed (by kernel_rfl) ⟨_, (by repeat (first | exact TakeL.nil | (apply TakeL.cons; · repeat (first | exact Take1.head | apply Take1.tail))))⟩ ?_
            refine WD.take 0 rfl (by kernel_rfl) (by kernel_rfl) (by kernel_rfl) rfl rfl (Yl.move rfl) rfl ?_ -- t43
            refine WD.take 1 rfl (by kernel_rfl) (by kernel_rfl) (by kernel_rfl) rfl rfl (Yl.move rfl) rfl ?_ -- t44
            refine WD.take 2 rfl (by kernel_rfl) (by kernel_rfl) (by kernel_rfl) rfl rfl (Yl.slice (l := 0) (h := 14 + whK x) un22 sz5 rfl rfl ⟨_, rfl⟩ (by omega) (by omega)) rfl ?_
            refine WD.take 4 rfl (by kernel_rfl) (by kernel_rfl) (by kernel_rfl) rfl rfl (Yl.move rfl) rfl ?_ -- t47
            refine WD.take 5 rfl (by kernel_rfl) (by kernel_rfl) (by kernel_rfl) rfl rfl (Yl.move rfl) rfl ?_ -- t48
            refine WD.take 6 rfl (by kernel_rfl) (by kernel_rfl) (by kernel_rfl) rfl rfl (Yl.move rfl) rfl ?_ -- t49
            refine WD.take 7 rfl (by kernel_rfl) (by kernel_rfl) (by kernel_rfl) rfl rfl (Yl.add rfl rfl (IntWalk.i64_in _ (by omega))) rfl ?_ -- t50
            refine WD.say (t := 50) (v' := .int .i64 ((22 + whK x : Nat) : Int)) rfl (by (refine congrArg _ ?_; omega)) ?_
            refine WD.take 8 rfl (by kernel_rfl) (by kernel_rfl) (by kernel_rfl) rfl rfl (Yl.slice (l := 14 + whK x) (h := 22 + whK x) un22 sz5 rfl ⟨_, rfl⟩ ⟨_, rfl⟩ (by omega) (by omega)) rfl ?_
            refine WD.one 3 (by kernel_rfl) ?_
            refine WO.callC (xs := [.tmp 45]) (cap := []) rfl .no rfl rfl en28 (by repeat (first | exact TakeL.nil | (apply TakeL.cons; · repeat (first | exact Take1.head | apply Take1.tail)))) (fun w hw => dsum_any (x.take (14 + whK x)) (subS (.slice al x.length cl) 0 (14 + whK x) cl 1) (by simp; omega) w (hw.srcS (A := []) (hx.cut 0 (14 + whK x) (by omega) (by omega) rfl)) hw.left.here) rfl (fun _ => ⟨_, (by repeat (first | exact TakeL.nil | (apply TakeL.cons; · repeat (first | exact Take1.head | apply Take1.tail))))⟩) ?_ -- t46 hailer/disk.sum
            intro b46 _
            refine WD.one 9 (by kernel_rfl) ?_
            refine WO.callC (xs := [.tmp 46, .tmp 51]) (cap := []) rfl .no rfl rfl en36 (by repeat (first | exact TakeL.nil | (apply TakeL.cons; · repeat (first | exact Take1.head | apply Take1.tail)))) (fun w hw => equal_any ((sum256 (x.take (14 + whK x))).take 8) ((x.drop (14 + whK x)).take 8) _ _ (sumB _) ((hB.drop _).take 8) w (by have := hw.src (A := []) RdOf.rd' (by repeat (first | exact Take1.head | apply Take1.tail)) (v := .slice (some ⟨b46, 0, none⟩) 8 32); rw [show ((sum256 (x.take (14 + whK x))).take 8).length = 8 by rw [List.length_take, sum256_len]; rfl]; exact this) (hw.srcS (A := []) (hx.cut (14 + whK x) (22 + whK x) (by omega) (by omega) (by rw [show 22 + whK x - (14 + whK x) = 8 by omega]))) hw.left.here) rfl (fun _ => ⟨_, (by repeat (first | exact TakeL.nil | (apply TakeL.cons; · repeat (first | exact Take1.head | apply Take1.tail))))⟩) ?_ -- t52 bytes.Equal
            rintro ⟨⟩ -
            refine WD.take 10 rfl (by kernel_rfl) (by kernel_rfl) (by kernel_rfl) rfl rfl (Yl.not rfl) rfl ?_ -- t53
            refine WD.done (by kernel_rfl) ?_
            refine WC.cond rfl (fun g53 => ?_) (fun g53 => ?_)
            · refine WC.seq ?_
              refine WC.region ?_
              refine WL.y (Yl.assign rfl) rfl ?_ -- t2
              refine WL.y (Yl.assign rfl) rfl ?_ -- t3
              refine WL.y (Yl.assign rfl) rfl ?_ -- t4
              refine WL.nil ?_
              refine WC.ret ?_
              repeat (first | (with_reducible refine peelT ?_) | (with_reducible refine peelB ?_) | (with_reducible refine peelTX ?_) | (with_reducible refine peelBX ?_) | (with_reducible refine peelBN ?_) | (with_reducible refine peelBO rfl ?_))
              exact ret3 (.inr rfl) Try.results22 rfl rfl rfl fun w' h => nok (by unfold whOk; rw [notT g53]; simp) (h.sub (by repeat (first | exact TakeL.nil | (apply TakeL.cons; · repeat (first | exact Take1.head | apply Take1.tail)))))
            · refine WC.skip ?_
              refine WC.seq ?_
              refine WC.drawAny (Hs := []) mixed (by kernel_rfl) ⟨_, (by repeat (first | exact TakeL.nil | (apply TakeL.cons; · repeat (first | exact Take1.head | apply Take1.tail))))⟩ ?_
              refine WD.take 0 rfl (by kernel_rfl) (by kernel_rfl) (by kernel_rfl) rfl rfl (Yl.move rfl) rfl ?_ -- t54
              refine WD.take 1 rfl (by kernel_rfl) (by kernel_rfl) (by kernel_rfl) rfl rfl (Yl.move rfl) rfl ?_ -- t55
              refine WD.take 2 rfl (by kernel_rfl) (by kernel_rfl) (by kernel_rfl) rfl rfl (Yl.move rfl) rfl ?_ -- t56
              refine WD.take 3 rfl (by kernel_rfl) (by kernel_rfl) (by kernel_rfl) rfl rfl (Yl.slice (l := 14) (h := 14 + whK x) un22 sz5 rfl ⟨_, rfl⟩ ⟨_, rfl⟩ (by omega) (by omega)) rfl ?_
              refine WD.take 4 rfl (by kernel_rfl) (by kernel_rfl) (by kernel_rfl) rfl rfl (Yl.assign rfl) rfl ?_ -- t2
              refine WD.take 5 rfl (by kernel_rfl) (by kernel_rfl) (by kernel_rfl) rfl rfl (Yl.assign rfl) rfl ?_ -- t3
              refine WD.take 6 rfl (by kernel_rfl) (by kernel_rfl) (by kernel_rfl) rfl rfl (Yl.assign rfl) rfl ?_ -- t4
              refine WD.done (by kernel_rfl) ?_
              refine WC.ret ?_
              repeat (first | (with_reducible refine peelT ?_) | (with_reducible refine peelB ?_) | (with_reducible refine peelTX ?_) | (with_reducible refine peelBX ?_) | (with_reducible refine peelBN ?_) | (with_reducible refine peelBO rfl ?_))
              have hok : whOk x = true := by
                unfold whOk
                rw [hfit, decide_eq_true hmag, notF g53]; rfl
              exact ret3 (.inr rfl) Try.results22 rfl rfl rfl fun w' h => ⟨(), trivial, by unfold whN0 whV; rw [hok]; rfl, h.sub (by repeat (first | exact TakeL.nil | (apply TakeL.cons; · repeat (first | exact Take1.head | apply Take1.tail))))⟩

/-- The disk in block b: its slots' slices, their bytes. -/
abbrev dskR (b : Nat) (v0 v1 : Value) (x y : List Int) : List Res := [blkR b 49 [v0, v1], rdR v0 1 x.length (ints .u8 x), rdR v1 1 y.length (ints .u8 y)]
def nwV (v0 v1 : Value) (x y : List Int) : Value := if nwS x y = 1 then whV v1 y else if nwS x y = 0 then whV v0 x else .slice none 0 0
/-- The newest one of the first k. -/
def nkS (x y : List Int) (k : Nat) : Int := if k = 0 then -1 else if k = 1 then (if whOk x then 0 else -1) else nwS x y
def nkN (x y : List Int) (k : Nat) : Int := if k = 0 then 0 else if k = 1 then whN0 x else nwN x y
def nkV (v0 v1 : Value) (x y : List Int) (k : Nat) : Value := if k = 0 then .slice none 0 0 else if k = 1 then whV v0 x else nwV v0 v1 x y
def nkG (x y : List Int) (k : Nat) (z : List Int) : Prop := whOk z = true ∧ (nkS x y k < 0 ∨ nkN x y k < whN z)
theorem nk_step {v0 v1 : Value} {x y : List Int} {k : Nat} (hk : k < 2) : let z := if k = 0 then x else y; let v := if k = 0 then v0 else v1
    (nkG x y k z → nkS x y (k + 1) = (k : Int) ∧ nkN x y (k + 1) = whN0 z ∧ nkV v0 v1 x y (k + 1) = whV v z) ∧ (¬ nkG x y k z → nkS x y (k + 1) = nkS x y k ∧ nkN x y (k + 1) = nkN x y k ∧ nkV v0 v1 x y (k + 1) = nkV v0 v1 x y k) := by
  intro z v
  rcases (show k = 0 ∨ k = 1 by omega) with rfl | rfl
  · have hz : z = x := rfl
    have hv : v = v0 := rfl
    rw [hz, hv]
    constructor
    · intro h
      simp [nkS, nkN, nkV, h.1]
    · intro h
      have : whOk x = false := by
        cases e : whOk x with
        | false => rfl
        | true => exact absurd ⟨e, .inl (by simp [nkS])⟩ h
      simp [nkS, nkN, nkV, this, whN0, whV]
  · have hz : z = y := rfl
    have hv : v = v1 := rfl
    rw [hz, hv]
    constructor
    · intro ⟨h1, h2⟩
      have hs : nwS x y = 1 := by
        unfold nwS
        rw [h1, Bool.true_and]
        refine if_pos ?_
        cases e : whOk x with
        | false => rfl
        | true =>
          rcases h2 with h2 | h2
          · simp [nkS, e] at h2
          · simp [nkN, whN0, e] at h2
            simp [h2]
      simp [nkS, nkN, nkV, hs, nwN, nwV, whN0, h1]
    · intro h
      have hs : nwS x y = if whOk x then 0 else -1 := by
        unfold nwS
        refine if_neg ?_
        intro h'
        rw [Bool.and_eq_true] at h'
        refine h ⟨h'.1, ?_⟩
        cases e : whOk x with
        | false => exact .inl (by simp [nkS, e])
        | true =>
          rw [e] at h'
          exact .inr (by simpa [nkN, whN0, e] using h'.2)
      cases e : whOk x with
      | false => rw [e] at hs; simp at hs; simp [nkS, nkN, nkV, hs, nwN, nwV, whN0, whV, e]
      | true => rw [e] at hs; simp at hs; simp [nkS, nkN, nkV, hs, nwN, nwV, whN0, whV, e]

set_option maxRecDepth 100000 in
theorem newest_any (b : Nat) (v0 v1 : Value) (x y : List Int) (hX : Bytes x) (hY : Bytes y) (hxl : x.length ≤ 90000) (hyl : y.length ≤ 90000) (w : World) (hw : OK w (fpL (dskR b v0 v1 x y)) (dskR b v0 v1 x y) w) :
    Fn Try.prog 16 [.pointer (some ⟨b, 0, none⟩)] (dskR b v0 v1 x y) w (fun _ : Unit => True) (fun _ => .tuple #[.int .i64 (nwS x y), .int .u64 (nwN x y), nwV v0 v1 x y]) (fun _ => dskR b v0 v1 x y) := by
  unfold dskR at hw ⊢
  refine enterF Try.func16 rfl Try.ntmps16 rfl hw ?_
  refine WC.seq ?_
  refine WC.region ?_
  refine WL.y (Yl.assign rfl) rfl ?_ -- t2
  refine WL.y (Yl.assign rfl) rfl ?_ -- t3
  refine WL.y (Yl.assign rfl) rfl ?_ -- t4
  refine WL.nil ?_
  refine WC.seq ?_
  refine WC.region ?_
  refine WL.y (Yl.assign rfl) rfl ?_ -- t2
  refine WL.nil ?_
  refine WC.seq ?_
  refine WC.seq ?_
  refine WC.region ?_
  refine WL.y (Yl.move rfl) rfl ?_ -- t10
  refine WL.y (Yl.nilCheck rfl) rfl ?_ -- t11
  refine WL.y (Yl.field fo49_0 rfl) rfl ?_ -- t12
  refine WL.y (Yl.loadN ag23 rfl (by repeat (first | exact Take1.head | apply Take1.tail)) (by rfl) (by rfl)) rfl ?_ -- t13
  refine WL.y (Yl.move rfl) rfl ?_ -- t14
  refine WL.nil ?_
  refine WC.block ?_
  refine WC.loop (α := Nat) (fun k => [(13, .agg [v0, v1].toArray), (2, .int .i64 (nkS x y k)), (3, .int .u64 (nkN x y k)), (4, nkV v0 v1 x y k), (14, .int .i64 (k : Int))]) (fun _ => [blkR b 49 [v0, v1], rdR v0 1 x.length (ints .u8 x), rdR v1 1 y.length (ints .u8 y)]) (fun k => k ≤ 2) (fun k => 2 - k) 0 (by decide) ⟨(by repeat (first | exact Sub.nil | refine Sub.cons rfl ?_)), _, (by repeat (first | exact TakeL.nil | (apply TakeL.cons; · repeat (first | exact Take1.head | apply Take1.tail))))⟩ ?_
  intro k hk
  refine WC.seq ?_
  refine WC.region ?_
  refine WL.y (Yl.lss rfl rfl) rfl ?_ -- t15
  refine WL.nil ?_
  refine WC.seq ?_
  refine WC.condD rfl (fun g15 => ?_) (fun g15 => ?_)
  · refine WC.skip ?_
    refine WC.seq ?_
    refine WC.block ?_
    refine WC.seq ?_
    refine WC.region ?_
    have hk2 : k < 2 := by omega
    have hst := nk_step (v0 := v0) (v1 := v1) (x := x) (y := y) hk2
    obtain ⟨z, hz⟩ : ∃ z, (if k = 0 then x else y) = z := ⟨_, rfl⟩
    obtain ⟨v, hv⟩ : ∃ v, (if k = 0 then v0 else v1) = v := ⟨_, rfl⟩
    dsimp only at hst
    rw [hz, hv] at hst
    have hvk : ([v0, v1] : List Value)[k]? = some v := by rcases (show k = 0 ∨ k = 1 by omega) with rfl | rfl <;> exact congrArg some hv
    have hZ : Bytes z ∧ z.length ≤ 90000 := by rw [← hz]; split <;> exact ⟨by assumption, by assumption⟩
    refine WL.view (H' := [rdR v 1 z.length (ints .u8 z), blkR b 49 [v0, v1], rdR v0 1 x.length (ints .u8 x), rdR v1 1 y.length (ints .u8 y)]) (fun w h => by
      rcases (show k = 0 ∨ k = 1 by omega) with rfl | rfl
      · obtain rfl : x = z := hz
        obtain rfl : v0 = v := hv
        exact h.dup (.tail .head) (fun _ h => h)
      · obtain rfl : y = z := hz
        obtain rfl : v1 = v := hv
        exact h.dup (.tail (.tail .head)) (fun _ h => h)) ?_
    refine WL.y (Yl.move rfl) rfl ?_ -- t16
    refine WL.y (Yl.idx un23 sz22 on22 rfl rfl rfl (by omega) hvk) rfl ?_ -- t17
    refine WL.y (Yl.assign rfl) rfl ?_ -- t5
    refine WL.y (Yl.assign rfl) rfl ?_ -- t6
    refine WL.nil ?_
    refine WC.seq ?_
    refine WC.region ?_
    refine WL.y (Yl.move rfl) rfl ?_ -- t19
    refine WL.callC (xs := [.tmp 19]) (cap := []) rfl rfl en22 (by repeat (first | exact TakeL.nil | (apply TakeL.cons; · repeat (first | exact Take1.head | apply Take1.tail)))) (fun w hw => whole_any z v hZ.1 hZ.2 w (hw.src (A := []) RdOf.rd' .head) hw.left.here) rfl ?_ -- t20 hailer/disk.whole
    rintro ⟨⟩ -
    refine WL.y (Yl.move rfl) rfl ?_ -- t18
    refine WL.y (Yl.extract rfl rfl) rfl ?_ -- t21
    refine WL.y (Yl.extract rfl rfl) rfl ?_ -- t22
    refine WL.y (Yl.extract rfl rfl) rfl ?_ -- t23
    refine WL.y (Yl.assign rfl) rfl ?_ -- t7
    refine WL.y (Yl.assign rfl) rfl ?_ -- t8
    refine WL.y (Yl.assign rfl) rfl ?_ -- t9
    refine WL.nil ?_
    refine WC.seq ?_
    refine WC.region ?_
    refine WL.y (Yl.move rfl) rfl ?_ -- t24
    refine WL.y (Yl.move rfl) rfl ?_ -- t25
    refine WL.both (t := 25) rfl (fun g25 => ?_) (fun g25 => ?_)
    · refine WL.on rfl rfl ?_
      refine WL.y (Yl.move rfl) rfl ?_ -- t26
      refine WL.on rfl rfl ?_
      refine WL.y (Yl.lss rfl rfl) rfl ?_ -- t27
      refine WL.on rfl rfl ?_
      refine WL.y (Yl.move rfl) rfl ?_ -- t28
      refine WL.both (t := 28) rfl (fun g28 => ?_) (fun g28 => ?_)
      · refine WL.off rfl rfl rfl rfl ?_ -- t29
        refine WL.off rfl rfl rfl rfl ?_ -- t30
        refine WL.off rfl rfl rfl rfl ?_ -- t31
        refine WL.on rfl rfl ?_
        refine WL.y (Yl.pickT rfl rfl) rfl ?_ -- t32
        refine WL.y (Yl.pickT rfl rfl) rfl ?_ -- t33
        refine WL.nil ?_
        refine WC.condT rfl (by first | rfl | (simp; done) | (simp; omega)) ?_
        refine WC.region ?_
        refine WL.y (Yl.move rfl) rfl ?_ -- t34
        refine WL.y (Yl.move rfl) rfl ?_ -- t35
        refine WL.y (Yl.move rfl) rfl ?_ -- t36
        refine WL.y (Yl.assign rfl) rfl ?_ -- t2
        refine WL.y (Yl.assign rfl) rfl ?_ -- t3
        refine WL.y (Yl.assign rfl) rfl ?_ -- t4
        refine WL.nil ?_
        refine WC.region ?_
        refine WL.y (Yl.add rfl rfl (IntWalk.i64_in _ (by omega))) rfl ?_ -- t37
        refine WL.y (Yl.move rfl) rfl ?_ -- t14
        refine WL.nil ?_
        obtain ⟨e1, e2, e3⟩ := hst.1 ⟨g25, .inl (of_decide_eq_true g28)⟩
        exact ⟨rfl, k + 1, by omega, by omega, by rw [e1, e2, e3]; exact (by repeat (first | exact Sub.nil | refine Sub.cons rfl ?_)), _, (by repeat (first | exact TakeL.nil | (apply TakeL.cons; · repeat (first | exact Take1.head | apply Take1.tail))))⟩
      · refine WL.on rfl rfl ?_
        refine WL.y (Yl.move rfl) rfl ?_ -- t29
        refine WL.on rfl rfl ?_
        refine WL.y (Yl.move rfl) rfl ?_ -- t30
        refine WL.on rfl rfl ?_
        refine WL.y (Yl.gtr rfl rfl) rfl ?_ -- t31
        refine WL.on rfl rfl ?_
        refine WL.y (Yl.pickF rfl rfl) rfl ?_ -- t32
        refine WL.y (Yl.pickT rfl rfl) rfl ?_ -- t33
        refine WL.nil ?_
        refine WC.condD rfl (fun g33 => ?_) (fun g33 => ?_)
        · refine WC.region ?_
          refine WL.y (Yl.move rfl) rfl ?_ -- t34
          refine WL.y (Yl.move rfl) rfl ?_ -- t35
          refine WL.y (Yl.move rfl) rfl ?_ -- t36
          refine WL.y (Yl.assign rfl) rfl ?_ -- t2
          refine WL.y (Yl.assign rfl) rfl ?_ -- t3
          refine WL.y (Yl.assign rfl) rfl ?_ -- t4
          refine WL.nil ?_
          refine WC.region ?_
          refine WL.y (Yl.add rfl rfl (IntWalk.i64_in _ (by omega))) rfl ?_ -- t37
          refine WL.y (Yl.move rfl) rfl ?_ -- t14
          refine WL.nil ?_
          obtain ⟨e1, e2, e3⟩ := hst.1 ⟨g25, .inr (by rw [show whN z = whN0 z by unfold whN0; rw [g25]; rfl]; exact g33)⟩
          exact ⟨rfl, k + 1, by omega, by omega, by rw [e1, e2, e3]; exact (by repeat (first | exact Sub.nil | refine Sub.cons rfl ?_)), _, (by repeat (first | exact TakeL.nil | (apply TakeL.cons; · repeat (first | exact Take1.head | apply Take1.tail))))⟩
        · refine WC.skip ?_
          refine WC.region ?_
          refine WL.y (Yl.add rfl rfl (IntWalk.i64_in _ (by omega))) rfl ?_ -- t37
          refine WL.y (Yl.move rfl) rfl ?_ -- t14
          refine WL.nil ?_
          obtain ⟨e1, e2, e3⟩ := hst.2 (fun hG => hG.2.elim (of_decide_eq_false g28) (by rw [show whN z = whN0 z by unfold whN0; rw [g25]; rfl]; exact g33))
          exact ⟨rfl, k + 1, by omega, by omega, by rw [e1, e2, e3]; exact (by repeat (first | exact Sub.nil | refine Sub.cons rfl ?_)), _, (by repeat (first | exact TakeL.nil | (apply TakeL.cons; · repeat (first | exact Take1.head | apply Take1.tail))))⟩
    · refine WL.off rfl rfl rfl rfl ?_ -- t26
      refine WL.off rfl rfl rfl rfl ?_ -- t27
      refine WL.off rfl rfl rfl rfl ?_ -- t28
      refine WL.offU rfl rfl rfl ?_ -- t29
      refine WL.offU rfl rfl rfl ?_ -- t30
      refine WL.offU rfl rfl rfl ?_ -- t31
      refine WL.off rfl rfl rfl rfl ?_ -- t32
      refine WL.y (Yl.pickF rfl rfl) rfl ?_ -- t33
      refine WL.nil ?_
      refine WC.condF rfl (by first | rfl | (simp; done) | (simp; omega)) ?_
      refine WC.skip ?_
      refine WC.region ?_
      refine WL.y (Yl.add rfl rfl (IntWalk.i64_in _ (by omega))) rfl ?_ -- t37
      refine WL.y (Yl.move rfl) rfl ?_ -- t14
      refine WL.nil ?_
      obtain ⟨e1, e2, e3⟩ := hst.2 (fun hG => by have := hG.1; rw [g25] at this; cases this)
      exact ⟨rfl, k + 1, by omega, by omega, by rw [e1, e2, e3]; exact (by repeat (first | exact Sub.nil | refine Sub.cons rfl ?_)), _, (by repeat (first | exact TakeL.nil | (apply TakeL.cons; · repeat (first | exact Take1.head | apply Take1.tail))))⟩
  · refine WC.exit ?_
    refine WC.seq ?_
    refine WC.region ?_
    refine WL.y (Yl.move rfl) rfl ?_ -- t38
    refine WL.y (Yl.move rfl) rfl ?_ -- t39
    refine WL.y (Yl.move rfl) rfl ?_ -- t40
    refine WL.y (Yl.assign rfl) rfl ?_ -- t2
    refine WL.y (Yl.assign rfl) rfl ?_ -- t3
    refine WL.y (Yl.assign rfl) rfl ?_ -- t4
    refine WL.nil ?_
    refine WC.ret ?_
    repeat (first | (with_reducible refine peelT ?_) | (with_reducible refine peelB ?_) | (with_reducible refine peelTX ?_) | (with_reducible refine peelBX ?_) | (with_reducible refine peelBN ?_) | (with_reducible refine peelBO rfl ?_))
    have hk2 : k = 2 := by omega
    subst hk2
    exact ret3 (.inr rfl) Try.results16 rfl rfl rfl fun w' h => ⟨(), trivial, rfl, h.sub (by repeat (first | exact TakeL.nil | (apply TakeL.cons; · repeat (first | exact Take1.head | apply Take1.tail))))⟩
end Go.Proofs.Ytjlgmaappebppaa

namespace Go.Proofs.Ytjlgmaappebppaa
open Go Go.RowKit

theorem new_any (w : World) (hw : OK w (fpL []) [] w) : Fn Try.prog 13 [] [] w (fun _ : Nat => True) (fun b => .pointer (some ⟨b, 0, none⟩)) (fun b => dskR b (.slice none 0 0) (.slice none 0 0) [] []) := by
  refine enterF Try.func13 rfl Try.ntmps13 rfl hw ?_
  refine WC.seq ?_
  refine WC.region ?_
  refine WL.y (Yl.assign rfl) rfl ?_ -- t0
  refine WL.nil ?_
  refine WC.seq ?_
  refine WC.region ?_
  refine WL.y (Yl.build rfl (cs := [.slice none 0 0, .slice none 0 0]) (fun _ => by kernel_rfl)) rfl ?_ -- t1
  refine WL.to (To.box (cs := [.slice none 0 0, .slice none 0 0]) rfl rfl) rfl ?_ -- t2
  intro b2
  refine WL.y (Yl.assign rfl) rfl ?_ -- t0
  refine WL.nil ?_
  refine WC.ret ?_
  repeat (first | (with_reducible refine peelT ?_) | (with_reducible refine peelB ?_) | (with_reducible refine peelTX ?_) | (with_reducible refine peelBX ?_) | (with_reducible refine peelBN ?_) | (with_reducible refine peelBO rfl ?_))
  exact ret1 (.inr rfl) Try.results13 rfl fun w' h => ⟨b2, trivial, rfl, OK.sub (OK.readOnly (OK.addNil (OK.readOnly (OK.addNil h 5 1) .head) 5 1) .head) (by repeat (first | exact TakeL.nil | (apply TakeL.cons; · repeat (first | exact Take1.head | apply Take1.tail))))⟩

theorem of_any (v0 v1 : Value) (x y : List Int) (hxl : x.length ≤ 90000) (hyl : y.length ≤ 90000) (w : World) (hx : RdS w (fpL []) v0 1 x.length (ints .u8 x)) (hy : RdS w (fpL []) v1 1 y.length (ints .u8 y)) (hw : OK w (fpL []) [] w) :
    Fn Try.prog 6 [.agg [v0, v1].toArray] [] w (fun _ : Nat × (Option Addr × Nat) × (Option Addr × Nat) => True) (fun z => .pointer (some ⟨z.1, 0, none⟩)) (fun z => dskR z.1 (.slice z.2.1.1 x.length z.2.1.2) (.slice z.2.2.1 y.length z.2.2.2) x y) := by
  refine enterF Try.func6 rfl Try.ntmps6 rfl hw ?_
  refine WC.seq ?_
  refine WC.region ?_
  refine WL.to (To.box (cs := [v0, v1]) rfl rfl) rfl ?_ -- t1
  intro b1
  refine WL.y (Yl.assign rfl) rfl ?_ -- t2
  refine WL.nil ?_
  refine WC.seq ?_
  refine WC.drawAny (Hs := [blkR b1 23 [v0, v1]]) mixed (by kernel_rfl) ⟨_, (by repeat (first | exact TakeL.nil | (apply TakeL.cons; · repeat (first | exact Take1.head | apply Take1.tail))))⟩ ?_
  refine WD.take 0 rfl (by kernel_rfl) (by kernel_rfl) (by kernel_rfl) rfl rfl (Yl.indexA (j := 0) un23 sz22 rfl rfl rfl (by omega)) rfl ?_ -- t3
  refine WD.take 1 rfl (by kernel_rfl) (by kernel_rfl) (by kernel_rfl) rfl rfl (Yl.load on22 rfl (by repeat (first | exact Take1.head | apply Take1.tail)) (by rfl)) rfl ?_ -- t4
  refine WD.take 3 rfl (by kernel_rfl) (by kernel_rfl) (by kernel_rfl) rfl rfl (Yl.indexA (j := 1) un23 sz22 rfl rfl rfl (by omega)) rfl ?_ -- t6
  refine WD.take 4 rfl (by kernel_rfl) (by kernel_rfl) (by kernel_rfl) rfl rfl (Yl.load on22 rfl (by repeat (first | exact Take1.head | apply Take1.tail)) (by rfl)) rfl ?_ -- t7
  refine WD.one 2 (by kernel_rfl) ?_
  refine WO.callC (xs := [.tmp 4]) (cap := []) rfl .no rfl rfl en15 (by repeat (first | exact TakeL.nil | (apply TakeL.cons; · repeat (first | exact Take1.head | apply Take1.tail)))) (fun w hw => clone_any x v0 (by omega) w (hw.srcS (A := []) hx) hw.left.here) rfl (fun _ => ⟨_, (by repeat (first | exact TakeL.nil | (apply TakeL.cons; · repeat (first | exact Take1.head | apply Take1.tail))))⟩) ?_ -- t5 bytes.Clone
  rintro ⟨a5, c5⟩ -
  refine WD.one 5 (by kernel_rfl) ?_
  refine WO.callC (xs := [.tmp 7]) (cap := []) rfl .no rfl rfl en15 (by repeat (first | exact TakeL.nil | (apply TakeL.cons; · repeat (first | exact Take1.head | apply Take1.tail)))) (fun w hw => clone_any y v1 (by omega) w (hw.srcS (A := []) hy) hw.left.here) rfl (fun _ => ⟨_, (by repeat (first | exact TakeL.nil | (apply TakeL.cons; · repeat (first | exact Take1.head | apply Take1.tail))))⟩) ?_ -- t8 bytes.Clone
  rintro ⟨a8, c8⟩ -
  refine WD.take 6 rfl (by kernel_rfl) (by kernel_rfl) (by kernel_rfl) rfl rfl (Yl.build rfl (cs := [.slice a5 x.length c5, .slice a8 y.length c8]) (fun _ => by kernel_rfl)) rfl ?_ -- t9
  refine WD.take 7 rfl (by kernel_rfl) (by kernel_rfl) (by kernel_rfl) rfl rfl (Yl.build rfl (cs := [.slice a5 x.length c5, .slice a8 y.length c8]) (fun _ => by kernel_rfl)) rfl ?_ -- t10
  refine WD.one 8 (by kernel_rfl) ?_
  refine WO.to rfl rfl .no (To.box (cs := [.slice a5 x.length c5, .slice a8 y.length c8]) rfl rfl) rfl (fun _ => ⟨_, (by repeat (first | exact TakeL.nil | (apply TakeL.cons; · repeat (first | exact Take1.head | apply Take1.tail))))⟩) ?_ -- t11
  intro b11
  refine WD.take 9 rfl (by kernel_rfl) (by kernel_rfl) (by kernel_rfl) rfl rfl (Yl.assign rfl) rfl ?_ -- t2
  refine WD.done (by kernel_rfl) ?_
  refine WC.ret ?_
  repeat (first | (with_reducible refine peelT ?_) | (with_reducible refine peelB ?_) | (with_reducible refine peelTX ?_) | (with_reducible refine peelBX ?_) | (with_reducible refine peelBN ?_) | (with_reducible refine peelBO rfl ?_))
  exact ret1 (.inr rfl) Try.results6 rfl fun w' h => ⟨(b11, (a5, c5), (a8, c8)), trivial, rfl, OK.sub (OK.readOnly (v := .slice a8 y.length c8) (OK.readOnly (v := .slice a5 x.length c5) h (by repeat (first | exact Take1.head | apply Take1.tail))) (by repeat (first | exact Take1.head | apply Take1.tail))) (by repeat (first | exact TakeL.nil | (apply TakeL.cons; · repeat (first | exact Take1.head | apply Take1.tail))))⟩

theorem two_one {a b : Option Addr} {n m c d : Nat} : ∀ v ∈ ([.slice a n c, .slice b m d] : List Value), v.oneCell' = true := by
  intro v hv
  simp at hv
  rcases hv with rfl | rfl <;> rfl
theorem slots_nil (w : World) (hw : OK w (fpL []) [] w) : Fn Try.prog 10 [.pointer none] [] w (fun _ : Unit => True) (fun _ => .agg [.slice none 0 0, .slice none 0 0].toArray) (fun _ => []) := by
  refine enterF Try.func10 rfl Try.ntmps10 rfl hw ?_
  refine WC.seq ?_
  refine WC.region ?_
  refine WL.to (To.alloc (cs := [.slice none 0 0, .slice none 0 0]) zr23 rfl) rfl ?_ -- t2
  intro b2
  refine WL.nil ?_
  refine WC.seq ?_
  refine WC.seq ?_
  refine WC.region ?_
  refine WL.y (Yl.move rfl) rfl ?_ -- t3
  refine WL.y (Yl.nilEq un27 rfl rfl) rfl ?_ -- t4
  refine WL.nil ?_
  refine WC.condT rfl (by first | rfl | (simp; done) | (simp; omega)) ?_
  refine WC.seq ?_
  refine WC.region ?_
  refine WL.y (Yl.build rfl (cs := [.slice none 0 0, .slice none 0 0]) (fun _ => by kernel_rfl)) rfl ?_ -- t5
  refine WL.sto (Sto.agg sz23 rfl rfl (by repeat (first | exact Take1.head | apply Take1.tail)) two_one rfl (by rfl) (by rfl)) (fun _ h => nomatch h) ?_ -- st 1
  refine WL.nil ?_
  refine WC.ret ?_
  repeat (first | (with_reducible refine peelT ?_) | (with_reducible refine peelB ?_) | (with_reducible refine peelTX ?_) | (with_reducible refine peelBX ?_) | (with_reducible refine peelBN ?_) | (with_reducible refine peelBO rfl ?_))
  exact retC1 (.inr rfl) Try.results10 ag23 rfl (by repeat (first | exact Take1.head | apply Take1.tail)) rfl fun w' h => ⟨(), trivial, rfl, h.sub (by repeat (first | exact TakeL.nil | (apply TakeL.cons; · repeat (first | exact Take1.head | apply Take1.tail))))⟩

theorem slots_any (b : Nat) (v0 v1 : Value) (x y : List Int) (hxl : x.length ≤ 90000) (hyl : y.length ≤ 90000) (w : World) (hw : OK w (fpL (dskR b v0 v1 x y)) (dskR b v0 v1 x y) w) :
    Fn Try.prog 10 [.pointer (some ⟨b, 0, none⟩)] (dskR b v0 v1 x y) w (fun _ : (Option Addr × Nat) × (Option Addr × Nat) => True) (fun z => .agg [.slice z.1.1 x.length z.1.2, .slice z.2.1 y.length z.2.2].toArray)
      (fun z => rdR (.slice z.1.1 x.length z.1.2) 1 x.length (ints .u8 x) :: rdR (.slice z.2.1 y.length z.2.2) 1 y.length (ints .u8 y) :: dskR b v0 v1 x y) := by
  unfold dskR at hw ⊢
  refine enterF Try.func10 rfl Try.ntmps10 rfl hw ?_
  refine WC.seq ?_
  refine WC.region ?_
  refine WL.to (To.alloc (cs := [.slice none 0 0, .slice none 0 0]) zr23 rfl) rfl ?_ -- t2
  intro b2
  refine WL.nil ?_
  refine WC.seq ?_
  refine WC.seq ?_
  refine WC.region ?_
  refine WL.y (Yl.move rfl) rfl ?_ -- t3
  refine WL.y (Yl.nilEq un27 rfl rfl) rfl ?_ -- t4
  refine WL.nil ?_
  refine WC.condF rfl (by first | rfl | (simp; done) | (simp; omega)) ?_
  refine WC.skip ?_
  refine WC.seq ?_
  refine WC.region ?_
  refine WL.y (Yl.move rfl) rfl ?_ -- t6
  refine WL.y (Yl.nilCheck rfl) rfl ?_ -- t7
  refine WL.y (Yl.field fo49_0 rfl) rfl ?_ -- t8
  refine WL.y (Yl.loadN ag23 rfl (by repeat (first | exact Take1.head | apply Take1.tail)) (by rfl) (by rfl)) rfl ?_ -- t9
  refine WL.callC (xs := [.tmp 9]) (cap := []) rfl rfl en6 (by repeat (first | exact TakeL.nil | (apply TakeL.cons; · repeat (first | exact Take1.head | apply Take1.tail)))) (fun w hw => of_any v0 v1 x y hxl hyl w (hw.src (A := []) (r := rdR v0 1 x.length (ints .u8 x)) RdOf.rd' (by repeat (first | exact Take1.head | apply Take1.tail))) (hw.src (A := []) (r := rdR v1 1 y.length (ints .u8 y)) RdOf.rd' (by repeat (first | exact Take1.head | apply Take1.tail))) hw.left.here) rfl ?_ -- t10 hailer/disk.Of
  rintro ⟨bo, ⟨a0, c0⟩, ⟨a1, c1⟩⟩ -
  dsimp only [dskR, List.cons_append, List.nil_append]
  refine WL.y (Yl.nilCheck rfl) rfl ?_ -- t11
  refine WL.y (Yl.field fo49_0 rfl) rfl ?_ -- t12
  refine WL.y (Yl.loadN ag23 rfl (by repeat (first | exact Take1.head | apply Take1.tail)) (by rfl) (by rfl)) rfl ?_ -- t13
  refine WL.sto (Sto.agg sz23 rfl rfl (by repeat (first | exact Take1.head | apply Take1.tail)) two_one rfl (by rfl) (by rfl)) (fun _ h => nomatch h) ?_ -- st 2
  refine WL.nil ?_
  refine WC.ret ?_
  repeat (first | (with_reducible refine peelT ?_) | (with_reducible refine peelB ?_) | (with_reducible refine peelTX ?_) | (with_reducible refine peelBX ?_) | (with_reducible refine peelBN ?_) | (with_reducible refine peelBO rfl ?_))
  exact retC1 (cs := [.slice a0 x.length c0, .slice a1 y.length c1]) (.inr rfl) Try.results10 ag23 rfl (by repeat (first | exact Take1.head | apply Take1.tail)) rfl fun w' h => ⟨((a0, c0), (a1, c1)), trivial, rfl, h.sub (by repeat (first | exact TakeL.nil | (apply TakeL.cons; · repeat (first | exact Take1.head | apply Take1.tail))))⟩

theorem read_nil (w : World) (hw : OK w (fpL []) [] w) : Fn Try.prog 11 [.pointer none] [] w (fun _ : Unit => True) (fun _ => .tuple #[.int .u64 0, .slice none 0 0, .int .i64 1]) (fun _ => []) := by
  refine enterF Try.func11 rfl Try.ntmps11 rfl hw ?_
  refine WC.seq ?_
  refine WC.region ?_
  refine WL.y (Yl.assign rfl) rfl ?_ -- t2
  refine WL.y (Yl.assign rfl) rfl ?_ -- t3
  refine WL.y (Yl.assign rfl) rfl ?_ -- t4
  refine WL.nil ?_
  refine WC.seq ?_
  refine WC.seq ?_
  refine WC.region ?_
  refine WL.y (Yl.move rfl) rfl ?_ -- t7
  refine WL.y (Yl.nilEq un27 rfl rfl) rfl ?_ -- t8
  refine WL.nil ?_
  refine WC.condT rfl (by first | rfl | (simp; done) | (simp; omega)) ?_
  refine WC.seq ?_
  refine WC.region ?_
  refine WL.y (Yl.assign rfl) rfl ?_ -- t2
  refine WL.y (Yl.assign rfl) rfl ?_ -- t3
  refine WL.y (Yl.assign rfl) rfl ?_ -- t4
  refine WL.nil ?_
  refine WC.ret ?_
  repeat (first | (with_reducible refine peelT ?_) | (with_reducible refine peelB ?_) | (with_reducible refine peelTX ?_) | (with_reducible refine peelBX ?_) | (with_reducible refine peelBN ?_) | (with_reducible refine peelBO rfl ?_))
  exact ret3 (.inr rfl) Try.results11 rfl rfl rfl fun w' h => ⟨(), trivial, rfl, h.sub (by repeat (first | exact TakeL.nil | (apply TakeL.cons; · repeat (first | exact Take1.head | apply Take1.tail))))⟩

theorem nwB_eq (x y : List Int) : nwB x y = if nwS x y = 1 then whB0 y else if nwS x y = 0 then whB0 x else [] := by
  have h := nwS_rng x y
  unfold nwB whB0
  by_cases h1 : nwS x y = 1
  · have : whOk y = true := by
      unfold nwS at h1
      split at h1
      · rename_i h2; rw [Bool.and_eq_true] at h2; exact h2.1
      · split at h1 <;> omega
    rw [if_pos h1, if_pos h1, this]; rfl
  · rw [if_neg h1, if_neg h1]
    by_cases h0 : nwS x y = 0
    · have : whOk x = true := by
        unfold nwS at h0
        split at h0
        · omega
        · split at h0
          · assumption
          · omega
      rw [if_pos h0, if_pos h0, this]; rfl
    · rw [if_neg h0, if_neg h0]
theorem Rd.nwV {w : World} {v0 v1 : Value} {x y : List Int} (h0 : Rd w 1 v0 x.length (ints .u8 x)) (h1 : Rd w 1 v1 y.length (ints .u8 y)) : Rd w 1 (Go.Proofs.Ytjlgmaappebppaa.nwV v0 v1 x y) (nwB x y).length (ints .u8 (nwB x y)) := by
  rw [nwB_eq]
  unfold Go.Proofs.Ytjlgmaappebppaa.nwV
  split
  · exact h1.whV
  · split
    · exact h0.whV
    · exact ⟨rfl, .inl ⟨rfl, rfl⟩⟩
theorem nwB_len (x y : List Int) : (nwB x y).length ≤ x.length ∨ (nwB x y).length ≤ y.length := by
  unfold nwB whB
  split
  · right; simp; omega
  · split
    · left; simp; omega
    · left; simp
def rdE (x y : List Int) : Int := if nwS x y < 0 then 4 else 0

set_option maxRecDepth 100000 in
theorem read_any (b : Nat) (v0 v1 : Value) (x y : List Int) (hX : Bytes x) (hY : Bytes y) (hxl : x.length ≤ 90000) (hyl : y.length ≤ 90000) (w : World) (hw : OK w (fpL (dskR b v0 v1 x y)) (dskR b v0 v1 x y) w) :
    Fn Try.prog 11 [.pointer (some ⟨b, 0, none⟩)] (dskR b v0 v1 x y) w (fun _ : Option Addr × Nat => True) (fun z => .tuple #[.int .u64 (nwN x y), .slice z.1 (nwB x y).length z.2, .int .i64 (rdE x y)])
      (fun z => rdR (.slice z.1 (nwB x y).length z.2) 1 (nwB x y).length (ints .u8 (nwB x y)) :: dskR b v0 v1 x y) := by
  have hrg := nwS_rng x y
  have hbl := nwB_len x y
  refine enterF Try.func11 rfl Try.ntmps11 rfl hw ?_
  refine WC.seq ?_
  refine WC.region ?_
  refine WL.y (Yl.assign rfl) rfl ?_ -- t2
  refine WL.y (Yl.assign rfl) rfl ?_ -- t3
  refine WL.y (Yl.assign rfl) rfl ?_ -- t4
  refine WL.nil ?_
  refine WC.seq ?_
  refine WC.seq ?_
  refine WC.region ?_
  refine WL.y (Yl.move rfl) rfl ?_ -- t7
  refine WL.y (Yl.nilEq un27 rfl rfl) rfl ?_ -- t8
  refine WL.nil ?_
  refine WC.condF rfl (by first | rfl | (simp; done) | (simp; omega)) ?_
  refine WC.skip ?_
  refine WC.seq ?_
  refine WC.region ?_
  refine WL.y (Yl.move rfl) rfl ?_ -- t10
  refine WL.callC (xs := [.tmp 10]) (cap := []) rfl rfl en16 (by repeat (first | exact TakeL.nil | (apply TakeL.cons; · repeat (first | exact Take1.head | apply Take1.tail)))) (fun w hw => newest_any b v0 v1 x y hX hY hxl hyl w hw.left.here) rfl ?_ -- t11 (*hailer/disk.Disk).newest
  rintro ⟨⟩ -
  refine WL.y (Yl.move rfl) rfl ?_ -- t9
  refine WL.y (Yl.extract rfl rfl) rfl ?_ -- t12
  refine WL.say (t := 12) (v' := .int .i64 (nwS x y)) rfl (by rfl) ?_
  refine WL.y (Yl.extract rfl rfl) rfl ?_ -- t13
  refine WL.say (t := 13) (v' := .int .u64 (nwN x y)) rfl (by rfl) ?_
  refine WL.y (Yl.extract rfl rfl) rfl ?_ -- t14
  refine WL.say (t := 14) (v' := nwV v0 v1 x y) rfl (by rfl) ?_
  refine WL.y (Yl.assign rfl) rfl ?_ -- t5
  refine WL.y (Yl.assign rfl) rfl ?_ -- t2
  refine WL.y (Yl.assign rfl) rfl ?_ -- t6
  refine WL.nil ?_
  refine WC.seq ?_
  refine WC.seq ?_
  refine WC.region ?_
  refine WL.y (Yl.move rfl) rfl ?_ -- t15
  refine WL.y (Yl.lss rfl rfl) rfl ?_ -- t16
  refine WL.nil ?_
  refine WC.condD rfl (fun g16 => ?_) (fun g16 => ?_)
  · refine WC.seq ?_
    refine WC.region ?_
    refine WL.y (Yl.assign rfl) rfl ?_ -- t2
    refine WL.y (Yl.assign rfl) rfl ?_ -- t3
    refine WL.y (Yl.assign rfl) rfl ?_ -- t4
    refine WL.nil ?_
    refine WC.ret ?_
    repeat (first | (with_reducible refine peelT ?_) | (with_reducible refine peelB ?_) | (with_reducible refine peelTX ?_) | (with_reducible refine peelBX ?_) | (with_reducible refine peelBN ?_) | (with_reducible refine peelBO rfl ?_))
    have hb : nwB x y = [] := by unfold nwB; rw [if_neg (by omega), if_neg (by omega)]
    have hn : nwN x y = 0 := by unfold nwN; rw [if_neg (by omega), if_neg (by omega)]
    exact ret3 (.inr rfl) Try.results11 rfl rfl rfl fun w' h => ⟨(none, 0), trivial, by unfold rdE; rw [if_pos g16, hb, hn]; rfl, by rw [hb]; exact OK.sub (OK.readOnly (OK.addNil h 5 1) .head) (by repeat (first | exact TakeL.nil | (apply TakeL.cons; · repeat (first | exact Take1.head | apply Take1.tail))))⟩
  · refine WC.skip ?_
    refine WC.seq ?_
    refine WC.region ?_
    unfold dskR
    refine WL.y (Yl.move rfl) rfl ?_ -- t17
    refine WL.to (To.buildSlice (vs := []) un22 zs5 rfl rfl (by simp [Value.cells]) (by decide) (by decide)) rfl ?_ -- t18
    intro b18
    refine WL.view (fun w h => h.blkOwn (b := b18) (size := 1) (n := 0) (by repeat (first | exact Take1.head | apply Take1.tail)) (by unfold maxLen; omega) rfl) ?_
    refine WL.y (Yl.move rfl) rfl ?_ -- t19
    refine WL.to (To.append sl22 rfl rfl (by repeat (first | exact Take1.head | apply Take1.tail)) (fun w hw => Rd.nwV (v0 := v0) (v1 := v1) (hw.get (r := rdR v0 1 x.length (ints .u8 x)) (by repeat (first | exact Take1.head | apply Take1.tail))) (hw.get (r := rdR v1 1 y.length (ints .u8 y)) (by repeat (first | exact Take1.head | apply Take1.tail)))) (ints_one _ _) (Nat.zero_add _) (by rfl) (by unfold maxLen; omega) (by omega)) rfl ?_ -- t20
    rintro ⟨⟨ao20, c20⟩, hc20⟩
    dsimp only at hc20 ⊢
    refine WL.y (Yl.assign rfl) rfl ?_ -- t2
    refine WL.y (Yl.assign rfl) rfl ?_ -- t3
    refine WL.y (Yl.assign rfl) rfl ?_ -- t4
    refine WL.nil ?_
    refine WC.ret ?_
    repeat (first | (with_reducible refine peelT ?_) | (with_reducible refine peelB ?_) | (with_reducible refine peelTX ?_) | (with_reducible refine peelBX ?_) | (with_reducible refine peelBN ?_) | (with_reducible refine peelBO rfl ?_))
    exact ret3 (.inr rfl) Try.results11 rfl rfl rfl fun w' h => ⟨(ao20, c20), trivial, by unfold rdE; rw [if_neg g16], OK.sub (OK.readOnly (v := .slice ao20 (nwB x y).length c20) h (by repeat (first | exact Take1.head | apply Take1.tail))) (by repeat (first | exact TakeL.nil | (apply TakeL.cons; · repeat (first | exact Take1.head | apply Take1.tail))))⟩

theorem put0_any (bx b : Nat) (v0 v1 : Value) (ax : Option Addr) (n c : Nat) (w : World) (hw : OK w (fpL [blkR bx 27 [.pointer (some ⟨b, 0, none⟩)], blkR b 49 [v0, v1]]) [blkR bx 27 [.pointer (some ⟨b, 0, none⟩)], blkR b 49 [v0, v1]] w) :
    Fn Try.prog 17 [.int .i64 0, .slice ax n c, .pointer (some ⟨bx, 0, none⟩)] [blkR bx 27 [.pointer (some ⟨b, 0, none⟩)], blkR b 49 [v0, v1]] w (fun _ : Unit => True) (fun _ => .tuple #[]) (fun _ => [blkR bx 27 [.pointer (some ⟨b, 0, none⟩)], blkR b 49 [.slice ax n c, v1]]) := by
  refine enterF Try.func17 rfl Try.ntmps17 rfl hw ?_
  refine WC.region ?_
  refine WL.y (Yl.load on27 rfl (by repeat (first | exact Take1.head | apply Take1.tail)) (by rfl)) rfl ?_ -- t5
  refine WL.y (Yl.move rfl) rfl ?_ -- t6
  refine WL.y (Yl.move rfl) rfl ?_ -- t7
  refine WL.y (Yl.nilCheck rfl) rfl ?_ -- t8
  refine WL.y (Yl.field fo49_0 rfl) rfl ?_ -- t9
  refine WL.y (Yl.indexA (j := 0) un23 sz22 rfl rfl rfl (by omega)) rfl ?_
  refine WL.sto (Sto.one sz22 rfl rfl (by repeat (first | exact Take1.head | apply Take1.tail)) rfl (by rfl) (by rfl)) (fun _ h => nomatch h) ?_ -- st 1
  refine WL.nil ?_
  repeat (first | (with_reducible refine peelT ?_) | (with_reducible refine peelB ?_) | (with_reducible refine peelTX ?_) | (with_reducible refine peelBX ?_) | (with_reducible refine peelBN ?_) | (with_reducible refine peelBO rfl ?_))
  exact ret0 (.inl rfl) rfl fun w' h => ⟨(), trivial, rfl, h.sub (by repeat (first | exact TakeL.nil | (apply TakeL.cons; · repeat (first | exact Take1.head | apply Take1.tail))))⟩
theorem put1_any (bx b : Nat) (v0 v1 : Value) (ax : Option Addr) (n c : Nat) (w : World) (hw : OK w (fpL [blkR bx 27 [.pointer (some ⟨b, 0, none⟩)], blkR b 49 [v0, v1]]) [blkR bx 27 [.pointer (some ⟨b, 0, none⟩)], blkR b 49 [v0, v1]] w) :
    Fn Try.prog 17 [.int .i64 1, .slice ax n c, .pointer (some ⟨bx, 0, none⟩)] [blkR bx 27 [.pointer (some ⟨b, 0, none⟩)], blkR b 49 [v0, v1]] w (fun _ : Unit => True) (fun _ => .tuple #[]) (fun _ => [blkR bx 27 [.pointer (some ⟨b, 0, none⟩)], blkR b 49 [v0, .slice ax n c]]) := by
  refine enterF Try.func17 rfl Try.ntmps17 rfl hw ?_
  refine WC.region ?_
  refine WL.y (Yl.load on27 rfl (by repeat (first | exact Take1.head | apply Take1.tail)) (by rfl)) rfl ?_ -- t5
  refine WL.y (Yl.move rfl) rfl ?_ -- t6
  refine WL.y (Yl.move rfl) rfl ?_ -- t7
  refine WL.y (Yl.nilCheck rfl) rfl ?_ -- t8
  refine WL.y (Yl.field fo49_0 rfl) rfl ?_ -- t9
  refine WL.y (Yl.indexA (j := 1) un23 sz22 rfl rfl rfl (by omega)) rfl ?_
  refine WL.sto (Sto.one sz22 rfl rfl (by repeat (first | exact Take1.head | apply Take1.tail)) rfl (by rfl) (by rfl)) (fun _ h => nomatch h) ?_ -- st 1
  refine WL.nil ?_
  repeat (first | (with_reducible refine peelT ?_) | (with_reducible refine peelB ?_) | (with_reducible refine peelTX ?_) | (with_reducible refine peelBX ?_) | (with_reducible refine peelBN ?_) | (with_reducible refine peelBO rfl ?_))
  exact ret0 (.inl rfl) rfl fun w' h => ⟨(), trivial, rfl, h.sub (by repeat (first | exact TakeL.nil | (apply TakeL.cons; · repeat (first | exact Take1.head | apply Take1.tail))))⟩

set_option maxRecDepth 100000 in
theorem grow_nil (n : Nat) (hn : n ≤ 1000000) (w : World) (hw : OK w (fpL []) [] w) :
    Fn Try.prog 29 [.slice none 0 0, .int .i64 (n : Int)] [] w (fun _ : Option Addr × Nat => True) (fun y => .slice y.1 0 y.2) (fun y => [ownR (.slice y.1 0 y.2) 5 1 0 []]) := by
  refine enterF Try.func29 rfl Try.ntmps29 rfl hw ?_
  refine WC.seq ?_
  refine WC.region ?_
  refine WL.y (Yl.assign rfl) rfl ?_ -- t4
  refine WL.nil ?_
  refine WC.seq ?_
  refine WC.seq ?_
  refine WC.region ?_
  refine WL.y (Yl.move rfl) rfl ?_ -- t5
  refine WL.y (Yl.lss rfl rfl) rfl ?_ -- t6
  refine WL.nil ?_
  refine WC.condF rfl (by first | rfl | (simp; done) | (simp; omega)) ?_
  refine WC.skip ?_
  refine WC.seq ?_
  refine WC.seq ?_
  refine WC.region ?_
  refine WL.y (Yl.move rfl) rfl ?_ -- t8
  refine WL.y (Yl.move rfl) rfl ?_ -- t9
  refine WL.y (Yl.cap un22 rfl) rfl ?_ -- t10
  refine WL.y (Yl.move rfl) rfl ?_ -- t11
  refine WL.y (Yl.len un22 rfl) rfl ?_ -- t12
  refine WL.y (Yl.sub rfl rfl (IntWalk.i64_in _ (by omega))) rfl ?_ -- t13
  refine WL.y (Yl.sub rfl rfl (IntWalk.i64_in _ (by omega))) rfl ?_ -- t14
  refine WL.say (t := 14) (v' := .int .i64 (n : Int)) rfl (by (refine congrArg _ ?_; omega)) ?_
  refine WL.y (Yl.assign rfl) rfl ?_ -- t1
  refine WL.nil ?_
  refine WC.seq ?_
  refine WC.region ?_
  refine WL.y (Yl.move rfl) rfl ?_ -- t15
  refine WL.y (Yl.gtr rfl rfl) rfl ?_ -- t16
  refine WL.nil ?_
  refine WC.condD rfl (fun g16 => ?_) (fun g16 => ?_)
  · refine WC.region ?_
    refine WL.y (Yl.move rfl) rfl ?_ -- t17
    refine WL.y (Yl.move rfl) rfl ?_ -- t18
    refine WL.y (Yl.cap un22 rfl) rfl ?_ -- t19
    refine WL.y (Yl.slice (l := 0) (h := 0) un22 sz5 rfl rfl ⟨_, rfl⟩ (by omega) (by omega)) rfl ?_
    refine WL.say (t := 20) (v' := .slice none 0 0) rfl (by rfl) ?_
    refine WL.y (Yl.move rfl) rfl ?_ -- t21
    refine WL.to (To.appendZ0 sl22 un3 rfl rfl (by omega) rfl (by unfold maxLen; omega) (by omega)) rfl ?_
    rintro ⟨⟨b22, c22⟩, hc22⟩
    dsimp only at hc22 ⊢
    refine WL.y (Yl.move rfl) rfl ?_ -- t23
    refine WL.y (Yl.len un22 rfl) rfl ?_ -- t24
    refine WL.y (Yl.slice (l := 0) (h := 0) un22 sz5 rfl rfl ⟨_, rfl⟩ (by omega) (by omega)) rfl ?_
    refine WL.say (t := 25) (v' := .slice (some ⟨b22, 0, none⟩) 0 c22) rfl (by (unfold subS; simp [Addr.add])) ?_
    refine WL.y (Yl.assign rfl) rfl ?_ -- t0
    refine WL.nil ?_
    refine WC.seq ?_
    refine WC.region ?_
    refine WL.y (Yl.move rfl) rfl ?_ -- t26
    refine WL.y (Yl.assign rfl) rfl ?_ -- t4
    refine WL.nil ?_
    refine WC.ret ?_
    repeat (first | (with_reducible refine peelT ?_) | (with_reducible refine peelB ?_) | (with_reducible refine peelTX ?_) | (with_reducible refine peelBX ?_) | (with_reducible refine peelBN ?_) | (with_reducible refine peelBO rfl ?_))
    exact ret1 (.inr rfl) Try.results29 rfl fun w' h => ⟨(some ⟨b22, 0, none⟩, c22), trivial, rfl, by
      have h2 := h.subG .head (l := 0) (hh := 0) (m := c22) (by omega) (by omega) (by omega) (by omega) rfl
      have e : subS (.slice (some ⟨b22, 0, none⟩) n c22) 0 0 c22 1 = .slice (some ⟨b22, 0, none⟩) 0 c22 := by unfold subS; simp [Addr.add]
      rw [e] at h2
      simp only [Nat.sub_self, Nat.zero_mul, List.take_zero] at h2
      exact h2.sub (by repeat (first | exact TakeL.nil | (apply TakeL.cons; · repeat (first | exact Take1.head | apply Take1.tail))))⟩
  · refine WC.skip ?_
    refine WC.seq ?_
    refine WC.region ?_
    refine WL.y (Yl.move rfl) rfl ?_ -- t26
    refine WL.y (Yl.assign rfl) rfl ?_ -- t4
    refine WL.nil ?_
    refine WC.ret ?_
    repeat (first | (with_reducible refine peelT ?_) | (with_reducible refine peelB ?_) | (with_reducible refine peelTX ?_) | (with_reducible refine peelBX ?_) | (with_reducible refine peelBN ?_) | (with_reducible refine peelBO rfl ?_))
    exact ret1 (.inr rfl) Try.results29 rfl fun w' h => ⟨(none, 0), trivial, rfl, (h.addNil 5 1).sub (by repeat (first | exact TakeL.nil | (apply TakeL.cons; · repeat (first | exact Take1.head | apply Take1.tail))))⟩

theorem concat_any (ls : List (List Int)) (vs : List Value) (lv : Value) (hvl : vs.length = ls.length) (htot : ls.flatten.length ≤ 1000000) (hmany : ls.length ≤ 100000) (w : World)
    (hlv : RdS w (fpL []) lv 1 ls.length vs) (hls : ∀ (i : Nat) v bs, vs[i]? = some v → ls[i]? = some bs → RdS w (fpL []) v 1 bs.length (ints .u8 bs)) (hw : OK w (fpL []) [] w) :
    Fn Try.prog 19 [lv] [] w (fun _ : Option Addr × Nat => True) (fun y => .slice y.1 ls.flatten.length y.2) (fun y => [ownR (.slice y.1 ls.flatten.length y.2) 5 1 ls.flatten.length (ints .u8 ls.flatten)]) := by
  obtain ⟨la, lc, rfl, hlcl, hlml⟩ := hlv.rd.form
  have fl : ∀ {i : Nat} {bs : List Int}, ls[i]? = some bs → (ls.take (i + 1)).flatten = (ls.take i).flatten ++ bs := by
    intro i bs h
    rw [← take_snoc _ _ _ h, List.flatten_append]; simp
  have fle : ∀ i, (ls.take i).flatten.length ≤ ls.flatten.length := by
    intro i
    have : ls.flatten = (ls.take i).flatten ++ (ls.drop i).flatten := by rw [← List.flatten_append, List.take_append_drop]
    rw [this, List.length_append]; omega
  refine enterF Try.func19 rfl Try.ntmps19 rfl hw ?_
  refine WC.seq ?_
  refine WC.region ?_
  refine WL.y (Yl.assign rfl) rfl ?_ -- t2
  refine WL.nil ?_
  refine WC.seq ?_
  refine WC.region ?_
  refine WL.y (Yl.assign rfl) rfl ?_ -- t3
  refine WL.nil ?_
  refine WC.seq ?_
  refine WC.seq ?_
  refine WC.region ?_
  refine WL.y (Yl.move rfl) rfl ?_ -- t9
  refine WL.y (Yl.len un66 rfl) rfl ?_ -- t10
  refine WL.y (Yl.move rfl) rfl ?_ -- t11
  refine WL.nil ?_
  refine WC.block ?_
  refine WC.loop (α := Nat) (fun k => [(0, .slice la ls.length lc), (3, .int .i64 ((ls.take k).flatten.length : Int)), (9, .slice la ls.length lc), (10, .int .i64 (ls.length : Int)), (11, .int .i64 (k : Int))]) (fun _ => []) (fun k => k ≤ ls.length) (fun k => ls.length - k) 0 (Nat.zero_le _) ⟨(by repeat (first | exact Sub.nil | refine Sub.cons rfl ?_)), _, (by repeat (first | exact TakeL.nil | (apply TakeL.cons; · repeat (first | exact Take1.head | apply Take1.tail))))⟩ ?_
  intro k hk
  refine WC.seq ?_
  refine WC.region ?_
  refine WL.y (Yl.lss rfl rfl) rfl ?_ -- t12
  refine WL.nil ?_
  refine WC.seq ?_
  refine WC.condD rfl (fun g12 => ?_) (fun g12 => ?_)
  · refine WC.skip ?_
    refine WC.seq ?_
    refine WC.block ?_
    refine WC.seq ?_
    refine WC.region ?_
    have hkl : k < ls.length := by omega
    obtain ⟨z, hz⟩ : ∃ z, ls[k]? = some z := ⟨_, List.getElem?_eq_getElem hkl⟩
    obtain ⟨v, hv⟩ : ∃ v, vs[k]? = some v := ⟨_, List.getElem?_eq_getElem (by omega)⟩
    have hzr := hls k v z hv hz
    obtain ⟨az, cz, rfl, _, _⟩ := hzr.rd.form
    have hf := fl hz
    have hle := fle (k + 1)
    rw [hf, List.length_append] at hle
    refine WL.y (Yl.index un66 sz22 rfl rfl (Reads.s hlv) rfl (by omega)) rfl ?_ -- t13
    refine WL.y (Yl.loadE on22 rfl (Reads.s hlv) hv) rfl ?_
    refine WL.y (Yl.assign rfl) rfl ?_ -- t5
    refine WL.nil ?_
    refine WC.seq ?_
    refine WC.region ?_
    refine WL.y (Yl.move rfl) rfl ?_ -- t15
    refine WL.y (Yl.move rfl) rfl ?_ -- t16
    refine WL.y (Yl.len un22 rfl) rfl ?_ -- t17
    refine WL.y (Yl.add rfl rfl (IntWalk.i64_in _ (by omega))) rfl ?_ -- t18
    refine WL.say (t := 18) (v' := .int .i64 ((ls.take (k + 1)).flatten.length : Int)) rfl (by (refine congrArg _ ?_; rw [hf, List.length_append]; omega)) ?_
    refine WL.y (Yl.assign rfl) rfl ?_ -- t3
    refine WL.nil ?_
    refine WC.seq ?_
    refine WC.region ?_
    refine WL.y (Yl.move rfl) rfl ?_ -- t19
    refine WL.y (Yl.lss rfl rfl) rfl ?_ -- t20
    refine WL.nil ?_
    refine WC.condF rfl (by first | rfl | (simp; done) | (simp; omega)) ?_
    refine WC.skip ?_
    refine WC.region ?_
    refine WL.y (Yl.add rfl rfl (IntWalk.i64_in _ (by omega))) rfl ?_ -- t22
    refine WL.y (Yl.move rfl) rfl ?_ -- t11
    refine WL.nil ?_
    exact ⟨rfl, k + 1, by omega, by omega, (by repeat (first | exact Sub.nil | refine Sub.cons rfl ?_)), _, (by repeat (first | exact TakeL.nil | (apply TakeL.cons; · repeat (first | exact Take1.head | apply Take1.tail))))⟩
  · refine WC.exit ?_
    refine WC.seq ?_
    have hkl : k = ls.length := by omega
    subst hkl
    rw [List.take_length]
    refine WC.region ?_
    refine WL.y (Yl.move rfl) rfl ?_ -- t23
    refine WL.callC (xs := [_, .tmp 23]) (cap := []) rfl rfl en29 (by repeat (first | exact TakeL.nil | (apply TakeL.cons; · repeat (first | exact Take1.head | apply Take1.tail)))) (fun w hw => grow_nil ls.flatten.length htot w hw.left.here) rfl ?_ -- t24 slices.Grow[[]byte,byte]
    rintro ⟨a24, c24⟩ -
    dsimp only
    refine WL.y (Yl.assign rfl) rfl ?_ -- t6
    refine WL.nil ?_
    refine WC.seq ?_
    refine WC.seq ?_
    refine WC.region ?_
    refine WL.y (Yl.move rfl) rfl ?_ -- t25
    refine WL.y (Yl.len un66 rfl) rfl ?_ -- t26
    refine WL.y (Yl.move rfl) rfl ?_ -- t27
    refine WL.nil ?_
    refine WC.block ?_
    refine WC.loop (α := Nat × (Option Addr × Nat)) (fun p => [(0, .slice la ls.length lc), (6, .slice p.2.1 (ls.take p.1).flatten.length p.2.2), (25, .slice la ls.length lc), (26, .int .i64 (ls.length : Int)), (27, .int .i64 (p.1 : Int))]) (fun p => [ownR (.slice p.2.1 (ls.take p.1).flatten.length p.2.2) 5 1 (ls.take p.1).flatten.length (ints .u8 (ls.take p.1).flatten)]) (fun p => p.1 ≤ ls.length) (fun p => ls.length - p.1) (0, (a24, c24)) (Nat.zero_le _) ⟨(by repeat (first | exact Sub.nil | refine Sub.cons rfl ?_)), _, (by repeat (first | exact TakeL.nil | (apply TakeL.cons; · repeat (first | exact Take1.head | apply Take1.tail))))⟩ ?_
    rintro ⟨k, ao, ca⟩ hk
    dsimp only at hk ⊢
    refine WC.seq ?_
    refine WC.region ?_
    refine WL.y (Yl.lss rfl rfl) rfl ?_ -- t28
    refine WL.nil ?_
    refine WC.seq ?_
    refine WC.condD rfl (fun g28 => ?_) (fun g28 => ?_)
    · refine WC.skip ?_
      refine WC.seq ?_
      refine WC.block ?_
      refine WC.seq ?_
      refine WC.region ?_
      have hkl : k < ls.length := by omega
      obtain ⟨z, hz⟩ : ∃ z, ls[k]? = some z := ⟨_, List.getElem?_eq_getElem hkl⟩
      obtain ⟨v, hv⟩ : ∃ v, vs[k]? = some v := ⟨_, List.getElem?_eq_getElem (by omega)⟩
      have hzr := hls k v z hv hz
      obtain ⟨az, cz, rfl, _, _⟩ := hzr.rd.form
      have hf := fl hz
      have hle := fle (k + 1)
      rw [hf, List.length_append] at hle
      refine WL.y (Yl.index un66 sz22 rfl rfl (Reads.s hlv) rfl (by omega)) rfl ?_ -- t29
      refine WL.y (Yl.loadE on22 rfl (Reads.s hlv) hv) rfl ?_
      refine WL.y (Yl.assign rfl) rfl ?_ -- t8
      refine WL.nil ?_
      refine WC.region ?_
      refine WL.y (Yl.move rfl) rfl ?_ -- t31
      refine WL.y (Yl.move rfl) rfl ?_ -- t32
      refine WL.to (To.append sl22 rfl rfl (by repeat (first | exact Take1.head | apply Take1.tail)) (Reads.s hzr) (ints_one _ _) (show (ls.take k).flatten.length + z.length = (ls.take (k + 1)).flatten.length by rw [hf, List.length_append]) (show _ = ints .u8 (ls.take (k + 1)).flatten by rw [hf, ints_append]) (by rw [hf, List.length_append]; unfold maxLen; omega) (by rw [hf, List.length_append]; omega)) rfl ?_ -- t33
      rintro ⟨⟨ao33, c33⟩, hc33⟩
      dsimp only at hc33 ⊢
      refine WL.y (Yl.assign rfl) rfl ?_ -- t6
      refine WL.nil ?_
      refine WC.region ?_
      refine WL.y (Yl.add rfl rfl (IntWalk.i64_in _ (by omega))) rfl ?_ -- t34
      refine WL.y (Yl.move rfl) rfl ?_ -- t27
      refine WL.nil ?_
      exact ⟨rfl, (k + 1, ao33, c33), by dsimp only; omega, by dsimp only; omega, (by repeat (first | exact Sub.nil | refine Sub.cons rfl ?_)), _, (by repeat (first | exact TakeL.nil | (apply TakeL.cons; · repeat (first | exact Take1.head | apply Take1.tail))))⟩
    · refine WC.exit ?_
      refine WC.seq ?_
      refine WC.region ?_
      refine WL.y (Yl.move rfl) rfl ?_ -- t35
      refine WL.y (Yl.assign rfl) rfl ?_ -- t2
      refine WL.nil ?_
      refine WC.ret ?_
      repeat (first | (with_reducible refine peelT ?_) | (with_reducible refine peelB ?_) | (with_reducible refine peelTX ?_) | (with_reducible refine peelBX ?_) | (with_reducible refine peelBN ?_) | (with_reducible refine peelBO rfl ?_))
      have hkl : k = ls.length := by omega
      subst hkl
      rw [List.take_length]
      exact ret1 (.inr rfl) Try.results19 rfl fun w' h => ⟨(ao, ca), trivial, rfl, h.sub (by repeat (first | exact TakeL.nil | (apply TakeL.cons; · repeat (first | exact Take1.head | apply Take1.tail))))⟩
end Go.Proofs.Ytjlgmaappebppaa
