/- The length of a number in bits, powers of two, the generator of the sort: the walks. -/
import Derived.Test.YtbgimajbehodnaaGreatDoorFacts
import Derived.Test.YtbgimajbehodnaaGreatDoorLibH
import Derived.Shelf.Small.Bits
import Derived.Sort.Walk7a
import Derived.Sort.Walk7
namespace Go.Proofs.YtbgimajbehodnaaGreatDoor
open Go Go.RowKit Go.Sort Go.Shelf

def rhoLen : Ren := ⟨fun n => match n with | 125 => 114 | 128 => 141 | 129 => 142 | n => n, fun n => match n with | 3 => 3 | 4 => 4 | 5 => 5 | 9 => 9 | 46 => 180 | 51 => 24 | 53 => 34 | n => n, fun n => n⟩
set_option maxRecDepth 1000000 in
theorem laysLen : Lays.n125 Tryz.prog rhoLen := by
  constructor <;> first | exact mixed | kernel_rfl | (intro w; kernel_rfl)
theorem len_any (n : Nat) (hn : n < 4611686018427387904) (w : World) (hw : OK w (fpL []) [] w) : Fn Tryz.prog 114 [.int .u64 (n : Int)] [] w (fun _ : Unit => True) (fun _ => .int .i64 ((bitsLen n : Nat) : Int)) (fun _ => []) := by
  have h : Calls Tryz.prog 114 #[.int .u64 (n : Int)] w fun e w' => e = .returned (.int .i64 (Lib.bitLen (n : Int).toNat)) ∧ w' = w := Any.bits_Len laysLen (n : Int) w (by omega) (by omega)
  rw [Int.toNat_natCast, bitLen_eq _ (by omega)] at h
  refine h.mono ?_
  rintro e w' ⟨rfl, rfl⟩
  exact ⟨(), trivial, rfl, hw⟩
theorem npt_any (n : Nat) (hn : n < 4611686018427387904) (w : World) (hw : OK w (fpL []) [] w) : Fn Tryz.prog 174 [.int .i64 (n : Int)] [] w (fun _ : Unit => True) (fun _ => .int .u64 ((1 <<< bitsLen n : Nat) : Int)) (fun _ => []) := by
  have hk : bitsLen n ≤ 62 := (bitsLen_le_iff n 62).2 (by omega)
  have hp := wrap_two_pow (bitsLen n) hk
  refine enterF Tryz.func174 rfl Tryz.ntmps174 rfl hw ?_
  refine WC.seq ?_
  refine WC.region ?_
  refine WL.y (Yl.assign rfl) rfl ?_
  refine WL.nil ?_
  refine WC.seq ?_
  refine WC.region ?_
  refine WL.y (Yl.move rfl) rfl ?_
  refine WL.y (Yl.conv un3 un180 rfl (show IntKind.u64.wrap (n : Int) = (n : Int) by rw [IntKind.wrap_u64]; omega)) rfl ?_
  refine WL.callC (xs := [.tmp 4]) (cap := []) rfl rfl en114 (by repeat' constructor) (fun w hw => len_any n hn w hw.left.here) rfl ?_
  rintro ⟨⟩ -
  refine WL.y (Yl.shl (r := ((1 <<< bitsLen n : Nat) : Int)) rfl rfl ⟨Int.natCast_nonneg _, (show ((bitsLen n : Nat) : Int) ≤ 64 by omega)⟩ (by rw [Int.one_mul, Int.toNat_natCast]; exact hp)) rfl ?_
  refine WL.y (Yl.assign rfl) rfl ?_
  refine WL.nil ?_
  refine WC.ret ?_
  repeat (with_reducible (first | refine peelT ?_ | refine peelB ?_ | refine peelTX ?_ | refine peelBX ?_ | refine peelBN ?_ | refine peelBO rfl ?_))
  exact ret1 (.inr rfl) Tryz.results174 rfl fun w' h => ⟨(), trivial, rfl, h.sub (by repeat' constructor)⟩
theorem en175 : ∀ args w, (callFunc 175 args).run Tryz.prog w = .ok (.enter 175 args) w := enters Tryz.func175 (by kernel_rfl) rfl
theorem xor_any (b X : Nat) (hX : X < 18446744073709551616) (w : World) (hw : OK w (fpL [blkR b 226 [.int .u64 (X : Int)]]) [blkR b 226 [.int .u64 (X : Int)]] w) :
    Fn Tryz.prog 175 [.pointer (some ⟨b, 0, none⟩)] [blkR b 226 [.int .u64 (X : Int)]] w (fun _ : Unit => True) (fun _ => .int .u64 ((xorNextN X : Nat) : Int)) (fun _ => [blkR b 226 [.int .u64 ((xorNextN X : Nat) : Int)]]) := by
  obtain ⟨A, hA⟩ : ∃ A : Nat, A = X ^^^ (X * 8192 % 18446744073709551616) := ⟨_, rfl⟩
  obtain ⟨B, hB⟩ : ∃ B : Nat, B = A ^^^ (A / 128) := ⟨_, rfl⟩
  obtain ⟨C, hC⟩ : ∃ C : Nat, C = B ^^^ (B * 131072 % 18446744073709551616) := ⟨_, rfl⟩
  have lA : A < 18446744073709551616 := by rw [hA]; exact Nat.xor_lt_two_pow (n := 64) (by omega) (by omega)
  have lB : B < 18446744073709551616 := by rw [hB]; exact Nat.xor_lt_two_pow (n := 64) (by omega) (by omega)
  have e1 : bits .xor .u64 (X : Int) (IntKind.u64.wrap ((X : Int) * 8192)) = (A : Int) := by
    rw [IntKind.wrap_u64, show ((X : Int) * 8192 % 18446744073709551616) = ((X * 8192 % 18446744073709551616 : Nat) : Int) by omega, bits_xor_u64_nat _ _ hX (by omega), hA]
  have e2 : bits .xor .u64 (A : Int) ((A : Int) / 128) = (B : Int) := by
    rw [show ((A : Int) / 128) = ((A / 128 : Nat) : Int) by omega, bits_xor_u64_nat _ _ lA (by omega), hB]
  have e3 : bits .xor .u64 (B : Int) (IntKind.u64.wrap ((B : Int) * 131072)) = (C : Int) := by
    rw [IntKind.wrap_u64, show ((B : Int) * 131072 % 18446744073709551616) = ((B * 131072 % 18446744073709551616 : Nat) : Int) by omega, bits_xor_u64_nat _ _ lB (by omega), hC]
  have hv : xorNextN X = C := by unfold xorNextN; simp only []; rw [← hA, ← hB, ← hC]
  rw [hv]
  clear hA hB hC hv
  refine enterF Tryz.func175 rfl Tryz.ntmps175 rfl hw ?_
  refine WC.seq ?_
  refine WC.region ?_
  refine WL.y (Yl.assign rfl) rfl ?_
  refine WL.nil ?_
  refine WC.seq ?_
  refine WC.drawAny (Hs := []) mixed (by kernel_rfl) ⟨_, (by repeat' constructor)⟩ ?_
  refine WD.tk 0 rfl (by kernel_rfl) rfl rfl (Yl.move rfl) rfl ?_
  refine WD.tk 1 rfl (by kernel_rfl) rfl rfl (Yl.nilCheck rfl) rfl ?_
  refine WD.tk 3 rfl (by kernel_rfl) rfl rfl (Yl.move rfl) rfl ?_
  refine WD.tk 4 rfl (by kernel_rfl) rfl rfl (Yl.nilCheck rfl) rfl ?_
  refine WD.two 2 5 (by kernel_rfl) ?_ ?_
  · refine WO.y rfl rfl .no (Yl.load on226 rfl (by repeat constructor) (by rfl)) rfl ?_
    refine WD.one 5 (by kernel_rfl) ?_
    refine WO.y rfl rfl .no (Yl.load on226 rfl (by repeat constructor) (by rfl)) rfl ?_
    refine WD.tk 6 rfl (by kernel_rfl) rfl rfl (Yl.shl rfl rfl ⟨by omega, (by simp [IntKind.bits]; try omega)⟩ rfl) rfl ?_
    refine WD.say (t := 9) (v' := .int .u64 (IntKind.u64.wrap ((X : Int) * 8192))) rfl (by rfl) ?_
    refine WD.tk 7 rfl (by kernel_rfl) rfl rfl (Yl.xor rfl rfl) rfl ?_
    refine WD.say (t := 10) (v' := .int .u64 (A : Int)) rfl (by rw [e1]) ?_
    refine WD.tk 8 rfl (by kernel_rfl) rfl rfl (Yl.nilCheck rfl) rfl ?_
    refine WD.one 9 (by kernel_rfl) ?_
    refine WO.sto rfl rfl .no (Sto.one sz226 rfl rfl (by repeat constructor) rfl (by rfl) (by rfl)) ⟨_, (by repeat' constructor)⟩ ?_
    refine WD.done (by kernel_rfl) ?_
    refine WC.seq ?_
    refine WC.drawAny (Hs := []) mixed (by kernel_rfl) ⟨_, (by repeat' constructor)⟩ ?_
    refine WD.tk 0 rfl (by kernel_rfl) rfl rfl (Yl.move rfl) rfl ?_
    refine WD.tk 1 rfl (by kernel_rfl) rfl rfl (Yl.nilCheck rfl) rfl ?_
    refine WD.tk 3 rfl (by kernel_rfl) rfl rfl (Yl.move rfl) rfl ?_
    refine WD.tk 4 rfl (by kernel_rfl) rfl rfl (Yl.nilCheck rfl) rfl ?_
    refine WD.two 2 5 (by kernel_rfl) ?_ ?_
    · refine WO.y rfl rfl .no (Yl.load on226 rfl (by repeat constructor) (by rfl)) rfl ?_
      refine WD.one 5 (by kernel_rfl) ?_
      refine WO.y rfl rfl .no (Yl.load on226 rfl (by repeat constructor) (by rfl)) rfl ?_
      refine WD.tk 6 rfl (by kernel_rfl) rfl rfl (Yl.shr rfl rfl ⟨by omega, (by simp [IntKind.bits]; try omega)⟩ rfl) rfl ?_
      refine WD.say (t := 18) (v' := .int .u64 ((A : Int) / 128)) rfl (by rfl) ?_
      refine WD.tk 7 rfl (by kernel_rfl) rfl rfl (Yl.xor rfl rfl) rfl ?_
      refine WD.say (t := 19) (v' := .int .u64 (B : Int)) rfl (by rw [e2]) ?_
      refine WD.tk 8 rfl (by kernel_rfl) rfl rfl (Yl.nilCheck rfl) rfl ?_
      refine WD.one 9 (by kernel_rfl) ?_
      refine WO.sto rfl rfl .no (Sto.one sz226 rfl rfl (by repeat constructor) rfl (by rfl) (by rfl)) ⟨_, (by repeat' constructor)⟩ ?_
      refine WD.done (by kernel_rfl) ?_
      refine WC.seq ?_
      refine WC.drawAny (Hs := []) mixed (by kernel_rfl) ⟨_, (by repeat' constructor)⟩ ?_
      refine WD.tk 0 rfl (by kernel_rfl) rfl rfl (Yl.move rfl) rfl ?_
      refine WD.tk 1 rfl (by kernel_rfl) rfl rfl (Yl.nilCheck rfl) rfl ?_
      refine WD.tk 3 rfl (by kernel_rfl) rfl rfl (Yl.move rfl) rfl ?_
      refine WD.tk 4 rfl (by kernel_rfl) rfl rfl (Yl.nilCheck rfl) rfl ?_
      refine WD.two 2 5 (by kernel_rfl) ?_ ?_
      · refine WO.y rfl rfl .no (Yl.load on226 rfl (by repeat constructor) (by rfl)) rfl ?_
        refine WD.one 5 (by kernel_rfl) ?_
        refine WO.y rfl rfl .no (Yl.load on226 rfl (by repeat constructor) (by rfl)) rfl ?_
        refine WD.tk 6 rfl (by kernel_rfl) rfl rfl (Yl.shl rfl rfl ⟨by omega, (by simp [IntKind.bits]; try omega)⟩ rfl) rfl ?_
        refine WD.say (t := 27) (v' := .int .u64 (IntKind.u64.wrap ((B : Int) * 131072))) rfl (by rfl) ?_
        refine WD.tk 7 rfl (by kernel_rfl) rfl rfl (Yl.xor rfl rfl) rfl ?_
        refine WD.say (t := 28) (v' := .int .u64 (C : Int)) rfl (by rw [e3]) ?_
        refine WD.tk 8 rfl (by kernel_rfl) rfl rfl (Yl.nilCheck rfl) rfl ?_
        refine WD.one 9 (by kernel_rfl) ?_
        refine WO.sto rfl rfl .no (Sto.one sz226 rfl rfl (by repeat constructor) rfl (by rfl) (by rfl)) ⟨_, (by repeat' constructor)⟩ ?_
        refine WD.done (by kernel_rfl) ?_
        refine WC.seq ?_
        refine WC.region ?_
        refine WL.y (Yl.move rfl) rfl ?_
        refine WL.y (Yl.nilCheck rfl) rfl ?_
        refine WL.y (Yl.load on226 rfl (by repeat constructor) (by rfl)) rfl ?_
        refine WL.y (Yl.assign rfl) rfl ?_
        refine WL.nil ?_
        refine WC.ret ?_
        repeat (with_reducible (first | refine peelT ?_ | refine peelB ?_ | refine peelTX ?_ | refine peelBX ?_ | refine peelBN ?_ | refine peelBO rfl ?_))
        exact ret1 (.inr rfl) Tryz.results175 rfl fun w' h => ⟨(), trivial, rfl, h.sub (by repeat' constructor)⟩
      · refine WO.y rfl rfl .no (Yl.load on226 rfl (by repeat constructor) (by rfl)) rfl ?_
        refine WD.tk 6 rfl (by kernel_rfl) rfl rfl (Yl.shl rfl rfl ⟨by omega, (by simp [IntKind.bits]; try omega)⟩ rfl) rfl ?_
        refine WD.say (t := 27) (v' := .int .u64 (IntKind.u64.wrap ((B : Int) * 131072))) rfl (by rfl) ?_
        refine WD.one 2 (by kernel_rfl) ?_
        refine WO.y rfl rfl .no (Yl.load on226 rfl (by repeat constructor) (by rfl)) rfl ?_
        refine WD.tk 7 rfl (by kernel_rfl) rfl rfl (Yl.xor rfl rfl) rfl ?_
        refine WD.say (t := 28) (v' := .int .u64 (C : Int)) rfl (by rw [e3]) ?_
        refine WD.tk 8 rfl (by kernel_rfl) rfl rfl (Yl.nilCheck rfl) rfl ?_
        refine WD.one 9 (by kernel_rfl) ?_
        refine WO.sto rfl rfl .no (Sto.one sz226 rfl rfl (by repeat constructor) rfl (by rfl) (by rfl)) ⟨_, (by repeat' constructor)⟩ ?_
        refine WD.done (by kernel_rfl) ?_
        refine WC.seq ?_
        refine WC.region ?_
        refine WL.y (Yl.move rfl) rfl ?_
        refine WL.y (Yl.nilCheck rfl) rfl ?_
        refine WL.y (Yl.load on226 rfl (by repeat constructor) (by rfl)) rfl ?_
        refine WL.y (Yl.assign rfl) rfl ?_
        refine WL.nil ?_
        refine WC.ret ?_
        repeat (with_reducible (first | refine peelT ?_ | refine peelB ?_ | refine peelTX ?_ | refine peelBX ?_ | refine peelBN ?_ | refine peelBO rfl ?_))
        exact ret1 (.inr rfl) Tryz.results175 rfl fun w' h => ⟨(), trivial, rfl, h.sub (by repeat' constructor)⟩
    · refine WO.y rfl rfl .no (Yl.load on226 rfl (by repeat constructor) (by rfl)) rfl ?_
      refine WD.tk 6 rfl (by kernel_rfl) rfl rfl (Yl.shr rfl rfl ⟨by omega, (by simp [IntKind.bits]; try omega)⟩ rfl) rfl ?_
      refine WD.say (t := 18) (v' := .int .u64 ((A : Int) / 128)) rfl (by rfl) ?_
      refine WD.one 2 (by kernel_rfl) ?_
      refine WO.y rfl rfl .no (Yl.load on226 rfl (by repeat constructor) (by rfl)) rfl ?_
      refine WD.tk 7 rfl (by kernel_rfl) rfl rfl (Yl.xor rfl rfl) rfl ?_
      refine WD.say (t := 19) (v' := .int .u64 (B : Int)) rfl (by rw [e2]) ?_
      refine WD.tk 8 rfl (by kernel_rfl) rfl rfl (Yl.nilCheck rfl) rfl ?_
      refine WD.one 9 (by kernel_rfl) ?_
      refine WO.sto rfl rfl .no (Sto.one sz226 rfl rfl (by repeat constructor) rfl (by rfl) (by rfl)) ⟨_, (by repeat' constructor)⟩ ?_
      refine WD.done (by kernel_rfl) ?_
      refine WC.seq ?_
      refine WC.drawAny (Hs := []) mixed (by kernel_rfl) ⟨_, (by repeat' constructor)⟩ ?_
      refine WD.tk 0 rfl (by kernel_rfl) rfl rfl (Yl.move rfl) rfl ?_
      refine WD.tk 1 rfl (by kernel_rfl) rfl rfl (Yl.nilCheck rfl) rfl ?_
      refine WD.tk 3 rfl (by kernel_rfl) rfl rfl (Yl.move rfl) rfl ?_
      refine WD.tk 4 rfl (by kernel_rfl) rfl rfl (Yl.nilCheck rfl) rfl ?_
      refine WD.two 2 5 (by kernel_rfl) ?_ ?_
      · refine WO.y rfl rfl .no (Yl.load on226 rfl (by repeat constructor) (by rfl)) rfl ?_
        refine WD.one 5 (by kernel_rfl) ?_
        refine WO.y rfl rfl .no (Yl.load on226 rfl (by repeat constructor) (by rfl)) rfl ?_
        refine WD.tk 6 rfl (by kernel_rfl) rfl rfl (Yl.shl rfl rfl ⟨by omega, (by simp [IntKind.bits]; try omega)⟩ rfl) rfl ?_
        refine WD.say (t := 27) (v' := .int .u64 (IntKind.u64.wrap ((B : Int) * 131072))) rfl (by rfl) ?_
        refine WD.tk 7 rfl (by kernel_rfl) rfl rfl (Yl.xor rfl rfl) rfl ?_
        refine WD.say (t := 28) (v' := .int .u64 (C : Int)) rfl (by rw [e3]) ?_
        refine WD.tk 8 rfl (by kernel_rfl) rfl rfl (Yl.nilCheck rfl) rfl ?_
        refine WD.one 9 (by kernel_rfl) ?_
        refine WO.sto rfl rfl .no (Sto.one sz226 rfl rfl (by repeat constructor) rfl (by rfl) (by rfl)) ⟨_, (by repeat' constructor)⟩ ?_
        refine WD.done (by kernel_rfl) ?_
        refine WC.seq ?_
        refine WC.region ?_
        refine WL.y (Yl.move rfl) rfl ?_
        refine WL.y (Yl.nilCheck rfl) rfl ?_
        refine WL.y (Yl.load on226 rfl (by repeat constructor) (by rfl)) rfl ?_
        refine WL.y (Yl.assign rfl) rfl ?_
        refine WL.nil ?_
        refine WC.ret ?_
        repeat (with_reducible (first | refine peelT ?_ | refine peelB ?_ | refine peelTX ?_ | refine peelBX ?_ | refine peelBN ?_ | refine peelBO rfl ?_))
        exact ret1 (.inr rfl) Tryz.results175 rfl fun w' h => ⟨(), trivial, rfl, h.sub (by repeat' constructor)⟩
      · refine WO.y rfl rfl .no (Yl.load on226 rfl (by repeat constructor) (by rfl)) rfl ?_
        refine WD.tk 6 rfl (by kernel_rfl) rfl rfl (Yl.shl rfl rfl ⟨by omega, (by simp [IntKind.bits]; try omega)⟩ rfl) rfl ?_
        refine WD.say (t := 27) (v' := .int .u64 (IntKind.u64.wrap ((B : Int) * 131072))) rfl (by rfl) ?_
        refine WD.one 2 (by kernel_rfl) ?_
        refine WO.y rfl rfl .no (Yl.load on226 rfl (by repeat constructor) (by rfl)) rfl ?_
        refine WD.tk 7 rfl (by kernel_rfl) rfl rfl (Yl.xor rfl rfl) rfl ?_
        refine WD.say (t := 28) (v' := .int .u64 (C : Int)) rfl (by rw [e3]) ?_
        refine WD.tk 8 rfl (by kernel_rfl) rfl rfl (Yl.nilCheck rfl) rfl ?_
        refine WD.one 9 (by kernel_rfl) ?_
        refine WO.sto rfl rfl .no (Sto.one sz226 rfl rfl (by repeat constructor) rfl (by rfl) (by rfl)) ⟨_, (by repeat' constructor)⟩ ?_
        refine WD.done (by kernel_rfl) ?_
        refine WC.seq ?_
        refine WC.region ?_
        refine WL.y (Yl.move rfl) rfl ?_
        refine WL.y (Yl.nilCheck rfl) rfl ?_
        refine WL.y (Yl.load on226 rfl (by repeat constructor) (by rfl)) rfl ?_
        refine WL.y (Yl.assign rfl) rfl ?_
        refine WL.nil ?_
        refine WC.ret ?_
        repeat (with_reducible (first | refine peelT ?_ | refine peelB ?_ | refine peelTX ?_ | refine peelBX ?_ | refine peelBN ?_ | refine peelBO rfl ?_))
        exact ret1 (.inr rfl) Tryz.results175 rfl fun w' h => ⟨(), trivial, rfl, h.sub (by repeat' constructor)⟩
  · refine WO.y rfl rfl .no (Yl.load on226 rfl (by repeat constructor) (by rfl)) rfl ?_
    refine WD.tk 6 rfl (by kernel_rfl) rfl rfl (Yl.shl rfl rfl ⟨by omega, (by simp [IntKind.bits]; try omega)⟩ rfl) rfl ?_
    refine WD.say (t := 9) (v' := .int .u64 (IntKind.u64.wrap ((X : Int) * 8192))) rfl (by rfl) ?_
    refine WD.one 2 (by kernel_rfl) ?_
    refine WO.y rfl rfl .no (Yl.load on226 rfl (by repeat constructor) (by rfl)) rfl ?_
    refine WD.tk 7 rfl (by kernel_rfl) rfl rfl (Yl.xor rfl rfl) rfl ?_
    refine WD.say (t := 10) (v' := .int .u64 (A : Int)) rfl (by rw [e1]) ?_
    refine WD.tk 8 rfl (by kernel_rfl) rfl rfl (Yl.nilCheck rfl) rfl ?_
    refine WD.one 9 (by kernel_rfl) ?_
    refine WO.sto rfl rfl .no (Sto.one sz226 rfl rfl (by repeat constructor) rfl (by rfl) (by rfl)) ⟨_, (by repeat' constructor)⟩ ?_
    refine WD.done (by kernel_rfl) ?_
    refine WC.seq ?_
    refine WC.drawAny (Hs := []) mixed (by kernel_rfl) ⟨_, (by repeat' constructor)⟩ ?_
    refine WD.tk 0 rfl (by kernel_rfl) rfl rfl (Yl.move rfl) rfl ?_
    refine WD.tk 1 rfl (by kernel_rfl) rfl rfl (Yl.nilCheck rfl) rfl ?_
    refine WD.tk 3 rfl (by kernel_rfl) rfl rfl (Yl.move rfl) rfl ?_
    refine WD.tk 4 rfl (by kernel_rfl) rfl rfl (Yl.nilCheck rfl) rfl ?_
    refine WD.two 2 5 (by kernel_rfl) ?_ ?_
    · refine WO.y rfl rfl .no (Yl.load on226 rfl (by repeat constructor) (by rfl)) rfl ?_
      refine WD.one 5 (by kernel_rfl) ?_
      refine WO.y rfl rfl .no (Yl.load on226 rfl (by repeat constructor) (by rfl)) rfl ?_
      refine WD.tk 6 rfl (by kernel_rfl) rfl rfl (Yl.shr rfl rfl ⟨by omega, (by simp [IntKind.bits]; try omega)⟩ rfl) rfl ?_
      refine WD.say (t := 18) (v' := .int .u64 ((A : Int) / 128)) rfl (by rfl) ?_
      refine WD.tk 7 rfl (by kernel_rfl) rfl rfl (Yl.xor rfl rfl) rfl ?_
      refine WD.say (t := 19) (v' := .int .u64 (B : Int)) rfl (by rw [e2]) ?_
      refine WD.tk 8 rfl (by kernel_rfl) rfl rfl (Yl.nilCheck rfl) rfl ?_
      refine WD.one 9 (by kernel_rfl) ?_
      refine WO.sto rfl rfl .no (Sto.one sz226 rfl rfl (by repeat constructor) rfl (by rfl) (by rfl)) ⟨_, (by repeat' constructor)⟩ ?_
      refine WD.done (by kernel_rfl) ?_
      refine WC.seq ?_
      refine WC.drawAny (Hs := []) mixed (by kernel_rfl) ⟨_, (by repeat' constructor)⟩ ?_
      refine WD.tk 0 rfl (by kernel_rfl) rfl rfl (Yl.move rfl) rfl ?_
      refine WD.tk 1 rfl (by kernel_rfl) rfl rfl (Yl.nilCheck rfl) rfl ?_
      refine WD.tk 3 rfl (by kernel_rfl) rfl rfl (Yl.move rfl) rfl ?_
      refine WD.tk 4 rfl (by kernel_rfl) rfl rfl (Yl.nilCheck rfl) rfl ?_
      refine WD.two 2 5 (by kernel_rfl) ?_ ?_
      · refine WO.y rfl rfl .no (Yl.load on226 rfl (by repeat constructor) (by rfl)) rfl ?_
        refine WD.one 5 (by kernel_rfl) ?_
        refine WO.y rfl rfl .no (Yl.load on226 rfl (by repeat constructor) (by rfl)) rfl ?_
        refine WD.tk 6 rfl (by kernel_rfl) rfl rfl (Yl.shl rfl rfl ⟨by omega, (by simp [IntKind.bits]; try omega)⟩ rfl) rfl ?_
        refine WD.say (t := 27) (v' := .int .u64 (IntKind.u64.wrap ((B : Int) * 131072))) rfl (by rfl) ?_
        refine WD.tk 7 rfl (by kernel_rfl) rfl rfl (Yl.xor rfl rfl) rfl ?_
        refine WD.say (t := 28) (v' := .int .u64 (C : Int)) rfl (by rw [e3]) ?_
        refine WD.tk 8 rfl (by kernel_rfl) rfl rfl (Yl.nilCheck rfl) rfl ?_
        refine WD.one 9 (by kernel_rfl) ?_
        refine WO.sto rfl rfl .no (Sto.one sz226 rfl rfl (by repeat constructor) rfl (by rfl) (by rfl)) ⟨_, (by repeat' constructor)⟩ ?_
        refine WD.done (by kernel_rfl) ?_
        refine WC.seq ?_
        refine WC.region ?_
        refine WL.y (Yl.move rfl) rfl ?_
        refine WL.y (Yl.nilCheck rfl) rfl ?_
        refine WL.y (Yl.load on226 rfl (by repeat constructor) (by rfl)) rfl ?_
        refine WL.y (Yl.assign rfl) rfl ?_
        refine WL.nil ?_
        refine WC.ret ?_
        repeat (with_reducible (first | refine peelT ?_ | refine peelB ?_ | refine peelTX ?_ | refine peelBX ?_ | refine peelBN ?_ | refine peelBO rfl ?_))
        exact ret1 (.inr rfl) Tryz.results175 rfl fun w' h => ⟨(), trivial, rfl, h.sub (by repeat' constructor)⟩
      · refine WO.y rfl rfl .no (Yl.load on226 rfl (by repeat constructor) (by rfl)) rfl ?_
        refine WD.tk 6 rfl (by kernel_rfl) rfl rfl (Yl.shl rfl rfl ⟨by omega, (by simp [IntKind.bits]; try omega)⟩ rfl) rfl ?_
        refine WD.say (t := 27) (v' := .int .u64 (IntKind.u64.wrap ((B : Int) * 131072))) rfl (by rfl) ?_
        refine WD.one 2 (by kernel_rfl) ?_
        refine WO.y rfl rfl .no (Yl.load on226 rfl (by repeat constructor) (by rfl)) rfl ?_
        refine WD.tk 7 rfl (by kernel_rfl) rfl rfl (Yl.xor rfl rfl) rfl ?_
        refine WD.say (t := 28) (v' := .int .u64 (C : Int)) rfl (by rw [e3]) ?_
        refine WD.tk 8 rfl (by kernel_rfl) rfl rfl (Yl.nilCheck rfl) rfl ?_
        refine WD.one 9 (by kernel_rfl) ?_
        refine WO.sto rfl rfl .no (Sto.one sz226 rfl rfl (by repeat constructor) rfl (by rfl) (by rfl)) ⟨_, (by repeat' constructor)⟩ ?_
        refine WD.done (by kernel_rfl) ?_
        refine WC.seq ?_
        refine WC.region ?_
        refine WL.y (Yl.move rfl) rfl ?_
        refine WL.y (Yl.nilCheck rfl) rfl ?_
        refine WL.y (Yl.load on226 rfl (by repeat constructor) (by rfl)) rfl ?_
        refine WL.y (Yl.assign rfl) rfl ?_
        refine WL.nil ?_
        refine WC.ret ?_
        repeat (with_reducible (first | refine peelT ?_ | refine peelB ?_ | refine peelTX ?_ | refine peelBX ?_ | refine peelBN ?_ | refine peelBO rfl ?_))
        exact ret1 (.inr rfl) Tryz.results175 rfl fun w' h => ⟨(), trivial, rfl, h.sub (by repeat' constructor)⟩
    · refine WO.y rfl rfl .no (Yl.load on226 rfl (by repeat constructor) (by rfl)) rfl ?_
      refine WD.tk 6 rfl (by kernel_rfl) rfl rfl (Yl.shr rfl rfl ⟨by omega, (by simp [IntKind.bits]; try omega)⟩ rfl) rfl ?_
      refine WD.say (t := 18) (v' := .int .u64 ((A : Int) / 128)) rfl (by rfl) ?_
      refine WD.one 2 (by kernel_rfl) ?_
      refine WO.y rfl rfl .no (Yl.load on226 rfl (by repeat constructor) (by rfl)) rfl ?_
      refine WD.tk 7 rfl (by kernel_rfl) rfl rfl (Yl.xor rfl rfl) rfl ?_
      refine WD.say (t := 19) (v' := .int .u64 (B : Int)) rfl (by rw [e2]) ?_
      refine WD.tk 8 rfl (by kernel_rfl) rfl rfl (Yl.nilCheck rfl) rfl ?_
      refine WD.one 9 (by kernel_rfl) ?_
      refine WO.sto rfl rfl .no (Sto.one sz226 rfl rfl (by repeat constructor) rfl (by rfl) (by rfl)) ⟨_, (by repeat' constructor)⟩ ?_
      refine WD.done (by kernel_rfl) ?_
      refine WC.seq ?_
      refine WC.drawAny (Hs := []) mixed (by kernel_rfl) ⟨_, (by repeat' constructor)⟩ ?_
      refine WD.tk 0 rfl (by kernel_rfl) rfl rfl (Yl.move rfl) rfl ?_
      refine WD.tk 1 rfl (by kernel_rfl) rfl rfl (Yl.nilCheck rfl) rfl ?_
      refine WD.tk 3 rfl (by kernel_rfl) rfl rfl (Yl.move rfl) rfl ?_
      refine WD.tk 4 rfl (by kernel_rfl) rfl rfl (Yl.nilCheck rfl) rfl ?_
      refine WD.two 2 5 (by kernel_rfl) ?_ ?_
      · refine WO.y rfl rfl .no (Yl.load on226 rfl (by repeat constructor) (by rfl)) rfl ?_
        refine WD.one 5 (by kernel_rfl) ?_
        refine WO.y rfl rfl .no (Yl.load on226 rfl (by repeat constructor) (by rfl)) rfl ?_
        refine WD.tk 6 rfl (by kernel_rfl) rfl rfl (Yl.shl rfl rfl ⟨by omega, (by simp [IntKind.bits]; try omega)⟩ rfl) rfl ?_
        refine WD.say (t := 27) (v' := .int .u64 (IntKind.u64.wrap ((B : Int) * 131072))) rfl (by rfl) ?_
        refine WD.tk 7 rfl (by kernel_rfl) rfl rfl (Yl.xor rfl rfl) rfl ?_
        refine WD.say (t := 28) (v' := .int .u64 (C : Int)) rfl (by rw [e3]) ?_
        refine WD.tk 8 rfl (by kernel_rfl) rfl rfl (Yl.nilCheck rfl) rfl ?_
        refine WD.one 9 (by kernel_rfl) ?_
        refine WO.sto rfl rfl .no (Sto.one sz226 rfl rfl (by repeat constructor) rfl (by rfl) (by rfl)) ⟨_, (by repeat' constructor)⟩ ?_
        refine WD.done (by kernel_rfl) ?_
        refine WC.seq ?_
        refine WC.region ?_
        refine WL.y (Yl.move rfl) rfl ?_
        refine WL.y (Yl.nilCheck rfl) rfl ?_
        refine WL.y (Yl.load on226 rfl (by repeat constructor) (by rfl)) rfl ?_
        refine WL.y (Yl.assign rfl) rfl ?_
        refine WL.nil ?_
        refine WC.ret ?_
        repeat (with_reducible (first | refine peelT ?_ | refine peelB ?_ | refine peelTX ?_ | refine peelBX ?_ | refine peelBN ?_ | refine peelBO rfl ?_))
        exact ret1 (.inr rfl) Tryz.results175 rfl fun w' h => ⟨(), trivial, rfl, h.sub (by repeat' constructor)⟩
      · refine WO.y rfl rfl .no (Yl.load on226 rfl (by repeat constructor) (by rfl)) rfl ?_
        refine WD.tk 6 rfl (by kernel_rfl) rfl rfl (Yl.shl rfl rfl ⟨by omega, (by simp [IntKind.bits]; try omega)⟩ rfl) rfl ?_
        refine WD.say (t := 27) (v' := .int .u64 (IntKind.u64.wrap ((B : Int) * 131072))) rfl (by rfl) ?_
        refine WD.one 2 (by kernel_rfl) ?_
        refine WO.y rfl rfl .no (Yl.load on226 rfl (by repeat constructor) (by rfl)) rfl ?_
        refine WD.tk 7 rfl (by kernel_rfl) rfl rfl (Yl.xor rfl rfl) rfl ?_
        refine WD.say (t := 28) (v' := .int .u64 (C : Int)) rfl (by rw [e3]) ?_
        refine WD.tk 8 rfl (by kernel_rfl) rfl rfl (Yl.nilCheck rfl) rfl ?_
        refine WD.one 9 (by kernel_rfl) ?_
        refine WO.sto rfl rfl .no (Sto.one sz226 rfl rfl (by repeat constructor) rfl (by rfl) (by rfl)) ⟨_, (by repeat' constructor)⟩ ?_
        refine WD.done (by kernel_rfl) ?_
        refine WC.seq ?_
        refine WC.region ?_
        refine WL.y (Yl.move rfl) rfl ?_
        refine WL.y (Yl.nilCheck rfl) rfl ?_
        refine WL.y (Yl.load on226 rfl (by repeat constructor) (by rfl)) rfl ?_
        refine WL.y (Yl.assign rfl) rfl ?_
        refine WL.nil ?_
        refine WC.ret ?_
        repeat (with_reducible (first | refine peelT ?_ | refine peelB ?_ | refine peelTX ?_ | refine peelBX ?_ | refine peelBN ?_ | refine peelBO rfl ?_))
        exact ret1 (.inr rfl) Tryz.results175 rfl fun w' h => ⟨(), trivial, rfl, h.sub (by repeat' constructor)⟩
end Go.Proofs.YtbgimajbehodnaaGreatDoor
