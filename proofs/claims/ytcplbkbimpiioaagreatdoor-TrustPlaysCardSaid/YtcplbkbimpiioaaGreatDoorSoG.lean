/- The length of a number in bits, powers of two, the generator of the sort: the walks. -/
import Derived.Test.YtcplbkbimpiioaaGreatDoorFacts
import Derived.Test.YtcplbkbimpiioaaGreatDoorLibH
import Derived.Shelf.Small.Bits
import Derived.Sort.Walk7a
import Derived.Sort.Walk7
namespace Go.Proofs.YtcplbkbimpiioaaGreatDoor
open Go Go.RowKit Go.Sort Go.Shelf

def rhoLen : Ren := ⟨fun n => match n with | 125 => 82 | 128 => 109 | 129 => 110 | n => n, fun n => match n with | 3 => 3 | 4 => 4 | 5 => 5 | 9 => 9 | 46 => 123 | 51 => 172 | 53 => 122 | n => n, fun n => n⟩
set_option maxRecDepth 1000000 in
theorem laysLen : Lays.n125 Tryz.prog rhoLen := by
  constructor <;> first | exact mixed | kernel_rfl | (intro w; kernel_rfl)
theorem len_any (n : Nat) (hn : n < 4611686018427387904) (w : World) (hw : OK w (fpL []) [] w) : Fn Tryz.prog 82 [.int .u64 (n : Int)] [] w (fun _ : Unit => True) (fun _ => .int .i64 ((bitsLen n : Nat) : Int)) (fun _ => []) := by
  have h : Calls Tryz.prog 82 #[.int .u64 (n : Int)] w fun e w' => e = .returned (.int .i64 (Lib.bitLen (n : Int).toNat)) ∧ w' = w := Any.bits_Len laysLen (n : Int) w (by omega) (by omega)
  rw [Int.toNat_natCast, bitLen_eq _ (by omega)] at h
  refine h.mono ?_
  rintro e w' ⟨rfl, rfl⟩
  exact ⟨(), trivial, rfl, hw⟩
end Go.Proofs.YtcplbkbimpiioaaGreatDoor
