/- Bytes of numbers, numbers of bytes; what is taken: plain laws. -/
import Derived.Test.YtbgimajbehodnaaGreatDoorLibV
namespace Go.Proofs.YtbgimajbehodnaaGreatDoor
open Go Go.RowKit

def Bytes (bs : List Int) : Prop := ∀ x ∈ bs, 0 ≤ x ∧ x < 256

/-- The first k of a number's so many bytes, the highest one first. -/
def beK (n : Int) (many k : Nat) : List Int := (List.range k).map fun j => n / 2 ^ (8 * (many - 1 - j)) % 256
def be (n : Int) (many : Nat) : List Int := beK n many many

/-- The number of bytes. -/
def val (bs : List Int) : Int := bs.foldl (fun n x => n * 256 + x) 0

theorem Bytes.take {bs : List Int} (h : Bytes bs) (k : Nat) : Bytes (bs.take k) := fun x hx => h x (List.mem_of_mem_take hx)
theorem Bytes.drop {bs : List Int} (h : Bytes bs) (k : Nat) : Bytes (bs.drop k) := fun x hx => h x (List.mem_of_mem_drop hx)
theorem Bytes.app {bs cs : List Int} (h : Bytes bs) (k : Bytes cs) : Bytes (bs ++ cs) := fun x hx => (List.mem_append.1 hx).elim (h x) (k x)
theorem Bytes.be (n : Int) (many : Nat) : Bytes (be n many) := fun x hx => by
  obtain ⟨j, _, rfl⟩ := List.mem_map.1 hx
  omega

theorem u64_in (n : Int) (h : 0 ≤ n ∧ n ≤ 18446744073709551615) : IntKind.u64.wrap n = n := by rw [IntKind.wrap_u64]; omega
/-! ### What is taken -/

def tkOk (k : Nat) (bs : List Int) (wr : Bool) : Bool := !wr && decide (k ≤ bs.length)
theorem ints_take (k : IntKind) (xs : List Int) (n : Nat) : (ints k xs).take n = ints k (xs.take n) := by simp [ints, List.map_take]
theorem getD_of {xs : List Int} {i : Nat} (h : i < xs.length) : xs[i]? = some (xs.getD i 0) := by simp [h]
theorem Bytes.getD {bs : List Int} (h : Bytes bs) {i : Nat} (hi : i < bs.length) : 0 ≤ bs.getD i 0 ∧ bs.getD i 0 < 256 := by
  have := List.mem_of_getElem? (getD_of hi)
  exact h _ this
/-! ### What is put -/

/-- Bytes put, within a limit: what there is, and whether something was wrong. -/
def pt (lim : Int) (s : List Int × Bool) (xs : List Int) : List Int × Bool := if s.2 || decide (lim - s.1.length < xs.length) then (s.1, true) else (s.1 ++ xs, false)
def total (l : List (List Int)) : Nat := (l.map List.length).foldr (· + ·) 0
end Go.Proofs.YtbgimajbehodnaaGreatDoor
