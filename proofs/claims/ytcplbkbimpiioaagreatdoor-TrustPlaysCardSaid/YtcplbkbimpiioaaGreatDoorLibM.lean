/- Struct arguments whose fields are flat, or slices: opened field by field. -/
import Derived.Test.YtcplbkbimpiioaaGreatDoorLibO
import Derived.Test.YtcplbkbimpiioaaGreatDoorLibZ
import Derived.OpenShut
import Derived.Deep.Slices
namespace Go.Proofs.YtcplbkbimpiioaaGreatDoor
open Go Go.RowKit

def fieldAt (P : Program) (t : TypeId) (i : Nat) : Option (TypeId × Nat × Nat) := match P.underlying t with
  | some (.struct fs) => (fs[i]?).map fun f => (f.type, f.offset, P.cellsOf f.type)
  | _ => none

section
variable {H : Type} {enc : TypeId × Value → H} {P : Program} {w : World} {base : Nat} {sp : Nat → Bool} {held : Bool}

end

theorem fits_bytes : ∀ {n : Nat} {cs : List Value}, Fits1 (List.replicate n (some .u8)) cs → ∃ ys : List Int, cs = ints .u8 ys ∧ ys.length = n ∧ ∀ y ∈ ys, 0 ≤ y ∧ y < 256
  | 0, [], _ => ⟨[], rfl, rfl, fun x hx => nomatch hx⟩
  | 0, _ :: _, h => h.elim
  | n + 1, [], h => h.elim
  | n + 1, c :: cs, h => by
    obtain ⟨ys, rfl, h2, h3⟩ := fits_bytes (n := n) (cs := cs) h.2
    match c, h.1 with
    | .int q y, h1 =>
      obtain ⟨rfl, hw⟩ := h1
      refine ⟨y :: ys, rfl, by simp [h2], fun z hz => ?_⟩
      rcases List.mem_cons.1 hz with rfl | hz
      · exact wf_u8 hw
      · exact h3 z hz
theorem fits_int {k : IntKind} {cs : List Value} (h : Fits1 [some k] cs) : ∃ y : Int, cs = [.int k y] ∧ (Lit.int k y).wf = true := by
  match cs, h with
  | [.int q y], h => obtain ⟨⟨rfl, hw⟩, _⟩ := h; exact ⟨y, rfl, hw⟩
end Go.Proofs.YtcplbkbimpiioaaGreatDoor
