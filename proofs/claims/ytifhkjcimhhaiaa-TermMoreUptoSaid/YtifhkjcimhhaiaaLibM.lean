/- Struct arguments whose fields are flat, or slices: opened field by field. -/
import Derived.Test.YtifhkjcimhhaiaaLibO
import Derived.Test.YtifhkjcimhhaiaaLibZ
import Derived.OpenShut
import Derived.Deep.Slices
namespace Go.Proofs.Ytifhkjcimhhaiaa
open Go Go.RowKit

def fieldAt (P : Program) (t : TypeId) (i : Nat) : Option (TypeId × Nat × Nat) := match P.underlying t with
  | some (.struct fs) => (fs[i]?).map fun f => (f.type, f.offset, P.cellsOf f.type)
  | _ => none

section
variable {H : Type} {enc : TypeId × Value → H} {P : Program} {w : World} {base : Nat} {sp : Nat → Bool} {held : Bool}

end

theorem fits_int {k : IntKind} {cs : List Value} (h : Fits1 [some k] cs) : ∃ y : Int, cs = [.int k y] ∧ (Lit.int k y).wf = true := by
  match cs, h with
  | [.int q y], h => obtain ⟨⟨rfl, hw⟩, _⟩ := h; exact ⟨y, rfl, hw⟩
end Go.Proofs.Ytifhkjcimhhaiaa
