/- Struct arguments whose fields are flat, or slices: opened field by field. -/
import Derived.Test.YtbgimajbehodnaaGreatDoorLibO
import Derived.Test.YtbgimajbehodnaaGreatDoorLibZ
import Derived.OpenShut
import Derived.Deep.Slices
namespace Go.Proofs.YtbgimajbehodnaaGreatDoor
open Go Go.RowKit

def fieldAt (P : Program) (t : TypeId) (i : Nat) : Option (TypeId × Nat × Nat) := match P.underlying t with
  | some (.struct fs) => (fs[i]?).map fun f => (f.type, f.offset, P.cellsOf f.type)
  | _ => none

section
variable {H : Type} {enc : TypeId × Value → H} {P : Program} {w : World} {base : Nat} {sp : Nat → Bool} {held : Bool}

end

end Go.Proofs.YtbgimajbehodnaaGreatDoor
