/- A slice of slices of bytes that may be read: a resource, and how a frame opens it. -/
import Derived.Test.YtnlibngncicobaaLibZ
import Derived.SizedLaws
namespace Go.Proofs.Ytnlibngncicobaa
open Go Go.RowKit

section
variable {P : Program} {w : World} {base : Nat} {sp : Nat → Bool} {held : Bool} {H : Type} {enc : TypeId × Value → H}
end
end Go.Proofs.Ytnlibngncicobaa
