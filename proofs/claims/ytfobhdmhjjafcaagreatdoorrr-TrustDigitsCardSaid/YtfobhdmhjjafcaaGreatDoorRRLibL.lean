/- Slices of structs that came in, whose fields are flat or slices: opened row by row, with their sizes. -/
import Derived.Test.YtfobhdmhjjafcaaGreatDoorRRLibM
import Derived.Test.YtfobhdmhjjafcaaGreatDoorRRLibX
namespace Go.Proofs.YtfobhdmhjjafcaaGreatDoorRR
open Go Go.RowKit

section
variable {P : Program} {w : World} {base : Nat} {sp : Nat → Bool} {held : Bool} {H : Type} {enc : TypeId × Value → H}

end
end Go.Proofs.YtfobhdmhjjafcaaGreatDoorRR
