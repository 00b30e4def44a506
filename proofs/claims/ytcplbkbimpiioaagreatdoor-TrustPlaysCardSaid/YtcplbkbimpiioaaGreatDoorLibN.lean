/- Append of make (zeros) behind a slice that is full; a field of a struct value. -/
import Derived.Test.YtcplbkbimpiioaaGreatDoorLibO
namespace Go.Proofs.YtcplbkbimpiioaaGreatDoor
open Go Go.RowKit

section
variable {c : Cx} {env : Env} {ds : List Deferred} {H F : List Res} {dst : Option Tmp} {ty : TypeId} {pos : String} {af : Array Edge} {g : Option (Nat × Bool)}

end
end Go.Proofs.YtcplbkbimpiioaaGreatDoor
