/- Parts of a row's elements; calls that only read; frozen rows; two results in memory: rules. -/
import Derived.Test.YtcplbkbimpiioaaGreatDoorLibQ
namespace Go.Proofs.YtcplbkbimpiioaaGreatDoor
open Go Go.RowKit

section
variable {c : Cx} {Q : SQ} {env : Env} {ds : List Deferred} {H F A : List Res} {ops : Array Oper} {rest : List Oper} {d : Nat} {op : Op} {dst : Option Tmp} {ty : TypeId} {pos : String} {af : Array Edge} {g : Option (Nat × Bool)}

end

end Go.Proofs.YtcplbkbimpiioaaGreatDoor
