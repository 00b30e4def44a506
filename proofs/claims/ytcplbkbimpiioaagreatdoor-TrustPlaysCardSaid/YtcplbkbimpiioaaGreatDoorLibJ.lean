/- An iterator that leans on less while it goes than where it begins: general lemmas of this claim's own, about no program in particular. -/
import Derived.Test.YtcplbkbimpiioaaGreatDoorLibQ
namespace Go.Proofs.YtcplbkbimpiioaaGreatDoor
open Go Go.RowKit

section
variable {P : Program}
end

section
variable {P : Program} {n : Nat} {w0 : World} {S : Pm} {Q : SQ} {env : Env} {ds : List Deferred} {H H2 F : List Res}

end

section
variable {c : Cx} {Q : SQ} {env : Env} {ds : List Deferred} {H F : List Res} {dst : Option Tmp} {ty : TypeId} {pos : String} {af : Array Edge} {g : Option (Nat × Bool)}
end
section
variable {c : Cx} {Q : SQ} {env : Env} {ds : List Deferred} {H F A : List Res} {ops : Array Oper} {rest : List Oper} {d : Nat} {ty : TypeId} {pos : String} {af : Array Edge}
end
end Go.Proofs.YtcplbkbimpiioaaGreatDoor
