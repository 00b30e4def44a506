/- Parts of a row's elements; calls that only read; frozen rows; two results in memory: rules. -/
import Derived.Test.YtnlibngncicobaaLibQ
namespace Go.Proofs.Ytnlibngncicobaa
open Go Go.RowKit

section
variable {c : Cx} {Q : SQ} {env : Env} {ds : List Deferred} {H F A : List Res} {ops : Array Oper} {rest : List Oper} {d : Nat} {op : Op} {dst : Option Tmp} {ty : TypeId} {pos : String} {af : Array Edge} {g : Option (Nat × Bool)}

theorem OK.roOne {w0 : World} {S : Pm} {H F : List Res} {w : World} {r : Res} (h : OK w0 S H w) (t : Take1 H r F) : OK w0 S (roR r :: F) w :=
  h.turnG (r' := roR r) t (Chg.refl _ _) (show r.ok w from h.get t) (fun k hk => hk.elim) (fun k hk => .inl hk)
end

end Go.Proofs.Ytnlibngncicobaa
