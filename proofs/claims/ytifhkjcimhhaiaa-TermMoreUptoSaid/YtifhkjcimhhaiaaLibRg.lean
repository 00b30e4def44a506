/- Maps gone over in an order that is drawn: general lemmas of this claim's own, about no program in particular. -/
import Derived.Test.YtifhkjcimhhaiaaLibK
import Derived.Maps.Range
namespace Go.Proofs.Ytifhkjcimhhaiaa
open Go Go.RowKit Go.MapKept Go.ChangeMaps
set_option linter.unusedSectionVars false
section
variable {κ α : Type} [DecidableEq κ] {kv : κ → Value} {vv : α → Value} {b r : Nat} {m : List (κ × α)} {done : List Nat}
structure NxS (m : List (κ × α)) (done : List Nat) where
  o : Option Nat
  some_ok : ∀ j, o = some j → ∃ p, m[j]? = some p ∧ j ∉ done
  none_ok : o = none → ∀ j, j < m.length → j ∈ done
variable {c : Cx} {env : Env} {ds : List Deferred} {H F : List Res} {dst : Option Tmp} {ty : TypeId} {pos : String} {af : Array Edge} {g : Option (Nat × Bool)}
end
end Go.Proofs.Ytifhkjcimhhaiaa
