/- Loops whose rounds hold ranges over functions: each leaves a mark behind. General lemmas of this claim's own, about no program in particular. -/
import Derived.Test.YtifhkjcimhhaiaaLibJ
namespace Go.Proofs.Ytifhkjcimhhaiaa
open Go Go.RowKit
section
variable {c : Cx} {Q : SQ} {env : Env} {ds : List Deferred} {H : List Res}
end
section
variable {c : Cx} {Q : SQ} {env : Env} {ds : List Deferred} {H : List Res}
end
section
variable {w0 w : World} {S : Pm} {H F F2 : List Res} {Dl : List Nat} {D : Nat}
end
end Go.Proofs.Ytifhkjcimhhaiaa
