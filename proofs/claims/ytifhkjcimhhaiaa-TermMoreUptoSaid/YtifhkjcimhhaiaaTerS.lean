/- The keys of a map of terms; All: the walks. -/
import Derived.Test.YtifhkjcimhhaiaaTerO
import Derived.Test.YtifhkjcimhhaiaaLibF
import Derived.Test.YtifhkjcimhhaiaaLibRg
namespace Go.Proofs.Ytifhkjcimhhaiaa
open Go Go.RowKit

def ksY (m : MpT) : List (Array Value) := m.map fun p => #[tmV p.1]
end Go.Proofs.Ytifhkjcimhhaiaa
