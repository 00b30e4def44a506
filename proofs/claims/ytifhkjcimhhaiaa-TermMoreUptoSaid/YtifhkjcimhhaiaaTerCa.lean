/- TermCloses: the walk. -/
import Derived.Test.YtifhkjcimhhaiaaTerCp
namespace Go.Proofs.Ytifhkjcimhhaiaa
open Go Go.RowKit
end Go.Proofs.Ytifhkjcimhhaiaa
