/- A block taken in: the walk, of words of 64 bits. -/
import Derived.Test.YtjlgmaappebppaaShaA64
namespace Go.Proofs.Ytjlgmaappebppaa
open Go Go.RowKit
end Go.Proofs.Ytjlgmaappebppaa
