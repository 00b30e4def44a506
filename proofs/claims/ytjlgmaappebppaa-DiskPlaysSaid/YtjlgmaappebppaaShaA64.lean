/- A word, turned; turned thrice; twice, and shifted: the walks, of words of 64 bits. -/
import Derived.Test.YtjlgmaappebppaaShaP
namespace Go.Proofs.Ytjlgmaappebppaa
open Go Go.RowKit
end Go.Proofs.Ytjlgmaappebppaa
