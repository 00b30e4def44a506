/- A word, turned; turned thrice; twice, and shifted: the walks, of words of 64 bits. -/
import Derived.Test.YtfdnnlcfolgegaaShaP
namespace Go.Proofs.Ytfdnnlcfolgegaa
open Go Go.RowKit
end Go.Proofs.Ytfdnnlcfolgegaa
