/- A block taken in: the walk, of words of 64 bits. -/
import Derived.Test.YtfdnnlcfolgegaaShaA64
namespace Go.Proofs.Ytfdnnlcfolgegaa
open Go Go.RowKit
end Go.Proofs.Ytfdnnlcfolgegaa
