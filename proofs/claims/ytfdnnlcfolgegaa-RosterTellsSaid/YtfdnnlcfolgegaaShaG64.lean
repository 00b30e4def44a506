/- The sum of texts: the walk, of words of 64 bits. -/
import Derived.Test.YtfdnnlcfolgegaaShaL
import Derived.Test.YtfdnnlcfolgegaaShaC
import Derived.Test.YtfdnnlcfolgegaaShaB64
namespace Go.Proofs.Ytfdnnlcfolgegaa
open Go Go.RowKit
theorem flat_take {ls : List (List Int)} {i : Nat} {bs : List Int} (h : ls[i]? = some bs) : (ls.take (i + 1)).flatten = (ls.take i).flatten ++ bs := by
  rw [List.take_add_one, h]
  simp
theorem flat_le {ls : List (List Int)} (i : Nat) : (ls.take i).flatten.length ≤ ls.flatten.length := by
  conv => rhs; rw [← List.take_append_drop i ls]
  rw [List.flatten_append, List.length_append]
  omega

end Go.Proofs.Ytfdnnlcfolgegaa
