/- TermBuilds: the walk. -/
import Derived.Test.YtifhkjcimhhaiaaTerBp
namespace Go.Proofs.Ytifhkjcimhhaiaa
open Go Go.RowKit
theorem dts_ok {l : List Dn} (hd : ∀ x ∈ l, x.d.ok) : ∀ d ∈ dts l, d.ok := fun d hq => by obtain ⟨x, hx, rfl⟩ := List.mem_map.1 hq; exact hd x hx
end Go.Proofs.Ytifhkjcimhhaiaa
