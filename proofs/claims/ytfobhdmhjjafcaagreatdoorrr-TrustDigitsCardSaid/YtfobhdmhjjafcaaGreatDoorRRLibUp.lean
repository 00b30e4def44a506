/- Arguments that came in, opened with a measure of theirs (as the bulk of an '..Upto' statement): general lemmas of this claim's own, about no program in particular. -/
import Derived.Test.YtfobhdmhjjafcaaGreatDoorRRLibL
namespace Go.Proofs.YtfobhdmhjjafcaaGreatDoorRR
open Go Go.RowKit
/-- A measure of what is read: a part's is at most the whole's, a slice's is at least its length. -/
structure Mu {H : Type} (μ : DataW H → Nat) : Prop where
  len : ∀ elems spare, elems.length ≤ μ (.slice elems spare)
  elem : ∀ elems spare d, d ∈ elems → μ d ≤ μ (.slice elems spare)
  agg : ∀ parts d, d ∈ parts → μ d ≤ μ (.agg parts)
section
variable {P : Program} {w : World} {base : Nat} {sp : Nat → Bool} {held : Bool} {H : Type} {enc : TypeId × Value → H} {μ : DataW H → Nat}
theorem mu_slice (hμ : Mu μ) {e u : TypeId} {a : Option Addr} {l c n : Nat} {x : DataW H} {p : List MemPlace} (he : P.underlying e = some (.slice u)) (h : DataW.trod enc P w base sp held n e [.slice a l c] = some (x, p)) : l ≤ μ x := by
  rcases Go.Deep.open_slice he h with ⟨h1, _⟩ | ⟨_, _, _, m, _, D, _, h1, _, _, _, _, h2, _⟩
  · simp at h1; omega
  · simp at h1
    obtain ⟨rfl, rfl, rfl⟩ := h1
    have hx : x = .slice ((List.range l).map D) ((List.range (m - l)).map fun j => D (l + j)) := congrArg Prod.fst h2
    subst hx
    have := hμ.len ((List.range l).map D) ((List.range (m - l)).map fun j => D (l + j))
    simpa using this
end
end Go.Proofs.YtfobhdmhjjafcaaGreatDoorRR
