/- PolicyFits: the law. -/
import Derived.Test.YtnlibngncicobaaPolM
import Derived.Test.YtnlibngncicobaaLibM
namespace Go.Proofs.Ytnlibngncicobaa
open Go Go.RowKit
def ruLeaf : List Leaf := [some .u8, some .u16, some .u16, some .u8, none]
theorem Ru.of_fits {cs : List Value} (h : Fits1 ruLeaf cs) : ∃ r : Ru, r.ok ∧ cs = r.cells := by
  match cs, h with
  | [.int q1 a, .int q2 b, .int q3 c, .int q4 d, .bool e], h =>
    obtain ⟨⟨rfl, w1⟩, ⟨rfl, w2⟩, ⟨rfl, w3⟩, ⟨rfl, w4⟩, _⟩ := h
    exact ⟨⟨a, b, c, d, e⟩, ⟨wf_u8 w1, wf_u16 w2, wf_u16 w3, wf_u8 w4⟩, rfl⟩
end Go.Proofs.Ytnlibngncicobaa
