/- The document's policy: Load: the walk. -/
import Derived.Test.YtnlibngncicobaaPolV
namespace Go.Proofs.Ytnlibngncicobaa
open Go Go.RowKit
theorem rA_ok {bs : List Int} (hB : Bytes bs) {i : Nat} (h : i + 10 < bs.length) : (rA bs i).ok := by
  have h0 := hB.getD (i := i) (by omega)
  have h3 := hB.getD (i := i + 3) (by omega)
  have h4 := hB.getD (i := i + 4) (by omega)
  have h7 := hB.getD (i := i + 7) (by omega)
  have h8 := hB.getD (i := i + 8) (by omega)
  have h9 := hB.getD (i := i + 9) (by omega)
  exact ⟨h0, ⟨by show 0 ≤ 256 * bs.getD (i + 3) 0 + bs.getD (i + 4) 0; omega, by show 256 * bs.getD (i + 3) 0 + bs.getD (i + 4) 0 < 65536; omega⟩, ⟨by show 0 ≤ 256 * bs.getD (i + 7) 0 + bs.getD (i + 8) 0; omega, by show 256 * bs.getD (i + 7) 0 + bs.getD (i + 8) 0 < 65536; omega⟩, h9⟩
def rldP (bs : List Int) : Po := if rOk bs then { Po.new (bs.getD 0 0) with rl := rLs bs } else Po.new 0
theorem rOk_is {bs : List Int} (h : rOk bs = true) : 3 ≤ bs.length ∧ 1 ≤ bs.getD 0 0 ∧ bs.getD 0 0 ≤ 3 ∧ bs.getD 1 0 ≤ 0 ∧ bs.getD 2 0 ≤ 64 ∧ (bs.length : Int) = 3 + 11 * bs.getD 2 0 ∧ ∀ j, j < (bs.getD 2 0).toNat → okA bs (3 + 11 * j) = true := by
  unfold rOk rHd telU at h
  simp only [Bool.and_eq_true, decide_eq_true_eq] at h
  obtain ⟨⟨⟨⟨⟨h1, h2, h3⟩, h4⟩, h5⟩, h6⟩, h7⟩ := h
  exact ⟨h1, h2, h3, h4, h5, h6, fun j hj => List.all_eq_true.1 h7 j (List.mem_range.2 hj)⟩
end Go.Proofs.Ytnlibngncicobaa
