/- Rows of numbers of 16 bits that came in: opened. -/
import Derived.Test.YtklbmgfpnafdlaaJitL
import Derived.Test.YtklbmgfpnafdlaaLibZ
namespace Go.Proofs.Ytklbmgfpnafdlaa
open Go Go.RowKit
theorem wf_u16' {n : Int} (h : (Lit.int .u16 n).wf = true) : 0 ≤ n ∧ n < 65536 := by
  rw [Lit.wf_int_iff] at h
  have e1 : IntKind.u16.min = 0 := by decide
  have e2 : IntKind.u16.max = 65535 := by decide
  rw [e1, e2] at h
  omega
theorem wf_u64k {n : Int} (h : (Lit.int .u64 n).wf = true) : U6 n := by
  rw [Lit.wf_int_iff] at h
  have e1 : IntKind.u64.min = 0 := by decide
  have e2 : IntKind.u64.max = 18446744073709551615 := by decide
  rw [e1, e2] at h
  unfold U6
  omega
theorem u16s_of : ∀ {zs : List (List Value)}, (∀ xs ∈ zs, Fits1 [some .u16] xs ∧ xs.length = 1) → ∃ l : List Int, zs.flatten = ints .u16 l ∧ l.length = zs.length ∧ ∀ x ∈ l, 0 ≤ x ∧ x < 65536
  | [], _ => ⟨[], rfl, rfl, fun x hx => nomatch hx⟩
  | z :: zs, h => by
    obtain ⟨l, h1, h2, h3⟩ := u16s_of (zs := zs) (fun xs hx => h xs (by simp [hx]))
    have hf := (h z (by simp)).1
    match z, hf with
    | [.int q1 a], hf =>
      obtain ⟨⟨rfl, w1⟩, _⟩ := hf
      refine ⟨a :: l, by rw [List.flatten_cons, h1]; simp [ints], by simp [h2], fun x hx => ?_⟩
      rcases List.mem_cons.1 hx with rfl | hx
      · exact wf_u16' w1
      · exact h3 x hx
theorem u8_nat {n : Int} (h : (Lit.int .u8 n).wf = true) : ∃ K : Nat, n = (K : Int) ∧ K ≤ 255 := by
  have := wf_u8 h
  exact ⟨n.toNat, by omega, by omega⟩
end Go.Proofs.Ytklbmgfpnafdlaa
