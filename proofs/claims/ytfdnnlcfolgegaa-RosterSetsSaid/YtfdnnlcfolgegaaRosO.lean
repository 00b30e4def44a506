/- Devices and steps that came in: opened. -/
import Derived.Test.YtfdnnlcfolgegaaRosN
import Derived.Test.YtfdnnlcfolgegaaLibM
namespace Go.Proofs.Ytfdnnlcfolgegaa
open Go Go.RowKit
theorem okWide_arr {P : Program} {w : World} {base : Nat} {r : Reach} {t e : TypeId} {n : Nat} {v : Value} (ht : P.underlying t = some (.array n e)) (h : Value.okWide P w r base t v) : ∃ cs : List Value, v = .agg cs.toArray := by
  simp only [Value.okWide, ht] at h
  obtain ⟨cs, rfl, _⟩ := h
  exact ⟨cs.toList, by simp⟩
theorem dv_of {cs : List Value} (h : Fits1 [some .u8, some .u8] cs) : ∃ d : Dv, cs = d.cells ∧ d.ok := by
  match cs, h with
  | [.int q1 a, .int q2 d], hf =>
    obtain ⟨⟨rfl, w1⟩, ⟨rfl, w2⟩, _⟩ := hf
    exact ⟨⟨a, d⟩, rfl, wf_u8 w1, wf_u8 w2⟩
theorem dqs_of : ∀ {zs : List (List Value)}, (∀ xs ∈ zs, Fits1 [some .u8, some .u8, none] xs ∧ xs.length = 3) → ∃ ds : List Dq, zs.flatten = vcs Dq.val ds ∧ ds.length = zs.length ∧ ∀ x ∈ ds, x.d.ok
  | [], _ => ⟨[], rfl, rfl, fun x hx => nomatch hx⟩
  | z :: zs, h => by
    obtain ⟨ds, h1, h2, h3⟩ := dqs_of (zs := zs) (fun xs hx => h xs (by simp [hx]))
    have hf := (h z (by simp)).1
    match z, hf with
    | [.int q1 a, .int q2 d, .bool b], hf =>
      obtain ⟨⟨rfl, w1⟩, ⟨rfl, w2⟩, _⟩ := hf
      refine ⟨⟨⟨a, d⟩, b⟩ :: ds, by rw [List.flatten_cons, h1, vcs_cons]; simp [Dq.val, Dq.cells, Value.cells], by simp [h2], fun x hx => ?_⟩
      rcases List.mem_cons.1 hx with rfl | hx
      · exact ⟨wf_u8 w1, wf_u8 w2⟩
      · exact h3 x hx
end Go.Proofs.Ytfdnnlcfolgegaa
