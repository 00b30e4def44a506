/- A slice of 32-bit numbers, as a frame opens it. -/
import Derived.Test.YtpjgmiemamcdhaaLogI
namespace Go.Proofs.Ytpjgmiemamcdhaa
open Go Go.RowKit
variable {P : Program} {w : World} {base : Nat} {sp : Nat → Bool} {held : Bool} {H : Type} {enc : TypeId × Value → H}
theorem open_u32s {t e : TypeId} {a : Option Addr} {len cap : Nat} {x : DataW H} {p : List MemPlace} (ht : P.underlying t = some (.slice e)) (he : P.underlying e = some (.int .u32)) (hc : P.cellsOf e = 1)
    (h : DataW.Trod enc P w base sp held t (.slice a len cap) x p) : ∃ xs : List Int, xs.length = len ∧ Rd w 1 (.slice a len cap) len (vcs (Value.int .u32) xs) := by
  obtain ⟨xss, h1, h2, h3⟩ := open_flats (d := 1) (ks := [some .u32]) ht (by simp [flatT, he]) hc h
  have : ∃ xs : List Int, xss = xs.map (fun y => [Value.int .u32 y]) := by
    clear h1 h3
    induction xss with
    | nil => exact ⟨[], rfl⟩
    | cons ys xss ih =>
      obtain ⟨xs, rfl⟩ := ih (fun zs hz => h2 zs (by simp [hz]))
      obtain ⟨hf, hl⟩ := h2 ys (by simp)
      match ys, hf with
      | [.int q y], hf =>
        obtain ⟨⟨rfl, hw⟩, _⟩ := hf
        exact ⟨y :: xs, rfl⟩
  obtain ⟨xs, rfl⟩ := this
  refine ⟨xs, by simpa using h1, ?_⟩
  have e1 : (xs.map fun y => [Value.int .u32 y]).flatten = vcs (Value.int .u32) xs := by
    clear h1 h2 h3
    induction xs with
    | nil => rfl
    | cons y ys ih => rw [List.map_cons, List.flatten_cons, ih]; rfl
  rwa [e1] at h3
theorem wf_i64 {n : Int} (h : (Lit.int .i64 n).wf = true) : -9223372036854775808 ≤ n ∧ n ≤ 9223372036854775807 := by
  rw [Lit.wf_int_iff] at h
  have e1 : IntKind.i64.min = -9223372036854775808 := by decide
  have e2 : IntKind.i64.max = 9223372036854775807 := by decide
  omega
end Go.Proofs.Ytpjgmiemamcdhaa
