/- Struct arguments whose fields are flat, or slices: opened field by field. -/
import Derived.Test.YtfobhdmhjjafcaaGreatDoorRRLibO
import Derived.Test.YtfobhdmhjjafcaaGreatDoorRRLibZ
import Derived.OpenShut
import Derived.Deep.Slices
namespace Go.Proofs.YtfobhdmhjjafcaaGreatDoorRR
open Go Go.RowKit

def fieldAt (P : Program) (t : TypeId) (i : Nat) : Option (TypeId × Nat × Nat) := match P.underlying t with
  | some (.struct fs) => (fs[i]?).map fun f => (f.type, f.offset, P.cellsOf f.type)
  | _ => none

section
variable {H : Type} {enc : TypeId × Value → H} {P : Program} {w : World} {base : Nat} {sp : Nat → Bool} {held : Bool}

theorem open_fieldAt {t ft : TypeId} {i off c : Nat} {v : Value} {x : DataW H} {p : List MemPlace} (hf : fieldAt P t i = some (ft, off, c)) (h : DataW.Trod enc P w base sp held t v x p) :
    v.cells.toList.length = P.cellsOf t ∧ ∃ m y, DataW.trod enc P w base sp held m ft ((v.cells.toList.drop off).take c) = some y := by
  obtain ⟨fuel, h⟩ := h
  unfold fieldAt at hf
  split at hf
  · rename_i fs hu
    obtain ⟨xs, m, rfl, _, hl, hx, hi⟩ := DataW.trod_struct hu h
    refine ⟨hl, ?_⟩
    cases hq : fs[i]? with
    | none => simp [hq] at hf
    | some f =>
      simp only [hq, Option.map_some, Option.some.injEq, Prod.mk.injEq] at hf
      obtain ⟨rfl, rfl, rfl⟩ := hf
      have h1 := hi i f hq
      have hlt : i < xs.length := by
        have := (Array.getElem?_eq_some_iff.1 hq).1
        omega
      rw [List.getElem?_eq_getElem hlt] at h1
      exact ⟨m, _, h1⟩
  · cases hf

/-- A flat field. -/
theorem open_fieldF {t ft : TypeId} {i off c d : Nat} {ks : List Leaf} {v : Value} {x : DataW H} {p : List MemPlace} (hf : fieldAt P t i = some (ft, off, c)) (hk : flatT P d ft = some ks) (h : DataW.Trod enc P w base sp held t v x p) :
    Fits1 ks ((v.cells.toList.drop off).take c) := by
  obtain ⟨_, m, y, hy⟩ := open_fieldAt hf h
  exact trod_flat d hk hy
/-- A field that is a slice of bytes. -/
theorem open_fieldB {t ft e : TypeId} {i off c : Nat} {v : Value} {x : DataW H} {p : List MemPlace} (hf : fieldAt P t i = some (ft, off, c)) (ht : P.underlying ft = some (.slice e)) (he : P.underlying e = some (.int .u8)) (hc : P.cellsOf e = 1) (h : DataW.Trod enc P w base sp held t v x p) :
    ∃ (a : Option Addr) (cap : Nat) (xs : List Int), (v.cells.toList.drop off).take c = [.slice a xs.length cap] ∧ (∀ y ∈ xs, 0 ≤ y ∧ y < 256) ∧ Rd w 1 (.slice a xs.length cap) xs.length (ints .u8 xs) := by
  obtain ⟨_, m, y, hy⟩ := open_fieldAt hf h
  rcases Go.Deep.open_slice ht hy with ⟨h0, _⟩ | ⟨a, len, cap, m', n, D, Pl, h0, _⟩
  · exact ⟨none, 0, [], h0, (fun _ h => by cases h), Rd.nil w 1⟩
  · rw [h0] at hy
    obtain ⟨xs, rfl, h1, h2⟩ := open_u8s ht he hc (show DataW.Trod enc P w base sp held ft (.slice (some a) len cap) y.1 y.2 from ⟨m, by simpa [Value.cells] using hy⟩)
    exact ⟨some a, cap, xs, h0, h1, h2⟩
end

theorem fits_bytes : ∀ {n : Nat} {cs : List Value}, Fits1 (List.replicate n (some .u8)) cs → ∃ ys : List Int, cs = ints .u8 ys ∧ ys.length = n ∧ ∀ y ∈ ys, 0 ≤ y ∧ y < 256
  | 0, [], _ => ⟨[], rfl, rfl, fun x hx => nomatch hx⟩
  | 0, _ :: _, h => h.elim
  | n + 1, [], h => h.elim
  | n + 1, c :: cs, h => by
    obtain ⟨ys, rfl, h2, h3⟩ := fits_bytes (n := n) (cs := cs) h.2
    match c, h.1 with
    | .int q y, h1 =>
      obtain ⟨rfl, hw⟩ := h1
      refine ⟨y :: ys, rfl, by simp [h2], fun z hz => ?_⟩
      rcases List.mem_cons.1 hz with rfl | hz
      · exact wf_u8 hw
      · exact h3 z hz
theorem fits_int {k : IntKind} {cs : List Value} (h : Fits1 [some k] cs) : ∃ y : Int, cs = [.int k y] ∧ (Lit.int k y).wf = true := by
  match cs, h with
  | [.int q y], h => obtain ⟨⟨rfl, hw⟩, _⟩ := h; exact ⟨y, rfl, hw⟩
theorem wf_u16 {n : Int} (h : (Lit.int .u16 n).wf = true) : 0 ≤ n ∧ n < 65536 := by
  rw [Lit.wf_int_iff] at h; have e1 : IntKind.u16.min = 0 := by decide
  have e2 : IntKind.u16.max = 65535 := by decide
  rw [e1, e2] at h; omega
theorem wf_u32' {n : Int} (h : (Lit.int .u32 n).wf = true) : 0 ≤ n ∧ n < 4294967296 := by
  rw [Lit.wf_int_iff] at h; have e1 : IntKind.u32.min = 0 := by decide
  have e2 : IntKind.u32.max = 4294967295 := by decide
  rw [e1, e2] at h; omega
theorem cut_app {α : Type} {cs a b : List α} {k : Nat} (h1 : cs.take k = a) (h2 : cs.drop k = b) : cs = a ++ b := by rw [← h1, ← h2, List.take_append_drop]
end Go.Proofs.YtfobhdmhjjafcaaGreatDoorRR
