/- slices.Equal over slices of whole numbers: a general walk, laid over functions of one make by program. -/
import Derived.Test.YtnlibngncicobaaLibC
import Derived.DataShut
namespace Go.Proofs.Ytnlibngncicobaa
open Go Go.RowKit

theorem getD_ne {xs ys : List Int} {k : Nat} {x y : Int} (hx : xs.getD k 0 = x) (hy : ys.getD k 0 = y) (h : x ≠ y) : xs ≠ ys := by
  rintro rfl; exact h (hx.symm.trans hy)

theorem list_eq_of {xs ys : List Int} (h : xs.length = ys.length) (hp : ∀ i, i < xs.length → xs.getD i 0 = ys.getD i 0) : xs = ys := by
  apply List.ext_getElem h
  intro i h1 h2
  have := hp i h1
  simpa [h1, h2] using this

/-- A cell of a slice of numbers, by its place. -/
theorem Rd.at {w : World} {k : IntKind} {ao : Option Addr} {n cap : Nat} {xs : List Int} (h : Rd w 1 (.slice ao n cap) n (ints k xs)) (i : Nat) (hi : i < n) :
    ∃ b off x, ao = some ⟨b, off, none⟩ ∧ xs.getD i 0 = x ∧ xs[i]? = some x ∧ w.cell? ⟨b, off + i, none⟩ = some (.int k x) := by
  have hl := h.1
  rw [ints_length, Nat.mul_one] at hl
  obtain ⟨b, off, rfl, _, _, hc⟩ := h.cell (by omega)
  exact ⟨b, off, _, rfl, rfl, by simp [show i < xs.length by omega], hc i _ (ints_get k xs i (by omega))⟩

/-- A row that came in can be read. -/
theorem rd_of_row {k : IntKind} {w : World} {a : Option Addr} {len cap : Nat} {zs : List Int} (h : (a = none ∧ len = 0 ∧ cap = 0 ∧ zs = []) ∨
    ∃ x, a = some x ∧ len ≤ cap ∧ cap ≤ maxLen ∧ zs.length = cap ∧ (∀ i, i < zs.length → w.cell? (x.add i) = some (.int k (zs.getD i 0))) ∧ ∀ n ∈ zs, (Lit.int k n).wf = true) :
    ∃ xs : List Int, xs.length = len ∧ Rd w 1 (.slice a xs.length cap) xs.length (ints k xs) ∧ ∀ n ∈ xs, (Lit.int k n).wf = true := by
  rcases h with ⟨rfl, rfl, rfl, rfl⟩ | ⟨x, rfl, hl, hm, hz, hc, hw⟩
  · exact ⟨[], rfl, Rd.nil _ _, fun n hn => by cases hn⟩
  · have hlen : (zs.take len).length = len := by simp; omega
    refine ⟨zs.take len, hlen, ⟨by simp [ints], .inr ⟨x, cap, rfl, by omega, hm, fun j u hj => ?_⟩⟩, fun n hn => hw n (List.mem_of_mem_take hn)⟩
    have hj2 : j < len := by
      have := (List.getElem?_eq_some_iff.1 hj).1
      rw [ints_length] at this; omega
    have hj3 : j < zs.length := by omega
    have e : u = .int k (zs.getD j 0) := by
      rw [ints_get _ _ _ (by omega)] at hj
      have := Option.some.inj hj
      rw [← this]
      simp [hj2, hj3]
    have hs : x.spot = none := by
      have h0 := hc 0 (by omega)
      have e0 : x.add 0 = x := by simp [Addr.add]
      rw [e0] at h0
      unfold World.cell? at h0
      split at h0
      · split at h0
        · cases h0
        · rename_i hn; cases hsp : x.spot with
          | none => rfl
          | some q => rw [hsp] at hn; simp at hn
      · cases h0
    refine ⟨hs, ?_⟩
    have := hc j hj3
    obtain ⟨b, off, sp⟩ := x
    cases hs
    rw [Addr.add_lit] at this
    rw [e]; exact this

theorem wf_u64 {n : Int} (h : (Lit.int .u64 n).wf = true) : 0 ≤ n ∧ n < 18446744073709551616 := by
  have h1 := (Lit.wf_int_iff .u64 n).1 h
  have e1 : IntKind.u64.min = 0 := by decide
  have e2 : IntKind.u64.max = 18446744073709551615 := by decide
  rw [e1, e2] at h1
  omega
end Go.Proofs.Ytnlibngncicobaa
