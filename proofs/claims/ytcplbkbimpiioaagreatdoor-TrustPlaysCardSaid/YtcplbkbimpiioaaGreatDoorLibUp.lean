/- Arguments that came in, opened with a measure of theirs (as the bulk of an '..Upto' statement): general lemmas of this claim's own, about no program in particular. -/
import Derived.Test.YtcplbkbimpiioaaGreatDoorLibL
namespace Go.Proofs.YtcplbkbimpiioaaGreatDoor
open Go Go.RowKit
/-- A measure of what is read: a part's is at most the whole's, a slice's is at least its length. -/
structure Mu {H : Type} (μ : DataW H → Nat) : Prop where
  len : ∀ elems spare, elems.length ≤ μ (.slice elems spare)
  elem : ∀ elems spare d, d ∈ elems → μ d ≤ μ (.slice elems spare)
  agg : ∀ parts d, d ∈ parts → μ d ≤ μ (.agg parts)
section
variable {P : Program} {w : World} {base : Nat} {sp : Nat → Bool} {held : Bool} {H : Type} {enc : TypeId × Value → H} {μ : DataW H → Nat}
theorem mu_slice (hμ : Mu μ) {e u : TypeId} {a : Option Addr} {l c n : Nat} {x : DataW H} {p : List MemPlace} (he : P.underlying e = some (.slice u)) (h : DataW.trod enc P w base sp held n e [.slice a l c] = some (x, p)) : l ≤ μ x := by
  rcases Go.Deep.open_slice he h with ⟨h1, _⟩ | ⟨_, _, _, m, _, D, _, h1, _, _, _, _, h2, _⟩
  · simp at h1; omega
  · simp at h1
    obtain ⟨rfl, rfl, rfl⟩ := h1
    have hx : x = .slice ((List.range l).map D) ((List.range (m - l)).map fun j => D (l + j)) := congrArg Prod.fst h2
    subst hx
    have := hμ.len ((List.range l).map D) ((List.range (m - l)).map fun j => D (l + j))
    simpa using this
/-- A slice of structs: each opened by hel. -/
theorem mu_rows (hμ : Mu μ) {α : Type} {t e : TypeId} {size : Nat} (cel : α → List Value) (Q : α → Prop) {a : Option Addr} {len cap : Nat} {x : DataW H} {p : List MemPlace} (ht : P.underlying t = some (.slice e)) (hc : P.cellsOf e = size)
    (hel : ∀ (n : Nat) (cs : List Value) (d : DataW H × List MemPlace), DataW.trod enc P w base sp held n e cs = some d → μ d.1 ≤ μ x → ∃ a : α, cs = cel a ∧ Q a)
    (h : DataW.Trod enc P w base sp held t (.slice a len cap) x p) : ∃ xs : List α, xs.length = len ∧ len ≤ μ x ∧ (∀ x ∈ xs, Q x) ∧ Rd w size (.slice a len cap) len (xs.map cel).flatten := by
  obtain ⟨fuel, h⟩ := h
  have hlen := mu_slice hμ ht h
  rcases Go.Deep.open_slice ht h with ⟨hcs, _⟩ | ⟨ad, l, c, m, n, D, Pl, hcs, _, hl, hm, hmm, hxx, hi⟩
  · simp [Value.cells] at hcs
    obtain ⟨rfl, rfl, rfl⟩ := hcs
    exact ⟨[], rfl, Nat.zero_le _, (fun xs hx => nomatch hx), Rd.nil _ _⟩
  · simp [Value.cells] at hcs
    obtain ⟨rfl, rfl, rfl⟩ := hcs
    have hml : len ≤ m := by rw [hmm]; split <;> omega
    have key : ∀ i, i < len → ∃ y : α, w.cells? base (ad.add (i * size)) size = some (cel y) ∧ Q y := by
      intro i hlt
      obtain ⟨cs', h1, h2⟩ := hi i (by omega)
      rw [hc] at h1
      obtain ⟨y, rfl, hq⟩ := hel _ cs' (D i, Pl i) h2 (by
        have hx : x = .slice ((List.range len).map D) ((List.range (m - len)).map fun j => D (len + j)) := congrArg Prod.fst hxx
        rw [hx]
        exact hμ.elem _ _ _ (List.mem_map.2 ⟨i, List.mem_range.2 hlt, rfl⟩))
      exact ⟨y, h1, hq⟩
    have build : ∀ k, k ≤ len → ∃ xs : List α, xs.length = k ∧ ∀ i y, xs[i]? = some y → w.cells? base (ad.add (i * size)) size = some (cel y) ∧ Q y := by
      intro k
      induction k with
      | zero => exact fun _ => ⟨[], rfl, fun i y h => by simp at h⟩
      | succ k ih =>
        intro hk
        obtain ⟨xs, h1, h2⟩ := ih (by omega)
        obtain ⟨y, h3, h4⟩ := key k (by omega)
        refine ⟨xs ++ [y], by simp [h1], fun i z hz => ?_⟩
        by_cases hik : i < xs.length
        · rw [List.getElem?_append_left hik] at hz; exact h2 i z hz
        · rw [List.getElem?_append_right (by omega)] at hz
          have : i = k := by
            have := (List.getElem?_eq_some_iff.1 hz).1
            simp at this; omega
          subst this
          rw [h1] at hz
          simp at hz
          subst hz
          exact ⟨h3, h4⟩
    obtain ⟨xs, h1, h2⟩ := build len (Nat.le_refl _)
    refine ⟨xs, h1, hlen, fun y hy => ?_, rd_chunks (base := base) hl hm (fun ys hys => ?_) (by simp [h1]) (fun i ys hiy => ?_)⟩
    · obtain ⟨i, hi⟩ := List.getElem?_of_mem hy
      exact (h2 i y hi).2
    · obtain ⟨y, hy, rfl⟩ := List.mem_map.1 hys
      obtain ⟨i, hi⟩ := List.getElem?_of_mem hy
      exact (cells_get (h2 i y hi).1).1
    · rw [List.getElem?_map] at hiy
      cases hq : xs[i]? with
      | none => simp [hq] at hiy
      | some y => simp [hq] at hiy; subst hiy; exact (h2 i y hq).1
end
end Go.Proofs.YtcplbkbimpiioaaGreatDoor
