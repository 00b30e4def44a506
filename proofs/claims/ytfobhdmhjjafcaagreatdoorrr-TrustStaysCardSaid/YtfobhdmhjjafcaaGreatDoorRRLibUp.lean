/- Arguments that came in, opened with a measure of theirs (as the bulk of an '..Upto' statement): general lemmas of this claim's own, about no program in particular. -/
import Derived.Test.YtfobhdmhjjafcaaGreatDoorRRLibL
namespace Go.Proofs.YtfobhdmhjjafcaaGreatDoorRR
open Go Go.RowKit
/-- A measure of what is read: a part's is at most the whole's, a slice's is at least its length. -/
structure Mu {H : Type} (μ : DataW H → Nat) : Prop where
  len : ∀ elems spare, elems.length ≤ μ (.slice elems spare)
  elem : ∀ elems spare d, d ∈ elems → μ d ≤ μ (.slice elems spare)
  agg : ∀ parts d, d ∈ parts → μ d ≤ μ (.agg parts)
section
variable {P : Program} {w : World} {base : Nat} {sp : Nat → Bool} {held : Bool} {H : Type} {enc : TypeId × Value → H} {μ : DataW H → Nat}
theorem mu_slice (hμ : Mu μ) {e u : TypeId} {a : Option Addr} {l c n : Nat} {x : DataW H} {p : List MemPlace} (he : P.underlying e = some (.slice u)) (h : DataW.trod enc P w base sp held n e [.slice a l c] = some (x, p)) : l ≤ μ x := by
  rcases Go.Deep.open_slice he h with ⟨h1, _⟩ | ⟨_, _, _, m, _, D, _, h1, _, _, _, _, h2, _⟩
  · simp at h1; omega
  · simp at h1
    obtain ⟨rfl, rfl, rfl⟩ := h1
    have hx : x = .slice ((List.range l).map D) ((List.range (m - l)).map fun j => D (l + j)) := congrArg Prod.fst h2
    subst hx
    have := hμ.len ((List.range l).map D) ((List.range (m - l)).map fun j => D (l + j))
    simpa using this
theorem mu_field (hμ : Mu μ) {t ft : TypeId} {i off c fuel : Nat} {cs : List Value} {x : DataW H × List MemPlace} (hf : fieldAt P t i = some (ft, off, c)) (h : DataW.trod enc P w base sp held fuel t cs = some x) :
    cs.length = P.cellsOf t ∧ ∃ m y, DataW.trod enc P w base sp held m ft ((cs.drop off).take c) = some y ∧ μ y.1 ≤ μ x.1 := by
  unfold fieldAt at hf
  split at hf
  · rename_i fs hu
    obtain ⟨xs, m, rfl, hx, hl, hxl, hi⟩ := DataW.trod_struct hu h
    refine ⟨hl, ?_⟩
    cases hq : fs[i]? with
    | none => simp [hq] at hf
    | some f =>
      simp only [hq, Option.map_some, Option.some.injEq, Prod.mk.injEq] at hf
      obtain ⟨rfl, rfl, rfl⟩ := hf
      have h1 := hi i f hq
      have hlt : i < xs.length := by
        have := (Array.getElem?_eq_some_iff.1 hq).1
        omega
      rw [List.getElem?_eq_getElem hlt] at h1
      refine ⟨m, _, h1, ?_⟩
      rw [hx]
      exact hμ.agg _ _ (List.mem_map.2 ⟨_, List.getElem_mem hlt, rfl⟩)
  · cases hf
/-- A field that is a slice of ints, and its size. -/
theorem mu_fieldI (hμ : Mu μ) {t ft e : TypeId} {i off c fuel : Nat} {cs : List Value} {x : DataW H × List MemPlace} (hf : fieldAt P t i = some (ft, off, c)) (ht : P.underlying ft = some (.slice e)) (he : P.underlying e = some (.int .i64)) (hc : P.cellsOf e = 1) (h : DataW.trod enc P w base sp held fuel t cs = some x) :
    ∃ (a : Option Addr) (cap : Nat) (xs : List Int), (cs.drop off).take c = [.slice a xs.length cap] ∧ (∀ y ∈ xs, -9223372036854775808 ≤ y ∧ y ≤ 9223372036854775807) ∧ xs.length ≤ μ x.1 ∧ Rd w 1 (.slice a xs.length cap) xs.length (ints .i64 xs) := by
  obtain ⟨_, m, y, hy, hw⟩ := mu_field hμ hf h
  rcases Go.Deep.open_slice ht hy with ⟨h0, _⟩ | ⟨a, len, cap, m', n, D, Pl, h0, _⟩
  · exact ⟨none, 0, [], h0, (fun _ h => by cases h), Nat.zero_le _, Rd.nil w 1⟩
  · rw [h0] at hy
    have hl := mu_slice hμ ht (x := y.1) (p := y.2) hy
    obtain ⟨xss, h1, h2, h3⟩ := open_flats (d := 1) (ks := [some .i64]) ht (by simp [flatT, he]) hc (show DataW.Trod enc P w base sp held ft (.slice (some a) len cap) y.1 y.2 from ⟨m, by simpa [Value.cells] using hy⟩)
    have : ∃ xs : List Int, xss = xs.map (fun y => [Value.int .i64 y]) ∧ ∀ y ∈ xs, -9223372036854775808 ≤ y ∧ y ≤ 9223372036854775807 := by
      clear h1 h3
      induction xss with
      | nil => exact ⟨[], rfl, (fun y hy => nomatch hy)⟩
      | cons ys xss ih =>
        obtain ⟨xs, rfl, hxs⟩ := ih (fun zs hz => h2 zs (by simp [hz]))
        obtain ⟨hf, hl⟩ := h2 ys (by simp)
        match ys, hf with
        | [.int q y], hf =>
          obtain ⟨⟨rfl, hw⟩, _⟩ := hf
          refine ⟨y :: xs, rfl, fun z hz => ?_⟩
          rcases List.mem_cons.1 hz with rfl | hz
          · exact wf_i64' hw
          · exact hxs z hz
    obtain ⟨xs, rfl, hxs⟩ := this
    have e : (xs.map (fun y => [Value.int .i64 y])).flatten = ints .i64 xs := by
      clear h1 h2 h3 hxs
      induction xs with
      | nil => rfl
      | cons x xs ih => rw [List.map_cons, List.flatten_cons, ih]; rfl
    rw [e] at h3
    have h1 : xs.length = len := by simpa using h1
    subst h1
    exact ⟨some a, cap, xs, h0, hxs, Nat.le_trans hl hw, h3⟩
/-- A slice of structs: each opened by hel. -/
theorem mu_rows (hμ : Mu μ) {α : Type} {t e : TypeId} {size : Nat} (cel : α → List Value) (Q : α → Prop) {a : Option Addr} {len cap : Nat} {x : DataW H} {p : List MemPlace} (ht : P.underlying t = some (.slice e)) (hc : P.cellsOf e = size)
    (hel : ∀ (n : Nat) (cs : List Value) (d : DataW H × List MemPlace), DataW.trod enc P w base sp held n e cs = some d → μ d.1 ≤ μ x → ∃ a : α, cs = cel a ∧ Q a)
    (h : DataW.Trod enc P w base sp held t (.slice a len cap) x p) : ∃ xs : List α, xs.length = len ∧ len ≤ μ x ∧ (∀ x ∈ xs, Q x) ∧ Rd w size (.slice a len cap) len (xs.map cel).flatten := by
  obtain ⟨fuel, h⟩ := h
  have hlen := mu_slice hμ ht h
  rcases Go.Deep.open_slice ht h with ⟨hcs, _⟩ | ⟨ad, l, c, m, n, D, Pl, hcs, _, hl, hm, hmm, hxx, hi⟩
  · simp [Value.cells] at hcs
    obtain ⟨rfl, rfl, rfl⟩ := hcs
    exact ⟨[], rfl, Nat.zero_le _, (fun xs hx => nomatch hx), Rd.nil _ _⟩
  · simp [Value.cells] at hcs
    obtain ⟨rfl, rfl, rfl⟩ := hcs
    have hml : len ≤ m := by rw [hmm]; split <;> omega
    have key : ∀ i, i < len → ∃ y : α, w.cells? base (ad.add (i * size)) size = some (cel y) ∧ Q y := by
      intro i hlt
      obtain ⟨cs', h1, h2⟩ := hi i (by omega)
      rw [hc] at h1
      obtain ⟨y, rfl, hq⟩ := hel _ cs' (D i, Pl i) h2 (by
        have hx : x = .slice ((List.range len).map D) ((List.range (m - len)).map fun j => D (len + j)) := congrArg Prod.fst hxx
        rw [hx]
        exact hμ.elem _ _ _ (List.mem_map.2 ⟨i, List.mem_range.2 hlt, rfl⟩))
      exact ⟨y, h1, hq⟩
    have build : ∀ k, k ≤ len → ∃ xs : List α, xs.length = k ∧ ∀ i y, xs[i]? = some y → w.cells? base (ad.add (i * size)) size = some (cel y) ∧ Q y := by
      intro k
      induction k with
      | zero => exact fun _ => ⟨[], rfl, fun i y h => by simp at h⟩
      | succ k ih =>
        intro hk
        obtain ⟨xs, h1, h2⟩ := ih (by omega)
        obtain ⟨y, h3, h4⟩ := key k (by omega)
        refine ⟨xs ++ [y], by simp [h1], fun i z hz => ?_⟩
        by_cases hik : i < xs.length
        · rw [List.getElem?_append_left hik] at hz; exact h2 i z hz
        · rw [List.getElem?_append_right (by omega)] at hz
          have : i = k := by
            have := (List.getElem?_eq_some_iff.1 hz).1
            simp at this; omega
          subst this
          rw [h1] at hz
          simp at hz
          subst hz
          exact ⟨h3, h4⟩
    obtain ⟨xs, h1, h2⟩ := build len (Nat.le_refl _)
    refine ⟨xs, h1, hlen, fun y hy => ?_, rd_chunks (base := base) hl hm (fun ys hys => ?_) (by simp [h1]) (fun i ys hiy => ?_)⟩
    · obtain ⟨i, hi⟩ := List.getElem?_of_mem hy
      exact (h2 i y hi).2
    · obtain ⟨y, hy, rfl⟩ := List.mem_map.1 hys
      obtain ⟨i, hi⟩ := List.getElem?_of_mem hy
      exact (cells_get (h2 i y hi).1).1
    · rw [List.getElem?_map] at hiy
      cases hq : xs[i]? with
      | none => simp [hq] at hiy
      | some y => simp [hq] at hiy; subst hiy; exact (h2 i y hq).1
end
end Go.Proofs.YtfobhdmhjjafcaaGreatDoorRR
