/- The plain law: the reference's answers are the window's. -/
import Derived.Test.YtoodepbkfgjgaaaP1
import Derived.Test.YtoodepbkfgjgaaaA9
namespace Go.Proofs.Ytoodepbkfgjgaaa
open Go Go.RowKit

theorem foldl_up (xs : List Int) : ∀ a, a ≤ xs.foldl up a ∧ (∀ x ∈ xs, x ≤ xs.foldl up a) ∧ (xs.foldl up a = a ∨ xs.foldl up a ∈ xs) := by
  induction xs with
  | nil => intro a; exact ⟨Int.le_refl _, fun x hx => (by cases hx), .inl rfl⟩
  | cons y xs ih =>
    intro a
    obtain ⟨h1, h2, h3⟩ := ih (up a y)
    have hu : a ≤ up a y ∧ y ≤ up a y ∧ (up a y = a ∨ up a y = y) := by unfold up; split <;> omega
    refine ⟨by rw [List.foldl_cons]; omega, fun x hx => ?_, ?_⟩
    · rw [List.foldl_cons]
      rcases List.mem_cons.1 hx with rfl | hx
      · omega
      · exact h2 x hx
    · rw [List.foldl_cons]
      rcases h3 with h3 | h3
      · rcases hu.2.2 with e | e
        · exact .inl (by rw [h3, e])
        · exact .inr (by rw [h3, e]; simp)
      · exact .inr (by simp [h3])

theorem refTop_le (xs : List Int) : ∀ x ∈ xs, x ≤ refTop xs := (foldl_up xs 0).2.1

theorem top_knows {s : Win} {acc : List Int} (h : Knows s acc) : refTop acc = s.top ∧ decide (0 < acc.length) = s.some := by
  cases hs : s.some with
  | false =>
    obtain ⟨rfl, ht, _⟩ := h.none hs
    exact ⟨by rw [ht]; rfl, by simp⟩
  | true =>
    obtain ⟨hl, ht⟩ := h.le hs
    obtain ⟨h1, h2, h3⟩ := foldl_up acc 0
    change 0 ≤ refTop acc at h1
    change ∀ x ∈ acc, x ≤ refTop acc at h2
    change refTop acc = 0 ∨ refTop acc ∈ acc at h3
    refine ⟨?_, by have := List.length_pos_of_mem ht; simpa using this⟩
    have a1 := h2 _ ht
    have a0 := (hl _ ht).1
    rcases h3 with h3 | h3
    · omega
    · have := (hl _ h3).2; omega

theorem see_ref {s : Win} {acc : List Int} (h : Knows s acc) (n : Int) (h0 : 0 ≤ n) : refSee acc n = s.see n := by
  obtain ⟨ht, hs⟩ := top_knows h
  rw [see_knows h n h0]
  unfold refSee
  rw [ht]
  have e : (0 < acc.length) ↔ s.some = true := by rw [← hs]; simp
  by_cases hc : 0 < acc.length ∧ n < s.top ∧ 1023 < s.top - n
  · rw [if_pos hc, if_pos ⟨e.1 hc.1, hc.2.1, by omega⟩]
  · have hc2 : ¬ (s.some = true ∧ n < s.top ∧ 1024 ≤ s.top - n) := fun hh => hc ⟨e.2 hh.1, hh.2.1, by omega⟩
    rw [if_neg hc, if_neg hc2]

theorem see_after {s : Win} {acc : List Int} (h : Knows s acc) (n : Int) (h0 : 0 ≤ n) (h1 : n < 18446744073709551616) : (s.step n).see n ≠ 0 := by
  unfold Win.step
  by_cases hz : s.see n = 0
  · rw [if_pos hz]
    obtain ⟨k1, _, _⟩ := note_knows h n h0 h1 hz
    rw [see_knows k1 n h0]
    split
    · decide
    · rw [if_pos (by simp)]; decide
  · rw [if_neg hz]; exact hz

/-- Two rising lists of the same members are one. -/
theorem sorted_ext : ∀ {xs ys : List Int}, xs.Pairwise (· < ·) → ys.Pairwise (· < ·) → (∀ m, m ∈ xs ↔ m ∈ ys) → xs = ys
  | [], [], _, _, _ => rfl
  | [], y :: ys, _, _, h => absurd ((h y).2 (by simp)) (by simp)
  | x :: xs, [], _, _, h => absurd ((h x).1 (by simp)) (by simp)
  | x :: xs, y :: ys, hx, hy, h => by
    obtain ⟨hx1, hx2⟩ := List.pairwise_cons.1 hx
    obtain ⟨hy1, hy2⟩ := List.pairwise_cons.1 hy
    have e : x = y := by
      rcases List.mem_cons.1 ((h x).1 (by simp)) with e | hm
      · exact e
      · rcases List.mem_cons.1 ((h y).2 (by simp)) with e | hm2
        · exact e.symm
        · have a := hy1 _ hm; have b := hx1 _ hm2; omega
    subst e
    congr 1
    refine sorted_ext hx2 hy2 (fun m => ?_)
    constructor
    · intro hm
      have := hx1 m hm
      rcases List.mem_cons.1 ((h m).1 (by simp [hm])) with e | h2
      · omega
      · exact h2
    · intro hm
      have := hy1 m hm
      rcases List.mem_cons.1 ((h m).2 (by simp [hm])) with e | h2
      · omega
      · exact h2

theorem insIn_mem (out : List Int) (x m : Int) : m ∈ insIn out x ↔ m = x ∨ m ∈ out := by
  unfold insIn
  have e : m ∈ out ↔ m ∈ out.take (insAt out x) ∨ m ∈ out.drop (insAt out x) := by
    rw [← List.mem_append, List.take_append_drop]
  rw [e]
  simp only [List.mem_append, List.mem_singleton]
  constructor
  · rintro ((h | h) | h) <;> simp [h]
  · rintro (h | h | h) <;> simp [h]

theorem insIn_sorted (out : List Int) (x : Int) (hx : x ∉ out) (h : out.Pairwise (· < ·)) : (insIn out x).Pairwise (· < ·) := by
  unfold insIn insAt
  induction out with
  | nil => simp
  | cons y out ih =>
    obtain ⟨h1, h2⟩ := List.pairwise_cons.1 h
    simp at hx
    by_cases hy : y < x
    · simp only [List.takeWhile_cons, hy, decide_true, ↓reduceIte, List.length_cons, List.take_succ_cons, List.drop_succ_cons, List.cons_append]
      refine List.pairwise_cons.2 ⟨fun m hm => ?_, ih hx.2 h2⟩
      have hm2 := (insIn_mem out x m).1 hm
      rcases hm2 with rfl | hm2
      · exact hy
      · exact h1 m hm2
    · have hyx : x < y := by omega
      simp only [List.takeWhile_cons, hy, decide_false, Bool.false_eq_true, ↓reduceIte, List.length_nil, List.take_zero, List.drop_zero, List.nil_append, List.singleton_append]
      refine List.pairwise_cons.2 ⟨fun m hm => ?_, h⟩
      rcases List.mem_cons.1 hm with rfl | hm
      · exact hyx
      · have := h1 m hm; omega

theorem allFold (top : Int) : ∀ (xs out : List Int), (xs ++ out).Nodup → out.Pairwise (· < ·) → (xs.foldl (allStep top) out).Pairwise (· < ·) ∧ ∀ m, m ∈ xs.foldl (allStep top) out ↔ m ∈ out ∨ (m ∈ xs ∧ ¬ 1023 < top - m) := by
  intro xs
  induction xs with
  | nil => intro out _ h; exact ⟨h, fun m => by simp⟩
  | cons x xs ih =>
    intro out hn h
    simp only [List.cons_append, List.nodup_cons, List.mem_append, not_or] at hn
    rw [List.foldl_cons]
    unfold allStep
    by_cases hc : 1023 < top - x
    · rw [if_pos hc]
      obtain ⟨i1, i2⟩ := ih out hn.2 h
      refine ⟨i1, fun m => ?_⟩
      change m ∈ xs.foldl (allStep top) out ↔ _
      rw [i2 m]
      constructor
      · rintro (h | h)
        · exact .inl h
        · exact .inr ⟨by simp [h.1], h.2⟩
      · rintro (h | ⟨h, h3⟩)
        · exact .inl h
        · rcases List.mem_cons.1 h with rfl | h
          · exact absurd hc h3
          · exact .inr ⟨h, h3⟩
    · rw [if_neg hc]
      have hn2 : (xs ++ insIn out x).Nodup := by
        have h1 := hn.2
        rw [List.nodup_append] at h1 ⊢
        refine ⟨h1.1, (insIn_sorted out x hn.1.2 h).imp (fun {a b} hab => by omega), fun a ha b hb => ?_⟩
        rcases (insIn_mem out x b).1 hb with rfl | hb
        · rintro rfl; exact hn.1.1 ha
        · exact h1.2.2 a ha b hb
      obtain ⟨i1, i2⟩ := ih (insIn out x) hn2 (insIn_sorted out x hn.1.2 h)
      refine ⟨i1, fun m => ?_⟩
      change m ∈ xs.foldl (allStep top) (insIn out x) ↔ _
      rw [i2 m, insIn_mem]
      constructor
      · rintro ((rfl | h) | h)
        · exact .inr ⟨by simp, hc⟩
        · exact .inl h
        · exact .inr ⟨by simp [h.1], h.2⟩
      · rintro (h | ⟨h, h3⟩)
        · exact .inl (.inr h)
        · rcases List.mem_cons.1 h with rfl | h
          · exact .inl (.inl rfl)
          · exact .inr ⟨h, h3⟩

theorem all_ref {s : Win} {acc : List Int} (h : Knows s acc) (hn : acc.Nodup) : s.all = refAll acc := by
  obtain ⟨ht, hs⟩ := top_knows h
  obtain ⟨i1, i2⟩ := allFold (refTop acc) acc [] (by simpa using hn) (by simp)
  refine sorted_ext ?_ i1 (fun m => ?_)
  · unfold Win.all
    split
    · refine List.Pairwise.filter _ ?_
      unfold Win.ctrs
      rw [List.pairwise_map]
      exact List.pairwise_lt_range.imp (fun {a b} hab => by omega)
    · simp
  · change m ∈ s.all ↔ m ∈ acc.foldl (allStep (refTop acc)) []
    rw [i2 m, ht]
    unfold Win.all
    cases hsm : s.some with
    | false => obtain ⟨rfl, _⟩ := h.none hsm; simp
    | true =>
      obtain ⟨hl, _⟩ := h.le hsm
      have h0 := h.wf.top0
      simp only [↓reduceIte, List.mem_filter, List.not_mem_nil, false_or]
      constructor
      · rintro ⟨hm, hb⟩
        unfold Win.ctrs at hm
        obtain ⟨i, hi, rfl⟩ := List.mem_map.1 hm
        have hi2 := List.mem_range.1 hi
        unfold Win.span at *
        rw [has_bit s h.wf _ (by omega)] at hb
        exact ⟨(h.bit hsm _ (by omega) (by omega) (by omega)).1 hb, by omega⟩
      · rintro ⟨hm, hw⟩
        have hl2 := hl m hm
        refine ⟨?_, by rw [has_bit s h.wf _ hl2.1]; exact (h.bit hsm m hl2.1 hl2.2 (by omega)).2 hm⟩
        unfold Win.ctrs
        refine List.mem_map.2 ⟨(m - (s.top - s.span)).toNat, List.mem_range.2 (by unfold Win.span; omega), by unfold Win.span; omega⟩
end Go.Proofs.Ytoodepbkfgjgaaa
