/- What a predicate hits in a list; what a DeleteFunc keeps: plain laws. -/
import Derived.Test.YtifhkjcimhhaiaaLibQ
namespace Go.Proofs.Ytifhkjcimhhaiaa
open Go Go.RowKit
/-- The first hit's place. -/
def hitF {α : Type} (p : α → Bool) (xs : List α) : Nat := (xs.takeWhile fun x => !p x).length

section
variable {α : Type} {p : α → Bool} {xs : List α}
theorem hit_le (p : α → Bool) (xs : List α) : hitF p xs ≤ xs.length := by
  unfold hitF
  have := congrArg List.length (List.takeWhile_append_dropWhile (p := fun x => !p x) (l := xs))
  rw [List.length_append] at this
  omega
theorem hit_end : ∀ {xs : List α}, (∀ x ∈ xs, p x = false) → hitF p xs = xs.length
  | [], _ => rfl
  | x :: xs, h => by
    have ih := hit_end (xs := xs) (fun y hy => h y (by simp [hy]))
    unfold hitF at ih ⊢
    simp [h x (by simp), ih]
theorem hit_at : ∀ {xs : List α} {j : Nat} {x : α}, xs[j]? = some x → (∀ y ∈ xs.take j, p y = false) → p x = true → hitF p xs = j
  | [], j, x, h, _, _ => by simp at h
  | y :: xs, 0, x, h, _, hp => by
    simp at h; subst h
    simp [hitF, hp]
  | y :: xs, j + 1, x, h, hn, hp => by
    have ih := hit_at (xs := xs) (j := j) (x := x) (by simpa using h) (fun z hz => hn z (by simp [hz])) hp
    have hy := hn y (by simp)
    unfold hitF at ih ⊢
    simp [hy, ih]
theorem hno_next {j : Nat} {x : α} (hx : xs[j]? = some x) (hn : ∀ y ∈ xs.take j, p y = false) (hp : p x = false) : ∀ y ∈ xs.take (j + 1), p y = false := by
  intro y hy
  rw [List.take_add_one, hx] at hy
  rcases List.mem_append.1 hy with h | h
  · exact hn y h
  · simp at h; subst h; exact hp
theorem hit_take (p : α → Bool) : ∀ (xs : List α), ∀ y ∈ xs.take (hitF p xs), p y = false
  | [], y, hy => by simp at hy
  | x :: xs, y, hy => by
    cases hx : p x with
    | true => simp [hitF, hx] at hy
    | false =>
      have : hitF p (x :: xs) = hitF p xs + 1 := by simp [hitF, hx]
      rw [this, List.take_succ_cons] at hy
      rcases List.mem_cons.1 hy with rfl | hy
      · exact hx
      · exact hit_take p xs y hy
theorem hit_get (p : α → Bool) : ∀ (xs : List α) (x : α), xs[hitF p xs]? = some x → p x = true
  | [], x, h => by simp at h
  | y :: xs, x, h => by
    cases hy : p y with
    | true => simp [hitF, hy] at h; subst h; exact hy
    | false =>
      have : hitF p (y :: xs) = hitF p xs + 1 := by simp [hitF, hy]
      rw [this, List.getElem?_cons_succ] at h
      exact hit_get p xs x h
theorem hit_none (h : hitF p xs = xs.length) : (xs.filter fun x => !p x) = xs := by
  rw [List.filter_eq_self]
  intro x hx
  have := hit_take p xs x (by rw [h, List.take_length]; exact hx)
  simp [this]
/-- Struck up to place j: the first i are those kept, behind j all is as it was. -/
structure Kept (p : α → Bool) (xs : List α) (i j : Nat) (ys : List α) : Prop where
  len : ys.length = xs.length
  lt : i < j
  le : j ≤ xs.length
  fst : ys.take i = (xs.take j).filter fun x => !p x
  ilt : i = ((xs.take j).filter fun x => !p x).length
  rest : ys.drop j = xs.drop j
theorem Kept.start (h : ¬ hitF p xs = xs.length) : Kept p xs (hitF p xs) (hitF p xs + 1) xs := by
  have hle := hit_le p xs
  obtain ⟨x, hx⟩ : ∃ x, xs[hitF p xs]? = some x := ⟨_, List.getElem?_eq_getElem (by omega)⟩
  have hp := hit_get p xs x hx
  have e : ((xs.take (hitF p xs + 1)).filter fun x => !p x) = xs.take (hitF p xs) := by
    rw [List.take_add_one, hx, List.filter_append]
    have h1 : (xs.take (hitF p xs)).filter (fun x => !p x) = xs.take (hitF p xs) := by
      rw [List.filter_eq_self]
      intro y hy
      simp [hit_take p xs y hy]
    rw [h1]
    simp [hp]
  exact ⟨rfl, by omega, by omega, e.symm, by rw [e, List.length_take]; omega, rfl⟩
theorem Kept.get {i j : Nat} {ys : List α} (h : Kept p xs i j ys) {x : α} (hx : xs[j]? = some x) : ys[j]? = some x := by
  have : (ys.drop j)[0]? = (xs.drop j)[0]? := by rw [h.rest]
  simpa [hx] using this
theorem Kept.keep {i j : Nat} {ys : List α} (h : Kept p xs i j ys) {x : α} (hx : xs[j]? = some x) (hp : p x = false) : Kept p xs (i + 1) (j + 1) (ys.set i x) := by
  have hlt := (List.getElem?_eq_some_iff.1 hx).1
  have e : ((xs.take (j + 1)).filter fun x => !p x) = ((xs.take j).filter fun x => !p x) ++ [x] := by
    rw [List.take_add_one, hx, List.filter_append]; simp [hp]
  have hl := h.len; have h2 := h.lt; have h3 := h.le
  refine ⟨by simp [hl], by omega, by omega, ?_, by rw [e, List.length_append, ← h.ilt]; rfl, ?_⟩
  · rw [e, ← h.fst, List.take_add_one, List.take_set_of_le (Nat.le_refl _), List.getElem?_set_self (by omega)]
    rfl
  · rw [List.drop_set_of_lt (by omega), ← List.drop_drop, ← List.drop_drop, h.rest]
theorem Kept.skip {i j : Nat} {ys : List α} (h : Kept p xs i j ys) {x : α} (hx : xs[j]? = some x) (hp : p x = true) : Kept p xs i (j + 1) ys := by
  have hlt := (List.getElem?_eq_some_iff.1 hx).1
  have e : ((xs.take (j + 1)).filter fun x => !p x) = ((xs.take j).filter fun x => !p x) := by
    rw [List.take_add_one, hx, List.filter_append]; simp [hp]
  have h2 := h.lt
  refine ⟨h.len, by omega, by omega, by rw [e]; exact h.fst, by rw [e]; exact h.ilt, ?_⟩
  rw [← List.drop_drop, ← List.drop_drop, h.rest]
theorem Kept.done {i : Nat} {ys : List α} (h : Kept p xs i xs.length ys) : ys.take i = xs.filter fun x => !p x := by
  have := h.fst
  rwa [List.take_length] at this
theorem Kept.ilen {i : Nat} {ys : List α} (h : Kept p xs i xs.length ys) : i = (xs.filter fun x => !p x).length := by
  have := h.ilt
  rwa [List.take_length] at this
end

theorem filter_at {α : Type} {p : α → Bool} {xs : List α} {j : Nat} {x : α} (hx : xs[j]? = some x) : (xs.take (j + 1)).filter p = (xs.take j).filter p ++ if p x then [x] else [] := by
  rw [List.take_add_one, hx, List.filter_append]
  cases h : p x <;> simp [h]
theorem filter_none {α : Type} {p : α → Bool} {xs : List α} (h : ∀ x ∈ xs, p x = false) : xs.filter p = [] := List.filter_eq_nil_iff.2 fun x hx => by rw [h x hx]; simp
end Go.Proofs.Ytifhkjcimhhaiaa
