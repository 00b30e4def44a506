/- Policies: what is idle, what is left: plain laws. -/
import Derived.Test.YtnlibngncicobaaPolP
namespace Go.Proofs.Ytnlibngncicobaa
open Go Go.RowKit
/-- Those whose places are kept, from a place on. -/
def keepQ {α : Type} (q : Nat → Bool) : Nat → List α → List α
  | _, [] => []
  | n, x :: l => if q n then x :: keepQ q (n + 1) l else keepQ q (n + 1) l
/-- How many of the first i are kept. -/
def rankQ (q : Nat → Bool) (n i : Nat) : Nat := ((List.range i).filter fun j => q (n + j)).length
theorem rankQ_succ (q : Nat → Bool) (n i : Nat) : rankQ q n (i + 1) = (if q n then 1 else 0) + rankQ q (n + 1) i := by
  unfold rankQ
  rw [List.range_succ_eq_map, List.filter_cons, List.filter_map, Nat.add_zero]
  have e : ((fun j => q (n + j)) ∘ Nat.succ) = fun j => q (n + 1 + j) := by
    funext j
    show q (n + (j + 1)) = _
    congr 1
    omega
  rw [e]
  split
  · rw [List.length_cons, List.length_map]; omega
  · rw [List.length_map]; omega
theorem keep_snoc {α : Type} (q : Nat → Bool) : ∀ (l : List α) (n : Nat) (x : α), keepQ q n (l ++ [x]) = keepQ q n l ++ (if q (n + l.length) then [x] else [])
  | [], n, x => by
    show (if q n then [x] else []) = _
    rw [List.length_nil, Nat.add_zero]
    rfl
  | y :: l, n, x => by
    have ih := keep_snoc q l (n + 1) x
    rw [show n + 1 + l.length = n + (y :: l).length by rw [List.length_cons]; omega] at ih
    show (if q n then y :: keepQ q (n + 1) (l ++ [x]) else keepQ q (n + 1) (l ++ [x])) = (if q n then y :: keepQ q (n + 1) l else keepQ q (n + 1) l) ++ _
    rw [ih]
    split <;> rfl
theorem keep_len {α : Type} (q : Nat → Bool) : ∀ (l : List α) (n : Nat), (keepQ q n l).length = rankQ q n l.length
  | [], n => rfl
  | y :: l, n => by
    rw [List.length_cons, rankQ_succ, ← keep_len q l (n + 1)]
    show (if q n then y :: keepQ q (n + 1) l else keepQ q (n + 1) l).length = _
    by_cases h : q n = true
    · rw [if_pos h, if_pos h, List.length_cons]; omega
    · rw [if_neg h, if_neg h]; omega
theorem keep_mem {α : Type} (q : Nat → Bool) : ∀ (l : List α) (n : Nat) (x : α), x ∈ keepQ q n l → x ∈ l
  | y :: l, n, x, h => by
    unfold keepQ at h
    split at h
    · rcases List.mem_cons.1 h with rfl | h
      · exact List.mem_cons_self ..
      · exact List.mem_cons_of_mem _ (keep_mem q l _ x h)
    · exact List.mem_cons_of_mem _ (keep_mem q l _ x h)
theorem keep_none {α : Type} {p : α → Bool} (q : Nat → Bool) {l : List α} {n : Nat} (h : l.findIdx? p = none) : (keepQ q n l).findIdx? p = none :=
  List.findIdx?_eq_none_iff.2 fun x hx => List.findIdx?_eq_none_iff.1 h x (keep_mem q l n x hx)
theorem keep_some {α : Type} {p : α → Bool} (q : Nat → Bool) : ∀ {l : List α} {n i : Nat}, l.findIdx? p = some i → q (n + i) = true → (keepQ q n l).findIdx? p = some (rankQ q n i) ∧ (keepQ q n l)[rankQ q n i]? = l[i]?
  | [], _, _, h, _ => by simp at h
  | y :: l, n, i, h, hq => by
    rw [List.findIdx?_cons] at h
    by_cases hp : p y = true
    · rw [if_pos hp] at h
      cases h
      unfold keepQ
      rw [Nat.add_zero] at hq
      rw [if_pos hq, List.findIdx?_cons, if_pos hp]
      exact ⟨rfl, rfl⟩
    · rw [if_neg hp] at h
      obtain ⟨j, hj, rfl⟩ := Option.map_eq_some_iff.1 h
      obtain ⟨h1, h2⟩ := keep_some q (l := l) (n := n + 1) hj (by rw [show n + 1 + j = n + (j + 1) by omega]; exact hq)
      rw [rankQ_succ]
      unfold keepQ
      by_cases hn : q n = true
      · rw [if_pos hn, if_pos hn, List.findIdx?_cons, if_neg hp, h1, Nat.add_comm 1]
        exact ⟨rfl, by rw [List.getElem?_cons_succ, h2, List.getElem?_cons_succ]⟩
      · rw [if_neg hn, if_neg hn, Nat.zero_add, List.getElem?_cons_succ]
        exact ⟨h1, h2⟩
theorem rank_onto (q : Nat → Bool) : ∀ (m n j : Nat), j < rankQ q n m → ∃ i, i < m ∧ q (n + i) = true ∧ rankQ q n i = j
  | 0, n, j, h => by simp [rankQ] at h
  | m + 1, n, j, h => by
    rw [rankQ_succ] at h
    by_cases hn : q n = true
    · rw [if_pos hn] at h
      cases j with
      | zero => exact ⟨0, by omega, by rw [Nat.add_zero]; exact hn, rfl⟩
      | succ j =>
        obtain ⟨i, h1, h2, h3⟩ := rank_onto q m (n + 1) j (by omega)
        exact ⟨i + 1, by omega, by rw [show n + (i + 1) = n + 1 + i by omega]; exact h2, by rw [rankQ_succ, if_pos hn, h3]; omega⟩
    · rw [if_neg hn] at h
      obtain ⟨i, h1, h2, h3⟩ := rank_onto q m (n + 1) j (by omega)
      exact ⟨i + 1, by omega, by rw [show n + (i + 1) = n + 1 + i by omega]; exact h2, by rw [rankQ_succ, if_neg hn, h3]; omega⟩
/-- Those that are left. -/
def keptU (l : List Ru) : List Ru := keepQ (decU l) 0 l
theorem dec_at {l : List Ru} {i : Nat} (h : decU l i = true) : ∃ t a : Nat, t < 1440 ∧ a < 8 ∧ firU l (a : Int) (t : Int) = some i := by
  unfold decU decAt at h
  obtain ⟨t, ht, h⟩ := List.any_eq_true.1 h
  obtain ⟨a, ha, h⟩ := List.any_eq_true.1 h
  exact ⟨t, a, List.mem_range.1 ht, List.mem_range.1 ha, by simpa using h⟩
theorem dec_of {l : List Ru} {i t a : Nat} (ht : t < 1440) (ha : a < 8) (h : firU l (a : Int) (t : Int) = some i) : decU l i = true := by
  unfold decU decAt
  exact List.any_eq_true.2 ⟨t, List.mem_range.2 ht, List.any_eq_true.2 ⟨a, List.mem_range.2 ha, by simpa using h⟩⟩
theorem fir_mod (l : List Ru) (a now : Int) : firU l a now = firU l a (now % 1440) := fir_congr fun r _ => by rw [Int.emod_emod_of_dvd now (Int.dvd_refl 1440)]
/-- Some call is told of in what is left as in all. -/
theorem kept_fir {l : List Ru} {a now : Int} (ha : 0 ≤ a ∧ a < 8) : (firU l a now = none ∧ firU (keptU l) a now = none) ∨ ∃ i j, firU l a now = some i ∧ firU (keptU l) a now = some j ∧ (keptU l)[j]? = l[i]? := by
  cases h : firU l a now with
  | none => exact .inl ⟨rfl, keep_none _ h⟩
  | some i =>
    have hd : decU l i = true := by
      rw [fir_mod] at h
      have h1 := Int.emod_nonneg now (show (1440 : Int) ≠ 0 by omega)
      have h2 := Int.emod_lt_of_pos now (show (0 : Int) < 1440 by omega)
      refine dec_of (t := (now % 1440).toNat) (a := a.toNat) (by omega) (by omega) ?_
      rw [Int.toNat_of_nonneg ha.1, Int.toNat_of_nonneg h1]
      exact h
    obtain ⟨h1, h2⟩ := keep_some (decU l) (n := 0) h (by rw [Nat.zero_add]; exact hd)
    exact .inr ⟨i, _, rfl, h1, h2⟩
theorem kept_idle (l : List Ru) : idleU (keptU l) = [] := by
  unfold idleU
  refine List.filter_eq_nil_iff.2 fun j hj => ?_
  have hj := List.mem_range.1 hj
  unfold keptU at hj
  rw [keep_len] at hj
  obtain ⟨i, h1, h2, h3⟩ := rank_onto (decU l) _ 0 j hj
  rw [Nat.zero_add] at h2
  obtain ⟨t, a, ht, ha, hf⟩ := dec_at h2
  obtain ⟨h4, _⟩ := keep_some (decU l) (n := 0) hf (by rw [Nat.zero_add]; exact h2)
  rw [h3] at h4
  have : decU (keptU l) j = true := dec_of ht ha h4
  simp [this]
/-- Places taken out, the last one first. -/
def delL (l : List Ru) (g : List Nat) : List Ru := g.foldr (fun i acc => delU acc i) l
theorem delU_snoc {acc : List Ru} {x : Ru} {i : Nat} (h : i < acc.length) : delU (acc ++ [x]) i = delU acc i ++ [x] := by
  unfold delU
  rw [List.take_append_of_le_length (by omega), List.drop_append_of_le_length (by omega), List.append_assoc]
theorem delU_len {acc : List Ru} {i : Nat} (h : i < acc.length) : (delU acc i).length + 1 = acc.length := by
  unfold delU
  rw [List.length_append, List.length_take, List.length_drop]
  omega
theorem delL_snoc {l : List Ru} {x : Ru} : ∀ {g : List Nat}, g.Pairwise (· < ·) → (∀ i ∈ g, i < l.length) → delL (l ++ [x]) g = delL l g ++ [x] ∧ ∀ k, (∀ j ∈ g, k < j) → k < l.length → k < (delL l g).length
  | [], _, _ => ⟨rfl, fun k _ h => h⟩
  | i :: g, hs, hl => by
    obtain ⟨h1, h2⟩ := List.pairwise_cons.1 hs
    obtain ⟨e, hk⟩ := delL_snoc (x := x) h2 (fun j hj => hl j (by simp [hj]))
    have hi := hk i h1 (hl i (by simp))
    have hd := delU_len hi
    refine ⟨?_, fun k hkj hkl => ?_⟩
    · show delU (delL (l ++ [x]) g) i = delU (delL l g) i ++ [x]
      rw [e, delU_snoc hi]
    · have := hkj i (by simp)
      show k < (delU (delL l g) i).length
      omega
theorem delL_keep (q : Nat → Bool) (l : List Ru) : delL l ((List.range l.length).filter fun i => !q i) = keepQ q 0 l := by
  refine snoc_ind (p := fun l : List Ru => delL l ((List.range l.length).filter fun i => !q i) = keepQ q 0 l) rfl (fun l x ih => ?_) l
  rw [List.length_append, List.length_singleton, List.range_succ, List.filter_append, keep_snoc, Nat.zero_add, ← ih]
  have hs : ((List.range l.length).filter fun i => !q i).Pairwise (· < ·) := List.Pairwise.filter _ List.pairwise_lt_range
  have hm : ∀ i ∈ (List.range l.length).filter fun i => !q i, i < l.length := fun i hi => List.mem_range.1 (List.mem_filter.1 hi).1
  obtain ⟨e, _⟩ := delL_snoc (x := x) hs hm
  by_cases h : q l.length = true
  · rw [if_pos h]
    simp only [List.filter_cons, h, List.filter_nil]
    simpa using e
  · rw [if_neg h, List.append_nil]
    have h' : q l.length = false := by simpa using h
    simp only [List.filter_cons, h', List.filter_nil]
    unfold delL
    rw [List.foldr_append]
    congr 1
    show delU (l ++ [x]) l.length = l
    unfold delU
    rw [List.take_left' rfl, List.drop_of_length_le (by simp), List.append_nil]
theorem del_idle (l : List Ru) : delL l (idleU l) = keptU l := delL_keep (decU l) l
end Go.Proofs.Ytnlibngncicobaa
