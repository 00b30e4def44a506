/- Rosters: places, sets of places, the members of a set: plain laws. -/
import Derived.Test.YtfdnnlcfolgegaaRosE
namespace Go.Proofs.Ytfdnnlcfolgegaa
open Go Go.RowKit

def Dv.pl (x : Dv) : Nat := (4 * x.a + x.d).toNat
theorem big_iff {x : Dv} : x.big = false ↔ x.a < 8 ∧ x.d < 4 := by
  unfold Dv.big
  simp only [Bool.or_eq_false_iff, decide_eq_false_iff_not]
  omega
structure Small (xs : List Dv) : Prop where
  s : ∀ x ∈ xs, x.big = false
theorem small_iff {xs : List Dv} : xs.any Dv.big = false ↔ Small xs := by
  rw [List.any_eq_false]
  exact ⟨fun h => ⟨fun x hx => by simpa using h x hx⟩, fun h x hx => by simpa using h.s x hx⟩
theorem pl_lt {x : Dv} (ho : x.ok) (hb : x.big = false) : x.pl < 32 := by
  obtain ⟨a, b⟩ := big_iff.1 hb
  obtain ⟨⟨h1, _⟩, h2, _⟩ := ho
  unfold Dv.pl; omega
theorem pl_key {x y : Dv} (hx : x.ok) (hy : y.ok) (bx : x.big = false) (bd : y.big = false) : x.key < y.key ↔ x.pl < y.pl := by
  obtain ⟨a, b⟩ := big_iff.1 bx
  obtain ⟨c, d⟩ := big_iff.1 bd
  obtain ⟨⟨h1, _⟩, h2, _⟩ := hx
  obtain ⟨⟨h3, _⟩, h4, _⟩ := hy
  unfold Dv.pl Dv.key; omega
theorem pl_inj {x y : Dv} (hx : x.ok) (hy : y.ok) (bx : x.big = false) (bd : y.big = false) (h : x.pl = y.pl) : x = y := by
  obtain ⟨a, b⟩ := big_iff.1 bx
  obtain ⟨c, d⟩ := big_iff.1 bd
  refine key_inj hx hy ?_
  obtain ⟨⟨h1, _⟩, h2, _⟩ := hx
  obtain ⟨⟨h3, _⟩, h4, _⟩ := hy
  unfold Dv.pl at h
  unfold Dv.key; omega
theorem up_len {xs : List Dv} (h : Good xs) (hs : Small xs) : xs.length ≤ 32 := by
  have key : ∀ (k : Nat) (x : Dv), xs[k]? = some x → k ≤ x.pl := by
    intro k
    induction k with
    | zero => exact fun _ _ => Nat.zero_le _
    | succ k ih =>
      intro x hx
      obtain ⟨l2, e2⟩ := List.getElem?_eq_some_iff.1 hx
      have l1 : k < xs.length := by omega
      have hk := ih xs[k] (List.getElem?_eq_getElem l1)
      have := List.pairwise_iff_getElem.1 h.up k (k + 1) l1 l2 (by omega)
      rw [e2] at this
      have hm1 : xs[k] ∈ xs := List.getElem_mem _
      have hm2 : x ∈ xs := List.mem_of_getElem? hx
      have := (pl_key (h.ok _ hm1) (h.ok _ hm2) (hs.s _ hm1) (hs.s _ hm2)).1 this
      omega
  apply Nat.le_of_not_lt
  intro hlt
  have hx : xs[32]? = some xs[32] := List.getElem?_eq_getElem hlt
  have := key 32 _ hx
  have hm : xs[32] ∈ xs := List.getElem_mem _
  have := pl_lt (h.ok _ hm) (hs.s _ hm)
  omega
theorem up_ext : ∀ {xs ys : List Dv}, Up xs → Up ys → (∀ x, x ∈ xs ↔ x ∈ ys) → xs = ys
  | [], [], _, _, _ => rfl
  | [], y :: ys, _, _, h => absurd ((h y).2 (by simp)) (by simp)
  | x :: xs, [], _, _, h => absurd ((h x).1 (by simp)) (by simp)
  | x :: xs, y :: ys, h1, h2, h => by
    obtain ⟨a1, a2⟩ := List.pairwise_cons.1 h1
    obtain ⟨b1, b2⟩ := List.pairwise_cons.1 h2
    have e : x = y := by
      have hx := (h x).1 (by simp)
      have hy := (h y).2 (by simp)
      rcases List.mem_cons.1 hx with e | hx
      · exact e
      · rcases List.mem_cons.1 hy with e | hy
        · exact e.symm
        · have := a1 y hy; have := b1 x hx; omega
    subst e
    congr 1
    refine up_ext a2 b2 fun z => ?_
    have hz := h z
    constructor
    · intro hm
      rcases List.mem_cons.1 (hz.1 (by simp [hm])) with e | hm2
      · subst e; have := a1 z hm; omega
      · exact hm2
    · intro hm
      rcases List.mem_cons.1 (hz.2 (by simp [hm])) with e | hm2
      · subst e; have := b1 z hm; omega
      · exact hm2

/-! ### Sets of places -/
def sb (f : Nat → Bool) : List Bool := (List.range 32).map f
theorem sb_len (f : Nat → Bool) : (sb f).length = 32 := by simp [sb]
theorem sb_get {f : Nat → Bool} {p : Nat} (h : p < 32) : (sb f)[p]? = some (f p) := by
  unfold sb
  rw [List.getElem?_map, List.getElem?_range h]; rfl
theorem sb_set {f : Nat → Bool} {p : Nat} {b : Bool} (h : p < 32) : (sb f).set p b = sb (fun q => if q = p then b else f q) := by
  apply List.ext_getElem?
  intro i
  rw [List.getElem?_set]
  by_cases hi : i < 32
  · rw [sb_get hi, sb_get hi, sb_len]
    by_cases e : p = i
    · subst e; simp [h]
    · rw [if_neg e, if_neg (fun h => e h.symm)]
  · have e1 : (sb f)[i]? = none := List.getElem?_eq_none_iff.2 (by rw [sb_len]; omega)
    have e2 : (sb fun q => if q = p then b else f q)[i]? = none := List.getElem?_eq_none_iff.2 (by rw [sb_len]; omega)
    rw [e1, e2, if_neg (by omega)]
def bv (bs : List Bool) : List Value := bs.map Value.bool
theorem bv_set {bs : List Bool} {p : Nat} {b : Bool} : (bv bs).set p (.bool b) = bv (bs.set p b) := by simp [bv, List.map_set]
theorem bv_get {bs : List Bool} {p : Nat} {b : Bool} (h : bs[p]? = some b) : (bv bs)[p]? = some (.bool b) := by simp [bv, h]
theorem bv_len (bs : List Bool) : (bv bs).length = bs.length := by simp [bv]
def inPl (xs : List Dv) (p : Nat) : Bool := xs.any fun x => decide (x.pl = p)
theorem inPl_snoc {xs : List Dv} {x : Dv} : (fun q => if q = x.pl then true else inPl xs q) = inPl (xs ++ [x]) := by
  funext q
  unfold inPl
  rw [List.any_append]
  by_cases h : q = x.pl
  · simp [h]
  · simp [h, Ne.symm h]
theorem inPl_in {xs : List Dv} {d : Dv} (ho : DOk xs) (hs : Small xs) (hd : d.ok) (hb : d.big = false) : inPl xs d.pl = inF xs d := by
  unfold inPl inF
  by_cases h : d ∈ xs
  · rw [decide_eq_true h]
    exact List.any_eq_true.2 ⟨d, h, by simp⟩
  · rw [decide_eq_false h, List.any_eq_false]
    intro x hx
    simp only [decide_eq_true_eq]
    intro e
    exact h (pl_inj (ho x hx) hd (hs.s x hx) hb e ▸ hx)
def dvAt (i : Nat) : Dv := ⟨(i / 4 : Nat), (i % 4 : Nat)⟩
theorem dvAt_ok {i : Nat} (h : i < 32) : (dvAt i).ok ∧ (dvAt i).big = false ∧ (dvAt i).pl = i := by
  refine ⟨⟨⟨?_, ?_⟩, ?_, ?_⟩, big_iff.2 ⟨?_, ?_⟩, ?_⟩ <;> simp only [dvAt, Dv.pl] <;> omega
def listF (f : Nat → Bool) (n : Nat) : List Dv := ((List.range n).filter f).map dvAt
theorem listF_mem {f : Nat → Bool} {x : Dv} : x ∈ listF f 32 ↔ x.ok ∧ x.big = false ∧ f x.pl = true := by
  unfold listF
  rw [List.mem_map]
  constructor
  · rintro ⟨i, hi, rfl⟩
    obtain ⟨h1, h2⟩ := List.mem_filter.1 hi
    obtain ⟨a, b, c⟩ := dvAt_ok (List.mem_range.1 h1)
    exact ⟨a, b, by rw [c]; exact h2⟩
  · rintro ⟨a, b, c⟩
    have hl := pl_lt a b
    obtain ⟨a2, b2, c2⟩ := dvAt_ok hl
    exact ⟨x.pl, List.mem_filter.2 ⟨List.mem_range.2 hl, c⟩, pl_inj a2 a b2 b c2⟩
theorem listF_up (f : Nat → Bool) : Up (listF f 32) := by
  unfold Up listF
  rw [List.pairwise_map]
  have h : ((List.range 32).filter f).Pairwise (· < ·) := List.Pairwise.filter _ List.pairwise_lt_range
  refine List.Pairwise.imp_of_mem ?_ h
  intro a b ha hb hab
  obtain ⟨a1, a2, a3⟩ := dvAt_ok (List.mem_range.1 (List.mem_filter.1 ha).1)
  obtain ⟨b1, b2, b3⟩ := dvAt_ok (List.mem_range.1 (List.mem_filter.1 hb).1)
  rw [pl_key a1 b1 a2 b2, a3, b3]; exact hab
theorem listF_len (f : Nat → Bool) (n : Nat) : (listF f n).length ≤ n := by
  unfold listF
  rw [List.length_map]
  exact Nat.le_trans (List.length_filter_le _ _) (by simp)
theorem list_set {xs : List Dv} (h : Good xs) (hs : Small xs) : listF (inPl xs) 32 = xs := by
  refine up_ext (listF_up _) h.up fun x => ?_
  rw [listF_mem]
  constructor
  · rintro ⟨a, b, c⟩
    rw [inPl_in h.ok hs a b] at c
    exact of_decide_eq_true c
  · intro hx
    exact ⟨h.ok x hx, hs.s x hx, by rw [inPl_in h.ok hs (h.ok x hx) (hs.s x hx)]; exact decide_eq_true hx⟩
theorem nxt_small {inn : Bool} {xs : List Dv} {d : Dv} (h : Good xs) (hs : Small xs) (hb : d.big = false) : Small (nxtF inn xs d) := by
  unfold nxtF
  split
  · exact ⟨fun x hx => nomatch hx⟩
  · rename_i hne
    cases inn with
    | true => exact ⟨fun x hx => by rcases ins_mem.1 hx with rfl | hx; exact hb; exact hs.s x hx⟩
    | false =>
      have hm : d ∈ xs := by
        cases hh : inF xs d with
        | true => exact of_decide_eq_true hh
        | false => exact absurd hh hne
      exact ⟨fun x hx => hs.s x ((del_mem h.up h.ok hm).1 hx).1⟩
/-- A step of the set. -/
theorem set_step {inn : Bool} {xs : List Dv} {d : Dv} (h : Good xs) (hs : Small xs) (hd : d.ok) (hb : d.big = false) (hne : inF xs d ≠ inn) : sb (fun q => if q = d.pl then inn else inPl xs q) = sb (inPl (nxtF inn xs d)) := by
  unfold sb
  refine List.map_congr_left fun q hq => ?_
  have hq := List.mem_range.1 hq
  obtain ⟨a, b, c⟩ := dvAt_ok hq
  have e1 := inPl_in (xs := nxtF inn xs d) (nxt_good h hd).ok (nxt_small h hs hb) a b
  have e2 := inPl_in (xs := xs) h.ok hs a b
  rw [c] at e1 e2
  rw [e1, e2]
  have hiff : q = d.pl ↔ dvAt q = d := ⟨fun e => pl_inj a hd b hb (by rw [c]; exact e), fun e => by rw [← c, e]⟩
  unfold nxtF
  rw [if_neg hne]
  cases inn with
  | true =>
    unfold inF
    by_cases e : q = d.pl
    · rw [if_pos e]; exact (decide_eq_true (ins_mem.2 (.inl (hiff.1 e)))).symm
    · rw [if_neg e]
      simp only [if_true, ins_mem]
      have : ¬ dvAt q = d := fun h => e (hiff.2 h)
      simp [this]
  | false =>
    have hm : d ∈ xs := by
      cases hh : inF xs d with
      | true => exact of_decide_eq_true hh
      | false => exact absurd hh hne
    unfold inF
    simp only [Bool.false_eq_true, if_false, del_mem h.up h.ok hm]
    by_cases e : q = d.pl
    · rw [if_pos e]; simp [hiff.1 e]
    · rw [if_neg e]
      have : ¬ dvAt q = d := fun h => e (hiff.2 h)
      simp [this]
end Go.Proofs.Ytfdnnlcfolgegaa
