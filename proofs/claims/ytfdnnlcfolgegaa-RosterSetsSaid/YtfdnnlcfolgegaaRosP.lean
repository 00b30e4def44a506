/- Rosters: plain definitions and laws: members in order, joining, leaving, the reference's set. -/
import Derived.Test.YtfdnnlcfolgegaaRosB
namespace Go.Proofs.Ytfdnnlcfolgegaa
open Go Go.RowKit

def Dv.key (x : Dv) : Int := x.a * 256 + x.d
theorem cmpF_lt {x y : Int} : cmpF x y < 0 ↔ x < y := by unfold cmpF; split <;> (try split) <;> omega
theorem cmpF_eq {x y : Int} : cmpF x y = 0 ↔ x = y := by unfold cmpF; split <;> (try split) <;> omega
theorem cmpF_le {x y : Int} : 0 ≤ cmpF x y ↔ y ≤ x := by unfold cmpF; split <;> (try split) <;> omega
theorem ord_key {x y : Dv} (hx : x.ok) (hy : y.ok) : ordF x y = cmpF x.key y.key := by
  obtain ⟨xa, xd⟩ := x
  obtain ⟨ya, yd⟩ := y
  obtain ⟨⟨a1, a2⟩, a3, a4⟩ := hx
  obtain ⟨⟨b1, b2⟩, b3, b4⟩ := hy
  dsimp only at *
  unfold ordF Dv.key cmpF
  dsimp only
  repeat' split
  all_goals omega
theorem key_inj {x y : Dv} (hx : x.ok) (hy : y.ok) (h : x.key = y.key) : x = y := by
  obtain ⟨xa, xd⟩ := x
  obtain ⟨ya, yd⟩ := y
  obtain ⟨⟨a1, a2⟩, a3, a4⟩ := hx
  obtain ⟨⟨b1, b2⟩, b3, b4⟩ := hy
  unfold Dv.key at h
  dsimp only at *
  obtain rfl : xa = ya := by omega
  obtain rfl : xd = yd := by omega
  rfl
def DOk (xs : List Dv) : Prop := ∀ x ∈ xs, x.ok
def Up (xs : List Dv) : Prop := xs.Pairwise fun x y => x.key < y.key
def d0 : Dv := ⟨0, 0⟩
/-- Do they rise? As the code asks. -/
def upB (xs : List Dv) : Bool := (List.range xs.length).all fun j => decide (j = 0) || decide (ordF (xs.getD (j - 1) d0) (xs.getD j d0) < 0)
theorem getD_at {xs : List Dv} {j : Nat} {x : Dv} (h : xs[j]? = some x) : xs.getD j d0 = x := by simp [List.getD, h]
theorem up_iff {xs : List Dv} (h : DOk xs) : upB xs = true ↔ Up xs := by
  unfold upB Up
  rw [List.all_eq_true]
  constructor
  · intro hh
    have key : ∀ j, j + 1 < xs.length → (xs.getD j d0).key < (xs.getD (j + 1) d0).key := by
      intro j hj
      have := hh (j + 1) (List.mem_range.2 hj)
      simp only [Nat.add_one_ne_zero, decide_false, Bool.false_or, decide_eq_true_eq, Nat.add_sub_cancel] at this
      have h1 : (xs.getD j d0).ok := by rw [getD_at (List.getElem?_eq_getElem (show j < xs.length by omega))]; exact h _ (List.getElem_mem _)
      have h2 : (xs.getD (j + 1) d0).ok := by rw [getD_at (List.getElem?_eq_getElem hj)]; exact h _ (List.getElem_mem _)
      rw [ord_key h1 h2] at this
      exact cmpF_lt.1 this
    rw [List.pairwise_iff_getElem]
    intro i j hi hj hij
    induction j with
    | zero => omega
    | succ j ih =>
      have k1 := key j hj
      rw [getD_at (List.getElem?_eq_getElem (show j < xs.length by omega)), getD_at (List.getElem?_eq_getElem hj)] at k1
      by_cases e : i = j
      · subst e; exact k1
      · have := ih (by omega) (by omega); omega
  · intro hp j hj
    have hj := List.mem_range.1 hj
    cases j with
    | zero => rfl
    | succ j =>
      have h1 : (xs.getD j d0).ok := by rw [getD_at (List.getElem?_eq_getElem (show j < xs.length by omega))]; exact h _ (List.getElem_mem _)
      have h2 : (xs.getD (j + 1) d0).ok := by rw [getD_at (List.getElem?_eq_getElem hj)]; exact h _ (List.getElem_mem _)
      simp only [Nat.add_one_ne_zero, decide_false, Bool.false_or, decide_eq_true_eq, Nat.add_sub_cancel]
      rw [ord_key h1 h2, cmpF_lt, getD_at (List.getElem?_eq_getElem (show j < xs.length by omega)), getD_at (List.getElem?_eq_getElem hj)]
      exact List.pairwise_iff_getElem.1 hp j (j + 1) (by omega) hj (by omega)
def mayF (e : Int) (xs : List Dv) : Bool := !(decide (e < 1)) && !(decide (1099511627776 < e)) && !(decide (32 < xs.length)) && !xs.any Dv.big && upB xs

/-! ### Where a device stands -/
def ltF (d : Dv) (x : Dv) : Bool := decide (x.key < d.key)
def gtF (d : Dv) (x : Dv) : Bool := decide (d.key < x.key)
def posF (xs : List Dv) (d : Dv) : Nat := (xs.filter (ltF d)).length
theorem take_pos {xs : List Dv} (h : Up xs) (d : Dv) : xs.take (posF xs d) = xs.filter (ltF d) ∧ xs.drop (posF xs d) = xs.filter (fun x => !ltF d x) := by
  induction xs with
  | nil => simp [posF]
  | cons x xs ih =>
    obtain ⟨h1, h2⟩ := List.pairwise_cons.1 h
    obtain ⟨i1, i2⟩ := ih h2
    cases hx : ltF d x with
    | true =>
      have e : posF (x :: xs) d = posF xs d + 1 := by simp [posF, hx]
      rw [e]
      simp [hx, i1, i2]
    | false =>
      have hall : ∀ y ∈ xs, ltF d y = false := fun y hy => by
        have := h1 y hy
        simp only [ltF, decide_eq_false_iff_not] at hx ⊢
        omega
      have e0 : xs.filter (ltF d) = [] := List.filter_eq_nil_iff.2 fun y hy => by simp [hall y hy]
      have e : posF (x :: xs) d = 0 := by simp [posF, hx, e0]
      rw [e]
      have e1 : xs.filter (fun x => !ltF d x) = xs := List.filter_eq_self.2 fun y hy => by simp [hall y hy]
      simp [hx, e0, e1]
theorem pos_le (xs : List Dv) (d : Dv) : posF xs d ≤ xs.length := List.length_filter_le _ _
/-- The place that a search finds. -/
theorem pos_of {xs : List Dv} (h : Up xs) {d : Dv} {i : Nat} (hi : i ≤ xs.length) (h1 : ∀ j x, j < i → xs[j]? = some x → x.key < d.key) (h2 : ∀ j x, i ≤ j → xs[j]? = some x → d.key ≤ x.key) : i = posF xs d := by
  have e : xs.filter (ltF d) = xs.take i := by
    conv => lhs; rw [← List.take_append_drop i xs]
    rw [List.filter_append]
    have a1 : (xs.take i).filter (ltF d) = xs.take i := by
      rw [List.filter_eq_self]
      intro x hx
      obtain ⟨j, hj⟩ := List.getElem?_of_mem hx
      rw [List.getElem?_take] at hj
      split at hj
      · rename_i hlt; exact decide_eq_true (h1 j x hlt hj)
      · cases hj
    have a2 : (xs.drop i).filter (ltF d) = [] := by
      rw [List.filter_eq_nil_iff]
      intro x hx
      obtain ⟨j, hj⟩ := List.getElem?_of_mem hx
      rw [List.getElem?_drop] at hj
      have := h2 _ x (by omega) hj
      simp only [ltF, decide_eq_true_eq]
      omega
    rw [a1, a2, List.append_nil]
  unfold posF
  rw [e, List.length_take]; omega
theorem pos_lt {xs : List Dv} (h : Up xs) (d : Dv) {j : Nat} {x : Dv} (hx : xs[j]? = some x) : j < posF xs d ↔ x.key < d.key := by
  obtain ⟨t1, t2⟩ := take_pos h d
  have hle := pos_le xs d
  constructor
  · intro hj
    have : x ∈ xs.take (posF xs d) := by
      apply List.mem_of_getElem? (i := j); rw [List.getElem?_take, if_pos hj]; exact hx
    rw [t1] at this
    exact of_decide_eq_true (List.mem_filter.1 this).2
  · intro hk
    apply Nat.lt_of_not_le
    intro hj
    have : x ∈ xs.drop (posF xs d) := by
      apply List.mem_of_getElem? (i := j - posF xs d); rw [List.getElem?_drop, show posF xs d + (j - posF xs d) = j by omega]; exact hx
    rw [t2] at this
    have := (List.mem_filter.1 this).2
    simp only [ltF, Bool.not_eq_true', decide_eq_false_iff_not] at this
    exact this hk
def inF (xs : List Dv) (d : Dv) : Bool := decide (d ∈ xs)
/-- Is it there? As the search tells. -/
theorem in_pos {xs : List Dv} (h : Up xs) (ho : DOk xs) {d : Dv} (hd : d.ok) : inF xs d = match xs[posF xs d]? with | some x => decide (ordF x d = 0) | none => false := by
  unfold inF
  cases hx : xs[posF xs d]? with
  | some x =>
    have hxm := List.mem_of_getElem? hx
    by_cases hk : x.key = d.key
    · have e := key_inj (ho x hxm) hd hk
      subst e
      simp [hxm, ord_key hd hd, cmpF]
    · have hn : ¬ d ∈ xs := by
        intro hm
        obtain ⟨j, hj⟩ := List.getElem?_of_mem hm
        have h1 := (pos_lt h d hj)
        have h2 := (pos_lt h d hx)
        have hj2 : ¬ j < posF xs d := fun e => by have := h1.1 e; omega
        by_cases e : j = posF xs d
        · subst e; rw [hx] at hj; cases hj; exact hk rfl
        · obtain ⟨l1, e1⟩ := List.getElem?_eq_some_iff.1 hj
          obtain ⟨l2, e2⟩ := List.getElem?_eq_some_iff.1 hx
          have := List.pairwise_iff_getElem.1 h (posF xs d) j l2 l1 (by omega)
          rw [e1, e2] at this
          have : ¬ x.key < d.key := fun e => by have := h2.2 e; omega
          omega
      rw [decide_eq_false hn]
      show false = decide (ordF x d = 0)
      rw [ord_key (ho x hxm) hd]
      exact (decide_eq_false (by rw [cmpF_eq]; exact hk)).symm
  | none =>
    refine decide_eq_false fun hm => ?_
    obtain ⟨j, hj⟩ := List.getElem?_of_mem hm
    have h1 := (pos_lt h d hj)
    have := List.getElem?_eq_none_iff.1 hx
    have := (List.getElem?_eq_some_iff.1 hj).1
    have := h1.1 (by omega)
    omega
def insF (xs : List Dv) (d : Dv) : List Dv := xs.take (posF xs d) ++ d :: xs.drop (posF xs d)
def delF (xs : List Dv) (d : Dv) : List Dv := xs.take (posF xs d) ++ xs.drop (posF xs d + 1)
theorem ins_mem {xs : List Dv} {d x : Dv} : x ∈ insF xs d ↔ x = d ∨ x ∈ xs := by
  unfold insF
  have : x ∈ xs ↔ x ∈ xs.take (posF xs d) ∨ x ∈ xs.drop (posF xs d) := by rw [← List.mem_append, List.take_append_drop]
  rw [List.mem_append, List.mem_cons, this]
  constructor
  · rintro (h | h | h)
    · exact .inr (.inl h)
    · exact .inl h
    · exact .inr (.inr h)
  · rintro (h | h | h)
    · exact .inr (.inl h)
    · exact .inl h
    · exact .inr (.inr h)
theorem ins_len {xs : List Dv} {d : Dv} : (insF xs d).length = xs.length + 1 := by
  unfold insF
  have := pos_le xs d
  rw [List.length_append, List.length_cons, List.length_take, List.length_drop]; omega
theorem ins_up {xs : List Dv} (h : Up xs) (ho : DOk xs) {d : Dv} (hd : d.ok) (hn : ¬ d ∈ xs) : Up (insF xs d) := by
  obtain ⟨t1, t2⟩ := take_pos h d
  unfold Up insF
  refine List.pairwise_append.2 ⟨h.sublist (List.take_sublist _ _), List.pairwise_cons.2 ⟨?_, h.sublist (List.drop_sublist _ _)⟩, ?_⟩
  · intro y hy
    rw [t2] at hy
    obtain ⟨hy1, hy2⟩ := List.mem_filter.1 hy
    simp only [ltF, Bool.not_eq_true', decide_eq_false_iff_not] at hy2
    have : y.key ≠ d.key := fun e => hn (by rw [← key_inj (ho y hy1) hd e]; exact hy1)
    omega
  · intro y hy z hz
    rw [t1] at hy
    have hyd : y.key < d.key := of_decide_eq_true (List.mem_filter.1 hy).2
    rcases List.mem_cons.1 hz with rfl | hz
    · exact hyd
    · rw [t2] at hz
      have := (List.mem_filter.1 hz).2
      simp only [ltF, Bool.not_eq_true', decide_eq_false_iff_not] at this
      omega
theorem pos_at {xs : List Dv} (h : Up xs) (ho : DOk xs) {d : Dv} (hd : d ∈ xs) : xs[posF xs d]? = some d := by
  have h1 := in_pos h ho (ho d hd)
  unfold inF at h1
  rw [decide_eq_true hd] at h1
  cases hx : xs[posF xs d]? with
  | none => rw [hx] at h1; cases h1
  | some x =>
    rw [hx] at h1
    have := of_decide_eq_true h1.symm
    rw [ord_key (ho x (List.mem_of_getElem? hx)) (ho d hd), cmpF_eq] at this
    rw [key_inj (ho x (List.mem_of_getElem? hx)) (ho d hd) this]
theorem del_mem {xs : List Dv} (h : Up xs) (ho : DOk xs) {d x : Dv} (hd : d ∈ xs) : x ∈ delF xs d ↔ x ∈ xs ∧ x ≠ d := by
  have hp := pos_at h ho hd
  obtain ⟨hl, he⟩ := List.getElem?_eq_some_iff.1 hp
  have e : xs = xs.take (posF xs d) ++ d :: xs.drop (posF xs d + 1) := by
    conv => lhs; rw [← List.take_append_drop (posF xs d) xs]
    rw [List.drop_eq_getElem_cons hl, he]
  have hpw : (xs.take (posF xs d) ++ d :: xs.drop (posF xs d + 1)).Pairwise (fun x y => x.key < y.key) := e ▸ h
  obtain ⟨p1, p2, p3⟩ := List.pairwise_append.1 hpw
  obtain ⟨p4, p5⟩ := List.pairwise_cons.1 p2
  unfold delF
  constructor
  · intro hx
    rcases List.mem_append.1 hx with hx | hx
    · exact ⟨List.mem_of_mem_take hx, fun e => by subst e; have := p3 x hx x (by simp); omega⟩
    · exact ⟨List.mem_of_mem_drop hx, fun e => by subst e; have := p4 x hx; omega⟩
  · rintro ⟨hx, hne⟩
    rw [e] at hx
    rcases List.mem_append.1 hx with hx | hx
    · exact List.mem_append.2 (.inl hx)
    · rcases List.mem_cons.1 hx with hx | hx
      · exact absurd hx hne
      · exact List.mem_append.2 (.inr hx)
theorem del_up {xs : List Dv} (h : Up xs) (d : Dv) : Up (delF xs d) := by
  unfold delF Up
  refine h.sublist ?_
  conv => rhs; rw [← List.take_append_drop (posF xs d) xs]
  refine List.Sublist.append (List.Sublist.refl _) ?_
  rw [← List.drop_drop]
  exact List.drop_sublist _ _
theorem del_len {xs : List Dv} (h : Up xs) (ho : DOk xs) {d : Dv} (hd : d ∈ xs) : (delF xs d).length + 1 = xs.length := by
  have := (List.getElem?_eq_some_iff.1 (pos_at h ho hd)).1
  unfold delF
  rw [List.length_append, List.length_take, List.length_drop]; omega

/-! ### One step, many steps -/
def errF (inn : Bool) (xs : List Dv) (d : Dv) : Int := if inF xs d = inn then (if inn then 6 else 4) else 0
def nxtF (inn : Bool) (xs : List Dv) (d : Dv) : List Dv := if inF xs d = inn then [] else if inn then insF xs d else delF xs d
structure Good (xs : List Dv) : Prop where
  up : Up xs
  ok : DOk xs
theorem nxt_good {inn : Bool} {xs : List Dv} {d : Dv} (h : Good xs) (hd : d.ok) : Good (nxtF inn xs d) := by
  unfold nxtF
  split
  · exact ⟨.nil, (fun x hx => nomatch hx)⟩
  · rename_i hne
    cases inn with
    | true =>
      have hn : ¬ d ∈ xs := fun e => hne (decide_eq_true e)
      exact ⟨ins_up h.up h.ok hd hn, fun x hx => by rcases ins_mem.1 hx with rfl | hx; exact hd; exact h.ok x hx⟩
    | false =>
      have hm : d ∈ xs := by
        cases hh : inF xs d with
        | true => exact of_decide_eq_true hh
        | false => exact absurd hh hne
      exact ⟨del_up h.up d, fun x hx => h.ok x ((del_mem h.up h.ok hm).1 hx).1⟩
theorem nxt_len {inn : Bool} {xs : List Dv} {d : Dv} : (nxtF inn xs d).length ≤ xs.length + 1 := by
  unfold nxtF
  split
  · simp
  · split
    · rw [ins_len]
      omega
    · unfold delF
      rw [List.length_append, List.length_take, List.length_drop]; omega
/-- What of a list was done: the error, and the members then. -/
def runF (inn : Bool) : List Dv → List Dv → Int × List Dv
  | ms, [] => (0, ms)
  | ms, d :: l => if errF inn ms d ≠ 0 then (errF inn ms d, []) else runF inn (nxtF inn ms d) l
end Go.Proofs.Ytfdnnlcfolgegaa
