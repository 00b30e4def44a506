/- Keys: their order, sets of them; in plain Lean. -/
import Derived.Test.YtcplbkbimpiioaaGreatDoorLibSt
import Derived.Test.YtcplbkbimpiioaaGreatDoorLibCb
import Derived.Test.YtcplbkbimpiioaaGreatDoorLibQ
import Derived.Sort.AssemblyPlain
namespace Go.Proofs.YtcplbkbimpiioaaGreatDoor
open Go Go.RowKit Go.Sort

/-! ### Rows of numbers, one behind the other -/
theorem lexF_self : ∀ xs : List Int, lexF xs xs = 0
  | [] => rfl
  | x :: xs => by
    show (if x < x then (-1 : Int) else if x < x then 1 else lexF xs xs) = 0
    rw [if_neg (by omega), if_neg (by omega), lexF_self xs]
theorem lexF_neg : ∀ xs ys : List Int, lexF ys xs = - lexF xs ys
  | [], [] => rfl
  | [], _ :: _ => rfl
  | _ :: _, [] => rfl
  | x :: xs, y :: ys => by
    show (if y < x then (-1 : Int) else if x < y then 1 else lexF ys xs) = - (if x < y then (-1 : Int) else if y < x then 1 else lexF xs ys)
    rw [lexF_neg xs ys]
    rcases Int.lt_trichotomy x y with h | rfl | h
    · rw [if_neg (by omega), if_pos h, if_pos h]; rfl
    · rw [if_neg (by omega), if_neg (by omega), if_neg (by omega), if_neg (by omega)]
    · rw [if_pos h, if_neg (by omega), if_pos h]
theorem lexF_eq : ∀ {xs ys : List Int}, lexF xs ys = 0 → xs = ys
  | [], [], _ => rfl
  | [], _ :: _, h => by cases h
  | _ :: _, [], h => by cases h
  | x :: xs, y :: ys, h => by
    have h2 : (if x < y then (-1 : Int) else if y < x then 1 else lexF xs ys) = 0 := h
    rcases Int.lt_trichotomy x y with hx | rfl | hx
    · rw [if_pos hx] at h2; cases h2
    · rw [if_neg (by omega), if_neg (by omega)] at h2
      rw [lexF_eq h2]
    · rw [if_neg (by omega), if_pos hx] at h2; cases h2
theorem lexF_le : ∀ {xs ys zs : List Int}, lexF xs ys ≤ 0 → lexF ys zs ≤ 0 → lexF xs zs ≤ 0
  | [], _, [], _, _ => by decide
  | [], _, _ :: _, _, _ => by show (-1 : Int) ≤ 0; decide
  | _ :: _, [], _, h, _ => absurd h (by show ¬ (1 : Int) ≤ 0; decide)
  | _ :: _, _ :: _, [], _, h => absurd h (by show ¬ (1 : Int) ≤ 0; decide)
  | x :: xs, y :: ys, z :: zs, h1, h2 => by
    have e1 : (if x < y then (-1 : Int) else if y < x then 1 else lexF xs ys) ≤ 0 := h1
    have e2 : (if y < z then (-1 : Int) else if z < y then 1 else lexF ys zs) ≤ 0 := h2
    show (if x < z then (-1 : Int) else if z < x then 1 else lexF xs zs) ≤ 0
    rcases Int.lt_trichotomy x y with a | rfl | a
    · rcases Int.lt_trichotomy y z with b | rfl | b
      · rw [if_pos (by omega)]; decide
      · rw [if_pos a]; decide
      · rw [if_neg (by omega), if_pos b] at e2; exact absurd e2 (by decide)
    · rw [if_neg (by omega), if_neg (by omega)] at e1
      rcases Int.lt_trichotomy x z with b | rfl | b
      · rw [if_pos b]; decide
      · rw [if_neg (by omega), if_neg (by omega)] at e2 ⊢
        exact lexF_le e1 e2
      · rw [if_neg (by omega), if_pos b] at e2; exact absurd e2 (by decide)
    · rw [if_neg (by omega), if_pos a] at e1; exact absurd e1 (by decide)

/-! ### Keys -/
@[ext] structure Ky where
  b : List Int
  len : b.length = 32
  by8 : Bytes b
instance : DecidableEq Ky := fun a b => if h : a.b = b.b then isTrue (Ky.ext h) else isFalse fun e => h (e ▸ rfl)
def Ky.zero : Ky := ⟨List.replicate 32 0, by simp, fun x hx => by rw [List.eq_of_mem_replicate hx]; decide⟩
instance : Inhabited Ky := ⟨Ky.zero⟩
def Ky.cells (k : Ky) : List Value := ints .u8 k.b
def kyV (k : Ky) : Value := .agg k.cells.toArray
theorem Ky.clen (k : Ky) : k.cells.length = 32 := by unfold Ky.cells; rw [ints_length, k.len]
theorem Ky.ones (k : Ky) : ∀ u ∈ k.cells, u.oneCell' = true := ints_one _ _
theorem kyV_cells (k : Ky) : (kyV k).cells.toList = k.cells := by simp [kyV, Value.cells]
def ltK (x y : Ky) : Bool := decide (lexF x.b y.b < 0)
theorem ltK_iff {x y : Ky} : ltK x y = true ↔ lexF x.b y.b < 0 := by unfold ltK; simp
theorem ltK_no {x y : Ky} : ltK x y = false ↔ lexF y.b x.b ≤ 0 := by unfold ltK; rw [decide_eq_false_iff_not, lexF_neg x.b y.b]; omega
theorem ltK_irr (x : Ky) : ltK x x = false := by rw [ltK_no, lexF_self]; decide
theorem ltK_eq {x y : Ky} (h1 : ltK x y = false) (h2 : ltK y x = false) : x = y := by
  rw [ltK_no] at h1 h2
  have := lexF_neg x.b y.b
  exact Ky.ext (lexF_eq (by omega))
theorem ltK_ntrans {x y z : Ky} (h1 : ltK x y = false) (h2 : ltK y z = false) : ltK x z = false := by
  rw [ltK_no] at h1 h2 ⊢
  exact lexF_le h2 h1
theorem ltK_asym {x y : Ky} (h : ltK x y = true) : ltK y x = false := by
  rw [ltK_iff] at h
  rw [ltK_no]
  omega
theorem ltK_trans {x y z : Ky} (h1 : ltK x y = true) (h2 : ltK y z = true) : ltK x z = true := by
  cases h : ltK x z
  · exact absurd (ltK_ntrans h (ltK_asym h2)) (by rw [h1]; decide)
  · rfl
theorem ltK_lt_le {x y z : Ky} (h1 : ltK y x = false) (h2 : ltK y z = true) : ltK x z = true := by
  cases h : ltK x z
  · exact absurd (ltK_ntrans h1 h) (by rw [h2]; decide)
  · rfl
theorem swoK : SWO ltK := ⟨ltK_irr, fun _ _ _ => ltK_trans, fun _ _ _ => ltK_ntrans⟩

/-! ### Sorted; each once -/
def ascK (l : List Ky) : List Ky := l.mergeSort (fun x y => !ltK y x)
theorem ascK_perm (l : List Ky) : (ascK l).Perm l := List.mergeSort_perm _ _
theorem ascK_len (l : List Ky) : (ascK l).length = l.length := (ascK_perm l).length_eq
theorem ascK_sorted (l : List Ky) : (ascK l).Pairwise (fun x y => ltK y x = false) := by
  have := List.pairwise_mergeSort (le := fun (x y : Ky) => !ltK y x) (fun a b c h1 h2 => by simp only [Bool.not_eq_true'] at *; exact ltK_ntrans h2 h1) (fun a b => by
    cases h : ltK b a
    · rfl
    · rw [ltK_asym h]; rfl) l
  exact this.imp (fun h => by simpa using h)
/-- A set: ascending, each once. -/
def Asc (l : List Ky) : Prop := l.Pairwise (fun x y => ltK x y = true)
theorem Asc.uniq : ∀ {xs ys : List Ky}, Asc xs → Asc ys → (∀ x, x ∈ xs ↔ x ∈ ys) → xs = ys
  | [], [], _, _, _ => rfl
  | [], y :: ys, _, _, h => by have := (h y).2 (by simp); simp at this
  | x :: xs, [], _, _, h => by have := (h x).1 (by simp); simp at this
  | x :: xs, y :: ys, h1, h2, h => by
    have a1 := List.pairwise_cons.1 h1
    have a2 := List.pairwise_cons.1 h2
    have e : x = y := by
      have m1 := (h x).1 (by simp)
      have m2 := (h y).2 (by simp)
      rcases List.mem_cons.1 m1 with e | m1
      · exact e
      · rcases List.mem_cons.1 m2 with e | m2
        · exact e.symm
        · have := ltK_asym (a1.1 y m2)
          rw [a2.1 x m1] at this
          cases this
    subst e
    congr 1
    refine Asc.uniq a1.2 a2.2 fun z => ?_
    constructor
    · intro hz
      rcases List.mem_cons.1 ((h z).1 (List.mem_cons_of_mem _ hz)) with e | m
      · subst e; have := a1.1 z hz; rw [ltK_irr] at this; cases this
      · exact m
    · intro hz
      rcases List.mem_cons.1 ((h z).2 (List.mem_cons_of_mem _ hz)) with e | m
      · subst e; have := a2.1 z hz; rw [ltK_irr] at this; cases this
      · exact m
/-- What stands once, where a row ascends. -/
def compK : List Ky → List Ky
  | [] => []
  | x :: l => if l.head? = some x then compK l else x :: compK l
theorem compK_mem : ∀ (l : List Ky) (x : Ky), x ∈ compK l ↔ x ∈ l
  | [], _ => Iff.rfl
  | y :: l, x => by
    unfold compK
    split
    · rename_i h
      rw [compK_mem l x, List.mem_cons]
      constructor
      · exact .inr
      · rintro (rfl | h2)
        · cases l with
          | nil => cases h
          | cons z l => cases h; exact List.mem_cons_self
        · exact h2
    · rw [List.mem_cons, List.mem_cons, compK_mem l x]
theorem compK_asc : ∀ {l : List Ky}, l.Pairwise (fun x y => ltK y x = false) → Asc (compK l)
  | [], _ => List.Pairwise.nil
  | x :: l, h => by
    have h2 := List.pairwise_cons.1 h
    unfold compK
    split
    · exact compK_asc h2.2
    · rename_i hne
      refine List.pairwise_cons.2 ⟨fun y hy => ?_, compK_asc h2.2⟩
      rw [compK_mem] at hy
      cases l with
      | nil => cases hy
      | cons z l =>
        have hz : z ≠ x := fun e => hne (by rw [e]; rfl)
        have hxz := h2.1 z (by simp)
        have hlt : ltK x z = true := by
          cases e : ltK x z
          · exact absurd (ltK_eq hxz e) hz
          · rfl
        rcases List.mem_cons.1 hy with rfl | hy
        · exact hlt
        · have := (List.pairwise_cons.1 h2.2).1 y hy
          cases e : ltK x y
          · exact absurd (ltK_ntrans e this) (by rw [hlt]; decide)
          · rfl
/-- The set of keys. -/
def setK (l : List Ky) : List Ky := compK (ascK l)
theorem setK_mem (l : List Ky) (x : Ky) : x ∈ setK l ↔ x ∈ l := by unfold setK; rw [compK_mem, (ascK_perm l).mem_iff]
theorem setK_asc (l : List Ky) : Asc (setK l) := compK_asc (ascK_sorted l)
theorem setK_is {l zs : List Ky} (h1 : Asc zs) (h2 : ∀ x, x ∈ zs ↔ x ∈ l) : zs = setK l := Asc.uniq h1 (setK_asc l) fun x => by rw [h2, setK_mem]
theorem setK_congr {l l' : List Ky} (h : ∀ x, x ∈ l ↔ x ∈ l') : setK l = setK l' := setK_is (setK_asc l) fun x => by rw [setK_mem, h]
theorem setK_idem (l : List Ky) : setK (setK l) = setK l := setK_congr fun x => setK_mem l x
theorem compK_len : ∀ l : List Ky, (compK l).length ≤ l.length
  | [] => Nat.le_refl _
  | x :: l => by
    have := compK_len l
    unfold compK
    split
    · rw [List.length_cons]; omega
    · rw [List.length_cons, List.length_cons]; omega
theorem setK_len (l : List Ky) : (setK l).length ≤ l.length := by have := compK_len (ascK l); rwa [ascK_len] at this
theorem setK_ne {l : List Ky} (h : 0 < l.length) : 0 < (setK l).length := by
  cases l with
  | nil => cases h
  | cons x l =>
    have := (setK_mem (x :: l) x).2 (by simp)
    exact List.length_pos_of_mem this

/-! ### Sorted by the library's way -/
theorem insK {D : Array Ky} : (insertionSort ltK D 0 D.size).toList = ascK D.toList :=
  sorted_unique_holds swoK (fun _ _ => ltK_eq) D _ (insertionSort_holds (lt := ltK) swoK D 0 D.size (Nat.zero_le _) (Nat.le_refl _)).1 (insertionSort_holds (lt := ltK) swoK D 0 D.size (Nat.zero_le _) (Nat.le_refl _)).2
/-! ### What slices.Compact has come to -/
structure CompS (xs zs : List Ky) (k m : Nat) : Prop where
  len : zs.length = xs.length
  k1 : 1 ≤ k
  km : k + 1 ≤ m
  mn : m ≤ xs.length
  tail : ∀ j, m ≤ j + 1 → zs[j]? = xs[j]?
  mem : ∀ x, x ∈ zs.take k ↔ x ∈ xs.take m
  asc : Asc (zs.take k)
theorem take_snocK {α : Type} {xs : List α} {m : Nat} {y : α} (h : xs[m]? = some y) : xs.take (m + 1) = xs.take m ++ [y] := by
  rw [List.take_add_one, h]; rfl
theorem take_mem_snocK {xs : List Ky} {m : Nat} {y : Ky} (h : xs[m]? = some y) (x : Ky) : x ∈ xs.take (m + 1) ↔ x ∈ xs.take m ∨ x = y := by
  rw [take_snocK h, List.mem_append, List.mem_singleton]
theorem take_mem_lastK {xs : List Ky} {m : Nat} {y : Ky} (hm : 1 ≤ m) (h : xs[m - 1]? = some y) : y ∈ xs.take m := by
  have := (take_mem_snocK h y).2 (.inr rfl)
  rwa [Nat.sub_add_cancel hm] at this
theorem comp_start {xs : List Ky} {k : Nat} {y : Ky} (hk : 1 ≤ k) (ha : Asc (xs.take k)) (h1 : xs[k]? = some y) (h2 : xs[k - 1]? = some y) : CompS xs xs k (k + 1) := by
  have hl := (List.getElem?_eq_some_iff.1 h1).1
  refine ⟨rfl, hk, Nat.le_refl _, hl, fun _ _ => rfl, fun x => ?_, ha⟩
  rw [take_mem_snocK h1]
  constructor
  · exact .inl
  · rintro (h | rfl)
    · exact h
    · exact take_mem_lastK hk h2
theorem CompS.same {xs zs : List Ky} {k m : Nat} {y : Ky} (h : CompS xs zs k m) (h1 : xs[m]? = some y) (h2 : xs[m - 1]? = some y) : CompS xs zs k (m + 1) := by
  have hl := (List.getElem?_eq_some_iff.1 h1).1
  have hk := h.k1
  have hkm := h.km
  refine ⟨h.len, h.k1, by omega, hl, fun j hj => h.tail j (by omega), fun x => ?_, h.asc⟩
  rw [h.mem, take_mem_snocK h1]
  constructor
  · exact .inl
  · rintro (h | rfl)
    · exact h
    · exact take_mem_lastK (by omega) h2
/-- In an ascending row: what is not the one ahead of it, lies behind all of those. -/
theorem asc_new {xs : List Ky} (hs : xs.Pairwise (fun x y => ltK y x = false)) {m : Nat} {y z : Ky} (hm : 1 ≤ m) (h1 : xs[m]? = some y) (h2 : xs[m - 1]? = some z) (hne : y ≠ z) : ∀ x ∈ xs.take m, ltK x y = true := by
  intro x hx
  obtain ⟨i, hi⟩ := List.mem_iff_getElem?.1 hx
  rw [List.getElem?_take] at hi
  split at hi
  · rename_i him
    obtain ⟨l1, e1⟩ := List.getElem?_eq_some_iff.1 h1
    obtain ⟨l2, e2⟩ := List.getElem?_eq_some_iff.1 h2
    obtain ⟨l3, e3⟩ := List.getElem?_eq_some_iff.1 hi
    have hp := List.pairwise_iff_getElem.1 hs
    have hzy : ltK z y = true := by
      have := hp (m - 1) m l2 l1 (by omega)
      rw [e1, e2] at this
      cases e : ltK z y
      · exact absurd (ltK_eq this e) hne
      · rfl
    by_cases e : i = m - 1
    · subst e
      rw [e2] at e3
      rw [← e3]; exact hzy
    · have := hp i (m - 1) l3 l2 (by omega)
      rw [e3, e2] at this
      exact ltK_lt_le this hzy
  · cases hi
theorem CompS.put {xs zs : List Ky} (hs : xs.Pairwise (fun x y => ltK y x = false)) {k m : Nat} {y z : Ky} (h : CompS xs zs k m) (h1 : xs[m]? = some y) (h2 : xs[m - 1]? = some z) (hne : y ≠ z) : CompS xs (zs.set k y) (k + 1) (m + 1) := by
  have hl := (List.getElem?_eq_some_iff.1 h1).1
  have hk := h.k1
  have hkm := h.km
  have hlen := h.len
  have hz : (zs.set k y)[k]? = some y := by rw [List.getElem?_set_self (by omega)]
  refine ⟨by rw [List.length_set, h.len], by omega, by omega, hl, fun j hj => ?_, fun x => ?_, ?_⟩
  · rw [List.getElem?_set_ne (by omega)]
    exact h.tail j (by omega)
  · rw [take_mem_snocK hz, take_mem_snocK h1, List.take_set_of_le (by omega), h.mem]
  · rw [take_snocK hz, List.take_set_of_le (by omega)]
    refine List.pairwise_append.2 ⟨h.asc, List.pairwise_singleton _ _, fun a ha b hb => ?_⟩
    rw [List.mem_singleton] at hb
    subst hb
    exact asc_new hs (by omega) h1 h2 hne a ((h.mem a).1 ha)
theorem asc_next {xs : List Ky} (hs : xs.Pairwise (fun x y => ltK y x = false)) {k : Nat} {y z : Ky} (hk : 1 ≤ k) (ha : Asc (xs.take k)) (h1 : xs[k]? = some y) (h2 : xs[k - 1]? = some z) (hne : y ≠ z) : Asc (xs.take (k + 1)) := by
  rw [take_snocK h1]
  refine List.pairwise_append.2 ⟨ha, List.pairwise_singleton _ _, fun a hA b hb => ?_⟩
  rw [List.mem_singleton] at hb
  subst hb
  exact asc_new hs hk h1 h2 hne a hA
end Go.Proofs.YtcplbkbimpiioaaGreatDoor
