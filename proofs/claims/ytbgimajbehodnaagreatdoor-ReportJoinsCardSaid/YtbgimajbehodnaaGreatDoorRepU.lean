/- Tables in plain Lean. -/
import Derived.Test.YtbgimajbehodnaaGreatDoorRepM
import Derived.Test.YtbgimajbehodnaaGreatDoorRepV
import Derived.Test.YtbgimajbehodnaaGreatDoorLibSt
namespace Go.Proofs.YtbgimajbehodnaaGreatDoor
open Go Go.RowKit
theorem decI_len {u : Nat} (h : u < 18446744073709551616) : 1 ≤ (decI u).length ∧ (decI u).length ≤ 20 := by
  have e : (decI u).length = Lib.nDigits u := by unfold decI; rw [List.length_map, Lib.decDigits_length]
  rw [e]
  refine ⟨Lib.nDigits_pos u, ?_⟩
  by_cases h0 : u = 0
  · subst h0; rw [Lib.nDigits_small (by decide)]; decide
  · have := Lib.numDigits_eq u (by omega) h
    split at this <;> omega
theorem decI_bytes (u : Nat) : Bytes (decI u) := fun x hx => by have := decI_dig u x hx; omega
def headI : List Int := [112, 101, 101, 114, 32, 99, 97, 108, 108, 115, 32, 111, 117, 116, 32, 116, 97, 108, 107, 101, 100, 32, 116, 105, 99, 107, 115, 32, 108, 111, 110, 103, 101, 115, 116, 32, 109, 105, 115, 115, 101, 100, 10]
theorem headI_bytes : Bytes headI := by unfold Bytes headI; decide
theorem headI_len : headI.length = 43 := rfl
/-- The numbers of a sum. -/
def smN (s : Sm) : List Int := [s.n, s.o, s.t, s.tk, s.lg, s.oc.getD 3 0]
def numI (l : List Int) : List Int := l.flatMap fun n => 32 :: decI n.toNat
def lineI (p : Int) (l : List Int) : List Int := decI p.toNat ++ numI l ++ [10]
def rowsI (l : List (Int × Sm)) : List Int := l.flatMap fun q => lineI q.1 (smN q.2)
def tabI (xs : List Rc) : List Int := headI ++ rowsI (byV (fun r => r.peer) xs)
theorem smN_ok {s : Sm} (h : s.ok) : ∀ x ∈ smN s, U64 x := by
  have h3 : U64 (s.oc.getD 3 0) := by
    have hl := h.ol
    rw [List.getD_eq_getElem?_getD, List.getElem?_eq_getElem (by omega)]
    exact h.oc _ (List.getElem_mem _)
  intro x hx
  simp only [smN, List.mem_cons, List.not_mem_nil, or_false] at hx
  rcases hx with rfl | rfl | rfl | rfl | rfl | rfl
  · exact h.n
  · exact h.o
  · exact h.t
  · exact h.tk
  · exact h.lg
  · exact h3
theorem numI_len {l : List Int} (h : ∀ x ∈ l, U64 x) : (numI l).length ≤ 21 * l.length := by
  induction l with
  | nil => exact Nat.le_refl _
  | cons x l ih =>
    have h1 := decI_len (u := x.toNat) (by have := h x (by simp); unfold U64 at this; omega)
    have h2 := ih fun y hy => h y (List.mem_cons_of_mem _ hy)
    unfold numI at h2 ⊢
    simp only [List.flatMap_cons, List.length_append, List.length_cons]
    omega
theorem numI_snoc (l : List Int) (x : Int) : numI (l ++ [x]) = numI l ++ (32 :: decI x.toNat) := by simp [numI]
theorem numI_bytes (l : List Int) : Bytes (numI l) := fun x hx => by
  simp only [numI, List.mem_flatMap, List.mem_cons] at hx
  obtain ⟨n, _, rfl | h⟩ := hx
  · decide
  · exact decI_bytes _ x h
theorem lineI_len {p : Int} {l : List Int} (hp : U8 p) (hl : l.length = 6) (h : ∀ x ∈ l, U64 x) : (lineI p l).length ≤ 150 := by
  have h1 := decI_len (u := p.toNat) (by unfold U8 at hp; omega)
  have h2 := numI_len h
  unfold lineI
  simp only [List.length_append, List.length_cons, List.length_nil]
  omega
theorem bytes10 : Bytes [10] := by unfold Bytes; decide
theorem bytes32 : Bytes [32] := by unfold Bytes; decide
theorem lineI_bytes (p : Int) (l : List Int) : Bytes (lineI p l) := ((decI_bytes _).app (numI_bytes l)).app bytes10
theorem rowsI_bytes (l : List (Int × Sm)) : Bytes (rowsI l) := fun x hx => by
  simp only [rowsI, List.mem_flatMap] at hx
  obtain ⟨q, _, h⟩ := hx
  exact lineI_bytes _ _ x h
theorem tabI_bytes (xs : List Rc) : Bytes (tabI xs) := headI_bytes.app (rowsI_bytes _)
theorem rowsI_snoc (l : List (Int × Sm)) (q : Int × Sm) : rowsI (l ++ [q]) = rowsI l ++ lineI q.1 (smN q.2) := by simp [rowsI]
theorem rowsI_len {l : List (Int × Sm)} (h : ∀ q ∈ l, U8 q.1 ∧ q.2.ok) : (rowsI l).length ≤ 150 * l.length := by
  induction l with
  | nil => exact Nat.le_refl _
  | cons q l ih =>
    have h1 := lineI_len (l := smN q.2) (h q (by simp)).1 rfl (smN_ok (h q (by simp)).2)
    have h2 := ih fun y hy => h y (List.mem_cons_of_mem _ hy)
    unfold rowsI at h2 ⊢
    simp only [List.flatMap_cons, List.length_append, List.length_cons]
    omega
theorem byV_ok {key : Rc → Int} {xs : List Rc} (h : ∀ r ∈ xs, r.ok) {q : Int × Sm} (hq : q ∈ byV key xs) : (∃ r ∈ xs, key r = q.1) ∧ q.2.ok := by
  obtain ⟨k, hk, rfl⟩ := List.mem_map.1 hq
  exact ⟨(byK_mem key).1 hk, sumS_ok (selS_ok key h k)⟩
theorem byV_u8 {xs : List Rc} (h : ∀ r ∈ xs, r.ok) : ∀ q ∈ byV (fun r => r.peer) xs, U8 q.1 ∧ q.2.ok := fun q hq => by
  obtain ⟨⟨r, hr, e⟩, h2⟩ := byV_ok h hq
  exact ⟨e ▸ (h r hr).peer, h2⟩
end Go.Proofs.YtbgimajbehodnaaGreatDoor
