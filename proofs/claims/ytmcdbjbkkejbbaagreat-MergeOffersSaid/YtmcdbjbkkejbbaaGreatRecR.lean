/- Records in a row: plain laws. -/
import Derived.Test.YtmcdbjbkkejbbaaGreatRecQ
namespace Go.Proofs.YtmcdbjbkkejbbaaGreat
open Go Go.RowKit

/-- How many come at the front that p takes, of n. -/
def leadN : Nat → (Nat → Bool) → Nat
  | 0, _ => 0
  | n + 1, p => if p 0 then leadN n (fun i => p (i + 1)) + 1 else 0

theorem leadN_le : ∀ (n : Nat) (p : Nat → Bool), leadN n p ≤ n
  | 0, _ => Nat.le_refl _
  | n + 1, p => by
    unfold leadN
    have := leadN_le n (fun i => p (i + 1))
    split <;> omega
theorem leadN_go : ∀ (n : Nat) (p : Nat → Bool) (i : Nat), i < leadN n p → p i = true
  | 0, _, i, h => by simp [leadN] at h
  | n + 1, p, i, h => by
    unfold leadN at h
    split at h
    · rename_i h0
      cases i with
      | zero => exact h0
      | succ i => exact leadN_go n (fun i => p (i + 1)) i (by omega)
    · omega
theorem leadN_stop : ∀ (n : Nat) (p : Nat → Bool), leadN n p < n → p (leadN n p) = false
  | 0, _, h => by simp [leadN] at h
  | n + 1, p, h => by
    unfold leadN at h ⊢
    by_cases h0 : p 0 = true
    · rw [if_pos h0] at h ⊢
      exact leadN_stop n (fun i => p (i + 1)) (by omega)
    · rw [if_neg h0]
      cases hp : p 0
      · rfl
      · exact absurd hp h0

def chunk (bs : List Int) (i : Nat) : List Int := (bs.drop (43 * i)).take 43
def recN (bs : List Int) : Nat := leadN (bs.length / 43) (fun i => goodB (chunk bs i))
def recAt (bs : List Int) (i : Nat) : Rc := recOf (chunk bs i)
def recY (bs : List Int) (i : Nat) : Array Value := #[.int .i64 ((43 * i : Nat) : Int), .agg (recAt bs i).cells.toArray]
def recYs (bs : List Int) : List (Array Value) := (List.range (recN bs)).map (recY bs)

theorem recYs_len (bs : List Int) : (recYs bs).length = recN bs := by simp [recYs]
theorem recYs_get {bs : List Int} {i : Nat} (h : i < recN bs) : (recYs bs)[i]? = some (recY bs i) := by simp [recYs, h]
theorem recYs_size {bs : List Int} : ∀ x ∈ recYs bs, x.size = 2 := by
  intro x hx
  obtain ⟨i, _, rfl⟩ := List.mem_map.1 hx
  rfl
theorem recYs_at {bs : List Int} {i : Nat} {x : Array Value} (h : (recYs bs)[i]? = some x) : i < recN bs ∧ x = recY bs i := by
  have hl : i < (recYs bs).length := (List.getElem?_eq_some_iff.1 h).1
  rw [recYs_len] at hl
  rw [recYs_get hl] at h
  exact ⟨hl, (Option.some.inj h).symm⟩
theorem recN_fit {bs : List Int} {i : Nat} (h : i < recN bs) : 43 * i + 43 ≤ bs.length ∧ goodB (chunk bs i) = true := by
  refine ⟨?_, leadN_go _ (fun i => goodB (chunk bs i)) i h⟩
  have := leadN_le (bs.length / 43) (fun i => goodB (chunk bs i))
  unfold recN at h
  have : i < bs.length / 43 := by omega
  omega
theorem recN_le (bs : List Int) : 43 * recN bs ≤ bs.length := by
  have : recN bs ≤ bs.length / 43 := leadN_le (bs.length / 43) (fun i => goodB (chunk bs i))
  omega
theorem recN_end {bs : List Int} {i : Nat} (h : i ≤ recN bs) (hl : ¬ 43 * i + 43 ≤ bs.length) : recN bs = i := by
  by_cases h2 : i < recN bs
  · exact absurd (recN_fit h2).1 hl
  · omega
theorem recN_bad {bs : List Int} {i : Nat} (h : i ≤ recN bs) (hg : goodB (chunk bs i) = false) : recN bs = i := by
  by_cases h2 : i < recN bs
  · have := (recN_fit h2).2
    rw [hg] at this
    cases this
  · omega
theorem recN_more {bs : List Int} {i : Nat} (h : i ≤ recN bs) (hl : 43 * i + 43 ≤ bs.length) (hg : goodB (chunk bs i) = true) : i < recN bs := by
  by_cases h2 : i < recN bs
  · exact h2
  · have e : i = recN bs := by omega
    have := leadN_stop (bs.length / 43) (fun i => goodB (chunk bs i)) (by show recN bs < _; omega)
    rw [show leadN (bs.length / 43) (fun i => goodB (chunk bs i)) = i from e.symm] at this
    rw [hg] at this
    cases this

theorem chunk_len {bs : List Int} {i : Nat} (h : 43 * i + 43 ≤ bs.length) : (chunk bs i).length = 43 := by simp [chunk]; omega
theorem chunk_bytes {bs : List Int} (h : Bytes bs) (i : Nat) : Bytes (chunk bs i) := (h.drop _).take _
theorem recAt_ok {bs : List Int} (h : Bytes bs) {i : Nat} (hi : i < recN bs) : (recAt bs i).ok := recOf_ok (chunk_bytes h i) (chunk_len (recN_fit hi).1)
theorem recT_good {bs : List Int} (h : goodB bs = true) : recT bs = (recOf bs, true) := by simp [recT, h]
theorem recT_bad {bs : List Int} (h : goodB bs = false) : recT bs = (Rc.zero, false) := by simp [recT, h]

theorem RdS.chunk {w : World} {T : Pm} {al : Option Addr} {cl i : Nat} {bs : List Int} (hx : RdS w T (.slice al bs.length cl) 1 bs.length (ints .u8 bs)) (h : 43 * i + 43 ≤ bs.length) :
    RdS w T (subS (.slice al bs.length cl) (43 * i) (43 * i + 43) cl 1) 1 (chunk bs i).length (ints .u8 (chunk bs i)) := by
  have := hx.sub8 (l := 43 * i) (h := 43 * i + 43) ⟨by omega, h⟩
  rw [Nat.add_sub_cancel_left] at this
  exact this

/-- The first n records, as cells. -/
def recCells (bs : List Int) (n : Nat) : List Value := ((List.range n).map fun i => (recAt bs i).cells).flatten
theorem recCells_len {bs : List Int} {n : Nat} (h : n ≤ recN bs) : (recCells bs n).length = n * 22 := by
  induction n with
  | zero => rfl
  | succ n ih =>
    have e : recCells bs (n + 1) = recCells bs n ++ (recAt bs n).cells := by simp [recCells, List.range_succ]
    have hl := chunk_len (recN_fit (bs := bs) (i := n) (by omega)).1
    rw [e, List.length_append, ih (by omega), show (recAt bs n).cells.length = 22 from Rc.cells_len (recOf_id hl)]
    omega
theorem recCells_succ (bs : List Int) (n : Nat) : recCells bs (n + 1) = recCells bs n ++ (recAt bs n).cells := by simp [recCells, List.range_succ]
theorem recCells_ones (bs : List Int) (n : Nat) : ∀ v ∈ recCells bs n, v.oneCell' = true := by
  intro v hv
  obtain ⟨l, hl, hv⟩ := List.mem_flatten.1 hv
  obtain ⟨i, _, rfl⟩ := List.mem_map.1 hl
  exact Rc.ones _ v hv
theorem recCells_at {bs : List Int} {n j : Nat} (h : n ≤ recN bs) (hj : j < n) : ((recCells bs n).drop (j * 22)).take 22 = (recAt bs j).cells := by
  induction n with
  | zero => omega
  | succ n ih =>
    have hl := recCells_len (bs := bs) (n := n) (by omega)
    have hc := Rc.cells_len (recOf_id (chunk_len (recN_fit (bs := bs) (i := n) (by omega)).1))
    rw [recCells_succ]
    by_cases e : j = n
    · subst e
      rw [List.drop_left' hl, List.take_of_length_le (by unfold recAt; rw [hc]; omega)]
    · have hjn : j * 22 + 22 ≤ n * 22 := by omega
      rw [List.drop_append_of_le_length (by omega), List.take_append_of_le_length (by rw [List.length_drop]; omega)]
      exact ih (by omega) (by omega)
end Go.Proofs.YtmcdbjbkkejbbaaGreat
