/- A disk's slots: what is written, what is read: the plain model. -/
import Derived.Test.YtjlgmaappebppaaWireP
import Derived.Test.YtjlgmaappebppaaShaV
namespace Go.Proofs.Ytjlgmaappebppaa
open Go Go.RowKit

theorem be_succ (n : Int) (k : Nat) : be n (k + 1) = be (n / 256) k ++ [n % 256] := by
  unfold be
  rw [beK_succ]
  congr 1
  · unfold beK
    refine List.map_congr_left fun j hj => ?_
    have hj' : j < k := List.mem_range.1 hj
    have e : (2 : Int) ^ (8 * (k + 1 - 1 - j)) = 256 * 2 ^ (8 * (k - 1 - j)) := by
      rw [show 8 * (k + 1 - 1 - j) = 8 + 8 * (k - 1 - j) by omega, Int.pow_add]; rfl
    rw [e, Int.ediv_mul_of_nonneg (by omega)]
  · simp
theorem val_be : ∀ (k : Nat) (n : Int), 0 ≤ n → n < 256 ^ k → val (be n k) = n
  | 0, n, h0, h => by
    have : n = 0 := by simp at h; omega
    subst this; rfl
  | k + 1, n, h0, h => by
    have hk : (256 : Int) ^ (k + 1) = 256 ^ k * 256 := Int.pow_succ ..
    rw [be_succ, val_snoc, val_be k (n / 256) (by omega) (by
      apply Int.ediv_lt_of_lt_mul (by omega); omega)]
    omega
theorem be_val {xs : List Int} (h : Bytes xs) : be (val xs) xs.length = xs := by
  refine snoc_ind (p := fun xs => Bytes xs → be (val xs) xs.length = xs) (fun _ => rfl) (fun xs x ih h => ?_) xs h
  have hx := h x (by simp)
  rw [val_snoc, List.length_append, List.length_singleton, be_succ, show (val xs * 256 + x) / 256 = val xs by omega, show (val xs * 256 + x) % 256 = x by omega, ih (fun y hy => h y (by simp [hy]))]
theorem val8_rng {xs : List Int} (h : Bytes xs) (hl : xs.length ≤ 8) : 0 ≤ val xs ∧ val xs < 18446744073709551616 := by
  have h1 := val_range h
  have h2 : (256 : Int) ^ xs.length ≤ 256 ^ 8 := pow256 hl
  have h3 : (256 : Int) ^ 8 = 18446744073709551616 := by decide
  omega
theorem val4_rng {xs : List Int} (h : Bytes xs) (hl : xs.length ≤ 4) : 0 ≤ val xs ∧ val xs < 4294967296 := by
  have h1 := val_range h
  have : xs.length = 0 ∨ xs.length = 1 ∨ xs.length = 2 ∨ xs.length = 3 ∨ xs.length = 4 := by omega
  rcases this with e | e | e | e | e <;> rw [e] at h1 <;> simp at h1 <;> omega

theorem sum256_by (msg : List Int) : Bytes (sum256 msg) := by
  intro y hy
  unfold sum256 sumF dgF at hy
  obtain ⟨l, hl, hy⟩ := List.mem_flatten.1 hy
  obtain ⟨a, _, rfl⟩ := List.mem_map.1 hl
  obtain ⟨t, _, rfl⟩ := List.mem_map.1 hy
  rw [IntKind.wrap_u8]; omega
theorem sumB (msg : List Int) : Bytes ((sum256 msg).take 8) := (sum256_by msg).take 8
/-- A record but for its sum; its bytes. -/
def headF (n : Int) (b : List Int) : List Int := [72, 68] ++ be n 8 ++ be (b.length : Int) 4 ++ b
def recF (n : Int) (b : List Int) : List Int := headF n b ++ (sum256 (headF n b)).take 8
theorem headF_len (n : Int) (b : List Int) : (headF n b).length = 14 + b.length := by simp [headF, be_len]; omega
theorem recF_len (n : Int) (b : List Int) : (recF n b).length = 22 + b.length := by
  rw [recF, List.length_append, headF_len, List.length_take, sum256_len]; omega
theorem headF_by {n : Int} {b : List Int} (h : Bytes b) : Bytes (headF n b) := by
  refine Bytes.app (Bytes.app (Bytes.app ?_ (Bytes.be _ _)) (Bytes.be _ _)) h
  intro x hx; simp at hx; rcases hx with rfl | rfl <;> omega
theorem BY.bytes {xs : List Int} (h : Bytes xs) : BY xs := h

/-- The record with which bytes begin. -/
def whN (x : List Int) : Int := val ((x.drop 2).take 8)
def whS (x : List Int) : Int := val ((x.drop 10).take 4)
def whK (x : List Int) : Nat := (whS x).toNat
def whB (x : List Int) : List Int := (x.drop 14).take (whK x)
def whFit (x : List Int) : Bool := decide (22 ≤ x.length) && decide (whN x ≠ 0) && decide (whS x ≤ 8388608) && decide (whK x ≤ x.length - 22)
def whOk (x : List Int) : Bool := whFit x && decide (x.take 2 = [72, 68]) && decide ((sum256 (x.take (14 + whK x))).take 8 = (x.drop (14 + whK x)).take 8)
theorem whN_rng {x : List Int} (h : Bytes x) : 0 ≤ whN x ∧ whN x < 18446744073709551616 := val8_rng ((h.drop 2).take 8) (by simp; omega)
theorem whS_rng {x : List Int} (h : Bytes x) : 0 ≤ whS x ∧ whS x < 4294967296 := val4_rng ((h.drop 10).take 4) (by simp; omega)
theorem whK_eq {x : List Int} (h : Bytes x) : (whK x : Int) = whS x := by have := (whS_rng h).1; unfold whK; omega

theorem whFit_T {x : List Int} (h : whFit x = true) : 22 ≤ x.length ∧ whN x ≠ 0 ∧ whS x ≤ 8388608 ∧ whK x + 22 ≤ x.length := by
  simp [whFit] at h
  obtain ⟨⟨⟨h1, h2⟩, h3⟩, h4⟩ := h
  exact ⟨h1, h2, h3, by omega⟩
theorem whB_len {x : List Int} (h : whFit x = true) : (whB x).length = whK x := by
  have := whFit_T h
  simp [whB]; omega

/-- The reference asks the whole bytes. -/
theorem cut3 {x : List Int} {k : Nat} : x.take (22 + k) = x.take 2 ++ ((x.drop 2).take (12 + k) ++ (x.drop (14 + k)).take 8) := by
  rw [show 22 + k = 2 + ((12 + k) + 8) by omega, List.take_add, List.take_add, List.drop_drop, show 2 + (12 + k) = 14 + k by omega]
theorem head_of {x : List Int} (hB : Bytes x) (h : whFit x = true) : headF (whN x) (whB x) = [72, 68] ++ (x.drop 2).take (12 + whK x) := by
  have hf := whFit_T h
  have e1 : be (whN x) 8 = (x.drop 2).take 8 := by
    have := be_val ((hB.drop 2).take 8)
    rw [show ((x.drop 2).take 8).length = 8 by simp; omega] at this
    exact this
  have e2 : be ((whB x).length : Int) 4 = (x.drop 10).take 4 := by
    have := be_val ((hB.drop 10).take 4)
    rw [show ((x.drop 10).take 4).length = 4 by simp; omega] at this
    rw [whB_len h, whK_eq hB]
    exact this
  rw [headF, e1, e2, whB, show 12 + whK x = 8 + (4 + whK x) by omega, List.take_add, List.take_add, List.drop_drop, List.drop_drop]
  simp
theorem rwh_eq {x : List Int} (hB : Bytes x) (h : whFit x = true) : decide (recF (whN x) (whB x) = x.take (22 + whK x)) = whOk x := by
  have hf := whFit_T h
  have hh := head_of hB h
  unfold whOk
  rw [h, Bool.true_and, recF, hh, cut3]
  have l2 : (x.take 2).length = 2 := by simp; omega
  have l3 : ((x.drop 2).take (12 + whK x)).length = 12 + whK x := by simp; omega
  have hd : x.take (14 + whK x) = x.take 2 ++ (x.drop 2).take (12 + whK x) := by rw [show 14 + whK x = 2 + (12 + whK x) by omega, List.take_add]
  by_cases h2 : x.take 2 = [72, 68]
  · rw [decide_eq_true h2, Bool.true_and, hd, h2, List.append_assoc]
    congr 1
    apply propext
    constructor
    · intro e
      have e' := List.append_cancel_left e
      exact List.append_cancel_left e'
    · intro e; rw [e]
  · rw [decide_eq_false h2, Bool.false_and]
    apply decide_eq_false
    intro e
    apply h2
    have := congrArg (List.take 2) e
    simp only [List.append_assoc] at this
    rw [List.take_append_of_le_length (by simp), List.take_append_of_le_length (by omega), List.take_of_length_le (by simp), List.take_of_length_le (by omega)] at this
    exact this.symm

/-- Of two slots the newest whole one. -/
def nwS (x y : List Int) : Int := if whOk y && (!whOk x || decide (whN x < whN y)) then 1 else if whOk x then 0 else -1
def nwN (x y : List Int) : Int := if nwS x y = 1 then whN y else if nwS x y = 0 then whN x else 0
def nwB (x y : List Int) : List Int := if nwS x y = 1 then whB y else if nwS x y = 0 then whB x else []
theorem nwS_rng (x y : List Int) : nwS x y = 1 ∨ nwS x y = 0 ∨ nwS x y = -1 := by
  unfold nwS; split
  · exact .inl rfl
  · split
    · exact .inr (.inl rfl)
    · exact .inr (.inr rfl)
theorem nwN_rng {x y : List Int} (hx : Bytes x) (hy : Bytes y) : 0 ≤ nwN x y ∧ nwN x y < 18446744073709551616 := by
  have h1 := whN_rng hx
  have h2 := whN_rng hy
  unfold nwN; split
  · omega
  · split <;> omega

/-- What a write makes of a slot; the number and the error that are told. -/
def wrR (x y b : List Int) : List Int := recF (nwN x y + 1) b
def wrT (x y b : List Int) (torn : Int) : Bool := decide (0 ≤ torn) && decide (torn < ((wrR x y b).length : Int))
def wrW (x y b : List Int) (torn : Int) : List Int := if wrT x y b torn then (wrR x y b).take torn.toNat ++ (if nwS x y = 0 then y else x).drop torn.toNat else wrR x y b
def wrFull (x y : List Int) : Prop := nwN x y = 18446744073709551615
instance (x y : List Int) : Decidable (wrFull x y) := by unfold wrFull; infer_instance
def wrX (x y b : List Int) (torn : Int) : List Int := if wrFull x y then x else if nwS x y = 0 then x else wrW x y b torn
def wrY (x y b : List Int) (torn : Int) : List Int := if wrFull x y then y else if nwS x y = 0 then wrW x y b torn else y
def wrN (x y b : List Int) (torn : Int) : Int := if wrFull x y then 0 else if wrT x y b torn then 0 else nwN x y + 1
def wrE (x y b : List Int) (torn : Int) : Int := if wrFull x y then 7 else if wrT x y b torn then 8 else 0
end Go.Proofs.Ytjlgmaappebppaa
