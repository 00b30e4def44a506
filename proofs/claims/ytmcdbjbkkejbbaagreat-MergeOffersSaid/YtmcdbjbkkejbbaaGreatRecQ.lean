/- What is taken as a record: the plain law. -/
import Derived.Test.YtmcdbjbkkejbbaaGreatRecP
namespace Go.Proofs.YtmcdbjbkkejbbaaGreat
open Go Go.RowKit

def pad16 (T : List Int) : List Int := T ++ List.replicate (16 - T.length) 0
theorem pad16_len {T : List Int} (h : T.length ≤ 16) : (pad16 T).length = 16 := by simp [pad16]; omega
theorem pad16_bytes {T : List Int} (h : Bytes T) : Bytes (pad16 T) := h.app (fun x hx => by have := List.eq_of_mem_replicate hx; omega)
theorem pad16_full {T : List Int} (h : T.length = 16) : pad16 T = T := by simp [pad16, h]

theorem u8_val {bs : List Int} (h : Bytes bs) (wr : Bool) : U8 (val (tkR 1 bs wr)) := by have := val1 h wr; exact ⟨this.1, by omega⟩
theorem u64_val {bs : List Int} (h : Bytes bs) (wr : Bool) : U64 (val (tkR 8 bs wr)) := by
  have h1 := val_range (h.tkR 8 wr)
  have h2 := pow256 (n := (tkR 8 bs wr).length) (tkR_len 8 bs wr)
  exact ⟨h1.1, by omega⟩

theorem copy_id {T : List Int} (h : T.length ≤ 16) : Rc.zero.cells.take (0 + 0) ++ (ints .u8 T).take 16 ++ Rc.zero.cells.drop (0 + 0 + ((ints .u8 T).take 16).length) = { Rc.zero with id := pad16 T }.cells := by
  have e : (ints .u8 T).take 16 = ints .u8 T := List.take_of_length_le (by rw [ints_length]; exact h)
  rw [e, ints_length]
  simp only [Nat.zero_add, List.take_zero, List.nil_append]
  show ints .u8 T ++ (ints .u8 (List.replicate 16 0) ++ _).drop _ = ints .u8 (T ++ List.replicate (16 - T.length) 0) ++ _
  rw [← ints_append, List.append_assoc]
  congr 1
  rw [List.drop_append_of_le_length (by simp [ints]; omega)]
  congr 1
  rw [ints_drop, List.drop_replicate]

theorem fixed1 {w : World} {T : Pm} {v : Value} {c : List Int} (h : RdS w T v 1 c.length (ints .u8 c)) : ∀ (i : Nat) (v' : Value) (c' : List Int), [v][i]? = some v' → [c][i]? = some c' → RdS w T v' 1 c'.length (ints .u8 c') := by
  intro i v' c' h1 h2
  cases i with
  | zero => simp at h1 h2; subst h1 h2; exact h
  | succ i => simp at h1

theorem tk_no {k : Nat} {bs : List Int} {wr : Bool} (h : tkW k bs wr = false) : wr = false ∧ k ≤ bs.length ∧ tkB k bs wr = bs.drop k ∧ tkR k bs wr = bs.take k := by
  have e : tkOk k bs wr = true := by simpa [tkW] using h
  have e2 := e
  simp [tkOk] at e2
  exact ⟨e2.1, e2.2, by simp [tkB, e], by simp [tkR, e]⟩
theorem tk_yes {k : Nat} {bs : List Int} (h : k ≤ bs.length) : tkW k bs false = false ∧ tkB k bs false = bs.drop k ∧ tkR k bs false = bs.take k := by
  have e : tkOk k bs false = true := by simp [tkOk, h]
  exact ⟨by simp [tkW, e], by simp [tkB, e], by simp [tkR, e]⟩

theorem val_one (bs : List Int) (k : Nat) (h : k < bs.length) : val ((bs.drop k).take 1) = bs.getD k 0 := by
  have : (bs.drop k).take 1 = [bs.getD k 0] := by
    rw [List.take_one]
    simp [h]
  rw [this]
  simp [val]

theorem take_law {bs T1 B1 B2 B3 B4 B5 B6 B7 : List Int} {W1 W2 W3 W4 W5 W6 W7 o : Bool} {p q n1 n2 n3 : Int} (hB : Bytes bs)
    (hT1 : tkR 16 bs false = T1) (hB1 : tkB 16 bs false = B1) (hW1 : tkW 16 bs false = W1)
    (hp : val (tkR 1 B1 W1) = p) (hB2 : tkB 1 B1 W1 = B2) (hW2 : tkW 1 B1 W1 = W2)
    (ho : flR B2 W2 = o) (hB3 : tkB 1 B2 W2 = B3) (hW3 : flW B2 W2 = W3)
    (hq : val (tkR 1 B3 W3) = q) (hB4 : tkB 1 B3 W3 = B4) (hW4 : tkW 1 B3 W3 = W4)
    (hn1 : val (tkR 8 B4 W4) = n1) (hB5 : tkB 8 B4 W4 = B5) (hW5 : tkW 8 B4 W4 = W5)
    (hn2 : val (tkR 8 B5 W5) = n2) (hB6 : tkB 8 B5 W5 = B6) (hW6 : tkW 8 B5 W5 = W6)
    (hn3 : val (tkR 8 B6 W6) = n3) (hB7 : tkB 8 B6 W6 = B7) (hW7 : tkW 8 B6 W6 = W7) :
    (if (decide (endE B7 W7 = 0) && mayB (Rc.mk (pad16 T1) p o q n1 n2 n3)) = true then (Rc.mk (pad16 T1) p o q n1 n2 n3, true) else (Rc.zero, false)) = recT bs := by
  cases hW : W7 with
  | true =>
    have e : endE B7 true = 9 := rfl
    rw [e]
    have hg : goodB bs = false := by
      cases hgb : goodB bs with
      | false => rfl
      | true =>
        exfalso
        simp [goodB] at hgb
        obtain ⟨⟨hl, h17⟩, _⟩ := hgb
        obtain ⟨a1, a2, _⟩ := tk_yes (k := 16) (bs := bs) (by omega)
        rw [a1] at hW1; subst hW1
        rw [a2] at hB1
        have l1 : B1.length = 27 := by rw [← hB1]; simp [hl]
        obtain ⟨a1, a2, _⟩ := tk_yes (k := 1) (bs := B1) (by omega)
        rw [a1] at hW2; subst hW2
        rw [a2] at hB2
        have l2 : B2.length = 26 := by rw [← hB2]; simp [l1]
        obtain ⟨a1, a2, a3⟩ := tk_yes (k := 1) (bs := B2) (by omega)
        have hf : flW B2 false = false := by
          unfold flW
          rw [a1, a3, ← hB2, ← hB1, List.drop_drop, val_one bs 17 (by omega)]
          simp; omega
        rw [hf] at hW3; subst hW3
        rw [a2] at hB3
        have l3 : B3.length = 25 := by rw [← hB3]; simp [l2]
        obtain ⟨a1, a2, _⟩ := tk_yes (k := 1) (bs := B3) (by omega)
        rw [a1] at hW4; subst hW4
        rw [a2] at hB4
        have l4 : B4.length = 24 := by rw [← hB4]; simp [l3]
        obtain ⟨a1, a2, _⟩ := tk_yes (k := 8) (bs := B4) (by omega)
        rw [a1] at hW5; subst hW5
        rw [a2] at hB5
        have l5 : B5.length = 16 := by rw [← hB5]; simp [l4]
        obtain ⟨a1, a2, _⟩ := tk_yes (k := 8) (bs := B5) (by omega)
        rw [a1] at hW6; subst hW6
        rw [a2] at hB6
        have l6 : B6.length = 8 := by rw [← hB6]; simp [l5]
        obtain ⟨a1, a2, _⟩ := tk_yes (k := 8) (bs := B6) (by omega)
        rw [a1] at hW7
        rw [hW] at hW7; cases hW7
    simp [recT, hg]
  | false =>
    rw [hW] at hW7
    obtain ⟨w6, g6, e7, t7⟩ := tk_no hW7
    rw [w6] at hW6
    obtain ⟨w5, g5, e6, t6⟩ := tk_no hW6
    rw [w5] at hW5
    obtain ⟨w4, g4, e5, t5⟩ := tk_no hW5
    rw [w4] at hW4
    obtain ⟨w3, g3, e4, t4⟩ := tk_no hW4
    rw [w3] at hW3
    unfold flW at hW3
    simp only [Bool.or_eq_false_iff, decide_eq_false_iff_not] at hW3
    obtain ⟨hW3, h17⟩ := hW3
    obtain ⟨w2, g2, e3, t3⟩ := tk_no hW3
    rw [w2] at hW2
    obtain ⟨w1, g1, e2, t2⟩ := tk_no hW2
    rw [w1] at hW1
    obtain ⟨_, g0, e1, t1⟩ := tk_no hW1
    rw [e1] at hB1; rw [t1] at hT1
    rw [e2] at hB2; rw [t2] at hp
    rw [e3] at hB3
    rw [e4] at hB4; rw [t4] at hq
    rw [e5] at hB5; rw [t5] at hn1
    rw [e6] at hB6; rw [t6] at hn2
    rw [e7] at hB7; rw [t7] at hn3
    subst hB1
    rw [List.drop_drop] at hB2; subst hB2
    rw [List.drop_drop] at hB3; subst hB3
    rw [List.drop_drop] at hB4; subst hB4
    rw [List.drop_drop] at hB5; subst hB5
    rw [List.drop_drop] at hB6; subst hB6
    rw [List.drop_drop] at hB7; subst hB7
    simp only [List.length_drop] at *
    rw [t3] at h17
    have el : val ((bs.drop (16 + 1)).take 1) = bs.getD 17 0 := val_one bs 17 (by omega)
    rw [el] at h17
    have ep : p = bs.getD 16 0 := by rw [← hp]; exact val_one bs 16 (by omega)
    have eo : o = decide (bs.getD 17 0 = 1) := by rw [← ho]; unfold flR; rw [t3, el]
    have eq : q = bs.getD 18 0 := by rw [← hq]; exact val_one bs 18 (by omega)
    have ei : pad16 T1 = bs.take 16 := by rw [← hT1, pad16_full (by simp; omega)]
    have erf : Rc.mk (pad16 T1) p o q n1 n2 n3 = recOf bs := by
      unfold recOf
      rw [ei, ep, eo, eq, ← hn1, ← hn2, ← hn3]
    rw [erf]
    have ee : endE (bs.drop (16 + 1 + 1 + 1 + 8 + 8 + 8)) false = 0 ↔ bs.length = 43 := by
      unfold endE
      simp only [List.length_drop, Bool.false_or, decide_eq_true_eq]
      by_cases hl : bs.length = 43
      · rw [if_neg (by omega)]; simp [hl]
      · rw [if_pos (by omega)]; simp [hl]
    unfold recT goodB
    by_cases hl : bs.length = 43
    · rw [decide_eq_true (ee.2 hl), decide_eq_true hl, decide_eq_true (show bs.getD 17 0 ≤ 1 by omega)]
      simp
    · rw [decide_eq_false (fun h => hl (ee.1 h)), decide_eq_false hl]
      simp
end Go.Proofs.YtmcdbjbkkejbbaaGreat
