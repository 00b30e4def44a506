/- The plain law of the replay window: what its bits say. -/
import Derived.Test.YtoodepbkfgjgaaaB1
namespace Go.Proofs.Ytoodepbkfgjgaaa
open Go Go.RowKit

theorem nat_getD (l : List Int) (i : Nat) (h : ∀ i, 0 ≤ l.getD i 0 ∧ l.getD i 0 < 18446744073709551616) : (l.getD i 0) = ((l.getD i 0).toNat : Int) ∧ (l.getD i 0).toNat < 18446744073709551616 := by
  have := h i; omega

/-- The bit of a counter. -/
def Win.bit (s : Win) (m : Int) : Bool := ((s.came.getD (m % 1024 / 64).toNat 0).toNat).testBit (m % 64).toNat

theorem has_bit (s : Win) (hs : s.wf) (m : Int) (h0 : 0 ≤ m) : s.has m = s.bit m := by
  have hx := hs.c0 (m % 1024 / 64).toNat
  unfold Win.has Win.bit
  generalize s.came.getD (m % 1024 / 64).toNat 0 = x at *
  obtain ⟨n, rfl⟩ := Int.eq_ofNat_of_zero_le hx.1
  have hp : ((2 : Int) ^ (m % 64).toNat) = ((2 ^ (m % 64).toNat : Nat) : Int) := by simp
  rw [hp, ← Int.natCast_ediv]
  have hlt : n / 2 ^ (m % 64).toNat < 18446744073709551616 := Nat.lt_of_le_of_lt (Nat.div_le_self _ _) (by omega)
  rw [show (1 : Int) = ((1 : Nat) : Int) from rfl, u64_and_nat _ _ hlt (by decide), nat_mask1]
  rw [Int.toNat_natCast, Nat.testBit_eq_decide_div_mod_eq]
  by_cases h : n / 2 ^ (m % 64).toNat % 2 = 1
  · simp [h]
  · have h2 : n / 2 ^ (m % 64).toNat % 2 = 0 := by omega
    simp [h2]

theorem pow_wrap (b : Nat) (hb : b < 64) : IntKind.u64.wrap ((2 : Int) ^ b) = ((2 ^ b : Nat) : Int) ∧ 2 ^ b < 18446744073709551616 := by
  have h : 2 ^ b < 2 ^ 64 := Nat.pow_lt_pow_right (by omega) hb
  have h2 : (2 ^ 64 : Nat) = 18446744073709551616 := by decide
  rw [h2] at h
  refine ⟨?_, h⟩
  have hp : ((2 : Int) ^ b) = ((2 ^ b : Nat) : Int) := by simp
  rw [hp, IntKind.wrap_u64]
  generalize 2 ^ b = c at *
  omega

theorem bit_set (s : Win) (i : Nat) (x m : Int) (hs : s.wf) (hi : i < 16) :
    ({ s with came := s.came.set i x } : Win).bit m = if (m % 1024 / 64).toNat = i then (x.toNat).testBit (m % 64).toNat else s.bit m := by
  unfold Win.bit
  have hl := hs.len
  simp only [List.getD_eq_getElem?_getD, List.getElem?_set]
  by_cases h : i = (m % 1024 / 64).toNat
  · rw [if_pos h, if_pos h.symm, if_pos (by omega)]; simp
  · rw [if_neg h, if_neg (fun e => h e.symm)]

theorem clear_bit (s : Win) (hs : s.wf) (y m : Int) (hy : 0 ≤ y) (hm : 0 ≤ m) : (s.clear y).bit m = (s.bit m && decide (m % 1024 ≠ y % 1024)) := by
  have hb : (y % 64).toNat < 64 := by omega
  obtain ⟨hw, hlt⟩ := pow_wrap (y % 64).toNat hb
  obtain ⟨hx, hxl⟩ := nat_getD s.came (y % 1024 / 64).toNat hs.c0
  unfold Win.clear
  rw [bit_set s _ _ m hs (by omega), hw, hx, u64_andNot_nat _ _ hxl hlt]
  rw [Int.toNat_natCast, Nat.testBit_and]
  rw [show 18446744073709551615 - 2 ^ (y % 64).toNat = 2 ^ 64 - (2 ^ (y % 64).toNat + 1) by
    have : (2 ^ 64 : Nat) = 18446744073709551616 := by decide
    omega]
  rw [Nat.testBit_two_pow_sub_succ (by have : (2 ^ 64 : Nat) = 18446744073709551616 := by decide
                                       omega), Nat.testBit_two_pow]
  by_cases h : (m % 1024 / 64).toNat = (y % 1024 / 64).toNat
  · rw [if_pos h]
    have e : s.bit m = ((s.came.getD (y % 1024 / 64).toNat 0).toNat).testBit (m % 64).toNat := by unfold Win.bit; rw [h]
    rw [e]
    congr 1
    have h3 : (m % 64).toNat < 64 := by omega
    by_cases h4 : (y % 64).toNat = (m % 64).toNat
    · have : m % 1024 = y % 1024 := by omega
      simp [h4, this]
    · have : ¬ m % 1024 = y % 1024 := by omega
      simp [h3, h4, this]
  · rw [if_neg h]
    have : ¬ m % 1024 = y % 1024 := by omega
    simp [this]

theorem mark_bit (s : Win) (hs : s.wf) (y m : Int) (hy : 0 ≤ y) (hm : 0 ≤ m) : (s.mark y).bit m = (s.bit m || decide (m % 1024 = y % 1024)) := by
  have hb : (y % 64).toNat < 64 := by omega
  obtain ⟨hw, hlt⟩ := pow_wrap (y % 64).toNat hb
  obtain ⟨hx, hxl⟩ := nat_getD s.came (y % 1024 / 64).toNat hs.c0
  unfold Win.mark
  rw [bit_set s _ _ m hs (by omega), hw, hx, u64_or_nat _ _ hxl hlt]
  rw [Int.toNat_natCast, Nat.testBit_or, Nat.testBit_two_pow]
  by_cases h : (m % 1024 / 64).toNat = (y % 1024 / 64).toNat
  · rw [if_pos h]
    have e : s.bit m = ((s.came.getD (y % 1024 / 64).toNat 0).toNat).testBit (m % 64).toNat := by unfold Win.bit; rw [h]
    rw [e]
    congr 1
    by_cases h4 : (y % 64).toNat = (m % 64).toNat
    · have : m % 1024 = y % 1024 := by omega
      simp [h4, this]
    · have : ¬ m % 1024 = y % 1024 := by omega
      simp [h4, this]
  · rw [if_neg h]
    have : ¬ m % 1024 = y % 1024 := by omega
    simp [this]

theorem set_wf {s : Win} (hs : s.wf) (i : Nat) (op : BinOp) (x y : Int) : ({ s with came := s.came.set i (bits op .u64 x y) } : Win).wf := by
  refine ⟨hs.top0, hs.top1, by simp [hs.len], fun j => ?_⟩
  have := hs.c0 j
  have hb := bits_u64 op x y
  simp only [List.getD_eq_getElem?_getD, List.getElem?_set] at this ⊢
  split
  · split
    · simpa using hb
    · simp
  · exact this

theorem clear_wf {s : Win} (hs : s.wf) (y : Int) : (s.clear y).wf := set_wf hs _ _ _ _
theorem mark_wf {s : Win} (hs : s.wf) (y : Int) : (s.mark y).wf := set_wf hs _ _ _ _

theorem clears (L : List Int) : ∀ (s : Win), s.wf → (∀ y ∈ L, 0 ≤ y) → (L.foldl Win.clear s).wf ∧ (L.foldl Win.clear s).top = s.top ∧ (L.foldl Win.clear s).some = s.some ∧ ∀ m, 0 ≤ m → (L.foldl Win.clear s).bit m = (s.bit m && decide (∀ y ∈ L, m % 1024 ≠ y % 1024)) := by
  induction L with
  | nil => intro s hs _; exact ⟨hs, rfl, rfl, fun m hm => by simp⟩
  | cons y L ih =>
    intro s hs hL
    obtain ⟨h1, h2, h3, h4⟩ := ih (s.clear y) (clear_wf hs y) (fun z hz => hL z (by simp [hz]))
    refine ⟨h1, h2, h3, fun m hm => ?_⟩
    rw [List.foldl_cons, h4 m hm, clear_bit s hs y m (hL y (by simp)) hm]
    simp [Bool.and_assoc, Bool.decide_and]

/-- What the window knows: acc, all counters that came. -/
structure Knows (s : Win) (acc : List Int) : Prop where
  wf : s.wf
  none : s.some = false → acc = [] ∧ s.top = 0 ∧ ∀ m, 0 ≤ m → s.bit m = false
  le : s.some = true → (∀ m ∈ acc, 0 ≤ m ∧ m ≤ s.top) ∧ s.top ∈ acc
  bit : s.some = true → ∀ m, 0 ≤ m → m ≤ s.top → s.top - m < 1024 → (s.bit m = true ↔ m ∈ acc)

theorem knows_zero : Knows Win.zero [] := by
  refine ⟨zero_wf, fun _ => ⟨rfl, rfl, fun m _ => ?_⟩, fun h => by simp [Win.zero] at h, fun h => by simp [Win.zero] at h⟩
  unfold Win.bit Win.zero
  simp only [List.getD_eq_getElem?_getD, List.getElem?_replicate]
  split <;> simp

theorem see_knows {s : Win} {acc : List Int} (h : Knows s acc) (n : Int) (h0 : 0 ≤ n) :
    s.see n = if s.some = true ∧ n < s.top ∧ 1024 ≤ s.top - n then 161 else if n ∈ acc then 160 else 0 := by
  unfold Win.see
  cases hs : s.some with
  | false => obtain ⟨rfl, _⟩ := h.none hs; simp
  | true =>
    obtain ⟨hl, ht⟩ := h.le hs
    by_cases h1 : s.top < n
    · rw [if_pos (.inr h1), if_neg (by omega), if_neg (fun hm => by have := hl n hm; omega)]
    · rw [if_neg (by simp; omega)]
      by_cases h2 : 1024 ≤ s.top - n
      · rw [if_pos h2, if_pos ⟨rfl, by omega, h2⟩]
      · rw [if_neg h2, has_bit s h.wf n h0, if_neg (show ¬ (true = true ∧ n < s.top ∧ 1024 ≤ s.top - n) by omega)]
        have hb := h.bit hs n h0 (by omega) (by omega)
        by_cases h3 : n ∈ acc
        · rw [if_pos h3, if_pos (hb.2 h3)]
        · rw [if_neg h3, if_neg (fun e => h3 (hb.1 e))]

theorem freshI_mem {top n y : Int} (ht : 0 ≤ top) (hn : 0 ≤ n) : y ∈ freshI top n ↔ (top < y ∧ y ≤ n ∧ n - y < 1024) := by
  unfold freshI
  simp only [List.mem_map, List.mem_range]
  unfold freshN
  constructor
  · rintro ⟨i, hi, rfl⟩; omega
  · rintro ⟨h1, h2, h3⟩
    exact ⟨(y - (n - min (n - min n top) 1024 + 1)).toNat, by omega, by omega⟩

theorem note_knows {s : Win} {acc : List Int} (h : Knows s acc) (n : Int) (h0 : 0 ≤ n) (h1 : n < 18446744073709551616) (hz : s.see n = 0) :
    Knows (s.note n) (acc ++ [n]) ∧ (s.note n).some = true ∧ (s.note n).top = if s.some = true then max s.top n else n := by
  have hsee := see_knows h n h0
  rw [hz] at hsee
  have hnold : ¬ (s.some = true ∧ n < s.top ∧ 1024 ≤ s.top - n) := fun e => by rw [if_pos e] at hsee; omega
  rw [if_neg hnold] at hsee
  have hnin : n ∉ acc := fun e => by rw [if_pos e] at hsee; omega
  clear hsee
  -- the first step
  have hf : (s.first n).wf ∧ (s.first n).some = true ∧ (s.first n).top = (if s.some = true then s.top else n) ∧ ∀ m, (s.first n).bit m = s.bit m := by
    unfold Win.first
    cases hs : s.some with
    | true => exact ⟨by simpa using h.wf, by simp [hs], by simp, fun m => by simp⟩
    | false => exact ⟨⟨h0, h1, h.wf.len, h.wf.c0⟩, by simp, by simp, fun m => by simp [Win.bit]⟩
  obtain ⟨f1, f2, f3, f4⟩ := hf
  obtain ⟨c1, c2, c3, c4⟩ := clears (freshI (s.first n).top n) (s.first n) f1 (fun y hy => by have := (freshI_mem f1.top0 h0).1 hy; have := f1.top0; omega)
  change ((s.first n).fresh n).wf at c1
  change ((s.first n).fresh n).top = _ at c2
  change ((s.first n).fresh n).some = _ at c3
  change ∀ m, 0 ≤ m → ((s.first n).fresh n).bit m = _ at c4
  have r1 : (((s.first n).fresh n).rise n).wf := ⟨by show 0 ≤ max _ n; omega, by show max _ n < _; have := c1.top1; omega, c1.len, c1.c0⟩
  have t1 : (s.note n).top = max (s.first n).top n := by show max ((s.first n).fresh n).top n = _; rw [c2]
  have b1 : ∀ m, 0 ≤ m → (s.note n).bit m = ((s.bit m && decide (∀ y ∈ freshI (s.first n).top n, m % 1024 ≠ y % 1024)) || decide (m % 1024 = n % 1024)) := fun m hm => by
    show ((((s.first n).fresh n).rise n).mark n).bit m = _
    rw [mark_bit _ r1 n m h0 hm]
    have e : (((s.first n).fresh n).rise n).bit m = ((s.first n).fresh n).bit m := rfl
    rw [e, c4 m hm, f4]
  have so : (s.note n).some = true := by show ((s.first n).fresh n).some = true; rw [c3, f2]
  refine ⟨⟨mark_wf r1 n, (fun e => by rw [so] at e; cases e), fun _ => ?_, fun _ m hm0 hmt hmw => ?_⟩, so, by rw [t1, f3]; cases s.some <;> simp⟩
  · rw [t1, f3]
    cases hs : s.some with
    | false =>
      obtain ⟨rfl, _⟩ := h.none hs
      simp; omega
    | true =>
      obtain ⟨hl, ht⟩ := h.le hs
      refine ⟨fun m hm => ?_, ?_⟩
      · rcases List.mem_append.1 hm with hm | hm
        · have := hl m hm; simp; omega
        · simp at hm; subst hm; simp; omega
      · simp only [↓reduceIte]
        by_cases hc : s.top ≤ n
        · rw [show max s.top n = n by omega]; simp
        · rw [show max s.top n = s.top by omega]; simp [ht]
  · rw [t1, f3] at hmt hmw
    rw [b1 m hm0, f3]
    cases hs : s.some with
    | false =>
      obtain ⟨rfl, _, hb⟩ := h.none hs
      rw [hs] at hmt hmw
      simp only [Bool.false_eq_true, ↓reduceIte] at hmt hmw
      rw [hb m hm0]
      simp
      omega
    | true =>
      rw [hs] at hmt hmw
      simp only [↓reduceIte] at hmt hmw ⊢
      obtain ⟨hl, ht⟩ := h.le hs
      have ht0 := h.wf.top0
      have key : (∀ y ∈ freshI s.top n, m % 1024 ≠ y % 1024) ↔ m ≤ s.top := by
        constructor
        · intro hall
          by_cases hc : m ≤ s.top
          · exact hc
          · exact absurd rfl (hall m ((freshI_mem ht0 h0).2 (by omega)))
        · intro hle y hy
          have := (freshI_mem ht0 h0).1 hy
          omega
      simp only [Bool.or_eq_true, Bool.and_eq_true, decide_eq_true_eq, key, List.mem_append, List.mem_singleton]
      constructor
      · rintro (⟨hb, hle⟩ | he)
        · exact .inl ((h.bit hs m hm0 hle (by omega)).1 hb)
        · right
          have hno2 : ¬ (n < s.top ∧ 1024 ≤ s.top - n) := fun e => hnold ⟨hs, e⟩
          omega
      · rintro (hm | rfl)
        · have := hl m hm
          exact .inl ⟨(h.bit hs m hm0 (by omega) (by omega)).2 hm, by omega⟩
        · exact .inr rfl
end Go.Proofs.Ytoodepbkfgjgaaa
