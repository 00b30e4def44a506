/- Signals: what the program takes is what the document takes; there and back: plain laws. -/
import Derived.Test.YtnmeoleahcnnkaaSignF
namespace Go.Proofs.Ytnmeoleahcnnkaa
open Go Go.RowKit

theorem tk_go {k i : Nat} {bs : List Int} (h : i + k ≤ bs.length) : tkR k (bs.drop i) false = (bs.drop i).take k ∧ tkB k (bs.drop i) false = bs.drop (i + k) ∧ tkW k (bs.drop i) false = false := by
  obtain ⟨h1, h2, h3⟩ := tk_yes (k := k) (bs := bs.drop i) (by simp; omega)
  exact ⟨h3, by rw [h2, List.drop_drop], h1⟩
theorem tk_fail {k i : Nat} {bs : List Int} (h : ¬ i + k ≤ bs.length) (hi : i ≤ bs.length) : tkW k (bs.drop i) false = true := by
  simp [tkW, tkOk]; omega
theorem take1 {bs : List Int} {i : Nat} (h : i < bs.length) : (bs.drop i).take 1 = [bs.getD i 0] := by
  rw [List.drop_eq_getElem_cons h, List.take_succ_cons, List.take_zero]
  simp [List.getD, List.getElem?_eq_getElem h]
theorem val_sg1 (x : Int) : val [x] = x := by simp [val]
theorem mnW_true (bs : List Int) (m : Int) : mnW bs true m = true := by simp [mnW, tkW_true]
theorem tkS_wr (k : Int) (s : Sg) (B : List Int) : (tkS k s B true).2.2 = true := by
  unfold tkS; repeat' split
  all_goals simp [tkW_true, mnW_true]
theorem endE_wr (B : List Int) : endE B true = 9 := by simp [endE]
theorem endE_no (B : List Int) : decide (endE B false = 0) = decide (B.length = 0) := by
  unfold endE
  by_cases h : B.length = 0
  · simp [h]
  · have : 0 < B.length := by omega
    simp [this, h]
theorem okT_wr {bs : List Int} (h : (tkT bs).2.2 = true) : okT bs = false := by
  unfold okT; rw [h, endE_wr]; rfl
theorem okT_of {bs : List Int} {t : Sg} {B : List Int} (h : tkT bs = (t, B, false)) : okT bs = (decide (B.length = 0) && mayS t) := by
  unfold okT; rw [h, endE_no]

theorem tkT_17 {bs : List Int} (h : 17 ≤ bs.length) : tkT bs = tkS (bs.getD 0 0) (Sg.mk (bs.getD 0 0) ((bs.drop 1).take 16) 0 0 0 zero32 0 none 0 [] 0) (bs.drop 17) false := by
  obtain ⟨a1, a2, a3⟩ := tk_go (k := 1) (i := 0) (bs := bs) (by omega)
  obtain ⟨b1, b2, b3⟩ := tk_go (k := 16) (i := 1) (bs := bs) (by omega)
  rw [take1 (by omega)] at a1
  rw [List.drop_zero] at a1 a2 a3
  unfold tkT
  rw [a1, a2, a3, b1, b2, b3, val_sg1, over_all (by simp [Sg.zero]; omega)]
  rfl
theorem tkT_short {bs : List Int} (h : ¬ 17 ≤ bs.length) : okT bs = false := by
  apply okT_wr
  unfold tkT
  have e : tkW 16 (tkB 1 bs false) (tkW 1 bs false) = true := by
    by_cases h1 : 1 ≤ bs.length
    · obtain ⟨a1, a2, a3⟩ := tk_go (k := 1) (i := 0) (bs := bs) (by omega)
      rw [List.drop_zero] at a1 a2 a3
      rw [a2, a3]
      exact tk_fail (by omega) (by omega)
    · have := tk_fail (k := 1) (i := 0) (bs := bs) (by omega) (by omega)
      rw [List.drop_zero] at this
      rw [this, tkW_true]
  rw [e]
  exact tkS_wr _ _ _

theorem tkS_1 {bs : List Int} {s : Sg} (hk : s.key.length = 32) (h : 52 ≤ bs.length) : tkS 1 s (bs.drop 17) false = ({ s with ca := bs.getD 17 0, cd := bs.getD 18 0, ce := bs.getD 19 0, key := (bs.drop 20).take 32 }, bs.drop 52, false) := by
  obtain ⟨a1, a2, a3⟩ := tk_go (k := 1) (i := 17) (bs := bs) (by omega)
  obtain ⟨b1, b2, b3⟩ := tk_go (k := 1) (i := 18) (bs := bs) (by omega)
  obtain ⟨c1, c2, c3⟩ := tk_go (k := 1) (i := 19) (bs := bs) (by omega)
  obtain ⟨d1, d2, d3⟩ := tk_go (k := 32) (i := 20) (bs := bs) (by omega)
  rw [take1 (by omega)] at a1 b1 c1
  unfold tkS
  rw [if_pos rfl]
  dsimp only
  rw [a1, a2, a3, b1, b2, b3, c1, c2, c3, d1, d2, d3, val_sg1, val_sg1, val_sg1, over_all (by simp; omega)]
theorem tkS_1no {bs : List Int} {s : Sg} (h17 : 17 ≤ bs.length) (h : ¬ 52 ≤ bs.length) : (tkS 1 s (bs.drop 17) false).2.2 = true := by
  unfold tkS
  rw [if_pos rfl]
  dsimp only
  by_cases h1 : 17 + 1 ≤ bs.length
  · obtain ⟨a1, a2, a3⟩ := tk_go h1
    rw [a2, a3]
    by_cases h2 : 18 + 1 ≤ bs.length
    · obtain ⟨b1, b2, b3⟩ := tk_go h2
      rw [b2, b3]
      by_cases h3 : 19 + 1 ≤ bs.length
      · obtain ⟨c1, c2, c3⟩ := tk_go h3
        rw [c2, c3]
        exact tk_fail (by omega) (by omega)
      · rw [tk_fail h3 (by omega), tkW_true]
    · rw [tk_fail h2 (by omega), tkW_true, tkW_true]
  · rw [tk_fail h1 (by omega), tkW_true, tkW_true, tkW_true]
theorem tkS_2 {bs : List Int} {s : Sg} (hk : s.key.length = 32) (h : 49 ≤ bs.length) : tkS 2 s (bs.drop 17) false = ({ s with key := (bs.drop 17).take 32 }, bs.drop 49, false) := by
  obtain ⟨d1, d2, d3⟩ := tk_go (k := 32) (i := 17) (bs := bs) (by omega)
  unfold tkS
  rw [if_neg (by decide), if_pos rfl, d1, d2, d3, over_all (by simp; omega)]
theorem tkS_2no {bs : List Int} {s : Sg} (h17 : 17 ≤ bs.length) (h : ¬ 49 ≤ bs.length) : (tkS 2 s (bs.drop 17) false).2.2 = true := by
  unfold tkS
  rw [if_neg (by decide), if_pos rfl]
  exact tk_fail (by omega) (by omega)
theorem tkS_5 {bs : List Int} {s : Sg} (h : 18 ≤ bs.length) : tkS 5 s (bs.drop 17) false = ({ s with rs := bs.getD 17 0 }, bs.drop 18, false) := by
  obtain ⟨a1, a2, a3⟩ := tk_go (k := 1) (i := 17) (bs := bs) (by omega)
  rw [take1 (by omega)] at a1
  unfold tkS
  rw [if_neg (by decide), if_neg (by decide), if_neg (by decide), if_pos rfl, a1, a2, a3, val_sg1]
theorem tkS_5no {bs : List Int} {s : Sg} (h17 : 17 ≤ bs.length) (h : ¬ 18 ≤ bs.length) : (tkS 5 s (bs.drop 17) false).2.2 = true := by
  unfold tkS
  rw [if_neg (by decide), if_neg (by decide), if_neg (by decide), if_pos rfl]
  exact tk_fail (by omega) (by omega)
theorem tkS_0 {k : Int} {s : Sg} {B : List Int} {W : Bool} (k1 : ¬ k = 1) (k2 : ¬ k = 2) (k3 : ¬ k = 3) (k5 : ¬ k = 5) : tkS k s B W = (s, B, W) := by
  unfold tkS; rw [if_neg k1, if_neg k2, if_neg k3, if_neg k5]
theorem tkS_3 {bs : List Int} {s : Sg} (hB : Bytes bs) (h : 23 ≤ bs.length) (hv : val ((bs.drop 21).take 2) ≤ 1024) (hl : val ((bs.drop 21).take 2) ≤ (bs.length : Int) - 23) :
    tkS 3 s (bs.drop 17) false = ({ s with n := val ((bs.drop 17).take 4), data := (bs.drop 23).take (val ((bs.drop 21).take 2)).toNat }, bs.drop (23 + (val ((bs.drop 21).take 2)).toNat), false) := by
  have h0 := (val_range ((hB.drop 21).take 2)).1
  obtain ⟨a1, a2, a3⟩ := tk_go (k := 4) (i := 17) (bs := bs) (by omega)
  obtain ⟨b1, b2, b3⟩ := tk_go (k := 2) (i := 21) (bs := bs) (by omega)
  obtain ⟨c1, c2, c3⟩ := tk_go (k := (val ((bs.drop 21).take 2)).toNat) (i := 23) (bs := bs) (by omega)
  unfold tkS
  rw [if_neg (by decide), if_neg (by decide), if_pos rfl]
  dsimp only
  have e1 : szK (bs.drop (17 + 4)) false = (val ((bs.drop 21).take 2)).toNat := by unfold szK; rw [b1]
  have e2 : mnW (bs.drop (17 + 4)) false 1024 = false := by unfold mnW; rw [b1, b3]; simp; omega
  rw [a1, a2, a3, e1, e2, b2, c1, c2, c3]
theorem tkS_3no {bs : List Int} {s : Sg} (hB : Bytes bs) (h17 : 17 ≤ bs.length) (h : ¬ (23 ≤ bs.length ∧ val ((bs.drop 21).take 2) ≤ 1024 ∧ val ((bs.drop 21).take 2) ≤ (bs.length : Int) - 23)) : (tkS 3 s (bs.drop 17) false).2.2 = true := by
  have h0 := (val_range ((hB.drop 21).take 2)).1
  unfold tkS
  rw [if_neg (by decide), if_neg (by decide), if_pos rfl]
  dsimp only
  by_cases h1 : 17 + 4 ≤ bs.length
  · obtain ⟨a1, a2, a3⟩ := tk_go h1
    rw [a2, a3]
    by_cases h2 : 21 + 2 ≤ bs.length
    · obtain ⟨b1, b2, b3⟩ := tk_go h2
      by_cases h3 : val ((bs.drop 21).take 2) ≤ 1024
      · have e1 : szK (bs.drop (17 + 4)) false = (val ((bs.drop 21).take 2)).toNat := by unfold szK; rw [b1]
        have e2 : mnW (bs.drop (17 + 4)) false 1024 = false := by unfold mnW; rw [b1, b3]; simp; omega
        rw [e1, e2, b2]
        exact tk_fail (by omega) (by omega)
      · have e2 : mnW (bs.drop (17 + 4)) false 1024 = true := by unfold mnW; rw [b1, b3]; simp; omega
        rw [e2, tkW_true]
    · have e2 : mnW (bs.drop (17 + 4)) false 1024 = true := by unfold mnW; rw [tk_fail h2 (by omega)]; rfl
      rw [e2, tkW_true]
  · rw [tk_fail h1 (by omega), mnW_true, tkW_true]

theorem may_kind {s : Sg} (h : ¬ (1 ≤ s.kind ∧ s.kind ≤ 6)) : mayS s = false := by
  have e : bad2 s = true := by simp [bad2]; omega
  simp [mayS, e]
theorem may_long {s : Sg} (h : ¬ s.data.length ≤ 1024) : mayS s = false := by
  cases hm : mayS s with
  | false => rfl
  | true => exact absurd (mayS_data hm) h

theorem tkT_law {bs : List Int} (hB : Bytes bs) : ((if okT bs then (tkT bs).1 else Sg.zero), okT bs) = sigT bs := by
  have no : okT bs = false → shp bs = none → ((if okT bs then (tkT bs).1 else Sg.zero), okT bs) = sigT bs := fun h1 h2 => by rw [sigT_none h2, h1]; rfl
  have yes : ∀ t, okT bs = mayS t → (tkT bs).1 = t → shp bs = some t → ((if okT bs then (tkT bs).1 else Sg.zero), okT bs) = sigT bs := fun t h1 h2 h3 => by
    cases hm : mayS t with
    | false => rw [sigT_bad h3 hm, h1, hm]; rfl
    | true => rw [sigT_ok h3 hm, h1, hm, h2]; rfl
  by_cases h17 : ¬ 17 ≤ bs.length
  · exact no (tkT_short h17) (by unfold shp; rw [if_pos (by omega)])
  replace h17 : 17 ≤ bs.length := by omega
  have e17 := tkT_17 h17
  obtain ⟨K, hK⟩ : ∃ K, bs.getD 0 0 = K := ⟨_, rfl⟩
  unfold shp at no yes
  rw [if_neg (by omega)] at no yes
  rw [hK] at e17 no yes
  by_cases k1 : K = 1
  · subst k1
    by_cases h : 52 ≤ bs.length
    · rw [tkS_1 zero32_ok.1 h] at e17
      by_cases h2 : bs.length = 52
      · rw [if_pos ⟨rfl, h2⟩] at yes
        exact yes _ (by rw [okT_of e17]; simp [h2]) (by rw [e17]) rfl
      · exact no (by rw [okT_of e17]; simp; omega) (by rw [if_neg (by omega), if_neg (by omega), if_neg (by omega), if_neg (by omega), if_neg (by omega)])
    · exact no (okT_wr (by rw [e17]; exact tkS_1no h17 h)) (by rw [if_neg (by omega), if_neg (by omega), if_neg (by omega), if_neg (by omega), if_neg (by omega)])
  by_cases k2 : K = 2
  · subst k2
    by_cases h : 49 ≤ bs.length
    · rw [tkS_2 zero32_ok.1 h] at e17
      by_cases h2 : bs.length = 49
      · rw [if_neg (by omega), if_pos ⟨rfl, h2⟩] at yes
        exact yes _ (by rw [okT_of e17]; simp [h2]) (by rw [e17]) rfl
      · exact no (by rw [okT_of e17]; simp; omega) (by rw [if_neg (by omega), if_neg (by omega), if_neg (by omega), if_neg (by omega), if_neg (by omega)])
    · exact no (okT_wr (by rw [e17]; exact tkS_2no h17 h)) (by rw [if_neg (by omega), if_neg (by omega), if_neg (by omega), if_neg (by omega), if_neg (by omega)])
  by_cases k3 : K = 3
  · subst k3
    have h0 := (val_range ((hB.drop 21).take 2)).1
    by_cases h : 23 ≤ bs.length ∧ val ((bs.drop 21).take 2) ≤ 1024 ∧ val ((bs.drop 21).take 2) ≤ (bs.length : Int) - 23
    · rw [tkS_3 hB h.1 h.2.1 h.2.2] at e17
      by_cases h2 : val ((bs.drop 21).take 2) = (bs.length : Int) - 23
      · rw [if_neg (by omega), if_neg (by omega), if_pos ⟨rfl, h.1, h2⟩] at yes
        have et : (bs.drop 23).take (val ((bs.drop 21).take 2)).toNat = bs.drop 23 := List.take_of_length_le (by simp; omega)
        rw [et] at e17
        have e0 : (bs.drop (23 + (val ((bs.drop 21).take 2)).toNat)).length = 0 := by simp; omega
        exact yes _ (by rw [okT_of e17, e0]; rfl) (by rw [e17]) rfl
      · exact no (by rw [okT_of e17]; simp; omega) (by rw [if_neg (by omega), if_neg (by omega), if_neg (by omega), if_neg (by omega), if_neg (by omega)])
    · have hno := okT_wr (bs := bs) (by rw [e17]; exact tkS_3no hB h17 h)
      by_cases h2 : 23 ≤ bs.length ∧ val ((bs.drop 21).take 2) = (bs.length : Int) - 23
      · rw [if_neg (by omega), if_neg (by omega), if_pos ⟨rfl, h2⟩] at yes
        have hm := may_long (s := Sg.mk 3 ((bs.drop 1).take 16) 0 0 0 zero32 (val ((bs.drop 17).take 4)) none 0 (bs.drop 23) 0) (by simp; omega)
        have hs : shp bs = some (Sg.mk 3 ((bs.drop 1).take 16) 0 0 0 zero32 (val ((bs.drop 17).take 4)) none 0 (bs.drop 23) 0) := by
          unfold shp; rw [hK, if_neg (by omega), if_neg (by omega), if_neg (by omega), if_pos ⟨rfl, h2⟩]
        rw [sigT_bad hs hm, hno]; rfl
      · exact no hno (by rw [if_neg (by omega), if_neg (by omega), if_neg (by omega), if_neg (by omega), if_neg (by omega)])
  by_cases k5 : K = 5
  · subst k5
    by_cases h : 18 ≤ bs.length
    · rw [tkS_5 h] at e17
      by_cases h2 : bs.length = 18
      · rw [if_neg (by omega), if_neg (by omega), if_neg (by omega), if_neg (by omega), if_pos ⟨rfl, h2⟩] at yes
        exact yes _ (by rw [okT_of e17]; simp [h2]) (by rw [e17]) rfl
      · exact no (by rw [okT_of e17]; simp; omega) (by rw [if_neg (by omega), if_neg (by omega), if_neg (by omega), if_neg (by omega), if_neg (by omega)])
    · exact no (okT_wr (by rw [e17]; exact tkS_5no h17 h)) (by rw [if_neg (by omega), if_neg (by omega), if_neg (by omega), if_neg (by omega), if_neg (by omega)])
  rw [tkS_0 k1 k2 k3 k5] at e17
  by_cases h2 : (K = 4 ∨ K = 6) ∧ bs.length = 17
  · rw [if_neg (by omega), if_neg (by omega), if_neg (by omega), if_pos h2] at yes
    exact yes _ (by rw [okT_of e17]; simp [h2.2]) (by rw [e17]) rfl
  · refine no ?_ (by rw [if_neg (by omega), if_neg (by omega), if_neg (by omega), if_neg h2, if_neg (by omega)])
    rw [okT_of e17]
    by_cases h3 : bs.length = 17
    · rw [may_kind (by dsimp only; omega), Bool.and_false]
    · simp; omega
theorem okT_eq {bs : List Int} (hB : Bytes bs) : okT bs = (sigT bs).2 := by rw [← tkT_law hB]
theorem tkT_eq {bs : List Int} (hB : Bytes bs) : (if okT bs then (tkT bs).1 else Sg.zero) = (sigT bs).1 := by rw [← tkT_law hB]
end Go.Proofs.Ytnmeoleahcnnkaa
