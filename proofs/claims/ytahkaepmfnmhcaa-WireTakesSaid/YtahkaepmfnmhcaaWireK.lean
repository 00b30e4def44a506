/- What fields put is what the document puts: plain laws. -/
import Derived.Test.YtahkaepmfnmhcaaWireJ
import Derived.Test.YtahkaepmfnmhcaaRecS
namespace Go.Proofs.Ytahkaepmfnmhcaa
open Go Go.RowKit

theorem pts_all {lim : Int} : ∀ {l : List (List Int)} {bs : List Int}, (bs.length : Int) + total l ≤ lim → pts lim (bs, false) l = (bs ++ l.flatten, false)
  | [], bs, _ => by simp [pts]
  | x :: l, bs, h => by
    have e : total (x :: l) = x.length + total l := rfl
    rw [e] at h
    show pts lim (pt lim (bs, false) x) l = _
    rw [pt_ok (by simp at h ⊢; omega), pts_all (by simp at h ⊢; omega)]
    simp
theorem pt_bad {lim : Int} {bs xs : List Int} {wr : Bool} (h : wr = true ∨ lim < (bs.length : Int) + xs.length) : (pt lim (bs, wr) xs).2 = true := by
  rw [pt_no]
  rcases h with h | h
  · simp [h]
  · simp; right; omega
theorem pts_bad {lim : Int} : ∀ {l : List (List Int)} {bs : List Int}, (bs.length : Int) ≤ lim → lim < (bs.length : Int) + total l → (pts lim (bs, false) l).2 = true
  | [], bs, h, h2 => by simp [total] at h2; omega
  | x :: l, bs, h, h2 => by
    have e : total (x :: l) = x.length + total l := rfl
    rw [e] at h2
    show (pts lim (pt lim (bs, false) x) l).2 = true
    by_cases hx : (bs.length : Int) + x.length ≤ lim
    · rw [pt_ok hx]
      exact pts_bad (by simp; omega) (by simp at h2 ⊢; omega)
    · have := pt_bad (lim := lim) (bs := bs) (xs := x) (wr := false) (.inr (by omega))
      rw [pts_wr this]; exact this
theorem mny_ok {lim : Int} {bs : List Int} {most : Int} {n : Nat} (h1 : (n : Int) ≤ most) (h2 : (n : Int) < 65536) (h : (bs.length : Int) + 2 ≤ lim) : mny lim (bs, false) most n = (bs ++ be n 2, false) := by
  unfold mny
  have e : decide ((if (65535 : Int) < most then 65535 else most) < (n : Int)) = false := by
    simp only [decide_eq_false_iff_not]; split <;> omega
  rw [e, Bool.or_false, IntWalk.u16_in _ (by omega)]
  exact pt_ok (by rw [be_len]; omega)
theorem mny_bad {lim : Int} {bs : List Int} {wr : Bool} {most : Int} {n : Nat} (h : wr = true ∨ ¬ ((n : Int) ≤ most ∧ (n : Int) < 65536) ∨ lim < (bs.length : Int) + 2) : (mny lim (bs, wr) most n).2 = true := by
  unfold mny
  rcases h with h | h | h
  · exact pt_bad (.inl (by simp [h]))
  · refine pt_bad (.inl ?_)
    have : (if (65535 : Int) < most then 65535 else most) < (n : Int) := by split <;> omega
    simp [this]
  · exact pt_bad (.inr (by rw [be_len]; omega))

theorem putF_ok {lim : Int} {bs : List Int} {f : Fd} (h : okF f = true) (hl : (bs.length : Int) + (encF f).length ≤ lim) : putF lim (bs, false) f = (bs ++ encF f, false) := by
  unfold putF encF okF at *
  split
  · rename_i k; rw [if_pos k] at hl; exact pt_ok hl
  rename_i k0; rw [if_neg k0] at hl
  split
  · rename_i k; rw [if_pos k] at hl; exact pt_ok hl
  rename_i k1; rw [if_neg k1] at hl
  split
  · rename_i k; rw [if_pos k] at hl; exact pt_ok hl
  rename_i k2; rw [if_neg k2] at hl
  split
  · rename_i k; rw [if_pos k] at hl; exact pt_ok hl
  rename_i k3; rw [if_neg k3] at hl
  split
  · rename_i k; rw [if_pos k] at hl; exact pt_ok hl
  rename_i k4; rw [if_neg k4] at hl
  split
  · rename_i k
    rw [if_pos k] at hl h
    rw [List.length_append, be_len] at hl
    simp only [Bool.and_eq_true, decide_eq_true_eq] at h
    rw [mny_ok h.1 h.2 (by omega), pt_ok (by rw [List.length_append, be_len]; omega), List.append_assoc]
  rename_i k5; rw [if_neg k5] at hl h
  split
  · rename_i k
    rw [if_pos k] at hl h
    rw [List.length_append, be_len, flat_b4] at hl
    simp only [Bool.and_eq_true, decide_eq_true_eq] at h
    have e : decide (f.most < 0) = false := by simp; omega
    dsimp only
    rw [e, Bool.or_false, mny_ok h.1 h.2 (by omega), pts_all (by rw [List.length_append, be_len, total_b4]; omega), List.append_assoc]
  · simp
theorem putF_bad {lim : Int} {bs : List Int} {f : Fd} (hf : Fit lim (bs, false)) (h : ¬ (okF f = true ∧ (bs.length : Int) + (encF f).length ≤ lim)) : (putF lim (bs, false) f).2 = true ∨ lim < 0 := by
  unfold putF encF okF at *
  by_cases k0 : f.kind = 0
  · rw [if_neg (by omega), if_neg (by omega), if_pos k0] at h; rw [if_pos k0]; exact .inl (pt_bad (.inr (by simp at h ⊢; omega)))
  rw [if_neg k0] at h ⊢
  by_cases k1 : f.kind = 1
  · rw [if_neg (by omega), if_neg (by omega), if_pos k1] at h; rw [if_pos k1]; exact .inl (pt_bad (.inr (by simp at h ⊢; omega)))
  rw [if_neg k1] at h ⊢
  by_cases k2 : f.kind = 2
  · rw [if_neg (by omega), if_neg (by omega), if_pos k2] at h; rw [if_pos k2]; exact .inl (pt_bad (.inr (by simp at h ⊢; omega)))
  rw [if_neg k2] at h ⊢
  by_cases k3 : f.kind = 3
  · rw [if_neg (by omega), if_neg (by omega), if_pos k3] at h; rw [if_pos k3]; exact .inl (pt_bad (.inr (by simp only [true_and] at h; omega)))
  rw [if_neg k3] at h ⊢
  by_cases k4 : f.kind = 4
  · rw [if_neg (by omega), if_neg (by omega), if_pos k4] at h; rw [if_pos k4]; exact .inl (pt_bad (.inr (by simp only [true_and] at h; omega)))
  rw [if_neg k4] at h ⊢
  by_cases k5 : f.kind = 5
  · rw [if_pos k5, if_pos k5, List.length_append, be_len] at h
    rw [if_pos k5]
    left
    by_cases hm : ((f.b.length : Int) ≤ f.most ∧ (f.b.length : Int) < 65536) ∧ (bs.length : Int) + 2 ≤ lim
    · rw [mny_ok hm.1.1 hm.1.2 hm.2]
      refine pt_bad (.inr ?_)
      simp only [Bool.and_eq_true, decide_eq_true_eq] at h
      rw [List.length_append, be_len]
      omega
    · have := mny_bad (lim := lim) (bs := bs) (wr := false) (most := f.most) (n := f.b.length) (.inr (by omega))
      obtain ⟨⟨a, b⟩, e⟩ : ∃ s, mny lim (bs, false) f.most f.b.length = s := ⟨_, rfl⟩
      rw [e] at this ⊢
      exact pt_bad (.inl this)
  rw [if_neg k5, if_neg k5] at h
  rw [if_neg k5]
  by_cases k6 : f.kind = 6
  · rw [if_pos k6, if_pos k6, List.length_append, be_len, flat_b4] at h
    rw [if_pos k6]
    left
    by_cases hm : ((f.l.length : Int) ≤ f.most ∧ (f.l.length : Int) < 65536) ∧ (bs.length : Int) + 2 ≤ lim
    · have e : decide (f.most < 0) = false := by simp; omega
      rw [e, Bool.or_false, mny_ok hm.1.1 hm.1.2 hm.2]
      simp only [Bool.and_eq_true, decide_eq_true_eq] at h
      exact pts_bad (by rw [List.length_append, be_len]; omega) (by rw [List.length_append, be_len, total_b4]; omega)
    · have := mny_bad (lim := lim) (bs := bs) (wr := false || decide (f.most < 0)) (most := f.most) (n := f.l.length) (.inr (by omega))
      rw [pts_wr this]; exact this
  rw [if_neg k6, if_neg k6] at h
  rw [if_neg k6]
  right
  simp at h
  rcases hf with hf | hf
  · dsimp only at hf; omega
  · dsimp only at hf; omega
theorem putF_wr (lim : Int) (bs : List Int) (f : Fd) : (putF lim (bs, true) f).2 = true := by
  unfold putF
  split
  · rw [pt_true]
  split
  · rw [pt_true]
  split
  · rw [pt_true]
  split
  · rw [pt_true]
  split
  · rw [pt_true]
  split
  · rw [mny_wr, pt_true]
  split
  · rw [Bool.true_or, mny_wr, pts_wr rfl]
  · rfl
theorem puts_wr (lim : Int) : ∀ (fs : List Fd) (st : List Int × Bool), st.2 = true → (puts lim st fs).2 = true
  | [], _, h => h
  | f :: fs, (a, b), h => by
    cases h
    exact puts_wr lim fs _ (putF_wr lim a f)
theorem puts_law {lim : Int} : ∀ (fs : List Fd) {bs : List Int}, Fit lim (bs, false) → ((okFs fs = true ∧ (bs.length : Int) + (encs fs).length ≤ lim) → puts lim (bs, false) fs = (bs ++ encs fs, false)) ∧ (¬ (okFs fs = true ∧ (bs.length : Int) + (encs fs).length ≤ lim) → (puts lim (bs, false) fs).2 = true ∨ lim < 0)
  | [], bs, hf => by
    refine ⟨fun _ => by simp [puts, encs], fun h => .inr ?_⟩
    have : ¬ ((bs.length : Int) ≤ lim) := by simpa [okFs, encs] using h
    rcases hf with hf | hf
    · dsimp only at hf; omega
    · exact absurd hf this
  | f :: fs, bs, hf => by
    have e : encs (f :: fs) = encF f ++ encs fs := rfl
    have eo : okFs (f :: fs) = (okF f && okFs fs) := rfl
    rw [e, eo]
    show ((_ → puts lim (putF lim (bs, false) f) fs = _) ∧ (_ → (puts lim (putF lim (bs, false) f) fs).2 = true ∨ _))
    by_cases h1 : okF f = true ∧ (bs.length : Int) + (encF f).length ≤ lim
    · rw [putF_ok h1.1 h1.2]
      obtain ⟨i1, i2⟩ := puts_law (lim := lim) fs (bs := bs ++ encF f) (.inr (by rw [List.length_append]; omega))
      rw [h1.1, Bool.true_and]
      rw [List.length_append] at i1 i2 ⊢
      refine ⟨fun h => ?_, fun h => i2 (fun h2 => h ⟨h2.1, by omega⟩)⟩
      rw [i1 ⟨h.1, by omega⟩, List.append_assoc]
    · refine ⟨fun h => absurd ⟨by have := h.1; simp at this; exact this.1, by have := h.2; rw [List.length_append] at this; omega⟩ h1, fun _ => ?_⟩
      rcases putF_bad hf h1 with h2 | h2
      · exact .inl (puts_wr lim fs _ h2)
      · exact .inr h2
/-- What Bytes tells. -/
theorem puts_out {lim : Int} (fs : List Fd) : (((puts lim ([], false) fs).2 || decide (lim < 0)) = !(okFs fs && decide (((encs fs).length : Int) ≤ lim))) ∧ ((okFs fs && decide (((encs fs).length : Int) ≤ lim)) = true → (puts lim ([], false) fs).1 = encs fs) := by
  obtain ⟨h1, h2⟩ := puts_law (lim := lim) fs (bs := []) (.inl rfl)
  simp only [List.length_nil, List.nil_append] at h1 h2
  by_cases h : okFs fs = true ∧ (0 : Int) + (encs fs).length ≤ lim
  · have e := h1 (by simpa using h)
    have hl : ¬ lim < 0 := by omega
    have hl2 : ((encs fs).length : Int) ≤ lim := by omega
    rw [e]
    simp [h.1, hl, hl2]
  · have e := h2 (by simpa using h)
    have hb : (okFs fs && decide (((encs fs).length : Int) ≤ lim)) = false := by
      cases ho : okFs fs with
      | false => rfl
      | true =>
        have : ¬ ((encs fs).length : Int) ≤ lim := fun h3 => h ⟨ho, by omega⟩
        simp [this]
    rw [hb]
    refine ⟨?_, fun h => by cases h⟩
    rcases e with e | e
    · rw [e]; rfl
    · simp [e]
end Go.Proofs.Ytahkaepmfnmhcaa
