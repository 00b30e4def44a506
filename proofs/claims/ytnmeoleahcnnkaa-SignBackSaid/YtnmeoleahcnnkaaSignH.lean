/- Signals, there and back: plain laws. -/
import Derived.Test.YtnmeoleahcnnkaaSignG
import Derived.Test.YtnmeoleahcnnkaaRecS
namespace Go.Proofs.Ytnmeoleahcnnkaa
open Go Go.RowKit

/-- Without its place in memory. -/
def Sg.norm (s : Sg) : Sg := { s with da := none, dc := 0 }
theorem norm_norm (s : Sg) : s.norm.norm = s.norm := rfl
theorem mayS_norm (s : Sg) : mayS s.norm = mayS s := rfl
theorem sigB_norm (s : Sg) : sigB s.norm = sigB s := rfl
theorem sameS_iff {a b : Sg} : sameS a b = true ↔ a.norm = b.norm := by
  obtain ⟨k, i, ca, cd, ce, ky, n, da, dc, d, rs⟩ := a
  obtain ⟨k', i', ca', cd', ce', ky', n', da', dc', d', rs'⟩ := b
  simp only [sameS, Sg.norm, Bool.and_eq_true, decide_eq_true_eq, Sg.mk.injEq, true_and]
  constructor
  · rintro ⟨⟨⟨⟨⟨⟨⟨h1, h2⟩, h3, h4⟩, h5⟩, h6⟩, h7⟩, h8⟩, h9⟩
    exact ⟨h1, h2, h3, h4, h5, h6, h7, h8, h9⟩
  · rintro ⟨h1, h2, h3, h4, h5, h6, h7, h8, h9⟩
    exact ⟨⟨⟨⟨⟨⟨⟨h1, h2⟩, h3, h4⟩, h5⟩, h6⟩, h7⟩, h8⟩, h9⟩
theorem sameS_self (a : Sg) : sameS a a.norm = true := sameS_iff.2 rfl

section
variable {k : Int} {id P : List Int} (h : id.length = 16)
include h
theorem hd_id : (([k] ++ id ++ P).drop 1).take 16 = id := by
  rw [List.append_assoc, List.singleton_append, List.drop_succ_cons, List.drop_zero, List.take_left' h]
theorem hd_drop (j : Nat) : ([k] ++ id ++ P).drop (17 + j) = P.drop j := by
  rw [← List.drop_drop, List.drop_left' (by simp [h])]
theorem hd_get (j : Nat) : ([k] ++ id ++ P).getD (17 + j) 0 = P.getD j 0 := by
  simp only [List.getD]
  rw [List.getElem?_append_right (by simp [h])]
  simp [h]
theorem hd_len : ([k] ++ id ++ P).length = 17 + P.length := by simp [h]; omega
end
theorem hd_0 {k : Int} {id P : List Int} : ([k] ++ id ++ P).getD 0 0 = k := rfl

theorem shp_B {s : Sg} (hs : s.ok) (hm : mayS s = true) : shp (sigB s) = some s.norm := by
  have h16 := hs.il
  have h32 := hs.kl
  have hd := mayS_data hm
  rw [may_ref] at hm
  unfold sigB shp
  rw [hd_0, hd_id h16, hd_len h16, if_neg (by omega), show (17 : Nat) = 17 + 0 from rfl]
  simp only [show (18 : Nat) = 17 + 1 from rfl, show (19 : Nat) = 17 + 2 from rfl, show (20 : Nat) = 17 + 3 from rfl, show (21 : Nat) = 17 + 4 from rfl, show (23 : Nat) = 17 + 6 from rfl, hd_get h16, hd_drop h16]
  by_cases k1 : s.kind = 1
  · rw [if_pos k1, Bool.and_eq_true, sameS_iff] at hm
    have e : sigP s = [s.ca, s.cd, s.ce] ++ s.key := by unfold sigP; rw [if_pos k1]
    rw [e, if_pos ⟨k1, by simp [h32]⟩, hm.2]
    congr 1
    unfold Sg.norm
    have e2 : (([s.ca, s.cd, s.ce] ++ s.key).drop 3).take 32 = s.key := List.take_of_length_le (l := s.key) (by omega)
    rw [e2]; rfl
  rw [if_neg k1] at hm
  rw [if_neg (by omega)]
  by_cases k2 : s.kind = 2
  · rw [if_pos k2, sameS_iff] at hm
    have e : sigP s = s.key := by unfold sigP; rw [if_neg k1, if_pos k2]
    rw [e, if_pos ⟨k2, by omega⟩, hm]
    congr 1
    unfold Sg.norm
    rw [List.drop_zero, List.take_of_length_le (by omega)]
  rw [if_neg k2] at hm
  rw [if_neg (by omega)]
  by_cases k3 : s.kind = 3
  · rw [if_pos k3, Bool.and_eq_true, sameS_iff] at hm
    have e : sigP s = be s.n 4 ++ (be s.data.length 2 ++ s.data) := by unfold sigP; rw [if_neg k1, if_neg k2, if_pos k3, List.append_assoc]
    have l4 := be_len s.n 4
    have l2 := be_len (s.data.length : Int) 2
    have e1 : ((sigP s).drop 4).take 2 = be s.data.length 2 := by rw [e, List.drop_left' l4, List.take_left' l2]
    have e2 : ((sigP s).drop 0).take 4 = be s.n 4 := by rw [e, List.drop_zero, List.take_left' l4]
    have e3 : (sigP s).drop 6 = s.data := by rw [e, ← List.append_assoc, List.drop_left' (by rw [List.length_append]; omega)]
    have lP : (sigP s).length = 6 + s.data.length := by rw [e]; simp [l4, l2]; omega
    have v2 : val (be (s.data.length : Int) 2) = s.data.length := val_be 2 _ (by omega) (by have : (256 : Int) ^ 2 = 65536 := by decide
                                                                                            omega)
    have v4 : val (be s.n 4) = s.n := val_be 4 _ hs.n.1 (by have : (256 : Int) ^ 4 = 4294967296 := by decide
                                                            have := hs.n.2
                                                            omega)
    rw [e1, e2, e3, v2, v4, if_pos ⟨k3, by omega, by omega⟩, hm.2]
    rfl
  rw [if_neg k3] at hm
  rw [if_neg (by omega)]
  by_cases k5 : s.kind = 5
  · rw [if_neg (by omega), if_neg (by omega), if_pos k5, Bool.and_eq_true, sameS_iff] at hm
    have e : sigP s = [s.rs] := by unfold sigP; rw [if_neg k1, if_neg k2, if_neg k3, if_pos k5]
    rw [e, if_neg (by omega), if_pos ⟨k5, rfl⟩, hm.2]
    rfl
  have e : sigP s = [] := by unfold sigP; rw [if_neg k1, if_neg k2, if_neg k3, if_neg k5]
  rw [e]
  by_cases k4 : s.kind = 4
  · rw [if_pos k4, sameS_iff] at hm
    rw [if_pos ⟨.inl k4, rfl⟩, hm]
    rfl
  rw [if_neg k4] at hm
  by_cases k6 : s.kind = 6
  · rw [if_pos k6, sameS_iff] at hm
    rw [if_pos ⟨.inr k6, rfl⟩, hm]
    rfl
  rw [if_neg k6, if_neg k5] at hm
  exact absurd hm (by decide)
theorem sigT_B {s : Sg} (hs : s.ok) (hm : mayS s = true) : sigT (sigB s) = (s.norm, true) := sigT_ok (shp_B hs hm) (by rw [mayS_norm]; exact hm)

/-- How long bytes are that are one's. -/
def lenS (K v : Int) : Int := if K = 1 then 52 else if K = 2 then 49 else if K = 3 then 23 + v else if K = 5 then 18 else 17
theorem shp_len {bs : List Int} {t : Sg} (h : shp bs = some t) : 17 ≤ bs.length ∧ (bs.getD 0 0 = 3 → 23 ≤ bs.length) ∧ (bs.length : Int) = lenS (bs.getD 0 0) (val ((bs.drop 21).take 2)) := by
  unfold shp at h
  unfold lenS
  split at h
  · cases h
  split at h
  · rename_i h2; rw [if_pos h2.1]; omega
  split at h
  · rename_i h2 h3; rw [if_neg (by omega), if_pos h3.1]; omega
  split at h
  · rename_i h2 h3 h4; rw [if_neg (by omega), if_neg (by omega), if_pos h4.1]; omega
  split at h
  · rename_i h2 h3 h4 h5; rw [if_neg (by omega), if_neg (by omega), if_neg (by omega), if_neg (by omega)]; omega
  split at h
  · rename_i h2 h3 h4 h5 h6; rw [if_neg (by omega), if_neg (by omega), if_neg (by omega), if_pos h6.1]; omega
  · cases h
theorem sigT_shp {bs : List Int} (h : (sigT bs).2 = true) : ∃ t, shp bs = some t ∧ mayS t = true ∧ sigT bs = (t, true) := by
  cases hs : shp bs with
  | none => rw [sigT_none hs] at h; cases h
  | some t =>
    cases hm : mayS t with
    | false => rw [sigT_bad hs hm] at h; cases h
    | true => exact ⟨t, rfl, hm, sigT_ok hs hm⟩
theorem sigT_cut {bs : List Int} (h : (sigT bs).2 = true) {m : Nat} (hm : m < bs.length) : (sigT (bs.take m)).2 = false := by
  cases h2 : (sigT (bs.take m)).2 with
  | false => rfl
  | true =>
    obtain ⟨t, ht, _⟩ := sigT_shp h
    obtain ⟨t2, ht2, _⟩ := sigT_shp h2
    obtain ⟨a1, a2, a3⟩ := shp_len ht
    obtain ⟨b1, b2, b3⟩ := shp_len ht2
    rw [List.length_take] at b1 b2 b3
    have e0 : (bs.take m).getD 0 0 = bs.getD 0 0 := by simp only [List.getD]; rw [List.getElem?_take, if_pos (by omega)]
    rw [e0] at b2 b3
    by_cases k3 : bs.getD 0 0 = 3
    · have := b2 k3
      have e1 : ((bs.take m).drop 21).take 2 = (bs.drop 21).take 2 := by rw [List.drop_take, List.take_take, show min 2 (m - 21) = 2 by omega]
      rw [e1] at b3
      omega
    · have e1 : ∀ v w, lenS (bs.getD 0 0) v = lenS (bs.getD 0 0) w := fun v w => by simp only [lenS, if_neg k3]
      rw [e1 _ (val ((bs.drop 21).take 2))] at b3
      omega
theorem sigT_more {bs : List Int} (h : (sigT bs).2 = true) (x : Int) : (sigT (bs ++ [x])).2 = false := by
  cases h2 : (sigT (bs ++ [x])).2 with
  | false => rfl
  | true =>
    have := sigT_cut h2 (m := bs.length) (by simp)
    rw [List.take_left' rfl, h] at this
    cases this
theorem drop_one {bs : List Int} {i : Nat} (h : i < bs.length) : bs.drop i = [bs.getD i 0] ++ bs.drop (i + 1) := by
  have := List.take_append_drop 1 (bs.drop i)
  rw [take1 h, List.drop_drop] at this
  exact this.symm
theorem drop_k (bs : List Int) (i k : Nat) : bs.drop i = (bs.drop i).take k ++ bs.drop (i + k) := by
  have := List.take_append_drop k (bs.drop i)
  rw [List.drop_drop] at this
  exact this.symm
theorem drop_end {bs : List Int} {i : Nat} (h : bs.length = i) : bs.drop i = [] := List.drop_eq_nil_iff.2 (by omega)
theorem split17 {bs : List Int} (h : 17 ≤ bs.length) : bs = [bs.getD 0 0] ++ (bs.drop 1).take 16 ++ bs.drop 17 := by
  have e := drop_one (bs := bs) (i := 0) (by omega)
  rw [List.drop_zero] at e
  have e2 := drop_k bs 1 16
  rw [List.append_assoc, ← e2]
  exact e
theorem sigB_shp {bs : List Int} (hB : Bytes bs) {t : Sg} (h : shp bs = some t) : sigB t = bs := by
  have hl := (shp_len h).1
  have e0 := split17 hl
  unfold shp at h
  have fin : ∀ {k : Int} {t : Sg}, t.kind = bs.getD 0 0 → t.id = (bs.drop 1).take 16 → sigP t = bs.drop 17 → sigB t = bs := fun h1 h2 h3 => by
    unfold sigB; rw [h1, h2, h3]; exact e0.symm
  rw [if_neg (by omega)] at h
  split at h
  · rename_i h2
    cases h
    refine fin (k := 0) rfl rfl ?_
    unfold sigP
    rw [if_pos h2.1, drop_one (bs := bs) (i := 17) (by omega), drop_one (bs := bs) (i := 17 + 1) (by omega), drop_one (bs := bs) (i := 17 + 1 + 1) (by omega), drop_k bs (17 + 1 + 1 + 1) 32, drop_end (i := 17 + 1 + 1 + 1 + 32) h2.2]
    simp
    rw [List.take_take, Nat.min_self]
  split at h
  · rename_i h1 h2
    cases h
    refine fin (k := 0) rfl rfl ?_
    unfold sigP
    rw [if_neg (by dsimp only; omega), if_pos h2.1, drop_k bs 17 32, drop_end (i := 17 + 32) h2.2]
    simp
    rw [List.take_take, Nat.min_self]
  split at h
  · rename_i h1 h2 h3
    cases h
    refine fin (k := 0) rfl rfl ?_
    unfold sigP
    rw [if_neg (by dsimp only; omega), if_neg (by dsimp only; omega), if_pos h3.1]
    dsimp only
    have e1 : be (val ((bs.drop 17).take 4)) 4 = (bs.drop 17).take 4 := by
      have := be_val ((hB.drop 17).take 4)
      rwa [show ((bs.drop 17).take 4).length = 4 by simp; omega] at this
    have e2 : be ((bs.drop 23).length : Int) 2 = (bs.drop 21).take 2 := by
      have := be_val ((hB.drop 21).take 2)
      rw [show ((bs.drop 21).take 2).length = 2 by simp; omega] at this
      rw [show (((bs.drop 23).length : Nat) : Int) = val ((bs.drop 21).take 2) by simp; omega]
      exact this
    rw [e1, e2, List.append_assoc, ← drop_k bs 21 2, ← drop_k bs 17 4]
  split at h
  · rename_i h1 h2 h3 h4
    cases h
    refine fin (k := 0) rfl rfl ?_
    unfold sigP
    rw [if_neg (by dsimp only; omega), if_neg (by dsimp only; omega), if_neg (by dsimp only; omega), if_neg (by dsimp only; omega), drop_end h4.2]
  split at h
  · rename_i h1 h2 h3 h4 h5
    cases h
    refine fin (k := 0) rfl rfl ?_
    unfold sigP
    rw [if_neg (by dsimp only; omega), if_neg (by dsimp only; omega), if_neg (by dsimp only; omega), if_pos h5.1, drop_one (bs := bs) (i := 17) (by omega), drop_end (i := 17 + 1) h5.2]
    simp
  · cases h
theorem sigT_zero {bs : List Int} (h : (sigT bs).2 = false) : (sigT bs).1 = Sg.zero := by
  unfold sigT at h ⊢
  cases hs : shp bs with
  | none => rfl
  | some t =>
    rw [hs] at h
    cases hm : mayS t with
    | false => simp [hm]
    | true => simp [hm] at h
theorem sigT_okS {bs : List Int} (hB : Bytes bs) : (sigT bs).1.ok := by
  have z : 0 ≤ (0 : Int) ∧ (0 : Int) < 256 := by decide
  have z4 : 0 ≤ (0 : Int) ∧ (0 : Int) < 4294967296 := by decide
  rw [← tkT_eq hB]
  split
  · refine (tkS_ok (s := Sg.mk (val (tkR 1 bs false)) (over (tkR 16 (tkB 1 bs false) (tkW 1 bs false)) (List.replicate 16 0)) 0 0 0 zero32 0 none 0 [] 0) ⟨?_, over_len (tkR_len 16 _ _) rfl, over_bytes ((hB.tkB 1 false).tkR 16 _) (zrep 16), z, z, z, zero32_ok.1, zero32_ok.2, z4, (fun _ h => by cases h), z⟩ ((hB.tkB 1 false).tkB 16 _)).1
    have := val1 hB false
    dsimp only
    omega
  · exact zero_sg
end Go.Proofs.Ytnmeoleahcnnkaa
