/- What the document's taking tells: plain laws. -/
import Derived.Test.YtahkaepmfnmhcaaWireR
namespace Go.Proofs.Ytahkaepmfnmhcaa
open Go Go.RowKit

theorem tks_app : ∀ (fs gs : List Fd) (B : List Int) (W : Bool), tks (fs ++ gs) B W = ((tks fs B W).1 ++ (tks gs (tks fs B W).2.1 (tks fs B W).2.2).1, (tks gs (tks fs B W).2.1 (tks fs B W).2.2).2)
  | [], gs, B, W => rfl
  | f :: fs, gs, B, W => by
    show ((tkF f B W).1 :: (tks (fs ++ gs) (tkF f B W).2.1 (tkF f B W).2.2).1, (tks (fs ++ gs) (tkF f B W).2.1 (tkF f B W).2.2).2) = _
    rw [tks_app fs gs]; rfl
theorem tks_bad {fs : List Fd} {j : Nat} {f : Fd} {B : List Int} (h : fs[j]? = some f) (hs : (tks (fs.take j) B false).2.2 = false) (hf : (tkF f (tks (fs.take j) B false).2.1 false).2.2 = true) : (tks fs B false).2.2 = true := by
  have e : fs = fs.take j ++ (f :: fs.drop (j + 1)) := by
    obtain ⟨hl, rfl⟩ := List.getElem?_eq_some_iff.1 h
    rw [← List.drop_eq_getElem_cons hl, List.take_append_drop]
  rw [e, tks_app, hs]
  show (tks (fs.drop (j + 1)) _ (tkF f (tks (fs.take j) B false).2.1 false).2.2).2.2 = true
  rw [hf, tks_wr]
theorem tq_yes {k : Nat} {B : List Int} (h : k ≤ B.length) : tkR k B false = B.take k ∧ tkB k B false = B.drop k ∧ tkW k B false = false := by
  simp [tkR, tkB, tkW, tkOk, h]
theorem tq_no {k : Nat} {B : List Int} (h : B.length < k) : tkW k B false = true := by
  simp [tkW, tkOk]; omega
/-- How many bytes a field's first part has. -/
def wd (f : Fd) : Nat := if f.kind = 0 ∨ f.kind = 3 then 1 else if f.kind = 1 then 4 else if f.kind = 2 then 8 else if f.kind = 4 then f.b.length else if f.kind = 5 ∨ f.kind = 6 then 2 else 0
theorem tkF_no {f : Fd} {B : List Int} (h : B.length < wd f) : (tkF f B false).2.2 = true := by
  unfold wd at h
  unfold tkF
  split
  · rename_i hk; rw [if_pos (.inl hk)] at h; exact tq_no h
  split
  · rename_i h0 hk; rw [if_neg (by omega), if_pos hk] at h; exact tq_no h
  split
  · rename_i h0 h1 hk; rw [if_neg (by omega), if_neg h1, if_pos hk] at h; exact tq_no h
  split
  · rename_i h0 h1 h2 hk; rw [if_pos (.inr hk)] at h; simp [flW, tq_no h]
  split
  · rename_i h0 h1 h2 h3 hk; rw [if_neg (by omega), if_neg h1, if_neg h2, if_pos hk] at h; exact tq_no h
  split
  · rename_i h0 h1 h2 h3 h4 hk; rw [if_neg (by omega), if_neg h1, if_neg h2, if_neg h4, if_pos (.inl hk)] at h; simp [mnW, tq_no h, tkW_true]
  split
  · rename_i h0 h1 h2 h3 h4 h5 hk; rw [if_neg (by omega), if_neg h1, if_neg h2, if_neg h4, if_pos (.inr hk)] at h
    dsimp only
    unfold tlS
    rw [show mnW B false f.most = true by simp [mnW, tq_no h], tkl_wr]
  · rename_i h0 h1 h2 h3 h4 h5 h6; rw [if_neg (by omega), if_neg h1, if_neg h2, if_neg h4, if_neg (by omega)] at h; omega
/-- A number's field. -/
theorem tkF_num {f : Fd} {B : List Int} (hB : Bytes B) (h : wd f ≤ B.length) (h4 : f.kind ≠ 4) (h5 : f.kind ≠ 5) (h6 : f.kind ≠ 6) (h3 : ¬ (f.kind = 3 ∧ 1 < val (B.take (wd f)))) :
    tkF f B false = (Fd.mk f.kind (val (B.take (wd f))) none 0 [] none 0 [] f.most, B.drop (wd f), false) := by
  obtain ⟨e1, e2, e3⟩ := tq_yes h
  unfold tkF
  split
  · rename_i hk; rw [show wd f = 1 by unfold wd; rw [if_pos (.inl hk)]] at *; rw [e1, e2, e3]
  split
  · rename_i h0 hk; rw [show wd f = 4 by unfold wd; rw [if_neg (by omega), if_pos hk]] at *; rw [e1, e2, e3]
  split
  · rename_i h0 h1 hk; rw [show wd f = 8 by unfold wd; rw [if_neg (by omega), if_neg h1, if_pos hk]] at *; rw [e1, e2, e3]
  split
  · rename_i h0 h1 h2 hk
    rw [show wd f = 1 by unfold wd; rw [if_pos (.inr hk)]] at *
    have hv := val1 hB false
    have hle : ¬ 1 < val (B.take 1) := fun q => h3 ⟨hk, q⟩
    have e4 : flW B false = false := by simp [flW, e3, e1]; omega
    rw [e2, e4]
    congr 2
    unfold flR
    rw [e1] at hv ⊢
    by_cases q : val (B.take 1) = 1
    · rw [q]; rfl
    · rw [decide_eq_false q]; have : val (B.take 1) = 0 := by omega
      rw [this]; rfl
  rename_i h0 h1 h2 h3'
  rw [show wd f = 0 by unfold wd; rw [if_neg (by omega), if_neg h1, if_neg h2, if_neg h4, if_neg (by omega)]]
  rfl
theorem tkF_flag {f : Fd} {B : List Int} (h : wd f ≤ B.length) (h3 : f.kind = 3 ∧ 1 < val (B.take (wd f))) : (tkF f B false).2.2 = true := by
  have hw : wd f = 1 := by unfold wd; rw [if_pos (.inr h3.1)]
  rw [hw] at h h3
  obtain ⟨e1, _, _⟩ := tq_yes h
  unfold tkF
  rw [if_neg (by omega), if_neg (by omega), if_neg (by omega), if_pos h3.1]
  simp [flW, e1, h3.2]
theorem tkF_fix {f : Fd} {B : List Int} (h : wd f ≤ B.length) (hk : f.kind = 4) : wd f = f.b.length ∧ tkF f B false = (Fd.mk f.kind 0 none 0 (B.take (wd f)) none 0 [] f.most, B.drop (wd f), false) := by
  have hw : wd f = f.b.length := by unfold wd; rw [if_neg (by omega), if_neg (by omega), if_neg (by omega), if_pos hk]
  rw [hw] at h ⊢
  obtain ⟨e1, e2, e3⟩ := tq_yes h
  refine ⟨rfl, ?_⟩
  unfold tkF
  rw [if_neg (by omega), if_neg (by omega), if_neg (by omega), if_neg (by omega), if_pos hk, e1, e2, e3]
theorem wd2 {f : Fd} (hk : f.kind = 5 ∨ f.kind = 6) : wd f = 2 := by unfold wd; rw [if_neg (by omega), if_neg (by omega), if_neg (by omega), if_neg (by omega), if_pos hk]
section
variable {f : Fd} {B : List Int} {n : Nat}
theorem tkF_szd (h : 2 ≤ B.length) (hn : val (B.take 2) = (n : Int)) (hk : f.kind = 5) (hm : ¬ f.most < (n : Int)) (hl : n ≤ (B.drop 2).length) : tkF f B false = (Fd.mk f.kind 0 none 0 ((B.drop 2).take n) none 0 [] f.most, (B.drop 2).drop n, false) := by
  obtain ⟨e1, e2, e3⟩ := tq_yes h
  have e4 : mnW B false f.most = false := by simp [mnW, e3, e1, hn]; omega
  have e5 : szK B false = n := by unfold szK; rw [e1, hn]; rfl
  obtain ⟨q1, q2, q3⟩ := tq_yes hl
  unfold tkF
  rw [if_neg (by omega), if_neg (by omega), if_neg (by omega), if_neg (by omega), if_neg (by omega), if_pos hk, e2, e4, e5, q1, q2, q3]
theorem tkF_mny (h : 2 ≤ B.length) (hn : val (B.take 2) = (n : Int)) (hk : f.kind = 5 ∨ f.kind = 6) (hm : f.most < (n : Int)) : (tkF f B false).2.2 = true := by
  obtain ⟨e1, e2, e3⟩ := tq_yes h
  have e4 : mnW B false f.most = true := by simp [mnW, e1, hn]; omega
  unfold tkF
  rcases hk with hk | hk
  · rw [if_neg (by omega), if_neg (by omega), if_neg (by omega), if_neg (by omega), if_neg (by omega), if_pos hk, e4]; simp [tkW_true]
  · rw [if_neg (by omega), if_neg (by omega), if_neg (by omega), if_neg (by omega), if_neg (by omega), if_neg (by omega), if_pos hk]
    dsimp only; unfold tlS; rw [e4, tkl_wr]
theorem tkF_shr (h : 2 ≤ B.length) (hn : val (B.take 2) = (n : Int)) (hk : f.kind = 5) (hl : (B.drop 2).length < n) : (tkF f B false).2.2 = true := by
  obtain ⟨e1, e2, e3⟩ := tq_yes h
  have e5 : szK B false = n := by unfold szK; rw [e1, hn]; rfl
  unfold tkF
  rw [if_neg (by omega), if_neg (by omega), if_neg (by omega), if_neg (by omega), if_neg (by omega), if_pos hk, e2, e5]
  dsimp only
  cases mnW B false f.most with
  | true => exact tkW_true _ _
  | false => exact tq_no hl
/-- A list's numbers. -/
def chk (B : List Int) (n : Nat) : List Int := (List.range n).map fun k => val ((B.drop (4 * k)).take 4)
theorem chk_len (B : List Int) (n : Nat) : (chk B n).length = n := by simp [chk]
theorem chk_succ (B : List Int) (n : Nat) : chk B (n + 1) = chk B n ++ [val ((B.drop (4 * n)).take 4)] := by simp [chk, List.range_succ]
theorem chk_cons (B : List Int) (n : Nat) : chk B (n + 1) = val (B.take 4) :: chk (B.drop 4) n := by
  unfold chk
  rw [List.range_succ_eq_map, List.map_cons, List.map_map]
  congr 1
  refine List.map_congr_left fun k _ => ?_
  show val ((B.drop (4 * (k + 1))).take 4) = val (((B.drop 4).drop (4 * k)).take 4)
  rw [List.drop_drop]
  congr 3
  omega
theorem tkl_all : ∀ (n : Nat) (B : List Int), 4 * n ≤ B.length → tkl n B false = (chk B n, B.drop (4 * n), false)
  | 0, B, _ => rfl
  | n + 1, B, h => by
    obtain ⟨e1, e2, e3⟩ := tq_yes (k := 4) (B := B) (by omega)
    show (val (tkR 4 B false) :: (tkl n (tkB 4 B false) (tkW 4 B false)).1, (tkl n (tkB 4 B false) (tkW 4 B false)).2) = _
    rw [e1, e2, e3, tkl_all n (B.drop 4) (by rw [List.length_drop]; omega), chk_cons, List.drop_drop]
    rw [show 4 + 4 * n = 4 * (n + 1) by omega]
theorem tkl_few : ∀ (n : Nat) (B : List Int), B.length < 4 * n → (tkl n B false).2.2 = true
  | 0, B, h => by omega
  | n + 1, B, h => by
    show (tkl n (tkB 4 B false) (tkW 4 B false)).2.2 = true
    by_cases h4 : 4 ≤ B.length
    · obtain ⟨_, e2, e3⟩ := tq_yes (k := 4) (B := B) h4
      rw [e2, e3]
      exact tkl_few n _ (by rw [List.length_drop]; omega)
    · rw [tq_no (by omega), tkl_wr]
theorem tkF_lst (h : 2 ≤ B.length) (hn : val (B.take 2) = (n : Int)) (hk : f.kind = 6) (hm : ¬ f.most < (n : Int)) (hl : 4 * n ≤ (B.drop 2).length) : tkF f B false = (Fd.mk f.kind 0 none 0 [] none 0 (chk (B.drop 2) n) f.most, (B.drop 2).drop (4 * n), false) := by
  obtain ⟨e1, e2, e3⟩ := tq_yes h
  have e4 : mnW B false f.most = false := by simp [mnW, e3, e1, hn]; omega
  have e5 : szK B false = n := by unfold szK; rw [e1, hn]; rfl
  have e6 : tlS B false f.most = (chk (B.drop 2) n, (B.drop 2).drop (4 * n), false) := by
    unfold tlS tlN; rw [e4, e5, e2]; exact tkl_all n _ hl
  unfold tkF tlL
  rw [if_neg (by omega), if_neg (by omega), if_neg (by omega), if_neg (by omega), if_neg (by omega), if_neg (by omega), if_pos hk, e6]
  rfl
theorem tkF_lfw (h : 2 ≤ B.length) (hn : val (B.take 2) = (n : Int)) (hk : f.kind = 6) (hl : (B.drop 2).length < 4 * n) : (tkF f B false).2.2 = true := by
  obtain ⟨e1, e2, e3⟩ := tq_yes h
  have e5 : szK B false = n := by unfold szK; rw [e1, hn]; rfl
  unfold tkF
  rw [if_neg (by omega), if_neg (by omega), if_neg (by omega), if_neg (by omega), if_neg (by omega), if_neg (by omega), if_pos hk]
  dsimp only
  unfold tlS tlN
  rw [e2, e5]
  cases mnW B false f.most with
  | true => rw [tkl_wr]
  | false => exact tkl_few n _ hl
end
end Go.Proofs.Ytahkaepmfnmhcaa
