/- Fields put and taken, there and back: plain laws. -/
import Derived.Test.YtahkaepmfnmhcaaWireM
namespace Go.Proofs.Ytahkaepmfnmhcaa
open Go Go.RowKit

theorem tk_app {k : Nat} {a R : List Int} (h : a.length = k) : tkR k (a ++ R) false = a ∧ tkB k (a ++ R) false = R ∧ tkW k (a ++ R) false = false := by
  have e : tkOk k (a ++ R) false = true := by simp [tkOk]; omega
  exact ⟨by simp only [tkR, e, if_true]; exact List.take_left' h, by simp only [tkB, e, if_true]; exact List.drop_left' h, by simp [tkW, e]⟩
theorem tk_inv {k : Nat} {B : List Int} {W : Bool} (h : tkW k B W = false) : W = false ∧ (tkR k B W).length = k ∧ B = tkR k B W ++ tkB k B W := by
  have e : tkOk k B W = true := by simpa [tkW] using h
  have e2 := e
  simp only [tkOk, Bool.and_eq_true, Bool.not_eq_true', decide_eq_true_eq] at e2
  exact ⟨e2.1, by simp only [tkR, e, if_true]; rw [List.length_take]; omega, by simp only [tkR, tkB, e, if_true]; rw [List.take_append_drop]⟩
theorem tk_cut {k m : Nat} {a : List Int} (h : a.length ≤ k) (hm : m < a.length) : tkW k (a.take m) false = true := by
  simp [tkW, tkOk]; omega
theorem val1' (x : Int) : val [x] = x := by simp [val]
theorem be_lt {n : Int} {k : Nat} : ∀ x ∈ be n k, 0 ≤ x ∧ x < 256 := Bytes.be n k
theorem be_2 {x : Int} (h : 0 ≤ x ∧ x < 65536) : val (be x 2) = x := by
  have : (256 : Int) ^ 2 = 65536 := by decide
  exact val_be 2 x h.1 (by omega)
theorem be_4 {x : Int} (h : 0 ≤ x ∧ x < 4294967296) : val (be x 4) = x := by
  have : (256 : Int) ^ 4 = 4294967296 := by decide
  exact val_be 4 x h.1 (by omega)
theorem be_8 {x : Int} (h : 0 ≤ x ∧ x < 18446744073709551616) : val (be x 8) = x := by
  have : (256 : Int) ^ 8 = 18446744073709551616 := by decide
  exact val_be 8 x h.1 (by omega)
theorem be_v {a : List Int} {k : Nat} (h : Bytes a) (hk : a.length = k) : be (val a) k = a := by rw [← hk]; exact be_val h

/-! ### Addresses do not matter -/
theorem encF_norm (f : Fd) : encF f.norm = encF f := rfl
theorem okF_norm (f : Fd) : okF f.norm = okF f := rfl
theorem norm_ok {f : Fd} : f.norm.ok ↔ f.ok := ⟨fun h => ⟨h.kind, h.n, h.b, h.l, h.most⟩, fun h => ⟨h.kind, h.n, h.b, h.l, h.most⟩⟩
theorem encs_norm : ∀ fs : List Fd, encs (fs.map Fd.norm) = encs fs
  | [] => rfl
  | f :: fs => by show encF f.norm ++ encs (fs.map Fd.norm) = encF f ++ encs fs; rw [encs_norm fs, encF_norm]
theorem okFs_norm : ∀ fs : List Fd, okFs (fs.map Fd.norm) = okFs fs
  | [] => rfl
  | f :: fs => by show (okF f.norm && okFs (fs.map Fd.norm)) = (okF f && okFs fs); rw [okFs_norm fs, okF_norm]
theorem szs_norm : ∀ fs : List Fd, szs (fs.map Fd.norm) = szs fs
  | [] => rfl
  | f :: fs => by show szF f.norm + szs (fs.map Fd.norm) = szF f + szs fs; rw [szs_norm fs]; rfl

/-! ### What is taken is sound -/
theorem tkl_len : ∀ (n : Nat) (B : List Int) (W : Bool), (tkl n B W).2.2 = false → (tkl n B W).1.length = n
  | 0, _, _, _ => rfl
  | n + 1, _, true, h => by cases h
  | n + 1, B, false, h => by
    show (_ :: (tkl n (tkB 4 B false) (tkW 4 B false)).1).length = n + 1
    rw [List.length_cons, tkl_len n _ _ h]
theorem tkl_rng : ∀ (n : Nat) {B : List Int} (W : Bool), Bytes B → ∀ x ∈ (tkl n B W).1, 0 ≤ x ∧ x < 4294967296
  | 0, _, _, _ => fun x h => by cases h
  | n + 1, _, true, _ => fun x h => by cases h
  | n + 1, B, false, hB => fun x h => by
    rcases List.mem_cons.1 h with rfl | h
    · have := val_range (hB.tkR 4 false)
      have hl := tkR_len 4 B false
      have h2 : (256 : Int) ^ (tkR 4 B false).length ≤ 4294967296 := by
        have : (tkR 4 B false).length = 0 ∨ (tkR 4 B false).length = 1 ∨ (tkR 4 B false).length = 2 ∨ (tkR 4 B false).length = 3 ∨ (tkR 4 B false).length = 4 := by omega
        rcases this with e | e | e | e | e <;> rw [e] <;> decide
      omega
    · exact tkl_rng n _ (hB.tkB 4 false) x h
theorem tkl_inv : ∀ (n : Nat) {B : List Int} {W : Bool}, Bytes B → (tkl n B W).2.2 = false → W = false ∧ B = (b4 (tkl n B W).1).flatten ++ (tkl n B W).2.1
  | 0, B, W, _, h => ⟨h, rfl⟩
  | n + 1, _, true, _, h => by cases h
  | n + 1, B, false, hB, h => by
    obtain ⟨h1, h2⟩ := tkl_inv n (hB.tkB 4 false) h
    obtain ⟨_, h3, h4⟩ := tk_inv h1
    refine ⟨rfl, ?_⟩
    show B = (be (val (tkR 4 B false)) 4 ++ (b4 (tkl n (tkB 4 B false) (tkW 4 B false)).1).flatten) ++ (tkl n (tkB 4 B false) (tkW 4 B false)).2.1
    rw [be_v (hB.tkR 4 false) h3, List.append_assoc, ← h2, ← h4]
theorem tkl_go : ∀ (l : List Int) (R : List Int), (∀ x ∈ l, 0 ≤ x ∧ x < 4294967296) → tkl l.length ((b4 l).flatten ++ R) false = (l, R, false)
  | [], R, _ => rfl
  | x :: l, R, h => by
    have hx := h x (by simp)
    have e : (b4 (x :: l)).flatten ++ R = be x 4 ++ ((b4 l).flatten ++ R) := by show (be x 4 ++ (b4 l).flatten) ++ R = _; rw [List.append_assoc]
    obtain ⟨h1, h2, h3⟩ := tk_app (k := 4) (a := be x 4) (R := (b4 l).flatten ++ R) (be_len _ _)
    rw [e]
    show (val (tkR 4 _ false) :: (tkl l.length (tkB 4 _ false) (tkW 4 _ false)).1, (tkl l.length (tkB 4 _ false) (tkW 4 _ false)).2) = _
    rw [h1, h2, h3, tkl_go l R (fun y hy => h y (by simp [hy])), be_4 hx]
theorem tkl_cut : ∀ (l : List Int) (m : Nat), m < (b4 l).flatten.length → (tkl l.length ((b4 l).flatten.take m) false).2.2 = true
  | [], m, h => by simp [b4] at h
  | x :: l, m, h => by
    have e : (b4 (x :: l)).flatten = be x 4 ++ (b4 l).flatten := rfl
    rw [e] at h ⊢
    show (tkl l.length (tkB 4 _ false) (tkW 4 _ false)).2.2 = true
    by_cases hm : m < 4
    · have e2 : (be x 4 ++ (b4 l).flatten).take m = (be x 4).take m := by rw [List.take_append_of_le_length (by rw [be_len]; omega)]
      rw [e2, tk_cut (by rw [be_len]; omega) (by rw [be_len]; exact hm), tkl_wr]
    · have e2 : (be x 4 ++ (b4 l).flatten).take m = be x 4 ++ (b4 l).flatten.take (m - 4) := by
        rw [List.take_append, be_len, List.take_of_length_le (by rw [be_len]; omega)]
      obtain ⟨h1, h2, h3⟩ := tk_app (k := 4) (a := be x 4) (R := (b4 l).flatten.take (m - 4)) (be_len _ _)
      rw [e2, h2, h3]
      exact tkl_cut l (m - 4) (by rw [List.length_append, be_len] at h; omega)

theorem mnW_wr (B : List Int) (m : Int) : mnW B true m = true := by simp [mnW, tkW_true]
theorem tlS_wr (B : List Int) (m : Int) : (tlS B true m).2.2 = true := by unfold tlS; rw [mnW_wr, tkl_wr]
theorem tkF_wr (f : Fd) (B : List Int) : (tkF f B true).2.2 = true := by
  unfold tkF
  split
  · simp [tkW_true]
  split
  · simp [tkW_true]
  split
  · simp [tkW_true]
  split
  · simp [flW, tkW_true]
  split
  · simp [tkW_true]
  split
  · simp [mnW_wr, tkW_true]
  split
  · exact tlS_wr B f.most
  · rfl
theorem tks_wr : ∀ (fs : List Fd) (B : List Int), (tks fs B true).2.2 = true
  | [], _ => rfl
  | f :: fs, B => by
    show (tks fs (tkF f B true).2.1 (tkF f B true).2.2).2.2 = true
    rw [tkF_wr]; exact tks_wr fs _
theorem u8v {B : List Int} (h : Bytes B) (W : Bool) : 0 ≤ val (tkR 1 B W) ∧ val (tkR 1 B W) < 256 := by have := val1 h W; omega
theorem u32v {B : List Int} (h : Bytes B) (W : Bool) : 0 ≤ val (tkR 4 B W) ∧ val (tkR 4 B W) < 4294967296 := by
  have := val_range (h.tkR 4 W)
  have hl := tkR_len 4 B W
  have h2 : (256 : Int) ^ (tkR 4 B W).length ≤ 4294967296 := by
    have : (tkR 4 B W).length = 0 ∨ (tkR 4 B W).length = 1 ∨ (tkR 4 B W).length = 2 ∨ (tkR 4 B W).length = 3 ∨ (tkR 4 B W).length = 4 := by omega
    rcases this with e | e | e | e | e <;> rw [e] <;> decide
  omega
theorem u64v {B : List Int} (h : Bytes B) (W : Bool) : 0 ≤ val (tkR 8 B W) ∧ val (tkR 8 B W) < 18446744073709551616 := by
  have := val_range (h.tkR 8 W)
  have h2 := pow256 (n := (tkR 8 B W).length) (tkR_len 8 B W)
  omega
theorem tkF_ok {f : Fd} (hf : f.ok) {B : List Int} (W : Bool) (hB : Bytes B) : (tkF f B W).1.ok := by
  have z : 0 ≤ (0 : Int) ∧ (0 : Int) < 18446744073709551616 := by decide
  have zb : Bytes [] := fun _ h => by cases h
  have zl : ∀ x ∈ ([] : List Int), 0 ≤ x ∧ x < 4294967296 := fun _ h => by cases h
  have hk := hf.kind
  have hm := hf.most
  unfold tkF
  split
  · exact ⟨hk, (by have := u8v hB W; dsimp only; omega), zb, zl, hm⟩
  split
  · exact ⟨hk, (by have := u32v hB W; dsimp only; omega), zb, zl, hm⟩
  split
  · exact ⟨hk, u64v hB W, zb, zl, hm⟩
  split
  · exact ⟨hk, (by dsimp only; split <;> omega), zb, zl, hm⟩
  split
  · exact ⟨hk, z, hB.tkR _ _, zl, hm⟩
  split
  · exact ⟨hk, z, (hB.tkB _ _).tkR _ _, zl, hm⟩
  split
  · refine ⟨hk, z, zb, ?_, hm⟩
    show ∀ x ∈ tlL B W f.most, _
    unfold tlL
    split
    · exact zl
    · exact tkl_rng _ _ (hB.tkB 2 W)
  · exact ⟨hk, z, zb, zl, hm⟩
theorem tks_ok : ∀ {fs : List Fd}, (∀ f ∈ fs, f.ok) → ∀ {B : List Int} (W : Bool), Bytes B → ∀ g ∈ (tks fs B W).1, g.ok
  | [], _, _, _, _ => fun g h => by cases h
  | f :: fs, h, B, W, hB => fun g hg => by
    rcases List.mem_cons.1 hg with rfl | hg
    · exact tkF_ok (h f (by simp)) W hB
    · exact tks_ok (fun x hx => h x (by simp [hx])) _ (tkF_bytes f W hB) g hg

/-! ### What was put is taken as it was -/
theorem encF_bytes {f : Fd} (h : f.ok) : Bytes (encF f) := by
  have one : ∀ {n : Int}, (0 ≤ n ∧ n < 256) → Bytes [n] := fun hn x hx => by simp at hx; subst hx; exact hn
  unfold encF
  split
  · exact one (by omega)
  split
  · exact Bytes.be _ _
  split
  · exact Bytes.be _ _
  split
  · unfold flagB; exact one (by split <;> omega)
  split
  · exact h.b
  split
  · exact (Bytes.be _ _).app h.b
  split
  · refine (Bytes.be _ _).app (fun x hx => ?_)
    obtain ⟨c, hc, hx⟩ := List.mem_flatten.1 hx
    obtain ⟨y, _, rfl⟩ := List.mem_map.1 hc
    exact Bytes.be _ _ x hx
  · exact fun x hx => by cases hx
theorem encs_bytes : ∀ {fs : List Fd}, (∀ f ∈ fs, f.ok) → Bytes (encs fs)
  | [], _ => fun x hx => by cases hx
  | f :: fs, h => by
    show Bytes (encF f ++ encs fs)
    exact (encF_bytes (h f (by simp))).app (encs_bytes (fun x hx => h x (by simp [hx])))
theorem back1 {f : Fd} (hf : f.ok) (ho : okF f = true) (R : List Int) : ∃ g, tkF f (encF f ++ R) false = (g, R, false) ∧ encF g = encF f ∧ okF g = true := by
  have hn := hf.n
  unfold tkF encF okF at *
  by_cases k0 : f.kind = 0
  · rw [if_pos k0, if_pos k0]
    obtain ⟨h1, h2, h3⟩ := tk_app (k := 1) (a := [f.n % 256]) (R := R) rfl
    rw [h1, h2, h3, val1']
    refine ⟨_, rfl, ?_, ?_⟩
    · dsimp only; rw [if_pos k0, Int.emod_emod_of_dvd _ (by decide)]
    · dsimp only; rw [if_neg (by omega), if_neg (by omega)]
  rw [if_neg k0, if_neg k0]
  by_cases k1 : f.kind = 1
  · rw [if_pos k1, if_pos k1]
    obtain ⟨h1, h2, h3⟩ := tk_app (k := 4) (a := be (f.n % 4294967296) 4) (R := R) (be_len _ _)
    rw [h1, h2, h3, be_4 (by omega)]
    refine ⟨_, rfl, ?_, ?_⟩
    · dsimp only; rw [if_neg k0, if_pos k1, Int.emod_emod_of_dvd _ (by decide)]
    · dsimp only; rw [if_neg (by omega), if_neg (by omega)]
  rw [if_neg k1, if_neg k1]
  by_cases k2 : f.kind = 2
  · rw [if_pos k2, if_pos k2]
    obtain ⟨h1, h2, h3⟩ := tk_app (k := 8) (a := be f.n 8) (R := R) (be_len _ _)
    rw [h1, h2, h3, be_8 hn]
    refine ⟨_, rfl, ?_, ?_⟩
    · dsimp only; rw [if_neg k0, if_neg k1, if_pos k2]
    · dsimp only; rw [if_neg (by omega), if_neg (by omega)]
  rw [if_neg k2, if_neg k2]
  by_cases k3 : f.kind = 3
  · rw [if_pos k3, if_pos k3]
    obtain ⟨h1, h2, h3⟩ := tk_app (k := 1) (a := flagB (decide (f.n ≠ 0))) (R := R) rfl
    have e : val (flagB (decide (f.n ≠ 0))) = if f.n ≠ 0 then 1 else 0 := by unfold flagB; rw [val1']; simp
    unfold flR flW
    rw [h1, h2, h3, e]
    by_cases hz : f.n = 0
    · refine ⟨Fd.mk f.kind 0 none 0 [] none 0 [] f.most, by simp [hz], ?_, ?_⟩
      · dsimp only; rw [if_neg k0, if_neg k1, if_neg k2, if_pos k3]; simp [hz]
      · dsimp only; rw [if_neg (by omega), if_neg (by omega)]
    · refine ⟨Fd.mk f.kind 1 none 0 [] none 0 [] f.most, by simp [hz], ?_, ?_⟩
      · dsimp only; rw [if_neg k0, if_neg k1, if_neg k2, if_pos k3]; simp [hz]
      · dsimp only; rw [if_neg (by omega), if_neg (by omega)]
  rw [if_neg k3, if_neg k3]
  by_cases k4 : f.kind = 4
  · rw [if_pos k4, if_pos k4]
    obtain ⟨h1, h2, h3⟩ := tk_app (k := f.b.length) (a := f.b) (R := R) rfl
    rw [h1, h2, h3]
    refine ⟨_, rfl, ?_, ?_⟩
    · dsimp only; rw [if_neg k0, if_neg k1, if_neg k2, if_neg k3, if_pos k4]
    · dsimp only; rw [if_neg (by omega), if_neg (by omega)]
  rw [if_neg k4, if_neg k4]
  by_cases k5 : f.kind = 5
  · rw [if_pos k5] at ho
    simp only [Bool.and_eq_true, decide_eq_true_eq] at ho
    rw [if_pos k5, if_pos k5, List.append_assoc]
    obtain ⟨h1, h2, h3⟩ := tk_app (k := 2) (a := be f.b.length 2) (R := f.b ++ R) (be_len _ _)
    have ev := be_2 (x := f.b.length) (by omega)
    have em : mnW (be f.b.length 2 ++ (f.b ++ R)) false f.most = false := by unfold mnW; rw [h1, h3, ev]; simp; omega
    have ek : szK (be f.b.length 2 ++ (f.b ++ R)) false = f.b.length := by unfold szK; rw [h1, ev]; simp
    obtain ⟨g1, g2, g3⟩ := tk_app (k := f.b.length) (a := f.b) (R := R) rfl
    rw [em, ek, h2, g1, g2, g3]
    refine ⟨_, rfl, ?_, ?_⟩
    · dsimp only; rw [if_neg k0, if_neg k1, if_neg k2, if_neg k3, if_neg k4, if_pos k5]
    · dsimp only; rw [if_pos k5]; simp; omega
  rw [if_neg k5, if_neg k5]
  rw [if_neg k5] at ho
  by_cases k6 : f.kind = 6
  · rw [if_pos k6] at ho
    simp only [Bool.and_eq_true, decide_eq_true_eq] at ho
    rw [if_pos k6, if_pos k6, List.append_assoc]
    obtain ⟨h1, h2, h3⟩ := tk_app (k := 2) (a := be f.l.length 2) (R := (b4 f.l).flatten ++ R) (be_len _ _)
    have ev := be_2 (x := f.l.length) (by omega)
    have em : mnW (be f.l.length 2 ++ ((b4 f.l).flatten ++ R)) false f.most = false := by unfold mnW; rw [h1, h3, ev]; simp; omega
    have ek : tlN (be f.l.length 2 ++ ((b4 f.l).flatten ++ R)) false f.most = f.l.length := by unfold tlN szK; rw [em, h1, ev]; simp
    have es : tlS (be f.l.length 2 ++ ((b4 f.l).flatten ++ R)) false f.most = (f.l, R, false) := by unfold tlS; rw [ek, em, h2]; exact tkl_go f.l R hf.l
    unfold tlL
    rw [es]
    refine ⟨_, rfl, ?_, ?_⟩
    · dsimp only; rw [if_neg k0, if_neg k1, if_neg k2, if_neg k3, if_neg k4, if_neg k5, if_pos k6]; simp
    · dsimp only; rw [if_neg k5, if_pos k6]; simp; omega
  rw [if_neg k6, if_neg k6]
  refine ⟨_, rfl, ?_, ?_⟩
  · dsimp only; rw [if_neg k0, if_neg k1, if_neg k2, if_neg k3, if_neg k4, if_neg k5, if_neg k6]
  · dsimp only; rw [if_neg k5, if_neg k6]
theorem back : ∀ {fs : List Fd}, (∀ f ∈ fs, f.ok) → okFs fs = true → ∀ R : List Int, ∃ gs, tks fs (encs fs ++ R) false = (gs, R, false) ∧ encs gs = encs fs ∧ okFs gs = true
  | [], _, _, R => ⟨[], rfl, rfl, rfl⟩
  | f :: fs, h, ho, R => by
    have ho' : okF f = true ∧ okFs fs = true := by simpa [okFs] using ho
    obtain ⟨g, h1, h2, h3⟩ := back1 (h f (by simp)) ho'.1 (encs fs ++ R)
    obtain ⟨gs, g1, g2, g3⟩ := back (fun x hx => h x (by simp [hx])) ho'.2 R
    refine ⟨g :: gs, ?_, ?_, ?_⟩
    · show ((tkF f ((encF f ++ encs fs) ++ R) false).1 :: (tks fs (tkF f ((encF f ++ encs fs) ++ R) false).2.1 (tkF f ((encF f ++ encs fs) ++ R) false).2.2).1, (tks fs (tkF f ((encF f ++ encs fs) ++ R) false).2.1 (tkF f ((encF f ++ encs fs) ++ R) false).2.2).2) = _
      rw [List.append_assoc, h1]
      dsimp only
      rw [g1]
    · show encF g ++ encs gs = encF f ++ encs fs; rw [h2, g2]
    · show (okF g && okFs gs) = true; rw [h3, g3]; rfl

/-! ### Cut short it is wrong -/
theorem cut1 {f : Fd} (hf : f.ok) (ho : okF f = true) {m : Nat} (hm : m < (encF f).length) : (tkF f ((encF f).take m) false).2.2 = true := by
  have hn := hf.n
  unfold tkF encF okF at *
  by_cases k0 : f.kind = 0
  · rw [if_pos k0] at hm ⊢; rw [if_pos k0]; exact tk_cut (Nat.le_refl _) hm
  rw [if_neg k0] at hm ⊢
  rw [if_neg k0]
  by_cases k1 : f.kind = 1
  · rw [if_pos k1] at hm ⊢; rw [if_pos k1]; exact tk_cut (by rw [be_len]; omega) hm
  rw [if_neg k1] at hm ⊢
  rw [if_neg k1]
  by_cases k2 : f.kind = 2
  · rw [if_pos k2] at hm ⊢; rw [if_pos k2]; exact tk_cut (by rw [be_len]; omega) hm
  rw [if_neg k2] at hm ⊢
  rw [if_neg k2]
  by_cases k3 : f.kind = 3
  · rw [if_pos k3] at hm ⊢; rw [if_pos k3]; unfold flW; rw [tk_cut (Nat.le_refl 1) hm]; rfl
  rw [if_neg k3] at hm ⊢
  rw [if_neg k3]
  by_cases k4 : f.kind = 4
  · rw [if_pos k4] at hm ⊢; rw [if_pos k4]; exact tk_cut (Nat.le_refl _) hm
  rw [if_neg k4] at hm ⊢
  rw [if_neg k4]
  by_cases k5 : f.kind = 5
  · rw [if_pos k5] at ho
    simp only [Bool.and_eq_true, decide_eq_true_eq] at ho
    rw [if_pos k5] at hm ⊢; rw [if_pos k5]
    dsimp only
    by_cases h2 : m < 2
    · have e : (be f.b.length 2 ++ f.b).take m = (be f.b.length 2).take m := List.take_append_of_le_length (by rw [be_len]; omega)
      have em : mnW ((be f.b.length 2).take m) false f.most = true := by unfold mnW; rw [tk_cut (by rw [be_len]; omega) (by rw [be_len]; exact h2)]; rfl
      rw [e, em, tkW_true]
    · have e : (be f.b.length 2 ++ f.b).take m = be f.b.length 2 ++ f.b.take (m - 2) := by rw [List.take_append, be_len, List.take_of_length_le (by rw [be_len]; omega)]
      obtain ⟨h1, h2', h3⟩ := tk_app (k := 2) (a := be f.b.length 2) (R := f.b.take (m - 2)) (be_len _ _)
      have ev := be_2 (x := f.b.length) (by omega)
      have em : mnW (be f.b.length 2 ++ f.b.take (m - 2)) false f.most = false := by unfold mnW; rw [h1, h3, ev]; simp; omega
      have ek : szK (be f.b.length 2 ++ f.b.take (m - 2)) false = f.b.length := by unfold szK; rw [h1, ev]; simp
      rw [e, em, ek, h2']
      exact tk_cut (Nat.le_refl _) (by rw [List.length_append, be_len] at hm; omega)
  rw [if_neg k5] at hm ⊢
  rw [if_neg k5]
  rw [if_neg k5] at ho
  by_cases k6 : f.kind = 6
  · rw [if_pos k6] at ho
    simp only [Bool.and_eq_true, decide_eq_true_eq] at ho
    rw [if_pos k6] at hm ⊢; rw [if_pos k6]
    dsimp only
    by_cases h2 : m < 2
    · have e : (be f.l.length 2 ++ (b4 f.l).flatten).take m = (be f.l.length 2).take m := List.take_append_of_le_length (by rw [be_len]; omega)
      have em : mnW ((be f.l.length 2).take m) false f.most = true := by unfold mnW; rw [tk_cut (by rw [be_len]; omega) (by rw [be_len]; exact h2)]; rfl
      unfold tlS
      rw [e, em, tkl_wr]
    · have e : (be f.l.length 2 ++ (b4 f.l).flatten).take m = be f.l.length 2 ++ (b4 f.l).flatten.take (m - 2) := by rw [List.take_append, be_len, List.take_of_length_le (by rw [be_len]; omega)]
      obtain ⟨h1, h2', h3⟩ := tk_app (k := 2) (a := be f.l.length 2) (R := (b4 f.l).flatten.take (m - 2)) (be_len _ _)
      have ev := be_2 (x := f.l.length) (by omega)
      have em : mnW (be f.l.length 2 ++ (b4 f.l).flatten.take (m - 2)) false f.most = false := by unfold mnW; rw [h1, h3, ev]; simp; omega
      have ek : tlN (be f.l.length 2 ++ (b4 f.l).flatten.take (m - 2)) false f.most = f.l.length := by unfold tlN szK; rw [em, h1, ev]; simp
      unfold tlS
      rw [e, ek, em, h2']
      exact tkl_cut f.l (m - 2) (by rw [List.length_append, be_len] at hm; omega)
  rw [if_neg k6] at hm
  simp at hm
theorem cut : ∀ {fs : List Fd}, (∀ f ∈ fs, f.ok) → okFs fs = true → ∀ {m : Nat}, m < (encs fs).length → (tks fs ((encs fs).take m) false).2.2 = true
  | [], _, _, m, h => by simp [encs] at h
  | f :: fs, h, ho, m, hm => by
    have ho' : okF f = true ∧ okFs fs = true := by simpa [okFs] using ho
    have e : encs (f :: fs) = encF f ++ encs fs := rfl
    rw [e] at hm ⊢
    show (tks fs (tkF f _ false).2.1 (tkF f _ false).2.2).2.2 = true
    by_cases h1 : m < (encF f).length
    · rw [List.take_append_of_le_length (by omega), cut1 (h f (by simp)) ho'.1 h1]
      exact tks_wr fs _
    · have e2 : (encF f ++ encs fs).take m = encF f ++ (encs fs).take (m - (encF f).length) := by rw [List.take_append, List.take_of_length_le (by omega)]
      obtain ⟨g, g1, _, _⟩ := back1 (h f (by simp)) ho'.1 ((encs fs).take (m - (encF f).length))
      rw [e2, g1]
      exact cut (fun x hx => h x (by simp [hx])) ho'.2 (by rw [List.length_append] at hm; omega)

/-! ### What is taken to the end is put again -/
theorem inv1 {f : Fd} {B : List Int} {W : Bool} (hB : Bytes B) (h : (tkF f B W).2.2 = false) : W = false ∧ okF (tkF f B W).1 = true ∧ B = encF (tkF f B W).1 ++ (tkF f B W).2.1 := by
  unfold tkF at *
  by_cases k0 : f.kind = 0
  · rw [if_pos k0] at h ⊢
    obtain ⟨h1, h2, h3⟩ := tk_inv h
    have hv := u8v hB W
    refine ⟨h1, by unfold okF; rw [if_neg (by dsimp only; omega), if_neg (by dsimp only; omega)], ?_⟩
    unfold encF
    dsimp only
    rw [if_pos k0, Int.emod_eq_of_lt hv.1 hv.2]
    have e : [val (tkR 1 B W)] = tkR 1 B W := by
      match tkR 1 B W, h2 with
      | [x], _ => rw [val1']
    rw [e]; exact h3
  rw [if_neg k0] at h ⊢
  by_cases k1 : f.kind = 1
  · rw [if_pos k1] at h ⊢
    obtain ⟨h1, h2, h3⟩ := tk_inv h
    have hv := u32v hB W
    refine ⟨h1, by unfold okF; rw [if_neg (by dsimp only; omega), if_neg (by dsimp only; omega)], ?_⟩
    unfold encF
    dsimp only
    rw [if_neg k0, if_pos k1, Int.emod_eq_of_lt hv.1 hv.2, be_v (hB.tkR 4 W) h2]
    exact h3
  rw [if_neg k1] at h ⊢
  by_cases k2 : f.kind = 2
  · rw [if_pos k2] at h ⊢
    obtain ⟨h1, h2, h3⟩ := tk_inv h
    refine ⟨h1, by unfold okF; rw [if_neg (by dsimp only; omega), if_neg (by dsimp only; omega)], ?_⟩
    unfold encF
    dsimp only
    rw [if_neg k0, if_neg k1, if_pos k2, be_v (hB.tkR 8 W) h2]
    exact h3
  rw [if_neg k2] at h ⊢
  by_cases k3 : f.kind = 3
  · rw [if_pos k3] at h ⊢
    dsimp only at h
    unfold flW at h
    simp only [Bool.or_eq_false_iff, decide_eq_false_iff_not] at h
    obtain ⟨h1, h2, h3⟩ := tk_inv h.1
    have hv := u8v hB W
    have h01 : val (tkR 1 B W) = 0 ∨ val (tkR 1 B W) = 1 := by omega
    refine ⟨h1, by unfold okF; rw [if_neg (by dsimp only; omega), if_neg (by dsimp only; omega)], ?_⟩
    unfold encF
    dsimp only
    rw [if_neg k0, if_neg k1, if_neg k2, if_pos k3]
    have e : flagB (decide ((if flR B W = true then (1 : Int) else 0) ≠ 0)) = tkR 1 B W := by
      unfold flR flagB
      revert h01
      match tkR 1 B W, h2 with
      | [x], _ =>
        rw [val1']
        rintro (rfl | rfl) <;> simp
    rw [e]; exact h3
  rw [if_neg k3] at h ⊢
  by_cases k4 : f.kind = 4
  · rw [if_pos k4] at h ⊢
    obtain ⟨h1, h2, h3⟩ := tk_inv h
    refine ⟨h1, by unfold okF; rw [if_neg (by dsimp only; omega), if_neg (by dsimp only; omega)], ?_⟩
    unfold encF
    dsimp only
    rw [if_neg k0, if_neg k1, if_neg k2, if_neg k3, if_pos k4]
    exact h3
  rw [if_neg k4] at h ⊢
  by_cases k5 : f.kind = 5
  · rw [if_pos k5] at h ⊢
    dsimp only at h
    obtain ⟨h1, h2, h3⟩ := tk_inv h
    unfold mnW at h1
    simp only [Bool.or_eq_false_iff, decide_eq_false_iff_not] at h1
    obtain ⟨g1, g2, g3⟩ := tk_inv h1.1
    have hv := val2 hB W
    have ek : ((szK B W : Nat) : Int) = val (tkR 2 B W) := by unfold szK; omega
    refine ⟨g1, ?_, ?_⟩
    · unfold okF; dsimp only; rw [if_pos k5, h2, ek]; simp; omega
    · unfold encF
      dsimp only
      rw [if_neg k0, if_neg k1, if_neg k2, if_neg k3, if_neg k4, if_pos k5, h2, ek, be_v (hB.tkR 2 W) g2, List.append_assoc, ← h3]
      exact g3
  rw [if_neg k5] at h ⊢
  by_cases k6 : f.kind = 6
  · rw [if_pos k6] at h ⊢
    dsimp only at h
    have hL : tlL B W f.most = (tlS B W f.most).1 := by unfold tlL; rw [h]; rfl
    rw [hL]
    unfold tlS at h ⊢
    obtain ⟨h1, h3⟩ := tkl_inv _ (hB.tkB 2 W) h
    have h2 := tkl_len _ _ _ h
    have hN : tlN B W f.most = szK B W := by unfold tlN; rw [h1]; rfl
    rw [hN] at h2 h3 ⊢
    unfold mnW at h1
    simp only [Bool.or_eq_false_iff, decide_eq_false_iff_not] at h1
    obtain ⟨g1, g2, g3⟩ := tk_inv h1.1
    have hv := val2 hB W
    have ek : ((szK B W : Nat) : Int) = val (tkR 2 B W) := by unfold szK; omega
    refine ⟨g1, ?_, ?_⟩
    · unfold okF; dsimp only; rw [if_neg k5, if_pos k6, h2, ek]; simp; omega
    · unfold encF
      dsimp only
      rw [if_neg k0, if_neg k1, if_neg k2, if_neg k3, if_neg k4, if_neg k5, if_pos k6, h2, ek, be_v (hB.tkR 2 W) g2, List.append_assoc, ← h3]
      exact g3
  rw [if_neg k6] at h ⊢
  refine ⟨h, by unfold okF; rw [if_neg (by dsimp only; omega), if_neg (by dsimp only; omega)], ?_⟩
  unfold encF
  dsimp only
  rw [if_neg k0, if_neg k1, if_neg k2, if_neg k3, if_neg k4, if_neg k5, if_neg k6]
  rfl
theorem inv : ∀ {fs : List Fd} {B : List Int} {W : Bool}, Bytes B → (tks fs B W).2.2 = false → W = false ∧ okFs (tks fs B W).1 = true ∧ B = encs (tks fs B W).1 ++ (tks fs B W).2.1
  | [], B, W, _, h => ⟨h, rfl, rfl⟩
  | f :: fs, B, W, hB, h => by
    obtain ⟨h1, h2, h3⟩ := inv (tkF_bytes f W hB) (show (tks fs (tkF f B W).2.1 (tkF f B W).2.2).2.2 = false from h)
    obtain ⟨g1, g2, g3⟩ := inv1 hB h1
    refine ⟨g1, ?_, ?_⟩
    · show (okF (tkF f B W).1 && okFs (tks fs (tkF f B W).2.1 (tkF f B W).2.2).1) = true
      rw [g2, h2]; rfl
    · show B = (encF (tkF f B W).1 ++ encs (tks fs (tkF f B W).2.1 (tkF f B W).2.2).1) ++ (tks fs (tkF f B W).2.1 (tkF f B W).2.2).2.1
      rw [List.append_assoc, ← h3]; exact g3
/-! ### Taken fields are no greater than what they were taken of -/
theorem tk_sum (k : Nat) (B : List Int) (W : Bool) : (tkR k B W).length + (tkB k B W).length = B.length := by
  unfold tkR tkB
  split
  · rw [List.length_take, List.length_drop]; omega
  · simp
theorem tkl_sz : ∀ (n : Nat) (B : List Int) (W : Bool), (tkl n B W).2.2 = false → 4 * (tkl n B W).1.length + (tkl n B W).2.1.length ≤ B.length
  | 0, B, W, _ => by show 4 * 0 + B.length ≤ B.length; omega
  | n + 1, _, true, h => by cases h
  | n + 1, B, false, h => by
    have ih := tkl_sz n (tkB 4 B false) (tkW 4 B false) h
    have h1 : tkW 4 B false = false := by
      cases hw : tkW 4 B false with
      | false => rfl
      | true =>
        have h2 : (tkl n (tkB 4 B false) (tkW 4 B false)).2.2 = false := h
        rw [hw, tkl_wr] at h2; cases h2
    obtain ⟨_, h3, _⟩ := tk_inv h1
    have := tk_sum 4 B false
    show 4 * ((tkl n (tkB 4 B false) (tkW 4 B false)).1.length + 1) + (tkl n (tkB 4 B false) (tkW 4 B false)).2.1.length ≤ B.length
    omega
theorem tkl_rest : ∀ (n : Nat) (B : List Int) (W : Bool), (tkl n B W).2.1.length ≤ B.length
  | 0, _, _ => Nat.le_refl _
  | n + 1, _, true => Nat.le_refl _
  | n + 1, B, false => by
    have ih := tkl_rest n (tkB 4 B false) (tkW 4 B false)
    have := tk_sum 4 B false
    show (tkl n (tkB 4 B false) (tkW 4 B false)).2.1.length ≤ B.length
    omega
theorem tkF_sz (f : Fd) (B : List Int) (W : Bool) : szF (tkF f B W).1 + (tkF f B W).2.1.length ≤ 10 + B.length := by
  unfold tkF szF
  split
  · have := tk_sum 1 B W; simp; omega
  split
  · have := tk_sum 4 B W; simp; omega
  split
  · have := tk_sum 8 B W; simp; omega
  split
  · have := tk_sum 1 B W; simp; omega
  split
  · have := tk_sum f.b.length B W; simp; omega
  split
  · have := tk_sum (szK B W) (tkB 2 B W) (mnW B W f.most); have := tk_sum 2 B W; simp; omega
  split
  · have h2 := tk_sum 2 B W
    dsimp only
    unfold tlL
    split
    · rename_i hw
      have := tkl_rest (tlN B W f.most) (tkB 2 B W) (mnW B W f.most)
      unfold tlS; simp; omega
    · rename_i hw
      have := tkl_sz (tlN B W f.most) (tkB 2 B W) (mnW B W f.most) (by unfold tlS at hw; simpa using hw)
      unfold tlS; simp; omega
  · simp
theorem tks_sz : ∀ (fs : List Fd) (B : List Int) (W : Bool), szs (tks fs B W).1 + (tks fs B W).2.1.length ≤ 10 * fs.length + B.length
  | [], B, _ => by show 0 + B.length ≤ 10 * 0 + B.length; omega
  | f :: fs, B, W => by
    have ih := tks_sz fs (tkF f B W).2.1 (tkF f B W).2.2
    have h1 := tkF_sz f B W
    show (szF (tkF f B W).1 + szs (tks fs (tkF f B W).2.1 (tkF f B W).2.2).1) + (tks fs (tkF f B W).2.1 (tkF f B W).2.2).2.1.length ≤ 10 * (fs.length + 1) + B.length
    omega
end Go.Proofs.Ytahkaepmfnmhcaa
