/- Terms: trees, their bytes: plain laws. -/
import Derived.Test.YtifhkjcimhhaiaaWireP
namespace Go.Proofs.Ytifhkjcimhhaiaa
open Go Go.RowKit
inductive Tm where
  | mk (k n : Int) (l : List Tm)
theorem Tm.ind {p : Tm → Prop} (h : ∀ k n l, (∀ t ∈ l, p t) → p (.mk k n l)) (t : Tm) : p t :=
  Tm.rec (motive_1 := p) (motive_2 := fun l => ∀ t ∈ l, p t) h (fun _ h => nomatch h) (fun x xs hx hxs t ht => (List.mem_cons.1 ht).elim (fun e => e ▸ hx) (hxs t)) t
def Tm.kd : Tm → Int | .mk k _ _ => k
def Tm.nu : Tm → Int | .mk _ n _ => n
def Tm.pt : Tm → List Tm | .mk _ _ l => l
/-- What stands ahead of the parts. -/
def hdB (k n : Int) (m : Nat) : List Int := if k = 1 then 1 :: be n 8 else if k = 3 then 3 :: (be n 8 ++ [(m : Int)]) else [k]
mutual
def Tm.enc : Tm → List Int
  | .mk k n l => hdB k n l.length ++ encs l
def encs : List Tm → List Int
  | [] => []
  | t :: l => t.enc ++ encs l
end
theorem enc_mk (k n : Int) (l : List Tm) : (Tm.mk k n l).enc = hdB k n l.length ++ encs l := by rw [Tm.enc]
theorem encs_nil : encs [] = [] := by rw [encs]
theorem encs_cons (t : Tm) (l : List Tm) : encs (t :: l) = t.enc ++ encs l := by rw [encs]
theorem encs_app (l m : List Tm) : encs (l ++ m) = encs l ++ encs m := by
  induction l with
  | nil => rw [encs_nil]; rfl
  | cons t l ih => rw [List.cons_append, encs_cons, encs_cons, ih, List.append_assoc]
/-- Which of two texts of bytes is ahead: below 0, 0, above. -/
def lexF : List Int → List Int → Int
  | [], [] => 0
  | [], _ :: _ => -1
  | _ :: _, [] => 1
  | x :: xs, y :: ys => if x < y then -1 else if y < x then 1 else lexF xs ys
/-- What a term's kind, number and parts may be. -/
def shp (k n : Int) (l : List Tm) : Prop :=
  (k = 1 ∧ (0 ≤ n ∧ n < 18446744073709551616) ∧ l = []) ∨ ((k = 2 ∨ k = 4) ∧ n = 0 ∧ l.length = 2) ∨ (k = 3 ∧ (0 ≤ n ∧ n < 256) ∧ l.length ≤ 255) ∨ (k = 5 ∧ n = 0 ∧ l.length = 1) ∨ (k = 6 ∧ n = 0 ∧ ∃ a b, l = [a, b] ∧ ¬ lexF b.enc a.enc < 0)
mutual
def Tm.ok : Tm → Prop
  | .mk k n l => shp k n l ∧ oks l
def oks : List Tm → Prop
  | [] => True
  | t :: l => t.ok ∧ oks l
end
theorem ok_mk (k n : Int) (l : List Tm) : (Tm.mk k n l).ok ↔ shp k n l ∧ oks l := by rw [Tm.ok]
theorem oks_all : ∀ {l : List Tm}, oks l ↔ ∀ t ∈ l, t.ok
  | [] => by rw [oks]; simp
  | t :: l => by rw [oks, oks_all]; simp
theorem shp_kd {k n : Int} {l : List Tm} (h : shp k n l) : k = 1 ∨ k = 2 ∨ k = 3 ∨ k = 4 ∨ k = 5 ∨ k = 6 := by
  unfold shp at h; omega
/-! ### Bytes of terms are one way -/
theorem be8_inj {n m : Int} (h1 : 0 ≤ n ∧ n < 18446744073709551616) (h2 : 0 ≤ m ∧ m < 18446744073709551616) (h : be n 8 = be m 8) : n = m := by
  have e : ∀ n : Int, be n 8 = [n / 72057594037927936 % 256, n / 281474976710656 % 256, n / 1099511627776 % 256, n / 4294967296 % 256, n / 16777216 % 256, n / 65536 % 256, n / 256 % 256, n % 256] := by
    intro n
    unfold be beK
    simp [List.range_succ]
  rw [e n, e m] at h
  simp only [List.cons.injEq, and_true] at h
  omega
theorem hd_ne (k n : Int) (m : Nat) : ∃ xs, hdB k n m = k :: xs := by
  unfold hdB
  by_cases h1 : k = 1
  · rw [if_pos h1, h1]; exact ⟨_, rfl⟩
  · rw [if_neg h1]
    by_cases h3 : k = 3
    · rw [if_pos h3, h3]; exact ⟨_, rfl⟩
    · rw [if_neg h3]; exact ⟨_, rfl⟩
theorem hd_cut {k n n' : Int} {l l' : List Tm} {r r' : List Int} (h : shp k n l) (h' : shp k n' l') (e : hdB k n l.length ++ r = hdB k n' l'.length ++ r') : n = n' ∧ l.length = l'.length ∧ r = r' := by
  unfold hdB at e
  by_cases h1 : k = 1
  · subst h1
    have q : (0 ≤ n ∧ n < 18446744073709551616) ∧ l = [] := by unfold shp at h; simpa using h
    have q' : (0 ≤ n' ∧ n' < 18446744073709551616) ∧ l' = [] := by unfold shp at h'; simpa using h'
    rw [if_pos rfl, if_pos rfl] at e
    simp only [List.cons_append, List.cons.injEq, true_and] at e
    obtain ⟨e1, e2⟩ := List.append_inj e (by rw [be_len, be_len])
    exact ⟨be8_inj q.1 q'.1 e1, by rw [q.2, q'.2], e2⟩
  · rw [if_neg h1, if_neg h1] at e
    by_cases h3 : k = 3
    · subst h3
      have q : (0 ≤ n ∧ n < 256) ∧ l.length ≤ 255 := by unfold shp at h; simpa using h
      have q' : (0 ≤ n' ∧ n' < 256) ∧ l'.length ≤ 255 := by unfold shp at h'; simpa using h'
      rw [if_pos rfl, if_pos rfl] at e
      simp only [List.cons_append, List.cons.injEq, true_and, List.append_assoc] at e
      obtain ⟨e1, e2⟩ := List.append_inj e (by rw [be_len, be_len])
      simp only [List.cons_append, List.nil_append, List.cons.injEq] at e2
      exact ⟨be8_inj ⟨q.1.1, by omega⟩ ⟨q'.1.1, by omega⟩ e1, by omega, e2.2⟩
    · rw [if_neg h3, if_neg h3] at e
      have hk := shp_kd h
      simp only [List.cons_append, List.nil_append, List.cons.injEq, true_and] at e
      unfold shp at h h'
      have q : n = 0 ∧ n' = 0 ∧ l.length = l'.length := by
        rcases h with ⟨hk, _⟩ | ⟨hk, hn, hl⟩ | ⟨hk, _⟩ | ⟨hk, hn, hl⟩ | ⟨hk, hn, a, b, rfl, _⟩
        · omega
        · rcases h' with ⟨hk', _⟩ | ⟨hk', hn', hl'⟩ | ⟨hk', _⟩ | ⟨hk', hn', hl'⟩ | ⟨hk', hn', a', b', rfl, _⟩ <;> omega
        · omega
        · rcases h' with ⟨hk', _⟩ | ⟨hk', hn', hl'⟩ | ⟨hk', _⟩ | ⟨hk', hn', hl'⟩ | ⟨hk', hn', a', b', rfl, _⟩ <;> omega
        · rcases h' with ⟨hk', _⟩ | ⟨hk', hn', hl'⟩ | ⟨hk', _⟩ | ⟨hk', hn', hl'⟩ | ⟨hk', hn', a', b', rfl, _⟩
          · omega
          · omega
          · omega
          · omega
          · exact ⟨hn, hn', rfl⟩
      exact ⟨by rw [q.1, q.2.1], q.2.2, e⟩
theorem encs_cut {l : List Tm} (ih : ∀ t ∈ l, ∀ t' r r', t.ok → t'.ok → t.enc ++ r = t'.enc ++ r' → t = t' ∧ r = r') : ∀ {l' : List Tm} {r r' : List Int}, l.length = l'.length → oks l → oks l' → encs l ++ r = encs l' ++ r' → l = l' ∧ r = r' := by
  induction l with
  | nil =>
    intro l' r r' hl _ _ e
    cases l' with
    | nil => rw [encs_nil] at e; exact ⟨rfl, e⟩
    | cons _ _ => simp at hl
  | cons t l ihl =>
    intro l' r r' hl h h' e
    cases l' with
    | nil => simp at hl
    | cons t' l' =>
      rw [encs_cons, encs_cons, List.append_assoc, List.append_assoc] at e
      rw [oks] at h h'
      obtain ⟨e1, e2⟩ := ih t (by simp) t' _ _ h.1 h'.1 e
      obtain ⟨e3, e4⟩ := ihl (fun s hs => ih s (by simp [hs])) (by simpa using hl) h.2 h'.2 e2
      exact ⟨by rw [e1, e3], e4⟩
theorem enc_cut (t : Tm) : ∀ (t' : Tm) (r r' : List Int), t.ok → t'.ok → t.enc ++ r = t'.enc ++ r' → t = t' ∧ r = r' := by
  refine Tm.ind (p := fun t => ∀ t' r r', t.ok → t'.ok → t.enc ++ r = t'.enc ++ r' → t = t' ∧ r = r') (fun k n l ih t' r r' h h' e => ?_) t
  cases t' with
  | mk k' n' l' =>
    rw [ok_mk] at h h'
    rw [enc_mk, enc_mk, List.append_assoc, List.append_assoc] at e
    have hk : k = k' := by
      obtain ⟨xs, hx⟩ := hd_ne k n l.length
      obtain ⟨ys, hy⟩ := hd_ne k' n' l'.length
      rw [hx, hy] at e
      simp only [List.cons_append, List.cons.injEq] at e
      exact e.1
    subst hk
    obtain ⟨e1, e2, e3⟩ := hd_cut h.1 h'.1 e
    obtain ⟨e4, e5⟩ := encs_cut ih e2 h.2 h'.2 e3
    exact ⟨by rw [e1, e4], e5⟩
theorem enc_inj {t t' : Tm} (h : t.ok) (h' : t'.ok) (e : t.enc = t'.enc) : t = t' := (enc_cut t t' [] [] h h' (by rw [e])).1
/-! ### Lengths, bytes -/
theorem hd_len (k n : Int) (m : Nat) : 1 ≤ (hdB k n m).length ∧ (hdB k n m).length ≤ 10 := by
  unfold hdB
  split
  · simp [be_len]
  · split <;> simp [be_len]
theorem enc_pos (t : Tm) : 1 ≤ t.enc.length := by
  cases t with
  | mk k n l => rw [enc_mk, List.length_append]; have := (hd_len k n l.length).1; omega
theorem hd_bytes {k n : Int} {l : List Tm} (h : shp k n l) : Bytes (hdB k n l.length) := by
  have hk := shp_kd h
  unfold hdB
  by_cases h1 : k = 1
  · rw [if_pos h1]
    intro x hx
    rcases List.mem_cons.1 hx with rfl | hx
    · omega
    · exact Bytes.be _ _ x hx
  · rw [if_neg h1]
    by_cases h3 : k = 3
    · rw [if_pos h3]
      have q : l.length ≤ 255 := by unfold shp at h; omega
      intro x hx
      rcases List.mem_cons.1 hx with rfl | hx
      · omega
      · rcases List.mem_append.1 hx with hx | hx
        · exact Bytes.be _ _ x hx
        · rw [List.mem_singleton.1 hx]; omega
    · rw [if_neg h3]
      intro x hx
      rw [List.mem_singleton.1 hx]
      omega
theorem encs_bytes {l : List Tm} (ih : ∀ t ∈ l, t.ok → Bytes t.enc) (h : oks l) : Bytes (encs l) := by
  induction l with
  | nil => rw [encs_nil]; intro x hx; cases hx
  | cons t l ihl =>
    rw [encs_cons]
    rw [oks] at h
    exact (ih t (by simp) h.1).app (ihl (fun s hs => ih s (by simp [hs])) h.2)
theorem enc_bytes (t : Tm) : t.ok → Bytes t.enc := by
  refine Tm.ind (p := fun t => t.ok → Bytes t.enc) (fun k n l ih h => ?_) t
  rw [ok_mk] at h
  rw [enc_mk]
  exact (hd_bytes h.1).app (encs_bytes ih h.2)
end Go.Proofs.Ytifhkjcimhhaiaa

namespace Go.Proofs.Ytifhkjcimhhaiaa
open Go Go.RowKit
def atomT (n : Int) : Tm := .mk 1 n []
def pairT (a b : Tm) : Tm := .mk 2 0 [a, b]
def hashT (n : Int) (l : List Tm) : Tm := .mk 3 n l
def sealT (k x : Tm) : Tm := .mk 4 0 [k, x]
def pubT (t : Tm) : Tm := .mk 5 0 [t]
def shT (a b : Tm) : Tm := if lexF b.enc a.enc < 0 then .mk 6 0 [b, a] else .mk 6 0 [a, b]
theorem lex_anti : ∀ xs ys : List Int, lexF xs ys = - lexF ys xs
  | [], [] => rfl
  | [], _ :: _ => rfl
  | _ :: _, [] => rfl
  | x :: xs, y :: ys => by
    have ih := lex_anti xs ys
    unfold lexF
    by_cases h : x < y
    · rw [if_pos h, if_neg (by omega), if_pos h]
    · rw [if_neg h]
      by_cases h' : y < x
      · rw [if_pos h', if_pos h']; rfl
      · rw [if_neg h', if_neg h', if_neg h, ih]
theorem lex_zero : ∀ {xs ys : List Int}, lexF xs ys = 0 → xs = ys
  | [], [], _ => rfl
  | [], _ :: _, h => by simp [lexF] at h
  | _ :: _, [], h => by simp [lexF] at h
  | x :: xs, y :: ys, h => by
    unfold lexF at h
    by_cases h1 : x < y
    · rw [if_pos h1] at h; omega
    · rw [if_neg h1] at h
      by_cases h2 : y < x
      · rw [if_pos h2] at h; omega
      · rw [if_neg h2] at h
        rw [lex_zero h, show x = y by omega]
theorem atom_ok {n : Int} (h : 0 ≤ n ∧ n < 18446744073709551616) : (atomT n).ok := by
  unfold atomT; rw [ok_mk, oks]; exact ⟨.inl ⟨rfl, h, rfl⟩, trivial⟩
theorem pair_ok {a b : Tm} (ha : a.ok) (hb : b.ok) : (pairT a b).ok := by
  unfold pairT; rw [ok_mk, oks_all]; exact ⟨.inr (.inl ⟨.inl rfl, rfl, rfl⟩), by simp [ha, hb]⟩
theorem seal_ok {a b : Tm} (ha : a.ok) (hb : b.ok) : (sealT a b).ok := by
  unfold sealT; rw [ok_mk, oks_all]; exact ⟨.inr (.inl ⟨.inr rfl, rfl, rfl⟩), by simp [ha, hb]⟩
theorem hash_ok {n : Int} {l : List Tm} (hn : 0 ≤ n ∧ n < 256) (hl : l.length ≤ 255) (h : ∀ t ∈ l, t.ok) : (hashT n l).ok := by
  unfold hashT; rw [ok_mk, oks_all]; exact ⟨.inr (.inr (.inl ⟨rfl, hn, hl⟩)), h⟩
theorem pub_ok {a : Tm} (ha : a.ok) : (pubT a).ok := by
  unfold pubT; rw [ok_mk, oks_all]; exact ⟨.inr (.inr (.inr (.inl ⟨rfl, rfl, rfl⟩))), by simp [ha]⟩
theorem sh_ok {a b : Tm} (ha : a.ok) (hb : b.ok) : (shT a b).ok := by
  unfold shT
  by_cases h : lexF b.enc a.enc < 0
  · rw [if_pos h, ok_mk, oks_all]
    exact ⟨.inr (.inr (.inr (.inr ⟨rfl, rfl, b, a, rfl, by have := lex_anti a.enc b.enc; omega⟩))), by simp [ha, hb]⟩
  · rw [if_neg h, ok_mk, oks_all]
    exact ⟨.inr (.inr (.inr (.inr ⟨rfl, rfl, a, b, rfl, h⟩))), by simp [ha, hb]⟩
theorem sh_comm {a b : Tm} (ha : a.ok) (hb : b.ok) : shT a b = shT b a := by
  have e := lex_anti a.enc b.enc
  unfold shT
  by_cases h : lexF b.enc a.enc < 0
  · rw [if_pos h, if_neg (by omega)]
  · rw [if_neg h]
    by_cases h' : lexF a.enc b.enc < 0
    · rw [if_pos h']
    · rw [if_neg h']
      have : a = b := enc_inj ha hb (lex_zero (by omega))
      rw [this]
theorem sh_kd (a b : Tm) : (shT a b).kd = 6 ∧ (shT a b).nu = 0 := by unfold shT; split <;> exact ⟨rfl, rfl⟩
theorem sh_inj {a b c d : Tm} (h : shT a b = shT c d) : (a = c ∧ b = d) ∨ (a = d ∧ b = c) := by
  unfold shT at h
  split at h <;> split at h <;> (simp only [Tm.mk.injEq, true_and, List.cons.injEq, and_true] at h; first | exact .inl h | exact .inr h | exact .inl ⟨h.2, h.1⟩ | exact .inr ⟨h.2, h.1⟩)
/-! ### A pool -/
structure Nd where
  k : Int
  n : Int
  pt : List Nat
deriving DecidableEq
def zT : Tm := .mk 0 0 []
def mkT (ts : List Tm) (nd : Nd) : Tm :=
  if nd.k = 6 then shT (ts.getD (nd.pt.getD 0 0) zT) (ts.getD (nd.pt.getD 1 0) zT) else .mk nd.k nd.n (nd.pt.map fun i => ts.getD i zT)
def Nd.shp (nd : Nd) : Prop :=
  (nd.k = 1 ∧ (0 ≤ nd.n ∧ nd.n < 18446744073709551616) ∧ nd.pt = []) ∨ ((nd.k = 2 ∨ nd.k = 4) ∧ nd.n = 0 ∧ nd.pt.length = 2) ∨ (nd.k = 3 ∧ (0 ≤ nd.n ∧ nd.n < 256) ∧ nd.pt.length ≤ 255) ∨ (nd.k = 5 ∧ nd.n = 0 ∧ nd.pt.length = 1) ∨ (nd.k = 6 ∧ nd.n = 0 ∧ ∃ x y, nd.pt = [x, y] ∧ x ≤ y)
structure Nd.okN (nd : Nd) (m : Nat) : Prop where
  s : nd.shp
  p : ∀ i ∈ nd.pt, i < m
theorem getT_ok {ts : List Tm} (h : ∀ t ∈ ts, t.ok) {i : Nat} (hi : i < ts.length) : (ts.getD i zT).ok := by
  have : ts.getD i zT = ts[i] := by simp [List.getD, List.getElem?_eq_getElem hi]
  rw [this]
  exact h _ (List.getElem_mem hi)
theorem mkT_ok {ts : List Tm} {nd : Nd} (h : ∀ t ∈ ts, t.ok) (hn : nd.okN ts.length) : (mkT ts nd).ok := by
  obtain ⟨hs, hp⟩ := hn
  unfold mkT
  by_cases h6 : nd.k = 6
  · rw [if_pos h6]
    have : ∃ x y, nd.pt = [x, y] := by
      unfold Nd.shp at hs
      rcases hs with hs | hs | hs | hs | ⟨_, _, x, y, e, _⟩
      · omega
      · omega
      · omega
      · omega
      · exact ⟨x, y, e⟩
    obtain ⟨x, y, e⟩ := this
    rw [e] at hp ⊢
    exact sh_ok (getT_ok h (hp x (by simp))) (getT_ok h (hp y (by simp)))
  · rw [if_neg h6, ok_mk, oks_all]
    refine ⟨?_, fun t ht => ?_⟩
    · unfold Nd.shp at hs
      unfold Go.Proofs.Ytifhkjcimhhaiaa.shp
      rw [List.length_map]
      rcases hs with ⟨h1, h2, h3⟩ | ⟨h1, h2, h3⟩ | ⟨h1, h2, h3⟩ | ⟨h1, h2, h3⟩ | ⟨h1, _⟩
      · exact .inl ⟨h1, h2, by rw [h3]; rfl⟩
      · exact .inr (.inl ⟨h1, h2, h3⟩)
      · exact .inr (.inr (.inl ⟨h1, h2, h3⟩))
      · exact .inr (.inr (.inr (.inl ⟨h1, h2, h3⟩)))
      · exact absurd h1 h6
    · obtain ⟨i, hi, rfl⟩ := List.mem_map.1 ht
      exact getT_ok h (hp i hi)
theorem mkT_kd (ts : List Tm) (nd : Nd) : (mkT ts nd).kd = nd.k := by
  unfold mkT
  by_cases h6 : nd.k = 6
  · rw [if_pos h6, (sh_kd _ _).1, h6]
  · rw [if_neg h6]; rfl
theorem mkT_nu {ts : List Tm} {nd : Nd} (hs : nd.shp) : (mkT ts nd).nu = nd.n := by
  unfold mkT
  by_cases h6 : nd.k = 6
  · rw [if_pos h6, (sh_kd _ _).2]
    unfold Nd.shp at hs; omega
  · rw [if_neg h6]; rfl
theorem getD_inj {ts : List Tm} (hn : ts.Nodup) {i j : Nat} (hi : i < ts.length) (hj : j < ts.length) (h : ts.getD i zT = ts.getD j zT) : i = j := by
  have e : ∀ {k : Nat} (hk : k < ts.length), ts.getD k zT = ts[k] := fun hk => by simp [List.getD, List.getElem?_eq_getElem hk]
  rw [e hi, e hj] at h
  exact (List.getElem_inj hn).1 h
theorem map_inj {ts : List Tm} (hn : ts.Nodup) : ∀ {l m : List Nat}, (∀ i ∈ l, i < ts.length) → (∀ i ∈ m, i < ts.length) → (l.map fun i => ts.getD i zT) = (m.map fun i => ts.getD i zT) → l = m
  | [], [], _, _, _ => rfl
  | [], _ :: _, _, _, h => by simp at h
  | _ :: _, [], _, _, h => by simp at h
  | x :: l, y :: m, h1, h2, h => by
    rw [List.map_cons, List.map_cons] at h
    injection h with h3 h4
    rw [getD_inj hn (h1 x (by simp)) (h2 y (by simp)) h3, map_inj hn (fun i hi => h1 i (by simp [hi])) (fun i hi => h2 i (by simp [hi])) h4]
theorem mkT_inj {ts : List Tm} (hn : ts.Nodup) {a b : Nd} (ha : a.okN ts.length) (hb : b.okN ts.length) (h : mkT ts a = mkT ts b) : a = b := by
  have hk : a.k = b.k := by rw [← mkT_kd ts a, h, mkT_kd]
  have hu : a.n = b.n := by rw [← mkT_nu (ts := ts) ha.s, h, mkT_nu hb.s]
  have hp : a.pt = b.pt := by
    by_cases h6 : a.k = 6
    · have q : ∀ {c : Nd}, c.okN ts.length → c.k = 6 → ∃ x y, c.pt = [x, y] ∧ x ≤ y := by
        intro c hc hc6
        have hs := hc.s
        unfold Nd.shp at hs
        rcases hs with hs | hs | hs | hs | ⟨_, _, e⟩
        · omega
        · omega
        · omega
        · omega
        · exact e
      obtain ⟨x, y, e1, l1⟩ := q ha h6
      obtain ⟨z, w, e2, l2⟩ := q hb (by rw [← hk]; exact h6)
      have pa := ha.p
      have pb := hb.p
      unfold mkT at h
      rw [if_pos h6, if_pos (by rw [← hk]; exact h6), e1, e2] at h
      rw [e1] at pa
      rw [e2] at pb
      have h : shT (ts.getD x zT) (ts.getD y zT) = shT (ts.getD z zT) (ts.getD w zT) := h
      rw [e1, e2]
      rcases sh_inj h with ⟨g1, g2⟩ | ⟨g1, g2⟩
      · rw [getD_inj hn (pa x (by simp)) (pb z (by simp)) g1, getD_inj hn (pa y (by simp)) (pb w (by simp)) g2]
      · have f1 := getD_inj hn (pa x (by simp)) (pb w (by simp)) g1
        have f2 := getD_inj hn (pa y (by simp)) (pb z (by simp)) g2
        rw [show x = z by omega, show y = w by omega]
    · unfold mkT at h
      rw [if_neg h6, if_neg (by rw [← hk]; exact h6)] at h
      injection h with _ _ h
      exact map_inj hn ha.p hb.p h
  cases a
  cases b
  simp_all
/-- The trees of a pool. -/
def trs (p : List Nd) : List Tm := p.foldl (fun ts nd => ts ++ [mkT ts nd]) []
theorem trs_snoc (p : List Nd) (nd : Nd) : trs (p ++ [nd]) = trs p ++ [mkT (trs p) nd] := by unfold trs; rw [List.foldl_append]; rfl
theorem trs_len (p : List Nd) : (trs p).length = p.length := by
  refine snoc_ind (p := fun p => (trs p).length = p.length) rfl (fun p nd ih => ?_) p
  rw [trs_snoc, List.length_append, List.length_append, ih]
  rfl
structure PoolOk (p : List Nd) : Prop where
  nd : ∀ (i : Nat) nd, p[i]? = some nd → nd.okN i
  un : p.Nodup
theorem mkT_app {ts us : List Tm} {nd : Nd} (h : nd.okN ts.length) : mkT (ts ++ us) nd = mkT ts nd := by
  have e : ∀ i, i < ts.length → (ts ++ us).getD i zT = ts.getD i zT := fun i hi => by simp [List.getD, List.getElem?_append_left hi]
  unfold mkT
  by_cases h6 : nd.k = 6
  · rw [if_pos h6, if_pos h6]
    have : ∃ x y, nd.pt = [x, y] := by
      have hs := h.s
      unfold Nd.shp at hs
      rcases hs with hs | hs | hs | hs | ⟨_, _, x, y, e, _⟩
      · omega
      · omega
      · omega
      · omega
      · exact ⟨x, y, e⟩
    obtain ⟨x, y, e1⟩ := this
    have hp := h.p
    rw [e1] at hp ⊢
    show shT ((ts ++ us).getD x zT) ((ts ++ us).getD y zT) = shT (ts.getD x zT) (ts.getD y zT)
    rw [e x (hp x (by simp)), e y (hp y (by simp))]
  · rw [if_neg h6, if_neg h6]
    congr 1
    exact List.map_congr_left fun i hi => e i (h.p i hi)
theorem PoolOk.snoc {p : List Nd} {nd : Nd} (h : PoolOk p) (hn : nd.okN p.length) (hu : nd ∉ p) : PoolOk (p ++ [nd]) := by
  refine ⟨fun i x hx => ?_, ?_⟩
  · by_cases hi : i < p.length
    · rw [List.getElem?_append_left hi] at hx
      exact h.nd i x hx
    · have hi2 := (List.getElem?_eq_some_iff.1 hx).1
      rw [List.length_append, List.length_singleton] at hi2
      have : i = p.length := by omega
      subst this
      rw [List.getElem?_append_right (Nat.le_refl _), Nat.sub_self] at hx
      cases hx
      exact hn
  · rw [List.nodup_append]
    exact ⟨h.un, by simp, fun a ha b hb => by rw [List.mem_singleton.1 hb]; exact fun e => hu (e ▸ ha)⟩
theorem PoolOk.init {p : List Nd} {nd : Nd} (h : PoolOk (p ++ [nd])) : PoolOk p ∧ nd.okN p.length ∧ nd ∉ p := by
  have hu := List.nodup_append.1 h.un
  refine ⟨⟨fun i x hx => h.nd i x (by rw [List.getElem?_append_left (List.getElem?_eq_some_iff.1 hx).1]; exact hx), hu.1⟩, h.nd p.length nd (by simp), fun hm => hu.2.2 nd hm nd (by simp) rfl⟩
/-- All trees may be, each is there once, and each is what its node tells. -/
theorem trs_ok (p : List Nd) : PoolOk p → (∀ t ∈ trs p, t.ok) ∧ (trs p).Nodup ∧ ∀ (i : Nat) nd, p[i]? = some nd → (trs p)[i]? = some (mkT (trs p) nd) := by
  refine snoc_ind (p := fun p => PoolOk p → (∀ t ∈ trs p, t.ok) ∧ (trs p).Nodup ∧ ∀ (i : Nat) nd, p[i]? = some nd → (trs p)[i]? = some (mkT (trs p) nd)) (fun _ => ⟨(fun t h => nomatch h), List.nodup_nil, fun i nd h => by simp at h⟩) (fun p nd ih h => ?_) p
  obtain ⟨h1, h2, h3⟩ := h.init
  obtain ⟨i1, i2, i3⟩ := ih h1
  have h2' : nd.okN (trs p).length := by rw [trs_len]; exact h2
  have hnew : mkT (trs p) nd ∉ trs p := by
    intro hm
    obtain ⟨i, hi⟩ := List.mem_iff_getElem?.1 hm
    have hil := (List.getElem?_eq_some_iff.1 hi).1
    rw [trs_len] at hil
    have hx : p[i]? = some p[i] := List.getElem?_eq_getElem hil
    have h4 := i3 i _ hx
    rw [hi] at h4
    have h5 := h1.nd i _ hx
    have := mkT_inj i2 h2' ⟨h5.s, fun k hk => by rw [trs_len]; exact Nat.lt_trans (h5.p k hk) hil⟩ (Option.some.inj h4)
    exact h3 (this ▸ List.getElem_mem hil)
  rw [trs_snoc]
  refine ⟨?_, ?_, ?_⟩
  · intro t ht
    rcases List.mem_append.1 ht with ht | ht
    · exact i1 t ht
    · rw [List.mem_singleton.1 ht]; exact mkT_ok i1 h2'
  · rw [List.nodup_append]
    exact ⟨i2, by simp, fun a ha b hb => by rw [List.mem_singleton.1 hb]; exact fun e => hnew (e ▸ ha)⟩
  · intro i x hx
    by_cases hi : i < p.length
    · rw [List.getElem?_append_left hi] at hx
      rw [List.getElem?_append_left (by rw [trs_len]; exact hi), i3 i x hx, mkT_app ⟨(h1.nd i x hx).s, fun k hk => by rw [trs_len]; exact Nat.lt_trans ((h1.nd i x hx).p k hk) hi⟩]
    · have hi2 := (List.getElem?_eq_some_iff.1 hx).1
      rw [List.length_append, List.length_singleton] at hi2
      have e : i = p.length := by omega
      subst e
      rw [List.getElem?_append_right (Nat.le_refl _), Nat.sub_self] at hx
      cases hx
      rw [List.getElem?_append_right (by rw [trs_len]; exact Nat.le_refl _), trs_len, Nat.sub_self, mkT_app h2']
      rfl
end Go.Proofs.Ytifhkjcimhhaiaa

namespace Go.Proofs.Ytifhkjcimhhaiaa
open Go Go.RowKit
structure Dt where
  k : Int
  n : Int
  a : Int
  b : Int
  l : List Int
structure Dt.ok (d : Dt) : Prop where
  k : 0 ≤ d.k ∧ d.k < 256
  n : 0 ≤ d.n ∧ d.n < 18446744073709551616
  a : -9223372036854775808 ≤ d.a ∧ d.a ≤ 9223372036854775807
  b : -9223372036854775808 ≤ d.b ∧ d.b ≤ 9223372036854775807
  l : ∀ x ∈ d.l, -9223372036854775808 ≤ x ∧ x ≤ 9223372036854775807
/-- What stands at a place, round. -/
def rnd (i : Int) (n : Nat) : Nat := (i % (n : Int)).toNat
def atO {α : Type} (m : List (Option α)) (i : Int) : Option α := (m[rnd i m.length]?).join
theorem rnd_lt {i : Int} {n : Nat} (h : 0 < n) : rnd i n < n := by
  unfold rnd
  have h1 := Int.emod_nonneg i (show (n : Int) ≠ 0 by omega)
  have h2 := Int.emod_lt_of_pos i (show (0 : Int) < n by omega)
  omega
theorem atO_map {α β : Type} (f : α → β) (m : List (Option α)) (i : Int) : atO (m.map (Option.map f)) i = (atO m i).map f := by
  unfold atO
  rw [List.length_map, List.getElem?_map]
  cases m[rnd i m.length]? with
  | none => rfl
  | some x => cases x <;> rfl
theorem atO_mem {α : Type} {m : List (Option α)} {i : Int} {x : α} (h : atO m i = some x) : some x ∈ m := by
  unfold atO at h
  cases h1 : m[rnd i m.length]? with
  | none => rw [h1] at h; cases h
  | some y =>
    rw [h1] at h
    have : y = some x := h
    rw [← this]
    exact List.mem_of_getElem? h1
def allO {α β : Type} (f : α → Option β) : List α → Option (List β)
  | [] => some []
  | x :: l => match f x, allO f l with
    | some y, some ys => some (y :: ys)
    | _, _ => none
theorem allO_map {α β γ : Type} (f : α → Option β) (g : β → γ) : ∀ l : List α, allO (fun x => (f x).map g) l = (allO f l).map (List.map g)
  | [] => rfl
  | x :: l => by
    unfold allO
    rw [allO_map f g l]
    cases f x with
    | none => rfl
    | some y => cases allO f l <;> rfl
theorem allO_len {α β : Type} {f : α → Option β} : ∀ {l : List α} {ys : List β}, allO f l = some ys → ys.length = l.length
  | [], ys, h => by unfold allO at h; cases h; rfl
  | x :: l, ys, h => by
    unfold allO at h
    cases h1 : f x with
    | none => rw [h1] at h; cases h
    | some y =>
      cases h2 : allO f l with
      | none => rw [h1, h2] at h; cases h
      | some zs =>
        rw [h1, h2] at h
        cases h
        rw [List.length_cons, List.length_cons, allO_len h2]
theorem allO_mem {α β : Type} {f : α → Option β} : ∀ {l : List α} {ys : List β}, allO f l = some ys → ∀ y ∈ ys, ∃ x ∈ l, f x = some y
  | [], ys, h, y, hy => by unfold allO at h; cases h; cases hy
  | x :: l, ys, h, y, hy => by
    unfold allO at h
    cases h1 : f x with
    | none => rw [h1] at h; cases h
    | some y' =>
      cases h2 : allO f l with
      | none => rw [h1, h2] at h; cases h
      | some zs =>
        rw [h1, h2] at h
        cases h
        rcases List.mem_cons.1 hy with rfl | hy
        · exact ⟨x, by simp, h1⟩
        · obtain ⟨z, hz, e⟩ := allO_mem h2 y hy
          exact ⟨z, by simp [hz], e⟩
def srt2 (x y : Nat) : List Nat := if y < x then [y, x] else [x, y]
/-- What a step builds: by places, by trees. -/
def bN (p : List Nd) (m : List (Option Nat)) (d : Dt) : Option Nd :=
  if d.k = 1 then some ⟨1, d.n, []⟩
  else if d.k = 2 ∨ d.k = 4 then (match atO m d.a, atO m d.b with | some x, some y => some ⟨d.k, 0, [x, y]⟩ | _, _ => none)
  else if d.k = 3 then (if d.l.length ≤ 255 then (allO (atO m) d.l).map fun l => ⟨3, d.n % 256, l⟩ else none)
  else if d.k = 5 then (atO m d.a).map fun x => ⟨5, 0, [x]⟩
  else if d.k = 6 then (match atO m d.a, atO m d.b with | some x, some y => (match p[y]? with | some nd => if nd.k = 5 then some ⟨6, 0, srt2 x (nd.pt.getD 0 0)⟩ else none | none => none) | _, _ => none)
  else none
def bT (m : List (Option Tm)) (d : Dt) : Option Tm :=
  if d.k = 1 then some (atomT d.n)
  else if d.k = 2 ∨ d.k = 4 then (match atO m d.a, atO m d.b with | some x, some y => some (.mk d.k 0 [x, y]) | _, _ => none)
  else if d.k = 3 then (if d.l.length ≤ 255 then (allO (atO m) d.l).map fun l => hashT (d.n % 256) l else none)
  else if d.k = 5 then (atO m d.a).map pubT
  else if d.k = 6 then (match atO m d.a, atO m d.b with | some x, some y => if y.kd = 5 then some (shT x (y.pt.getD 0 zT)) else none | _, _ => none)
  else none
theorem srt2_ok (x y : Nat) : ∃ a b, srt2 x y = [a, b] ∧ a ≤ b ∧ ((a = x ∧ b = y) ∨ (a = y ∧ b = x)) := by
  unfold srt2
  split
  · exact ⟨y, x, rfl, by omega, .inr ⟨rfl, rfl⟩⟩
  · exact ⟨x, y, rfl, by omega, .inl ⟨rfl, rfl⟩⟩
def tmO (p : List Nd) (m : List (Option Nat)) : List (Option Tm) := m.map (Option.map fun i => (trs p).getD i zT)
def MadeOk (p : List Nd) (m : List (Option Nat)) : Prop := ∀ i, some i ∈ m → i < p.length
theorem trs_getD {p : List Nd} (hp : PoolOk p) {i : Nat} {nd : Nd} (h : p[i]? = some nd) : (trs p).getD i zT = mkT (trs p) nd := by
  have := (trs_ok p hp).2.2 i nd h
  simp [List.getD, this]
theorem bN_ok {p : List Nd} {m : List (Option Nat)} {d : Dt} {nd : Nd} (hd : d.ok) (hp : PoolOk p) (hm : MadeOk p m) (h : bN p m d = some nd) : nd.okN p.length := by
  unfold bN at h
  by_cases h1 : d.k = 1
  · rw [if_pos h1] at h
    cases h
    exact ⟨.inl ⟨rfl, hd.n, rfl⟩, (fun _ h => nomatch h)⟩
  rw [if_neg h1] at h
  by_cases h2 : d.k = 2 ∨ d.k = 4
  · rw [if_pos h2] at h
    cases e1 : atO m d.a with
    | none => rw [e1] at h; cases h
    | some x =>
      cases e2 : atO m d.b with
      | none => rw [e1, e2] at h; cases h
      | some y =>
        rw [e1, e2] at h
        cases h
        exact ⟨.inr (.inl ⟨h2, rfl, rfl⟩), by simp [hm x (atO_mem e1), hm y (atO_mem e2)]⟩
  rw [if_neg h2] at h
  by_cases h3 : d.k = 3
  · rw [if_pos h3] at h
    by_cases hl : d.l.length ≤ 255
    · rw [if_pos hl] at h
      cases e1 : allO (atO m) d.l with
      | none => rw [e1] at h; cases h
      | some ys =>
        rw [e1] at h
        cases h
        refine ⟨.inr (.inr (.inl ⟨rfl, ⟨Int.emod_nonneg _ (by decide), Int.emod_lt_of_pos _ (by decide)⟩, by show ys.length ≤ 255; rw [allO_len e1]; exact hl⟩)), fun i hi => ?_⟩
        obtain ⟨x, _, hx⟩ := allO_mem e1 i hi
        exact hm i (atO_mem hx)
    · rw [if_neg hl] at h; cases h
  rw [if_neg h3] at h
  by_cases h5 : d.k = 5
  · rw [if_pos h5] at h
    cases e1 : atO m d.a with
    | none => rw [e1] at h; cases h
    | some x =>
      rw [e1] at h
      cases h
      exact ⟨.inr (.inr (.inr (.inl ⟨rfl, rfl, rfl⟩))), by simp [hm x (atO_mem e1)]⟩
  rw [if_neg h5] at h
  by_cases h6 : d.k = 6
  · rw [if_pos h6] at h
    cases e1 : atO m d.a with
    | none => rw [e1] at h; cases h
    | some x =>
      cases e2 : atO m d.b with
      | none => rw [e1, e2] at h; cases h
      | some y =>
        rw [e1, e2] at h
        dsimp only at h
        cases e3 : p[y]? with
        | none => rw [e3] at h; cases h
        | some nb =>
          rw [e3] at h
          dsimp only at h
          by_cases h7 : nb.k = 5
          · rw [if_pos h7] at h
            cases h
            obtain ⟨a, b, q1, q2, q3⟩ := srt2_ok x (nb.pt.getD 0 0)
            have hnb := hp.nd y nb e3
            have hy := hm y (atO_mem e2)
            have hx := hm x (atO_mem e1)
            have hz : nb.pt.getD 0 0 < p.length := by
              have hs := hnb.s
              unfold Nd.shp at hs
              have hl : nb.pt.length = 1 := by omega
              have : nb.pt.getD 0 0 ∈ nb.pt := by
                rw [show nb.pt.getD 0 0 = nb.pt[0] by simp [List.getD, List.getElem?_eq_getElem (show 0 < nb.pt.length by omega)]]
                exact List.getElem_mem _
              exact Nat.lt_trans (hnb.p _ this) hy
            refine ⟨.inr (.inr (.inr (.inr ⟨rfl, rfl, a, b, q1, q2⟩))), fun i hi => ?_⟩
            have hi0 : i ∈ srt2 x (nb.pt.getD 0 0) := hi
            have hi1 : i = a ∨ i = b := by rw [q1] at hi0; simpa using hi0
            clear hi hi0
            rcases q3 with ⟨q3, q4⟩ | ⟨q3, q4⟩ <;> rcases hi1 with hi1 | hi1 <;> rw [hi1] <;> first | (rw [q3]; assumption) | (rw [q4]; assumption)
          · rw [if_neg h7] at h; cases h
  · rw [if_neg h6] at h; cases h
theorem step_rel {p : List Nd} {m : List (Option Nat)} {d : Dt} (hp : PoolOk p) (hm : MadeOk p m) : bT (tmO p m) d = (bN p m d).map (mkT (trs p)) := by
  obtain ⟨t1, t2, t3⟩ := trs_ok p hp
  unfold bT bN tmO
  simp only [atO_map]
  by_cases h1 : d.k = 1
  · rw [if_pos h1, if_pos h1]; rfl
  rw [if_neg h1, if_neg h1]
  by_cases h2 : d.k = 2 ∨ d.k = 4
  · rw [if_pos h2, if_pos h2]
    cases e1 : atO m d.a with
    | none => rfl
    | some x =>
      cases e2 : atO m d.b with
      | none => rfl
      | some y =>
        show some _ = some (mkT (trs p) ⟨d.k, 0, [x, y]⟩)
        unfold mkT
        rw [if_neg (by show ¬ d.k = 6; omega)]
        rfl
  rw [if_neg h2, if_neg h2]
  by_cases h3 : d.k = 3
  · rw [if_pos h3, if_pos h3]
    by_cases hl : d.l.length ≤ 255
    · rw [if_pos hl, if_pos hl]
      rw [show (atO (m.map (Option.map fun i => (trs p).getD i zT))) = fun i => (atO m i).map fun i => (trs p).getD i zT from funext fun i => atO_map _ _ _, allO_map]
      cases allO (atO m) d.l <;> rfl
    · rw [if_neg hl, if_neg hl]; rfl
  rw [if_neg h3, if_neg h3]
  by_cases h5 : d.k = 5
  · rw [if_pos h5, if_pos h5]
    cases atO m d.a <;> rfl
  rw [if_neg h5, if_neg h5]
  by_cases h6 : d.k = 6
  · rw [if_pos h6, if_pos h6]
    cases e1 : atO m d.a with
    | none => rfl
    | some x =>
      cases e2 : atO m d.b with
      | none => rfl
      | some y =>
        have hy := hm y (atO_mem e2)
        have hx := hm x (atO_mem e1)
        have e3 : p[y]? = some p[y] := List.getElem?_eq_getElem hy
        generalize p[y] = nb at e3
        have hb := trs_getD hp e3
        show (if ((trs p).getD y zT).kd = 5 then _ else _) = Option.map (mkT (trs p)) (match p[y]? with | some nd => if nd.k = 5 then some ⟨6, 0, srt2 x (nd.pt.getD 0 0)⟩ else none | none => none)
        rw [e3, hb, mkT_kd]
        dsimp only
        by_cases h7 : nb.k = 5
        · rw [if_pos h7, if_pos h7]
          have hnb := hp.nd y nb e3
          have hs := hnb.s
          unfold Nd.shp at hs
          have hl : nb.pt.length = 1 := by omega
          obtain ⟨z, hz⟩ : ∃ z, nb.pt = [z] := by
            match hq : nb.pt, hl with
            | [z], _ => exact ⟨z, rfl⟩
          have hzl : z < y := hnb.p z (by rw [hz]; simp)
          have hpt : (mkT (trs p) nb).pt.getD 0 zT = (trs p).getD z zT := by
            unfold mkT
            rw [if_neg (by omega), hz]
            rfl
          rw [hb, hpt, hz]
          show some _ = some (mkT (trs p) ⟨6, 0, srt2 x z⟩)
          obtain ⟨a, b, q1, _, q3⟩ := srt2_ok x z
          rw [q1]
          show _ = some (shT ((trs p).getD a zT) ((trs p).getD b zT))
          have o1 : ((trs p).getD x zT).ok := getT_ok t1 (by rw [trs_len]; exact hx)
          have o2 : ((trs p).getD z zT).ok := getT_ok t1 (by rw [trs_len]; omega)
          rcases q3 with ⟨rfl, rfl⟩ | ⟨rfl, rfl⟩
          · rfl
          · rw [sh_comm o1 o2]
        · rw [if_neg h7, if_neg h7]; rfl
  · rw [if_neg h6, if_neg h6]; rfl
/-! ### Steps, one behind the other -/
def putP (p : List Nd) (nd : Nd) : List Nd × Nat := match p.findIdx? (fun x => decide (x = nd)) with
  | some i => (p, i)
  | none => (p ++ [nd], p.length)
def stepR (s : List Nd × List (Option Nat)) (d : Dt) : List Nd × List (Option Nat) := match bN s.1 s.2 d with
  | some nd => ((putP s.1 nd).1, s.2 ++ [some (putP s.1 nd).2])
  | none => (s.1, s.2 ++ [none])
def playR (l : List Dt) : List Nd × List (Option Nat) := l.foldl stepR ([], [])
def playT (l : List Dt) : List (Option Tm) := l.foldl (fun m d => m ++ [bT m d]) []
theorem playR_snoc (l : List Dt) (d : Dt) : playR (l ++ [d]) = stepR (playR l) d := by unfold playR; rw [List.foldl_append]; rfl
theorem playT_snoc (l : List Dt) (d : Dt) : playT (l ++ [d]) = playT l ++ [bT (playT l) d] := by unfold playT; rw [List.foldl_append]; rfl
structure Rel (s : List Nd × List (Option Nat)) (mt : List (Option Tm)) : Prop where
  p : PoolOk s.1
  m : MadeOk s.1 s.2
  t : mt = tmO s.1 s.2
  all : ∀ i, i < s.1.length → some i ∈ s.2
theorem tmO_snoc {p : List Nd} {m : List (Option Nat)} {nd : Nd} (hp : PoolOk p) (hm : MadeOk p m) : tmO (p ++ [nd]) m = tmO p m := by
  unfold tmO
  refine List.map_congr_left fun o ho => ?_
  cases o with
  | none => rfl
  | some i =>
    have hi := hm i ho
    show some _ = some _
    rw [trs_snoc]
    congr 1
    simp [List.getD, List.getElem?_append_left (show i < (trs p).length by rw [trs_len]; exact hi)]
theorem rel_step {s : List Nd × List (Option Nat)} {m : List (Option Tm)} {d : Dt} (hd : d.ok) (h : Rel s m) : Rel (stepR s d) (m ++ [bT m d]) := by
  obtain ⟨p, q⟩ := s
  obtain ⟨h1, h2, h3, h4⟩ := h
  dsimp only at h1 h2 h3 h4
  subst h3
  rw [step_rel h1 h2]
  unfold stepR
  dsimp only
  cases hb : bN p q d with
  | none =>
    dsimp only
    exact ⟨h1, fun i hi => h2 i (by simpa using hi), by unfold tmO; rw [List.map_append]; rfl, fun i hi => List.mem_append_left _ (h4 i hi)⟩
  | some nd =>
    dsimp only
    have hn := bN_ok hd h1 h2 hb
    unfold putP
    cases hf : p.findIdx? (fun x => decide (x = nd)) with
    | some i =>
      dsimp only
      obtain ⟨hi, he, _⟩ := List.findIdx?_eq_some_iff_getElem.1 hf
      have he : p[i] = nd := by simpa using he
      have hg : p[i]? = some nd := by rw [List.getElem?_eq_getElem hi, he]
      refine ⟨h1, fun j hj => ?_, ?_, fun j hj => List.mem_append_left _ (h4 j hj)⟩
      · rcases List.mem_append.1 hj with hj | hj
        · exact h2 j hj
        · have : j = i := by simpa using hj
          rw [this]; exact hi
      · unfold tmO
        rw [List.map_append]
        show _ = _ ++ [some ((trs p).getD i zT)]
        rw [trs_getD h1 hg]
        rfl
    | none =>
      dsimp only
      have hu : nd ∉ p := fun hm => by
        have := List.findIdx?_eq_none_iff.1 hf nd hm
        simp at this
      refine ⟨h1.snoc hn hu, fun j hj => ?_, ?_, fun j hj => ?_⟩
      · rw [List.length_append, List.length_singleton]
        rcases List.mem_append.1 hj with hj | hj
        · have := h2 j hj; omega
        · have : j = p.length := by simpa using hj
          omega
      · have e : tmO (p ++ [nd]) (q ++ [some p.length]) = tmO (p ++ [nd]) q ++ [some ((trs (p ++ [nd])).getD p.length zT)] := by unfold tmO; rw [List.map_append]; rfl
        rw [e, tmO_snoc h1 h2, trs_snoc]
        show _ ++ [some _] = _ ++ [some _]
        congr 3
        simp [List.getD, trs_len]
      · rw [List.length_append, List.length_singleton] at hj
        by_cases e : j < p.length
        · exact List.mem_append_left _ (h4 j e)
        · have : j = p.length := by omega
          rw [this]; simp
theorem play_rel (l : List Dt) : (∀ d ∈ l, d.ok) → Rel (playR l) (playT l) := by
  refine snoc_ind (p := fun l => (∀ d ∈ l, d.ok) → Rel (playR l) (playT l)) (fun _ => ⟨⟨fun i nd h => by simp [playR] at h, List.nodup_nil⟩, (fun i h => by simp [playR] at h), rfl, (fun i h => by simp [playR] at h)⟩) (fun l d ih h => ?_) l
  rw [playR_snoc, playT_snoc]
  exact rel_step (h d (by simp)) (ih fun x hx => h x (by simp [hx]))
end Go.Proofs.Ytifhkjcimhhaiaa

namespace Go.Proofs.Ytifhkjcimhhaiaa
open Go Go.RowKit
/-- What a term's parts must tell, by its kind. -/
def combP (M : Tm → Prop) (k : Int) (l : List Tm) (ps : List Prop) : Prop :=
  if k = 1 then False
  else if k = 6 then (match l, ps with | [a, b], [x, y] => (x ∧ (M (pubT b) ∨ y)) ∨ (y ∧ (M (pubT a) ∨ x)) | _, _ => False)
  else ∀ p ∈ ps, p
mutual
def Tm.canP (M : Tm → Prop) : Tm → Prop
  | .mk k n l => M (.mk k n l) ∨ combP M k l (canL M l)
def canL (M : Tm → Prop) : List Tm → List Prop
  | [] => []
  | t :: l => t.canP M :: canL M l
end
theorem canL_map (M : Tm → Prop) : ∀ l : List Tm, canL M l = l.map (Tm.canP M)
  | [] => by rw [canL]; rfl
  | t :: l => by rw [canL, canL_map M l]; rfl
theorem can_mk (M : Tm → Prop) (k n : Int) (l : List Tm) : (Tm.mk k n l).canP M ↔ M (.mk k n l) ∨ combP M k l (l.map (Tm.canP M)) := by rw [Tm.canP, canL_map]
theorem can_in {M : Tm → Prop} {t : Tm} (h : M t) : t.canP M := by cases t with | mk k n l => exact (can_mk M k n l).2 (.inl h)
theorem can_atom (M : Tm → Prop) (n : Int) : (atomT n).canP M ↔ M (atomT n) := by
  unfold atomT
  rw [can_mk]
  simp [combP]
theorem can_all (M : Tm → Prop) {k n : Int} {l : List Tm} (h1 : k ≠ 1) (h6 : k ≠ 6) : (Tm.mk k n l).canP M ↔ M (.mk k n l) ∨ ∀ t ∈ l, t.canP M := by
  rw [can_mk]
  unfold combP
  rw [if_neg h1, if_neg h6]
  refine or_congr Iff.rfl ⟨fun h t ht => h _ (List.mem_map.2 ⟨t, ht, rfl⟩), fun h p hp => ?_⟩
  obtain ⟨t, ht, rfl⟩ := List.mem_map.1 hp
  exact h t ht
theorem can_two (M : Tm → Prop) {n : Int} {a b : Tm} : (Tm.mk 6 n [a, b]).canP M ↔ M (.mk 6 n [a, b]) ∨ (a.canP M ∧ (M (pubT b) ∨ b.canP M)) ∨ (b.canP M ∧ (M (pubT a) ∨ a.canP M)) := by
  rw [can_mk]
  rfl
theorem can_pub (M : Tm → Prop) (t : Tm) : (pubT t).canP M ↔ M (pubT t) ∨ t.canP M := by
  unfold pubT
  rw [can_all M (by decide) (by decide)]
  simp
/-- Only what may be. -/
theorem can_mono {M N : Tm → Prop} (h : ∀ t, M t → N t) (t : Tm) : t.canP M → t.canP N := by
  refine Tm.ind (p := fun t => t.canP M → t.canP N) (fun k n l ih hc => ?_) t
  rw [can_mk] at hc ⊢
  rcases hc with hc | hc
  · exact .inl (h _ hc)
  · refine .inr ?_
    unfold combP at hc ⊢
    by_cases h1 : k = 1
    · rw [if_pos h1] at hc; exact hc.elim
    rw [if_neg h1] at hc ⊢
    by_cases h6 : k = 6
    · rw [if_pos h6] at hc ⊢
      match l, ih, hc with
      | [a, b], ih, hc =>
        have ia := ih a (by simp)
        have ib := ih b (by simp)
        rcases hc with ⟨x, y⟩ | ⟨x, y⟩
        · exact .inl ⟨ia x, y.imp (h _) ib⟩
        · exact .inr ⟨ib x, y.imp (h _) ia⟩
    · rw [if_neg h6] at hc ⊢
      intro p hp
      obtain ⟨t, ht, rfl⟩ := List.mem_map.1 hp
      exact ih t ht (hc _ (List.mem_map.2 ⟨t, ht, rfl⟩))
/-- What can be built, known as well, adds nothing. -/
theorem can_idem (M : Tm → Prop) (t : Tm) : t.canP (Tm.canP M) → t.canP M := by
  refine Tm.ind (p := fun t => t.canP (Tm.canP M) → t.canP M) (fun k n l ih hc => ?_) t
  rw [can_mk] at hc
  rcases hc with hc | hc
  · exact hc
  · rw [can_mk]
    refine .inr ?_
    unfold combP at hc ⊢
    by_cases h1 : k = 1
    · rw [if_pos h1] at hc; exact hc.elim
    rw [if_neg h1] at hc ⊢
    by_cases h6 : k = 6
    · rw [if_pos h6] at hc ⊢
      match l, ih, hc with
      | [a, b], ih, hc =>
        have ia := ih a (by simp)
        have ib := ih b (by simp)
        rcases hc with ⟨x, y⟩ | ⟨x, y⟩
        · exact .inl ⟨ia x, y.elim (fun q => (can_pub M b).1 q) (fun q => .inr (ib q))⟩
        · exact .inr ⟨ib x, y.elim (fun q => (can_pub M a).1 q) (fun q => .inr (ia q))⟩
    · rw [if_neg h6] at hc ⊢
      intro p hp
      obtain ⟨t, ht, rfl⟩ := List.mem_map.1 hp
      exact ih t ht (hc _ (List.mem_map.2 ⟨t, ht, rfl⟩))
/-- A set from which nothing more is found out. -/
structure Shut (S : Tm → Prop) : Prop where
  pair : ∀ a b, S (pairT a b) → S a ∧ S b
  sld : ∀ k x, S (sealT k x) → k.canP S → S x
/-- What is found out of some. -/
def ClP (g : Tm → Prop) (t : Tm) : Prop := ∀ S : Tm → Prop, (∀ t, g t → S t) → Shut S → S t
theorem cl_in {g : Tm → Prop} {t : Tm} (h : g t) : ClP g t := fun _ h1 _ => h1 t h
theorem cl_shut (g : Tm → Prop) : Shut (ClP g) :=
  ⟨fun a b h => ⟨fun S h1 h2 => (h2.pair a b (h S h1 h2)).1, fun S h1 h2 => (h2.pair a b (h S h1 h2)).2⟩,
   fun k x h hk S h1 h2 => h2.sld k x (h S h1 h2) (can_mono (fun t ht => ht S h1 h2) k hk)⟩
theorem cl_mono {g g' : Tm → Prop} (h : ∀ t, g t → g' t) (t : Tm) (ht : ClP g t) : ClP g' t := fun S h1 h2 => ht S (fun t q => h1 t (h t q)) h2
/-- What can be built of what is found out is shut as well. -/
theorem can_shut (g : Tm → Prop) : Shut (Tm.canP (ClP g)) := by
  refine ⟨fun a b h => ?_, fun k x h hk => ?_⟩
  · unfold pairT at h
    rw [can_all _ (by decide) (by decide)] at h
    rcases h with h | h
    · have := (cl_shut g).pair a b h
      exact ⟨can_in this.1, can_in this.2⟩
    · exact ⟨h a (by simp), h b (by simp)⟩
  · have hk := can_idem _ k hk
    unfold sealT at h
    rw [can_all _ (by decide) (by decide)] at h
    rcases h with h | h
    · exact can_in ((cl_shut g).sld k x h hk)
    · exact h x (by simp)
theorem again_can {g c : Tm → Prop} (hc : ∀ t, c t → t.canP (ClP g)) (t : Tm) : t.canP (ClP fun t => g t ∨ c t) ↔ t.canP (ClP g) := by
  constructor
  · intro h
    refine can_idem _ t (can_mono (fun u hu => ?_) t h)
    exact hu _ (fun v hv => hv.elim (fun q => can_in (cl_in q)) (hc v)) (can_shut g)
  · exact can_mono (cl_mono fun t h => .inl h) t
/-! ### Fresh atoms -/
mutual
/-- Stands a term in it? -/
def Tm.has (a : Tm) : Tm → Prop
  | .mk k n l => a = .mk k n l ∨ hasL a l
def hasL (a : Tm) : List Tm → Prop
  | [] => False
  | t :: l => Tm.has a t ∨ hasL a l
end
theorem hasL_any (a : Tm) : ∀ {l : List Tm}, hasL a l ↔ ∃ t ∈ l, Tm.has a t
  | [] => by rw [hasL]; simp
  | t :: l => by rw [hasL, hasL_any a]; simp
end Go.Proofs.Ytifhkjcimhhaiaa

namespace Go.Proofs.Ytifhkjcimhhaiaa
open Go Go.RowKit
/-- The trees of the places that are so. -/
def tsP (p : List Nd) (c : Nat → Prop) (t : Tm) : Prop := ∃ i, i < p.length ∧ c i ∧ (trs p).getD i zT = t
def pubR (p : List Nd) (c : Nat → Prop) (i : Nat) : Prop := c i ∨ ∃ j, p[j]? = some ⟨5, 0, [i]⟩ ∧ c j
/-- Can a place be built of its parts? -/
def rdyR (p : List Nd) (c : Nat → Prop) (nd : Nd) : Prop :=
  nd.k ≠ 1 ∧ (nd.k = 6 → (c (nd.pt.getD 0 0) ∧ pubR p c (nd.pt.getD 1 0)) ∨ (c (nd.pt.getD 1 0) ∧ pubR p c (nd.pt.getD 0 0))) ∧ (nd.k ≠ 6 → ∀ j ∈ nd.pt, c j)
theorem trs_at {p : List Nd} (hp : PoolOk p) {i : Nat} (hi : i < p.length) : (trs p).getD i zT = mkT (trs p) p[i] := trs_getD hp (List.getElem?_eq_getElem hi)
theorem trs_inj {p : List Nd} (hp : PoolOk p) {i j : Nat} (hi : i < p.length) (hj : j < p.length) (h : (trs p).getD i zT = (trs p).getD j zT) : i = j :=
  getD_inj (trs_ok p hp).2.1 (by rw [trs_len]; exact hi) (by rw [trs_len]; exact hj) h
theorem trs_tok {p : List Nd} (hp : PoolOk p) {i : Nat} (hi : i < p.length) : ((trs p).getD i zT).ok := getT_ok (trs_ok p hp).1 (by rw [trs_len]; exact hi)
theorem nd_six {nd : Nd} (h : nd.shp) (h6 : nd.k = 6) : ∃ x y, nd.pt = [x, y] ∧ x ≤ y := by
  unfold Nd.shp at h
  rcases h with h | h | h | h | ⟨_, _, e⟩
  · omega
  · omega
  · omega
  · omega
  · exact e
theorem ndOf {p : List Nd} (hp : PoolOk p) {i : Nat} (hi : i < p.length) : p[i].okN i := hp.nd i _ (List.getElem?_eq_getElem hi)
theorem can_sh (M : Tm → Prop) (a b : Tm) : (shT a b).canP M ↔ M (shT a b) ∨ (a.canP M ∧ (M (pubT b) ∨ b.canP M)) ∨ (b.canP M ∧ (M (pubT a) ∨ a.canP M)) := by
  unfold shT
  split
  · rw [can_two]
    exact or_congr Iff.rfl Or.comm
  · rw [can_two]
/-- A public one stands in the pool where its node does. -/
theorem pub_at {p : List Nd} (hp : PoolOk p) {i j : Nat} (hi : i < p.length) (hj : j < p.length) : (trs p).getD j zT = pubT ((trs p).getD i zT) ↔ p[j]? = some ⟨5, 0, [i]⟩ := by
  have hnd := ndOf hp hj
  rw [trs_at hp hj, List.getElem?_eq_getElem hj]
  constructor
  · intro h
    have hk : p[j].k = 5 := by rw [← mkT_kd (trs p), h]; rfl
    have hs := hnd.s
    unfold Nd.shp at hs
    have hn : p[j].n = 0 ∧ p[j].pt.length = 1 := by omega
    obtain ⟨z, hz⟩ : ∃ z, p[j].pt = [z] := by
      match hq : p[j].pt, hn.2 with
      | [z], _ => exact ⟨z, rfl⟩
    have hzl : z < j := hnd.p z (by rw [hz]; simp)
    unfold mkT pubT at h
    rw [if_neg (by omega), hz] at h
    injection h with _ _ h
    have h : (trs p).getD z zT = (trs p).getD i zT := by simpa using h
    have := trs_inj hp (by omega) hi h
    subst this
    have e : p[j] = ⟨5, 0, [z]⟩ := by
      generalize p[j] = nd at *
      cases nd
      simp_all
    rw [e]
  · intro h
    have h := Option.some.inj h
    rw [h]
    rfl
theorem canR_sound {p : List Nd} (hp : PoolOk p) {M : Tm → Prop} {c : Nat → Prop} (hc : ∀ i, i < p.length → c i → ((trs p).getD i zT).canP M) {i : Nat} (hi : i < p.length) (hr : rdyR p c p[i]) : ((trs p).getD i zT).canP M := by
  have hnd := ndOf hp hi
  rw [trs_at hp hi]
  obtain ⟨h1, h6, hn⟩ := hr
  by_cases hk : p[i].k = 6
  · obtain ⟨x, y, e, _⟩ := nd_six hnd.s hk
    have hx : x < i := hnd.p x (by rw [e]; simp)
    have hy : y < i := hnd.p y (by rw [e]; simp)
    have h6 := h6 hk
    unfold mkT
    rw [if_pos hk]
    rw [e] at h6 ⊢
    show (shT ((trs p).getD x zT) ((trs p).getD y zT)).canP M
    have h6 : (c x ∧ pubR p c y) ∨ (c y ∧ pubR p c x) := h6
    have pb : ∀ z, z < p.length → pubR p c z → M (pubT ((trs p).getD z zT)) ∨ ((trs p).getD z zT).canP M := by
      intro z hz h
      rcases h with h | ⟨j, hj, hcj⟩
      · exact .inr (hc z hz h)
      · have hjl := (List.getElem?_eq_some_iff.1 hj).1
        have hq := hc j hjl hcj
        rw [(pub_at hp hz hjl).2 hj, can_pub] at hq
        exact hq
    rw [can_sh]
    rcases h6 with ⟨a, b⟩ | ⟨a, b⟩
    · exact .inr (.inl ⟨hc x (by omega) a, pb y (by omega) b⟩)
    · exact .inr (.inr ⟨hc y (by omega) a, pb x (by omega) b⟩)
  · unfold mkT
    rw [if_neg hk, can_all M h1 hk]
    refine .inr fun t ht => ?_
    obtain ⟨j, hj, rfl⟩ := List.mem_map.1 ht
    exact hc j (Nat.lt_trans (hnd.p j hj) hi) (hn hk j hj)
/-- What is built of places that nothing more can be built of. -/
theorem canR_full {p : List Nd} (hp : PoolOk p) {c g : Nat → Prop} (hg : ∀ i, i < p.length → g i → c i) (hr : ∀ i (hi : i < p.length), rdyR p c p[i] → c i) : ∀ i, i < p.length → ((trs p).getD i zT).canP (tsP p g) → c i := by
  intro i
  induction i using Nat.strongRecOn with
  | ind i ih =>
    intro hi h
    have hnd := ndOf hp hi
    have hself : tsP p g ((trs p).getD i zT) → c i := by
      rintro ⟨j, hj, hgj, e⟩
      have := trs_inj hp hj hi e
      subst this
      exact hg j hj hgj
    have hpub : ∀ z, z < i → tsP p g (pubT ((trs p).getD z zT)) → ∃ j, p[j]? = some ⟨5, 0, [z]⟩ ∧ c j := by
      rintro z hz ⟨j, hj, hgj, e⟩
      exact ⟨j, (pub_at hp (by omega) hj).1 e, hg j hj hgj⟩
    refine Classical.byContradiction fun hno => ?_
    refine hno (hr i hi ?_)
    rw [trs_at hp hi] at h hself
    by_cases hk : p[i].k = 6
    · obtain ⟨x, y, e, _⟩ := nd_six hnd.s hk
      have hx : x < i := hnd.p x (by rw [e]; simp)
      have hy : y < i := hnd.p y (by rw [e]; simp)
      refine ⟨by omega, fun _ => ?_, fun h => absurd hk h⟩
      unfold mkT at h hself
      rw [if_pos hk, e] at h hself
      have h : (shT ((trs p).getD x zT) ((trs p).getD y zT)).canP (tsP p g) := h
      rw [can_sh] at h
      rw [e]
      show (c x ∧ pubR p c y) ∨ (c y ∧ pubR p c x)
      have pb : ∀ z, z < i → tsP p g (pubT ((trs p).getD z zT)) ∨ ((trs p).getD z zT).canP (tsP p g) → pubR p c z := by
        intro z hz q
        rcases q with q | q
        · exact .inr (hpub z hz q)
        · exact .inl (ih z hz (by omega) q)
      rcases h with h | ⟨a, b⟩ | ⟨a, b⟩
      · exact absurd (hself h) hno
      · exact .inl ⟨ih x hx (by omega) a, pb y hy b⟩
      · exact .inr ⟨ih y hy (by omega) a, pb x hx b⟩
    · have h1 : p[i].k ≠ 1 := by
        intro h1
        unfold mkT at h hself
        rw [if_neg hk] at h hself
        rw [can_mk] at h
        rcases h with h | h
        · exact hno (hself h)
        · unfold combP at h
          rw [if_pos h1] at h
          exact h
      refine ⟨h1, fun h => absurd h hk, fun _ j hj => ?_⟩
      unfold mkT at h hself
      rw [if_neg hk] at h hself
      rw [can_all _ h1 hk] at h
      rcases h with h | h
      · exact absurd (hself h) hno
      · exact ih j (hnd.p j hj) (Nat.lt_trans (hnd.p j hj) hi) (h _ (List.mem_map.2 ⟨j, hj, rfl⟩))
theorem can_in_pool {p : List Nd} (hp : PoolOk p) {c g : Nat → Prop} (hg : ∀ i, i < p.length → g i → c i) (hs : ∀ i, i < p.length → c i → ((trs p).getD i zT).canP (tsP p g)) (hr : ∀ i (hi : i < p.length), rdyR p c p[i] → c i) {i : Nat} (hi : i < p.length) : c i ↔ ((trs p).getD i zT).canP (tsP p g) :=
  ⟨hs i hi, canR_full hp hg hr i hi⟩
theorem clR_full {p : List Nd} (hp : PoolOk p) {o g : Nat → Prop} (hg : ∀ i, i < p.length → g i → o i)
    (h2 : ∀ i (hi : i < p.length), o i → p[i].k = 2 → ∀ j ∈ p[i].pt, o j)
    (h4 : ∀ i (hi : i < p.length), o i → p[i].k = 4 → ((trs p).getD (p[i].pt.getD 0 0) zT).canP (tsP p o) → o (p[i].pt.getD 1 0)) {t : Tm} (h : ClP (tsP p g) t) : tsP p o t := by
  refine h _ (fun t ⟨i, hi, q, e⟩ => ⟨i, hi, hg i hi q, e⟩) ⟨?_, ?_⟩
  · rintro a b ⟨i, hi, hoi, e⟩
    have hnd := ndOf hp hi
    rw [trs_at hp hi] at e
    have hk : p[i].k = 2 := by rw [← mkT_kd (trs p), e]; rfl
    have hp2 := h2 i hi hoi hk
    unfold mkT pairT at e
    rw [if_neg (by omega)] at e
    injection e with _ _ e
    match hq : p[i].pt, e with
    | [x, y], e =>
      rw [hq] at hp2
      have e1 : (trs p).getD x zT = a ∧ (trs p).getD y zT = b := by simpa using e
      have hx := hnd.p x (by rw [hq]; simp)
      have hy := hnd.p y (by rw [hq]; simp)
      exact ⟨⟨x, by omega, hp2 x (by simp), e1.1⟩, ⟨y, by omega, hp2 y (by simp), e1.2⟩⟩
  · rintro a b ⟨i, hi, hoi, e⟩ hc
    have hnd := ndOf hp hi
    rw [trs_at hp hi] at e
    have hk : p[i].k = 4 := by rw [← mkT_kd (trs p), e]; rfl
    have hp4 := h4 i hi hoi hk
    unfold mkT sealT at e
    rw [if_neg (by omega)] at e
    injection e with _ _ e
    match hq : p[i].pt, e with
    | [x, y], e =>
      rw [hq] at hp4
      have e1 : (trs p).getD x zT = a ∧ (trs p).getD y zT = b := by simpa using e
      have hx := hnd.p x (by rw [hq]; simp)
      have hy := hnd.p y (by rw [hq]; simp)
      exact ⟨y, by omega, hp4 (by show ((trs p).getD x zT).canP _; rw [e1.1]; exact hc), e1.2⟩
end Go.Proofs.Ytifhkjcimhhaiaa

namespace Go.Proofs.Ytifhkjcimhhaiaa
open Go Go.RowKit
theorem has_mk (a : Tm) (k n : Int) (l : List Tm) : Tm.has a (.mk k n l) ↔ a = .mk k n l ∨ ∃ t ∈ l, Tm.has a t := by rw [Tm.has, hasL_any]
theorem has_self (a : Tm) : Tm.has a a := by cases a with | mk k n l => exact (has_mk _ k n l).2 (.inl rfl)
def frT : Tm := atomT 9223372036854775808
def lkT : Tm := atomT 9223372036854775809
/-- Neither of two fresh atoms stands in it. -/
def gdT (t : Tm) : Prop := ¬ Tm.has frT t ∧ ¬ Tm.has lkT t
theorem gd_parts {k n : Int} {l : List Tm} (h : gdT (.mk k n l)) : ∀ t ∈ l, gdT t := fun t ht =>
  ⟨fun q => h.1 ((has_mk _ k n l).2 (.inr ⟨t, ht, q⟩)), fun q => h.2 ((has_mk _ k n l).2 (.inr ⟨t, ht, q⟩))⟩
theorem gd_mk {k n : Int} {l : List Tm} (h1 : k ≠ 1 ∨ n < 9223372036854775808) (h : ∀ t ∈ l, gdT t) : gdT (.mk k n l) := by
  refine ⟨fun q => ?_, fun q => ?_⟩
  · rw [has_mk] at q
    rcases q with q | ⟨t, ht, q⟩
    · unfold frT atomT at q
      injection q with q1 q2 q3
      omega
    · exact (h t ht).1 q
  · rw [has_mk] at q
    rcases q with q | ⟨t, ht, q⟩
    · unfold lkT atomT at q
      injection q with q1 q2 q3
      omega
    · exact (h t ht).2 q
theorem gd_sh {a b : Tm} (ha : gdT a) (hb : gdT b) : gdT (shT a b) := by
  unfold shT
  split <;> exact gd_mk (.inl (by decide)) (by simp [ha, hb])
def xtraT (t : Tm) : Prop := t = sealT lkT frT ∨ t = hashT 1 [frT] ∨ t = hashT 2 [lkT, frT] ∨ t = pubT lkT
theorem fresh_no {g : Tm → Prop} (hg : ∀ t, g t → gdT t) : ¬ frT.canP (ClP fun t => g t ∨ xtraT t) ∧ ¬ lkT.canP (ClP fun t => g t ∨ xtraT t) := by
  have hF : ¬ (gdT frT ∨ xtraT frT) := by
    rintro (h | h)
    · exact h.1 (has_self _)
    · unfold xtraT frT lkT atomT sealT hashT pubT at h
      simp at h
  have hL : ¬ (gdT lkT ∨ xtraT lkT) := by
    rintro (h | h)
    · exact h.2 (has_self _)
    · unfold xtraT frT lkT atomT sealT hashT pubT at h
      simp at h
  have hS : Shut fun t => gdT t ∨ xtraT t := by
    refine ⟨fun a b h => ?_, fun k x h hk => ?_⟩
    · rcases h with h | h
      · have := gd_parts h
        exact ⟨.inl (this a (by simp)), .inl (this b (by simp))⟩
      · unfold xtraT pairT sealT hashT pubT at h
        simp at h
    · rcases h with h | h
      · exact .inl (gd_parts h x (by simp))
      · have hkl : k = lkT := by
          unfold xtraT sealT hashT pubT at h
          simp at h
          exact h.1
        rw [hkl] at hk
        exact absurd ((can_atom _ _).1 hk) hL
  have hsub : ∀ t, ClP (fun t => g t ∨ xtraT t) t → gdT t ∨ xtraT t := fun t h => h _ (fun t q => q.imp (hg t) id) hS
  exact ⟨fun h => hF (hsub _ ((can_atom _ _).1 h)), fun h => hL (hsub _ ((can_atom _ _).1 h))⟩
theorem bT_gd {m : List (Option Tm)} {d : Dt} (hm : ∀ t, some t ∈ m → gdT t) (hd : d.n < 9223372036854775808) : ∀ t, bT m d = some t → gdT t := by
  intro t h
  unfold bT at h
  by_cases h1 : d.k = 1
  · rw [if_pos h1] at h
    cases h
    exact gd_mk (.inr hd) (fun _ h => nomatch h)
  rw [if_neg h1] at h
  by_cases h2 : d.k = 2 ∨ d.k = 4
  · rw [if_pos h2] at h
    cases e1 : atO m d.a with
    | none => rw [e1] at h; cases h
    | some x =>
      cases e2 : atO m d.b with
      | none => rw [e1, e2] at h; cases h
      | some y =>
        rw [e1, e2] at h
        cases h
        exact gd_mk (.inl h1) (by simp [hm x (atO_mem e1), hm y (atO_mem e2)])
  rw [if_neg h2] at h
  by_cases h3 : d.k = 3
  · rw [if_pos h3] at h
    by_cases hl : d.l.length ≤ 255
    · rw [if_pos hl] at h
      cases e1 : allO (atO m) d.l with
      | none => rw [e1] at h; cases h
      | some ys =>
        rw [e1] at h
        cases h
        refine gd_mk (.inl (by decide)) fun t ht => ?_
        obtain ⟨x, _, hx⟩ := allO_mem e1 t ht
        exact hm t (atO_mem hx)
    · rw [if_neg hl] at h; cases h
  rw [if_neg h3] at h
  by_cases h5 : d.k = 5
  · rw [if_pos h5] at h
    cases e1 : atO m d.a with
    | none => rw [e1] at h; cases h
    | some x =>
      rw [e1] at h
      cases h
      exact gd_mk (.inl (by decide)) (by simp [hm x (atO_mem e1)])
  rw [if_neg h5] at h
  by_cases h6 : d.k = 6
  · rw [if_pos h6] at h
    cases e1 : atO m d.a with
    | none => rw [e1] at h; cases h
    | some x =>
      cases e2 : atO m d.b with
      | none => rw [e1, e2] at h; cases h
      | some y =>
        rw [e1, e2] at h
        dsimp only at h
        by_cases h7 : y.kd = 5
        · rw [if_pos h7] at h
          cases h
          refine gd_sh (hm x (atO_mem e1)) ?_
          have hy := hm y (atO_mem e2)
          cases y with
          | mk k n l =>
            cases l with
            | nil =>
              show gdT zT
              exact gd_mk (.inl (by decide)) (fun _ h => nomatch h)
            | cons z l => exact gd_parts hy z (by simp)
        · rw [if_neg h7] at h; cases h
  · rw [if_neg h6] at h; cases h
theorem play_gd (l : List Dt) : (∀ d ∈ l, d.n < 9223372036854775808) → ∀ t, some t ∈ playT l → gdT t := by
  refine snoc_ind (p := fun l => (∀ d ∈ l, d.n < 9223372036854775808) → ∀ t, some t ∈ playT l → gdT t) (fun _ t h => by simp [playT] at h) (fun l d ih h t ht => ?_) l
  have i1 := ih fun x hx => h x (by simp [hx])
  rw [playT_snoc] at ht
  rcases List.mem_append.1 ht with ht | ht
  · exact i1 t ht
  · exact bT_gd i1 (h d (by simp)) t (List.mem_singleton.1 ht).symm
/-! ### The chapter's rows -/
def aT : Tm := atomT 1
def bbT : Tm := atomT 2
def kT : Tm := atomT 3
def inL (l : List Tm) (t : Tm) : Prop := t ∈ l
def oneL : List Tm := [pairT aT (sealT kT bbT), kT]
theorem one_a : ClP (inL oneL) aT ∧ ClP (inL oneL) bbT ∧ ClP (inL oneL) kT := by
  have h := (cl_shut (inL oneL)).pair aT (sealT kT bbT) (cl_in (by simp [inL, oneL]))
  have hk : ClP (inL oneL) kT := cl_in (by simp [inL, oneL])
  exact ⟨h.1, (cl_shut _).sld _ _ h.2 (can_in hk), hk⟩
theorem row1 : aT.canP (ClP (inL oneL)) ∧ bbT.canP (ClP (inL oneL)) ∧ (hashT 7 [bbT, aT]).canP (ClP (inL oneL)) := by
  obtain ⟨h1, h2, _⟩ := one_a
  refine ⟨can_in h1, can_in h2, ?_⟩
  unfold hashT
  rw [can_all _ (by decide) (by decide)]
  refine .inr fun t ht => ?_
  simp only [List.mem_cons, List.not_mem_nil, or_false] at ht
  rcases ht with rfl | rfl
  · exact can_in h2
  · exact can_in h1
def twoL : List Tm := [sealT (hashT 1 [kT]) bbT, aT]
theorem row2 : ¬ bbT.canP (ClP (inL twoL)) := by
  intro h
  have h := (can_atom _ _).1 h
  have hS : Shut (inL twoL) := by
    refine ⟨fun a b h => ?_, fun k x h hk => ?_⟩
    · simp [inL, twoL, pairT, sealT, aT, atomT] at h
    · have e : k = hashT 1 [kT] ∧ x = bbT := by simpa [inL, twoL, sealT, aT, atomT] using h
      rw [e.1] at hk
      unfold hashT at hk
      rw [can_all _ (by decide) (by decide)] at hk
      exfalso
      rcases hk with hk | hk
      · simp [inL, twoL, sealT, aT, atomT] at hk
      · have := (can_atom _ _).1 (hk kT (by simp))
        simp [inL, twoL, sealT, aT, atomT] at this
  have := h _ (fun t q => q) hS
  simp [inL, twoL, sealT, aT, bbT, atomT] at this
def twoM : List Tm := [sealT (hashT 1 [kT]) bbT, kT]
theorem row3 : bbT.canP (ClP (inL twoM)) := by
  have hk : ClP (inL twoM) kT := cl_in (by simp [inL, twoM])
  refine can_in ((cl_shut _).sld (hashT 1 [kT]) bbT (cl_in (by simp [inL, twoM])) ?_)
  unfold hashT
  rw [can_all _ (by decide) (by decide)]
  exact .inr fun t ht => by rw [List.mem_singleton.1 ht]; exact can_in hk
def threeL : List Tm := [pubT aT, pubT bbT, aT]
theorem row4 : (shT aT bbT).canP (ClP (inL threeL)) ∧ ¬ bbT.canP (ClP (inL threeL)) := by
  have ha : ClP (inL threeL) aT := cl_in (by simp [inL, threeL])
  have hb : ClP (inL threeL) (pubT bbT) := cl_in (by simp [inL, threeL])
  refine ⟨(can_sh _ _ _).2 (.inr (.inl ⟨can_in ha, .inl hb⟩)), fun h => ?_⟩
  have h := (can_atom _ _).1 h
  have hS : Shut (inL threeL) := by
    refine ⟨fun a b h => ?_, fun k x h hk => ?_⟩
    · simp [inL, threeL, pairT, pubT, aT, atomT] at h
    · simp [inL, threeL, sealT, pubT, aT, atomT] at h
  have := h _ (fun t q => q) hS
  simp [inL, threeL, pubT, aT, bbT, atomT] at this
end Go.Proofs.Ytifhkjcimhhaiaa
