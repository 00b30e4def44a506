/- The document's book beside the program's: in plain Lean. -/
import Derived.Test.YtcplbkbimpiioaaGreatDoorTruX
import Derived.Test.YtcplbkbimpiioaaGreatDoorWireC
namespace Go.Proofs.YtcplbkbimpiioaaGreatDoor
open Go Go.RowKit
/-! ### A contact of the document's, as cells -/
def Ct.rcells (c : Ct) : List Value := (c.has.map Value.bool ++ vcs kyV c.ks) ++ [.int .u8 c.st]
def rcV (c : Ct) : Value := .agg c.rcells.toArray
theorem Ct.rlen {c : Ct} (h : c.ok) : c.rcells.length = 133 := by
  unfold Ct.rcells
  rw [List.length_append, List.length_append, kys_len c h, List.length_map, h.hl]; rfl
theorem Ct.rones (c : Ct) : ∀ u ∈ c.rcells, u.oneCell' = true := by
  intro u hu
  rcases List.mem_append.1 hu with hu | hu
  · rcases List.mem_append.1 hu with hu | hu
    · obtain ⟨b, _, rfl⟩ := List.mem_map.1 hu
      rfl
    · exact vtK.ones _ u hu
  · rw [List.mem_singleton] at hu; subst hu; rfl
theorem Ct.rhasAt {c : Ct} {i : Nat} {b : Bool} (hb : c.has[i]? = some b) : c.rcells[i]? = some (.bool b) := by
  have hi := (List.getElem?_eq_some_iff.1 hb).1
  unfold Ct.rcells
  rw [List.append_assoc, List.getElem?_append_left (by rw [List.length_map]; exact hi), List.getElem?_map, hb]
  rfl
theorem Ct.rkey {c : Ct} (h : c.ok) {i : Nat} {k : Ky} (hk : c.ks[i]? = some k) : (c.rcells.drop (4 + i * 32)).take 32 = k.cells := by
  have hi := (List.getElem?_eq_some_iff.1 hk).1
  have hl := kys_len c h
  have hkl := h.kl
  have hh : (c.has.map Value.bool).length = 4 := by rw [List.length_map, h.hl]
  unfold Ct.rcells
  rw [List.append_assoc, ← List.drop_drop, List.drop_left' hh, List.drop_append_of_le_length (by omega), List.take_append_of_le_length (by rw [List.length_drop]; omega)]
  rw [vtK.at (fun _ _ => trivial) hk, kyV_cells]
theorem Ct.rst {c : Ct} (h : c.ok) : c.rcells[132]? = some (.int .u8 c.st) := by
  have hl := kys_len c h
  have hh := h.hl
  unfold Ct.rcells
  rw [List.getElem?_append_right (by rw [List.length_append, List.length_map, hl]; omega)]
  rw [List.length_append, List.length_map, hl, hh]
  rfl
theorem Ct.rsetHas {c : Ct} {i : Nat} (hi : i < c.has.length) (b : Bool) : c.rcells.set i (.bool b) = ({ c with has := c.has.set i b } : Ct).rcells := by
  unfold Ct.rcells
  dsimp only
  rw [List.append_assoc, List.append_assoc, List.set_append_left _ _ (by rw [List.length_map]; exact hi), List.map_set]
theorem Ct.rsetKey {c : Ct} (h : c.ok) {i : Nat} (hi : i < 4) (k : Ky) : c.rcells.take (4 + i * 32) ++ k.cells ++ c.rcells.drop (4 + i * 32 + 32) = ({ c with ks := c.ks.set i k } : Ct).rcells := by
  have hl := kys_len c h
  have hkl := h.kl
  have hh : (c.has.map Value.bool).length = 4 := by rw [List.length_map, h.hl]
  unfold Ct.rcells
  dsimp only
  rw [vtK.set (fun _ _ => trivial) (j := i) (x := k) (by omega), kyV_cells]
  rw [List.append_assoc (c.has.map Value.bool), List.take_append, hh, List.take_of_length_le (by omega), show 4 + i * 32 - 4 = i * 32 by omega, List.take_append_of_le_length (by omega)]
  rw [show 4 + i * 32 + 32 = 4 + (i * 32 + 32) by omega, ← List.drop_drop, List.drop_left' hh, List.drop_append_of_le_length (by omega)]
  simp [List.append_assoc]
theorem Ct.rsetSt {c : Ct} (h : c.ok) (s : Int) : c.rcells.set 132 (.int .u8 s) = ({ c with st := s } : Ct).rcells := by
  have hl := kys_len c h
  have hh := h.hl
  unfold Ct.rcells
  dsimp only
  rw [List.set_append_right _ _ (by rw [List.length_append, List.length_map, hl]; omega), List.length_append, List.length_map, hl, hh]
  rfl
/-! ### The document's book, as cells -/
theorem vtRc : VT Tryz.prog 35 133 Ct.ok rcV := .agg (cel := Ct.rcells) (by kernel_rfl) (by kernel_rfl) (by decide) (fun _ => rfl) (fun _ h => Ct.rlen h) Ct.rones
def rbC (acc : Int) (ov : Value) (C : List Ct) : List Value := .int .u8 acc :: ov :: vcs rcV C
def COk (C : List Ct) : Prop := C.length = 8 ∧ ∀ c ∈ C, c.ok
theorem COk.len {C : List Ct} (h : COk C) (acc : Int) (ov : Value) : (rbC acc ov C).length = 1066 := by
  unfold rbC
  rw [List.length_cons, List.length_cons, vtRc.size h.2, h.1]
theorem COk.get {C : List Ct} (h : COk C) {a : Nat} {c : Ct} (hc : C[a]? = some c) : c.ok := h.2 c (List.mem_of_getElem? hc)
theorem COk.set {C : List Ct} (h : COk C) (a : Nat) {c : Ct} (hc : c.ok) : COk (C.set a c) := ⟨by rw [List.length_set, h.1], fun d hd => by
  rcases List.mem_or_eq_of_mem_set hd with h1 | rfl
  · exact h.2 d h1
  · exact hc⟩
theorem rcV_cells (c : Ct) : (rcV c).cells.toList = c.rcells := by simp [rcV, Value.cells]
theorem rb_split {C : List Ct} (h : COk C) {a : Nat} {c : Ct} (hc : C[a]? = some c) (acc : Int) (ov : Value) : ∃ P S : List Value, P.length = 2 + a * 133 ∧ rbC acc ov C = P ++ (c.rcells ++ S) ∧ ∀ c' : Ct, rbC acc ov (C.set a c') = P ++ (c'.rcells ++ S) := by
  obtain ⟨hi, rfl⟩ := List.getElem?_eq_some_iff.1 hc
  refine ⟨.int .u8 acc :: ov :: vcs rcV (C.take a), vcs rcV (C.drop (a + 1)), ?_, ?_, ?_⟩
  · rw [List.length_cons, List.length_cons, vtRc.size (fun c hc => h.2 c (List.mem_of_mem_take hc)), List.length_take, Nat.min_eq_left (by omega)]; omega
  · unfold rbC
    conv => lhs; rw [show C = C.take a ++ C[a] :: C.drop (a + 1) by rw [← List.drop_eq_getElem_cons hi, List.take_append_drop]]
    rw [vcs_app, vcs_cons, rcV_cells]
    simp
  · intro c'
    unfold rbC
    rw [List.set_eq_take_append_cons_drop, if_pos hi, vcs_app, vcs_cons, rcV_cells]
    simp
theorem rb_cell {C : List Ct} (h : COk C) {a : Nat} {c : Ct} (hc : C[a]? = some c) {acc : Int} {ov : Value} {o n : Nat} {v : Value} (hv : c.rcells[o]? = some v) (hn : n = 2 + a * 133 + o) : (rbC acc ov C)[n]? = some v := by
  subst hn
  obtain ⟨P, S, h1, h2, _⟩ := rb_split h hc acc ov
  have ho := (List.getElem?_eq_some_iff.1 hv).1
  rw [h2, List.getElem?_append_right (by omega), List.getElem?_append_left (by omega), h1, show 2 + a * 133 + o - (2 + a * 133) = o by omega, hv]
theorem rb_part {C : List Ct} (h : COk C) {a : Nat} {c : Ct} (hc : C[a]? = some c) {acc : Int} {ov : Value} {o n m : Nat} {vs : List Value} (hv : (c.rcells.drop o).take m = vs) (ho : o + m ≤ 133) (hn : n = 2 + a * 133 + o) : ((rbC acc ov C).drop n).take m = vs := by
  subst hn
  obtain ⟨P, S, h1, h2, _⟩ := rb_split h hc acc ov
  have hl := Ct.rlen (h.get hc)
  rw [h2, ← List.drop_drop, List.drop_left' h1, List.drop_append_of_le_length (by omega), List.take_append_of_le_length (by rw [List.length_drop]; omega), hv]
theorem rb_set {C : List Ct} (h : COk C) {a : Nat} {c c' : Ct} (hc : C[a]? = some c) {acc : Int} {ov : Value} {o n : Nat} {v : Value} (hv : c.rcells.set o v = c'.rcells) (ho : o < 133) (hn : n = 2 + a * 133 + o) : (rbC acc ov C).set n v = rbC acc ov (C.set a c') := by
  subst hn
  obtain ⟨P, S, h1, h2, h3⟩ := rb_split h hc acc ov
  have hl := Ct.rlen (h.get hc)
  rw [h2, h3, ← hv, List.set_append_right _ _ (by omega), h1, show 2 + a * 133 + o - (2 + a * 133) = o by omega, List.set_append_left _ _ (by omega)]
theorem rb_put {C : List Ct} (h : COk C) {a : Nat} {c c' : Ct} (hc : C[a]? = some c) {acc : Int} {ov : Value} {o n m k : Nat} {vs : List Value} (hv : c.rcells.take o ++ vs ++ c.rcells.drop (o + m) = c'.rcells) (ho : o + m ≤ 133) (hn : n = 2 + a * 133 + o) (hk : k = n + m) : (rbC acc ov C).take n ++ vs ++ (rbC acc ov C).drop k = rbC acc ov (C.set a c') := by
  subst hn hk
  obtain ⟨P, S, h1, h2, h3⟩ := rb_split h hc acc ov
  have hl := Ct.rlen (h.get hc)
  rw [h2, h3, ← hv, List.take_append, h1, List.take_of_length_le (by omega), show 2 + a * 133 + o - (2 + a * 133) = o by omega, List.take_append_of_le_length (by omega)]
  rw [show 2 + a * 133 + o + m = 2 + a * 133 + (o + m) by omega, ← List.drop_drop, List.drop_left' h1, List.drop_append_of_le_length (by omega)]
  simp [List.append_assoc]
/-! ### Calls, on a contact -/
def rlearnT (c : Ct) (i : Nat) (k : Ky) : Ct :=
  let same := (c.has.getD i false) && decide (c.ks.getD i Ky.zero = k)
  let s := if c.st = 2 ∧ same = false then 3 else c.st
  { ks := c.ks.set i k, has := c.has.set i true, st := if s = 0 then 1 else s }
def rforgetT (c : Ct) (i : Nat) : Ct :=
  let ks := c.ks.set i Ky.zero
  let has := c.has.set i false
  { ks := ks, has := has, st := if (kysOf ks has).length = 0 then 0 else if c.st = 2 then 3 else c.st }
/-- Where no key is known, nought stands. -/
def Ct.zd (c : Ct) : Prop := ∀ i : Nat, i < 4 → c.has[i]? = some false → c.ks[i]? = some Ky.zero
theorem Ct.zero_zd : Ct.zero.zd := by
  intro i hi _
  unfold Ct.zero
  dsimp only
  rw [List.getElem?_replicate, if_pos hi]
theorem zd_learn {c : Ct} (h : c.ok) (hz : c.zd) (i : Nat) (k : Ky) (s : Int) : (⟨c.ks.set i k, c.has.set i true, s⟩ : Ct).zd := by
  intro j hj hf
  dsimp only at hf ⊢
  rw [List.getElem?_set] at hf ⊢
  have h1 := h.hl
  have h2 := h.kl
  by_cases e : i = j
  · subst e
    rw [if_pos rfl, if_pos (by omega)] at hf
    cases hf
  · rw [if_neg e] at hf ⊢
    exact hz j hj hf
theorem zd_forget {c : Ct} (h : c.ok) (hz : c.zd) (i : Nat) (s : Int) : (⟨c.ks.set i Ky.zero, c.has.set i false, s⟩ : Ct).zd := by
  intro j hj hf
  dsimp only at hf ⊢
  rw [List.getElem?_set] at hf ⊢
  have h1 := h.hl
  have h2 := h.kl
  by_cases e : i = j
  · subst e
    rw [if_pos rfl, if_pos (by omega)]
  · rw [if_neg e] at hf ⊢
    exact hz j hj hf
theorem four {α : Type} {l : List α} (h : l.length = 4) : ∃ a b c d, l = [a, b, c, d] := by
  match l, h with
  | [a, b, c, d], _ => exact ⟨a, b, c, d, rfl⟩
/-- A contact without keys is nought. -/
theorem kys_none {ks : List Ky} {has : List Bool} (h : (⟨ks, has, 0⟩ : Ct).ok) (hz : (⟨ks, has, 0⟩ : Ct).zd) (h0 : (kysOf ks has).length = 0) : (⟨ks, has, 0⟩ : Ct) = Ct.zero := by
  obtain ⟨a, b, c, d, rfl⟩ := four h.kl
  obtain ⟨e, f, g, i, rfl⟩ := four h.hl
  have z0 := hz 0 (by decide)
  have z1 := hz 1 (by decide)
  have z2 := hz 2 (by decide)
  have z3 := hz 3 (by decide)
  simp only [List.getElem?_cons_zero, List.getElem?_cons_succ, Option.some.injEq] at z0 z1 z2 z3
  cases e <;> cases f <;> cases g <;> cases i <;> simp [kysOf] at h0
  rw [z0 rfl, z1 rfl, z2 rfl, z3 rfl]
  rfl
/-! ### Both books -/
/-- The program's accounts beside the document's contacts. -/
structure Same (acc : Int) (l : Cs) (C : List Ct) : Prop where
  inv : Inv l
  nd : mnd l
  zd : ∀ a c, mget l a = some c → c.zd
  dom : ∀ a c, mget l a = some c → 0 ≤ a ∧ a < 8 ∧ a ≠ acc
  len : C.length = 8
  get : ∀ a : Nat, a < 8 → C[a]? = some ((mget l (a : Int)).getD Ct.zero)
theorem Same.cok {acc : Int} {l : Cs} {C : List Ct} (h : Same acc l C) : COk C := ⟨h.len, fun c hc => by
  obtain ⟨a, ha⟩ := List.mem_iff_getElem?.1 hc
  have ha8 : a < 8 := by have := (List.getElem?_eq_some_iff.1 ha).1; have := h.len; omega
  have := h.get a ha8
  rw [ha] at this
  cases hm : mget l (a : Int) with
  | none => rw [hm] at this; cases this; exact Ct.zero_ok
  | some d => rw [hm] at this; cases this; exact (h.inv _ _ hm).1⟩
theorem Same.put {acc : Int} {l : Cs} {C : List Ct} (h : Same acc l C) {a : Nat} (ha : a < 8) (hne : (a : Int) ≠ acc) {c : Ct} (hI : CtI c) (hz : c.zd) : Same acc (mput l (a : Int) c) (C.set a c) := by
  refine ⟨h.inv.put h.nd hI, mput_nd h.nd _ _, fun b d hb => ?_, fun b d hb => ?_, by rw [List.length_set, h.len], fun b hb => ?_⟩
  · rw [mget_put h.nd] at hb
    split at hb
    · cases hb; exact hz
    · exact h.zd b d hb
  · rw [mget_put h.nd] at hb
    split at hb
    · rename_i e; subst e; exact ⟨by omega, by omega, hne⟩
    · exact h.dom b d hb
  · rw [mget_put h.nd, List.getElem?_set]
    by_cases e : a = b
    · subst e
      rw [if_pos rfl, if_pos (by rw [h.len]; exact ha), if_pos rfl]; rfl
    · rw [if_neg e, if_neg (by omega)]
      exact h.get b hb
theorem Same.del {acc : Int} {l : Cs} {C : List Ct} (h : Same acc l C) {a : Nat} (ha : a < 8) : Same acc (mdel l (a : Int)) (C.set a Ct.zero) := by
  refine ⟨h.inv.del h.nd _, mdel_nd h.nd _, fun b d hb => ?_, fun b d hb => ?_, by rw [List.length_set, h.len], fun b hb => ?_⟩
  · rw [mget_del h.nd] at hb
    split at hb
    · cases hb
    · exact h.zd b d hb
  · rw [mget_del h.nd] at hb
    split at hb
    · cases hb
    · exact h.dom b d hb
  · rw [mget_del h.nd, List.getElem?_set]
    by_cases e : a = b
    · subst e
      rw [if_pos rfl, if_pos (by rw [h.len]; exact ha), if_pos rfl]; rfl
    · rw [if_neg e, if_neg (by omega)]
      exact h.get b hb
theorem Same.init (acc : Int) : Same acc [] (List.replicate 8 Ct.zero) :=
  ⟨Inv.nil, List.Pairwise.nil, fun _ _ h => (by cases h), fun _ _ h => (by cases h), rfl, fun a ha => by rw [List.getElem?_replicate, if_pos ha]; rfl⟩
theorem mayF_rng {acc a d : Int} (h : mayF acc a d = 0) : a < 8 ∧ d < 4 ∧ a ≠ acc := by
  unfold mayF at h
  split at h
  · cases h
  · rename_i h1; omega
/-- The contact of an account, in the document's book. -/
theorem Same.ct {acc : Int} {l : Cs} {C : List Ct} (h : Same acc l C) {a : Nat} {c : Ct} (hc : C[a]? = some c) : c = (mget l (a : Int)).getD Ct.zero ∧ a < 8 := by
  have ha8 : a < 8 := by have := (List.getElem?_eq_some_iff.1 hc).1; have := h.len; omega
  have := h.get a ha8
  rw [hc] at this
  exact ⟨Option.some.inj this, ha8⟩
theorem Same.learn {acc : Int} {l : Cs} {C : List Ct} (h : Same acc l C) {a i : Nat} (hm : mayF acc (a : Int) (i : Int) = 0) {c : Ct} (hc : C[a]? = some c) (k : Ky) : Same acc (learnC l (a : Int) i k) (C.set a (rlearnT c i k)) ∧ chgT (ctOf l (a : Int)) i k = chgT c i k := by
  obtain ⟨ha, hi, hne⟩ := mayF_rng hm
  have hi4 : i < 4 := by omega
  obtain ⟨hcc, ha8⟩ := h.ct hc
  have hok : (ctOf l (a : Int)).ok := by
    unfold ctOf
    cases hg : mget l (a : Int) with
    | none => exact newCt_ok
    | some d => exact (h.inv _ _ hg).1
  have hzd : (ctOf l (a : Int)).zd := by
    unfold ctOf
    cases hg : mget l (a : Int) with
    | none => exact Ct.zero_zd
    | some d => exact h.zd _ _ hg
  have e : rlearnT c i k = learnT (ctOf l (a : Int)) i k := by
    rw [hcc]
    unfold ctOf
    cases hg : mget l (a : Int) with
    | none => rfl
    | some d =>
      have h3 := (h.inv _ _ hg).2.1
      simp only [Option.getD_some]
      unfold rlearnT learnT
      dsimp only
      congr 1
      rw [if_neg]
      split <;> omega
  have hI : CtI (learnT (ctOf l (a : Int)) i k) := by
    have hg := learn_good h.inv h.nd (a : Int) hi4 k
    exact hg.inv (a : Int) _ (by unfold learnC; rw [mget_put h.nd, if_pos rfl])
  refine ⟨?_, ?_⟩
  · rw [e]
    exact h.put ha8 hne hI (by unfold learnT; dsimp only; exact zd_learn hok hzd i k _)
  · rw [hcc]
    unfold ctOf
    cases hg : mget l (a : Int) with
    | none => rfl
    | some d => rfl
theorem Same.forget {acc : Int} {l : Cs} {C : List Ct} (h : Same acc l C) {a i : Nat} (hm : mayF acc (a : Int) (i : Int) = 0) {c : Ct} (hc : C[a]? = some c) : fgE l (a : Int) i = (if c.has.getD i false then 0 else 4) ∧ Same acc (forgetC l (a : Int) i) (if c.has.getD i false then C.set a (rforgetT c i) else C) := by
  obtain ⟨ha, hi, hne⟩ := mayF_rng hm
  have hi4 : i < 4 := by omega
  obtain ⟨hcc, ha8⟩ := h.ct hc
  unfold fgE hasAtC forgetC
  cases hg : mget l (a : Int) with
  | none =>
    have e : c.has.getD i false = false := by
      rw [hcc, hg]
      show (List.replicate 4 false).getD i false = false
      rw [List.getD_eq_getElem?_getD, List.getElem?_replicate, if_pos hi4]; rfl
    rw [e]
    exact ⟨rfl, h⟩
  | some d =>
    have e : c = d := by rw [hcc, hg]; rfl
    subst e
    dsimp only
    refine ⟨rfl, ?_⟩
    cases hb : c.has.getD i false with
    | false => exact h
    | true =>
      have hok := (h.inv _ _ hg).1
      have hz := h.zd _ _ hg
      have h3 := (h.inv _ _ hg).2.1
      simp only [if_true]
      by_cases h0 : (forgetT c i).kys.length = 0
      · rw [if_pos h0]
        have e : rforgetT c i = Ct.zero := by
          unfold rforgetT
          dsimp only
          rw [if_pos (show (kysOf (c.ks.set i Ky.zero) (c.has.set i false)).length = 0 from h0)]
          exact kys_none ⟨by dsimp only; rw [List.length_set, hok.kl], by dsimp only; rw [List.length_set, hok.hl]⟩ (zd_forget hok hz i 0) h0
        rw [e]
        exact h.del ha8
      · rw [if_neg h0]
        have e : rforgetT c i = forgetT c i := by
          unfold rforgetT forgetT
          dsimp only
          rw [if_neg (show ¬ (kysOf (c.ks.set i Ky.zero) (c.has.set i false)).length = 0 from h0)]
        rw [e]
        refine h.put ha8 hne ⟨forgetT_ok hok i, ?_, h0⟩ (zd_forget hok hz i _)
        unfold forgetT
        dsimp only
        split <;> omega
theorem Same.setSt {acc : Int} {l : Cs} {C : List Ct} (h : Same acc l C) {a : Nat} {c : Ct} (hc : C[a]? = some c) (hk : c.kys.length ≠ 0) {s : Int} (hs : s = 1 ∨ s = 2 ∨ s = 3) : Same acc (setSt l (a : Int) s) (C.set a { c with st := s }) := by
  obtain ⟨hcc, ha8⟩ := h.ct hc
  unfold Go.Proofs.YtcplbkbimpiioaaGreatDoor.setSt
  cases hg : mget l (a : Int) with
  | none =>
    rw [hcc, hg] at hk
    exact absurd rfl hk
  | some d =>
    have e : c = d := by rw [hcc, hg]; rfl
    subst e
    dsimp only
    have h1 := h.inv _ _ hg
    exact h.put ha8 (h.dom _ _ hg).2.2 ⟨⟨h1.1.kl, h1.1.hl⟩, hs, h1.2.2⟩ (fun i hi hf => h.zd _ _ hg i hi hf)
theorem Same.st {acc : Int} {l : Cs} {C : List Ct} (h : Same acc l C) {a : Nat} {c : Ct} (hc : C[a]? = some c) : stOf l (a : Int) = c.st := by
  obtain ⟨hcc, ha8⟩ := h.ct hc
  unfold stOf
  rw [hcc]
  cases mget l (a : Int) <;> rfl
theorem Same.kys {acc : Int} {l : Cs} {C : List Ct} (h : Same acc l C) {a : Nat} {c : Ct} (hc : C[a]? = some c) : kysAt l (a : Int) = c.kys := by
  obtain ⟨hcc, ha8⟩ := h.ct hc
  unfold kysAt
  rw [hcc]
  cases mget l (a : Int) <;> rfl
theorem Same.devs {acc : Int} {l : Cs} {C : List Ct} (h : Same acc l C) {a : Nat} {c : Ct} (hc : C[a]? = some c) : devsAt l (a : Int) = c.devs := by
  obtain ⟨hcc, ha8⟩ := h.ct hc
  unfold devsAt
  rw [hcc]
  cases mget l (a : Int) <;> rfl
theorem Same.out {acc : Int} {l : Cs} {C : List Ct} (h : Same acc l C) {a : Int} (ha : 8 ≤ a) : mget l a = none := by
  cases hg : mget l a with
  | none => rfl
  | some c => have := h.dom _ _ hg; omega
theorem Same.unk {acc : Int} {l : Cs} {C : List Ct} (h : Same acc l C) {a : Nat} {c : Ct} (hc : C[a]? = some c) : c.st = 0 ↔ c.kys.length = 0 := by
  rw [← h.st hc, ← h.kys hc]
  exact h.inv.unk _
end Go.Proofs.YtcplbkbimpiioaaGreatDoor

namespace Go.Proofs.YtcplbkbimpiioaaGreatDoor
open Go Go.RowKit
/-! ### Devices, in order -/
theorem devs_ge : ∀ (s : Nat) (ks : List Ky) (bs : List Bool), ∀ p ∈ devsOf s ks bs, s ≤ p.1 ∧ p.1 < s + bs.length
  | _, [], _ => by simp [devsOf]
  | _, _ :: _, [] => by simp [devsOf]
  | s, k :: ks, b :: bs => by
    intro p hp
    rw [devs_cons] at hp
    rw [List.length_cons]
    rcases List.mem_append.1 hp with hp | hp
    · cases b with
      | true => rw [if_pos rfl, List.mem_singleton] at hp; subst hp; exact ⟨Nat.le_refl _, by dsimp only; omega⟩
      | false => rw [if_neg (by decide)] at hp; cases hp
    · have := devs_ge (s + 1) ks bs p hp
      omega
theorem devs_asc : ∀ (s : Nat) (ks : List Ky) (bs : List Bool), (devsOf s ks bs).Pairwise fun p q => p.1 < q.1
  | _, [], _ => by simp [devsOf]
  | _, _ :: _, [] => by simp [devsOf]
  | s, k :: ks, b :: bs => by
    rw [devs_cons, List.pairwise_append]
    refine ⟨?_, devs_asc (s + 1) ks bs, ?_⟩
    · cases b <;> simp
    · intro p hp q hq
      have := devs_ge (s + 1) ks bs q hq
      cases b with
      | true => rw [if_pos rfl, List.mem_singleton] at hp; subst hp; dsimp only; omega
      | false => rw [if_neg (by decide)] at hp; cases hp
theorem Ct.dev_lt {c : Ct} (h : c.ok) : ∀ p ∈ c.devs, p.1 < 4 := fun p hp => by
  have := devs_ge 0 c.ks c.has p hp
  rw [h.hl] at this
  omega
theorem asc_at {l : List (Nat × Ky)} (h : l.Pairwise fun p q => p.1 < q.1) {i j : Nat} {p q : Nat × Ky} (hp : l[i]? = some p) (hq : l[j]? = some q) (hij : i < j) : p.1 < q.1 := by
  obtain ⟨h1, rfl⟩ := List.getElem?_eq_some_iff.1 hp
  obtain ⟨h2, rfl⟩ := List.getElem?_eq_some_iff.1 hq
  exact List.pairwise_iff_getElem.1 h i j h1 h2 hij
/-! ### A book's bytes -/
/-- An account, as it is put. -/
structure On where
  a : Int
  st : Int
  l : List (Nat × Ky)
def knB (p : Nat × Ky) : List Int := (p.1 : Int) :: p.2.b
def knsB (l : List (Nat × Ky)) : List Int := l.flatMap knB
def onB (o : On) : List Int := [o.a, o.st] ++ be o.l.length 2 ++ knsB o.l
def onsB (l : List On) : List Int := l.flatMap onB
def bkB (acc : Int) (own : List Ky) (os : List On) : List Int := [acc] ++ be own.length 2 ++ allK own ++ be os.length 2 ++ onsB os
structure OnOk (acc : Int) (o : On) : Prop where
  a : 0 ≤ o.a ∧ o.a < 8 ∧ o.a ≠ acc
  st : 1 ≤ o.st ∧ o.st ≤ 3
  l : 1 ≤ o.l.length ∧ o.l.length ≤ 4
  d : ∀ p ∈ o.l, p.1 < 4
def OsOk (acc : Int) (os : List On) : Prop := ∀ o ∈ os, OnOk acc o
theorem knB_len (p : Nat × Ky) : (knB p).length = 33 := by unfold knB; rw [List.length_cons, p.2.len]
theorem knsB_len (l : List (Nat × Ky)) : (knsB l).length = 33 * l.length := by
  unfold knsB
  induction l with
  | nil => rfl
  | cons p l ih => rw [List.flatMap_cons, List.length_append, ih, knB_len, List.length_cons]; omega
theorem knsB_snoc (l : List (Nat × Ky)) (p : Nat × Ky) : knsB (l ++ [p]) = knsB l ++ knB p := by simp [knsB]
theorem onB_len (o : On) : (onB o).length = 4 + 33 * o.l.length := by unfold onB; simp [be_len, knsB_len]; omega
theorem onsB_snoc (l : List On) (o : On) : onsB (l ++ [o]) = onsB l ++ onB o := by simp [onsB]
theorem onsB_cons (o : On) (l : List On) : onsB (o :: l) = onB o ++ onsB l := by simp [onsB]
theorem onsB_le {l : List On} (h : ∀ o ∈ l, o.l.length ≤ 4) : (onsB l).length ≤ 136 * l.length := by
  induction l with
  | nil => simp [onsB]
  | cons o l ih =>
    have h1 := ih (fun x hx => h x (List.mem_cons_of_mem _ hx))
    have h2 := h o List.mem_cons_self
    rw [onsB_cons, List.length_append, onB_len, List.length_cons]
    omega
theorem bkB_len (acc : Int) (own : List Ky) (os : List On) : (bkB acc own os).length = 5 + 32 * own.length + (onsB os).length := by unfold bkB; simp [be_len, allK_len]; omega
theorem allK_by (l : List Ky) : Bytes (allK l) := by
  intro x hx
  obtain ⟨k, _, hx⟩ := List.mem_flatMap.1 hx
  exact k.by8 x hx
theorem knsB_by {l : List (Nat × Ky)} (h : ∀ p ∈ l, p.1 < 4) : Bytes (knsB l) := by
  intro x hx
  obtain ⟨p, hp, hx⟩ := List.mem_flatMap.1 hx
  rcases List.mem_cons.1 hx with rfl | hx
  · have := h p hp; omega
  · exact p.2.by8 x hx
theorem onB_by {acc : Int} {o : On} (h : OnOk acc o) : Bytes (onB o) := by
  have h1 := h.a
  have h2 := h.st
  refine Bytes.app (Bytes.app ?_ (Bytes.be _ _)) (knsB_by h.d)
  intro x hx
  simp at hx
  rcases hx with rfl | rfl <;> omega
theorem onsB_by {acc : Int} {os : List On} (h : OsOk acc os) : Bytes (onsB os) := by
  intro x hx
  obtain ⟨o, ho, hx⟩ := List.mem_flatMap.1 hx
  exact onB_by (h o ho) x hx
theorem bkB_by {acc : Int} (ha : 0 ≤ acc ∧ acc < 256) (own : List Ky) {os : List On} (h : OsOk acc os) : Bytes (bkB acc own os) := by
  refine Bytes.app (Bytes.app (Bytes.app (Bytes.app ?_ (Bytes.be _ _)) (allK_by own)) (Bytes.be _ _)) (onsB_by h)
  intro x hx
  rw [List.mem_singleton] at hx
  subst hx
  exact ha
/-! ### The accounts of a book -/
def onAt (l : Cs) (a : Nat) : List On := match mget l (a : Int) with
  | none => []
  | some c => [⟨(a : Int), c.st, c.devs⟩]
def osTo (l : Cs) (n : Nat) : List On := (List.range n).flatMap (onAt l)
def osOf (l : Cs) : List On := osTo l 8
theorem osTo_next (l : Cs) (n : Nat) : osTo l (n + 1) = osTo l n ++ onAt l n := by simp [osTo, List.range_succ]
theorem osTo_len (l : Cs) : ∀ n, (osTo l n).length ≤ n
  | 0 => Nat.le_refl _
  | n + 1 => by
    have := osTo_len l n
    rw [osTo_next, List.length_append]
    have : (onAt l n).length ≤ 1 := by unfold onAt; split <;> simp
    omega
theorem osTo_congr {l l' : Cs} (h : ∀ a, mget l a = mget l' a) (n : Nat) : osTo l n = osTo l' n := by
  unfold osTo
  congr 1
  funext a
  unfold onAt
  rw [h]
theorem Same.osOk {acc : Int} {l : Cs} {C : List Ct} (h : Same acc l C) (n : Nat) : OsOk acc (osTo l n) := by
  intro o ho
  obtain ⟨a, ha, ho⟩ := List.mem_flatMap.1 ho
  unfold onAt at ho
  cases hg : mget l (a : Int) with
  | none => rw [hg] at ho; cases ho
  | some c =>
    rw [hg] at ho
    rw [List.mem_singleton] at ho
    subst ho
    have h1 := h.inv _ _ hg
    have hl : c.devs.length = c.kys.length := by rw [← Ct.devs_kys, List.length_map]
    refine ⟨h.dom _ _ hg, ?_, ⟨?_, Ct.devs_le h1.1⟩, Ct.dev_lt h1.1⟩
    · have := h1.2.1
      dsimp only
      omega
    · have := h1.2.2
      dsimp only
      omega
/-- the same, of the document's contacts -/
def ronAt (C : List Ct) (a : Nat) : List On := match C[a]? with
  | none => []
  | some c => if c.kys.length = 0 then [] else [⟨(a : Int), c.st, c.devs⟩]
def rosTo (C : List Ct) (n : Nat) : List On := (List.range n).flatMap (ronAt C)
theorem rosTo_next (C : List Ct) (n : Nat) : rosTo C (n + 1) = rosTo C n ++ ronAt C n := by simp [rosTo, List.range_succ]
theorem Same.onAt {acc : Int} {l : Cs} {C : List Ct} (h : Same acc l C) {a : Nat} (ha : a < 8) : ronAt C a = onAt l a := by
  unfold ronAt Go.Proofs.YtcplbkbimpiioaaGreatDoor.onAt
  rw [h.get a ha]
  cases hg : mget l (a : Int) with
  | none => rfl
  | some c =>
    have := (h.inv _ _ hg).2.2
    dsimp only [Option.getD_some]
    rw [if_neg this]
theorem Same.ros {acc : Int} {l : Cs} {C : List Ct} (h : Same acc l C) : ∀ n, n ≤ 8 → rosTo C n = osTo l n
  | 0, _ => rfl
  | n + 1, hn => by rw [rosTo_next, osTo_next, h.ros n (by omega), h.onAt (by omega)]
/-- what State tells first -/
theorem Same.onSt {acc : Int} {l : Cs} {C : List Ct} (h : Same acc l C) (a : Nat) : Go.Proofs.YtcplbkbimpiioaaGreatDoor.onAt l a = if stOf l (a : Int) = 0 then [] else [⟨(a : Int), stOf l (a : Int), devsAt l (a : Int)⟩] := by
  unfold Go.Proofs.YtcplbkbimpiioaaGreatDoor.onAt stOf devsAt
  cases hg : mget l (a : Int) with
  | none => rfl
  | some c =>
    have := (h.inv _ _ hg).2.1
    simp only [Option.map_some, Option.getD_some]
    rw [if_neg (by omega)]
/-! ### What is loaded -/
def learnsT (o : Option Ct) (ps : List (Nat × Ky)) : Option Ct := ps.foldl (fun o p => some (learnT (o.getD newCt) p.1 p.2)) o
def learnsC (l : Cs) (a : Int) (ps : List (Nat × Ky)) : Cs := ps.foldl (fun l p => learnC l a p.1 p.2) l
def loadC (l : Cs) (os : List On) : Cs := os.foldl (fun l o => setSt (learnsC l o.a o.l) o.a o.st) l
theorem learnsC_snoc (l : Cs) (a : Int) (ps : List (Nat × Ky)) (p : Nat × Ky) : learnsC l a (ps ++ [p]) = learnC (learnsC l a ps) a p.1 p.2 := by simp [learnsC]
theorem loadC_snoc (l : Cs) (os : List On) (o : On) : loadC l (os ++ [o]) = setSt (learnsC (loadC l os) o.a o.l) o.a o.st := by simp [loadC]
theorem learnC_nd {l : Cs} (h : mnd l) (a : Int) (i : Nat) (k : Ky) : mnd (learnC l a i k) := mput_nd h _ _
theorem learnsC_nd : ∀ {ps : List (Nat × Ky)} {l : Cs} (_ : mnd l) (a : Int), mnd (learnsC l a ps)
  | [], _, h, _ => h
  | p :: ps, _, h, a => learnsC_nd (ps := ps) (learnC_nd h a p.1 p.2) a
theorem mget_learns : ∀ {ps : List (Nat × Ky)} {l : Cs} (_ : mnd l) (a b : Int), mget (learnsC l a ps) b = if b = a then learnsT (mget l a) ps else mget l b
  | [], l, h, a, b => by
    show mget l b = if b = a then mget l a else mget l b
    split
    · rename_i e; rw [e]
    · rfl
  | p :: ps, l, h, a, b => by
    show mget (learnsC (learnC l a p.1 p.2) a ps) b = _
    rw [mget_learns (learnC_nd h a p.1 p.2) a b]
    unfold learnC
    rw [mget_put h, mget_put h, if_pos rfl]
    split
    · rfl
    · rfl
theorem mget_setSt {l : Cs} (h : mnd l) (a b s : Int) : mget (setSt l a s) b = if b = a then (mget l a).map (fun c => { c with st := s }) else mget l b := by
  unfold setSt
  cases hg : mget l a with
  | none =>
    dsimp only
    split
    · rename_i e; rw [e, hg]; rfl
    · rfl
  | some c => dsimp only; rw [mget_put h]; rfl
theorem setSt_nd {l : Cs} (h : mnd l) (a s : Int) : mnd (setSt l a s) := by
  unfold setSt
  split
  · exact h
  · exact mput_nd h _ _
theorem loadC_nd : ∀ {os : List On} {l : Cs} (_ : mnd l), mnd (loadC l os)
  | [], _, h => h
  | o :: os, _, h => loadC_nd (os := os) (setSt_nd (learnsC_nd h _) _ _)
theorem learnsT_some : ∀ {ps : List (Nat × Ky)} (o : Option Ct), (o.isSome = true ∨ 1 ≤ ps.length) → (learnsT o ps).isSome = true
  | [], o, h => by
    rcases h with h | h
    · exact h
    · cases h
  | p :: ps, o, _ => learnsT_some (ps := ps) (some (learnT (o.getD newCt) p.1 p.2)) (.inl rfl)
theorem learns_devs {c : Ct} (h : c.ok) (hz : c.zd) (h1 : 1 ≤ c.devs.length) : learnsT none c.devs = some { c with st := 1 } := by
  obtain ⟨ks, has, st⟩ := c
  obtain ⟨a, b, c, d, rfl⟩ := four h.kl
  obtain ⟨e, f, g, i, rfl⟩ := four h.hl
  have z0 := hz 0 (by decide)
  have z1 := hz 1 (by decide)
  have z2 := hz 2 (by decide)
  have z3 := hz 3 (by decide)
  simp only [List.getElem?_cons_zero, List.getElem?_cons_succ, Option.some.injEq] at z0 z1 z2 z3
  unfold Ct.devs at h1 ⊢
  cases e <;> cases f <;> cases g <;> cases i <;> simp [devsOf] at h1 z0 z1 z2 z3 <;> (try subst a) <;> (try subst b) <;> (try subst c) <;> (try subst d) <;> rfl
theorem mget_load {acc : Int} {l : Cs} {C : List Ct} (h : Same acc l C) : ∀ (n : Nat) (b : Int), mget (loadC [] (osTo l n)) b = if 0 ≤ b ∧ b < (n : Int) then mget l b else none
  | 0, b => by rw [if_neg (by omega)]; rfl
  | n + 1, b => by
    have ih := mget_load h n
    have hnd : mnd (loadC [] (osTo l n)) := loadC_nd List.Pairwise.nil
    rw [osTo_next]
    unfold onAt
    cases hg : mget l (n : Int) with
    | none =>
      dsimp only
      rw [List.append_nil, ih b]
      by_cases e : b = (n : Int)
      · subst e
        rw [if_neg (by omega), if_pos (by omega), hg]
      · by_cases e2 : 0 ≤ b ∧ b < (n : Int)
        · rw [if_pos e2, if_pos (by omega)]
        · rw [if_neg e2, if_neg (by omega)]
    | some c =>
      dsimp only
      have hI := h.inv _ _ hg
      have hl : c.devs.length = c.kys.length := by rw [← Ct.devs_kys, List.length_map]
      have e0 : mget (loadC [] (osTo l n)) (n : Int) = none := by rw [ih (n : Int), if_neg (by omega)]
      rw [loadC_snoc]
      dsimp only
      rw [mget_setSt (learnsC_nd hnd _), mget_learns hnd, if_pos rfl, mget_learns hnd, e0, learns_devs hI.1 (h.zd _ _ hg) (by have := hI.2.2; omega)]
      by_cases e : b = (n : Int)
      · subst e
        rw [if_pos rfl, if_pos (by omega), hg]
        rfl
      · rw [if_neg e, if_neg e, ih b]
        by_cases e2 : 0 ≤ b ∧ b < (n : Int)
        · rw [if_pos e2, if_pos (by omega)]
        · rw [if_neg e2, if_neg (by omega)]
theorem load_same {acc : Int} {l : Cs} {C : List Ct} (h : Same acc l C) (b : Int) : mget (loadC [] (osOf l)) b = mget l b := by
  unfold osOf
  rw [mget_load h]
  split
  · rfl
  · rename_i hn
    cases hg : mget l b with
    | none => rfl
    | some c => have := h.dom _ _ hg; exact absurd ⟨this.1, this.2.1⟩ hn
theorem Same.congr {acc : Int} {l l' : Cs} {C : List Ct} (h : Same acc l C) (hd : mnd l') (he : ∀ b, mget l' b = mget l b) : Same acc l' C :=
  ⟨fun a c hc => h.inv a c (by rw [← he, hc]), hd, fun a c hc => h.zd a c (by rw [← he, hc]), fun a c hc => h.dom a c (by rw [← he, hc]), h.len, fun a ha => by rw [he]; exact h.get a ha⟩
theorem Same.load {acc : Int} {l : Cs} {C : List Ct} (h : Same acc l C) : Same acc (loadC [] (osOf l)) C := h.congr (loadC_nd List.Pairwise.nil) (load_same h)
theorem Same.load_os {acc : Int} {l : Cs} {C : List Ct} (h : Same acc l C) : osOf (loadC [] (osOf l)) = osOf l := osTo_congr (load_same h) 8
end Go.Proofs.YtcplbkbimpiioaaGreatDoor

namespace Go.Proofs.YtcplbkbimpiioaaGreatDoor
open Go Go.RowKit
theorem tkOk_app {xs rest : List Int} {k : Nat} (hk : xs.length = k) : tkOk k (xs ++ rest) false = true := by unfold tkOk; simp; omega
theorem tkR_app {xs rest : List Int} {k : Nat} (hk : xs.length = k) : tkR k (xs ++ rest) false = xs := by unfold tkR; rw [tkOk_app hk, if_pos rfl, List.take_left' hk]
theorem tkB_app {xs rest : List Int} {k : Nat} (hk : xs.length = k) : tkB k (xs ++ rest) false = rest := by unfold tkB; rw [tkOk_app hk, if_pos rfl, List.drop_left' hk]
theorem tkW_app {xs rest : List Int} {k : Nat} (hk : xs.length = k) : tkW k (xs ++ rest) false = false := by unfold tkW; rw [tkOk_app hk]; rfl
theorem val_be2 {n : Nat} (h : n < 65536) : val (be (n : Int) 2) = (n : Int) := by
  simp [be, beK, val, List.range_succ]
  omega
theorem val_1 (x : Int) : val [x] = x := by simp [val]
/-- What is left to be taken, in memory. -/
def Rf (r : Res) (bs : List Int) (x : Option Addr × Nat) : Prop := RdOf r (.slice x.1 bs.length x.2) 1 bs.length (ints .u8 bs) ∧ bs.length ≤ x.2
theorem Bytes.tail {xs rest : List Int} (h : Bytes (xs ++ rest)) : Bytes rest := fun x hx => h x (List.mem_append_right _ hx)
theorem inU8_x (b : Nat) (x : Option Addr × Nat) (n : Int) (rest : List Int) (r : Res) (hr : Rf r (n :: rest) x) (hB : Bytes (n :: rest)) (w : World) (hw : OK w (fpL [inR b (.slice x.1 (n :: rest).length x.2) false, r]) [inR b (.slice x.1 (n :: rest).length x.2) false, r] w) :
    Fn Tryz.prog 39 [.pointer (some ⟨b, 0, none⟩)] [inR b (.slice x.1 (n :: rest).length x.2) false, r] w (fun y : Option Addr × Nat => Rf r rest y) (fun _ => .int .u8 n) (fun y => [inR b (.slice y.1 rest.length y.2) false, r]) := by
  have h := inU8_any b x.1 x.2 (n :: rest) false r hr.1 hr.2 hB w hw
  unfold NxΦ at h
  have e1 : tkB 1 (n :: rest) false = rest := tkB_app (xs := [n]) rfl
  have e2 : tkW 1 (n :: rest) false = false := tkW_app (xs := [n]) rfl
  have e3 : tkR 1 (n :: rest) false = [n] := tkR_app (xs := [n]) rfl
  rw [e1, e2, e3, val_1] at h
  exact h
theorem inFixed_x (b : Nat) (x : Option Addr × Nat) (k : Nat) (xs rest : List Int) (hk : xs.length = k) (r : Res) (hr : Rf r (xs ++ rest) x) (w : World) (hw : OK w (fpL [inR b (.slice x.1 (xs ++ rest).length x.2) false, r]) [inR b (.slice x.1 (xs ++ rest).length x.2) false, r] w) :
    Fn Tryz.prog 76 [.pointer (some ⟨b, 0, none⟩), .int .i64 (k : Int)] [inR b (.slice x.1 (xs ++ rest).length x.2) false, r] w (fun y : (Option Addr × Nat) × Option Addr × Nat => Rf r xs y.1 ∧ Rf r rest y.2) (fun y => .slice y.1.1 xs.length y.1.2) (fun y => [inR b (.slice y.2.1 rest.length y.2.2) false, r]) := by
  have h := inFixed_any b x.1 x.2 k (xs ++ rest) false r hr.1 hr.2 w hw
  unfold TkΦ at h
  rw [tkB_app hk, tkW_app hk, tkR_app hk] at h
  exact Calls.mono h (by
    rintro e w' ⟨y, ⟨h1, h2, h3, h4⟩, h5⟩
    exact ⟨y, ⟨⟨h1, h2⟩, ⟨h3, h4⟩⟩, h5⟩)
theorem inMany_x (b : Nat) (x : Option Addr × Nat) (n most : Nat) (rest : List Int) (hn : n ≤ most) (hm : most < 65536) (r : Res) (hr : Rf r (be n 2 ++ rest) x) (hB : Bytes (be n 2 ++ rest)) (w : World) (hw : OK w (fpL [inR b (.slice x.1 (be n 2 ++ rest).length x.2) false, r]) [inR b (.slice x.1 (be n 2 ++ rest).length x.2) false, r] w) :
    Fn Tryz.prog 75 [.pointer (some ⟨b, 0, none⟩), .int .i64 (most : Int)] [inR b (.slice x.1 (be n 2 ++ rest).length x.2) false, r] w (fun y : Option Addr × Nat => Rf r rest y) (fun _ => .int .i64 (n : Int)) (fun y => [inR b (.slice y.1 rest.length y.2) false, r]) := by
  have h := inMany_any b x.1 x.2 (be n 2 ++ rest) false most r hr.1 hr.2 hB w hw
  have hl : (be (n : Int) 2).length = 2 := be_len _ _
  have e : mnW (be n 2 ++ rest) false (most : Int) = false := by
    unfold mnW
    rw [tkW_app hl, tkR_app hl, val_be2 (by omega), Bool.false_or, decide_eq_false (by omega)]
  unfold NxΦ at h
  rw [e, if_neg (by decide), tkB_app hl, tkR_app hl, val_be2 (by omega)] at h
  exact h
end Go.Proofs.YtcplbkbimpiioaaGreatDoor

namespace Go.Proofs.YtcplbkbimpiioaaGreatDoor
open Go Go.RowKit
def rkysAt (C : List Ct) (a : Nat) : List Ky := ((C[a]?).map Ct.kys).getD []
def rstAt (C : List Ct) (a : Nat) : Int := ((C[a]?).map Ct.st).getD 0
def rverC (C : List Ct) (a : Nat) (ts want : List Int) : List Ct := match C[a]? with
  | none => C
  | some c => if c.kys.length = 0 then C else if bareF ts = want then C.set a { c with st := 2 } else C
def raccC (C : List Ct) (a : Nat) : List Ct := match C[a]? with
  | none => C
  | some c => if c.st = 3 then C.set a { c with st := 1 } else C
theorem rkysAt_of {C : List Ct} {a : Nat} {c : Ct} (h : C[a]? = some c) : rkysAt C a = c.kys := by unfold rkysAt; rw [h]; rfl
theorem rstAt_of {C : List Ct} {a : Nat} {c : Ct} (h : C[a]? = some c) : rstAt C a = c.st := by unfold rstAt; rw [h]; rfl
theorem rkysAt_no {C : List Ct} {a : Nat} (h : C[a]? = none) : rkysAt C a = [] := by unfold rkysAt; rw [h]; rfl
theorem rstAt_no {C : List Ct} {a : Nat} (h : C[a]? = none) : rstAt C a = 0 := by unfold rstAt; rw [h]; rfl
theorem Same.rkys {acc : Int} {l : Cs} {C : List Ct} (h : Same acc l C) (a : Nat) : rkysAt C a = kysAt l (a : Int) := by
  cases hc : C[a]? with
  | none =>
    have h8 : 8 ≤ a := by have := List.getElem?_eq_none_iff.1 hc; have := h.len; omega
    rw [rkysAt_no hc]
    unfold kysAt
    rw [h.out (by omega)]; rfl
  | some c => rw [rkysAt_of hc, h.kys hc]
theorem Same.rst {acc : Int} {l : Cs} {C : List Ct} (h : Same acc l C) (a : Nat) : rstAt C a = stOf l (a : Int) := by
  cases hc : C[a]? with
  | none =>
    have h8 : 8 ≤ a := by have := List.getElem?_eq_none_iff.1 hc; have := h.len; omega
    rw [rstAt_no hc]
    unfold stOf
    rw [h.out (by omega)]; rfl
  | some c => rw [rstAt_of hc, h.st hc]
theorem Same.ver {acc : Int} {l : Cs} {C : List Ct} (h : Same acc l C) (a : Nat) (ts want : List Int) : Same acc (verC l (a : Int) ts want) (rverC C a ts want) := by
  unfold verC rverC
  rw [← h.rkys a]
  cases hc : C[a]? with
  | none => rw [rkysAt_no hc, if_pos (show ([] : List Ky).length = 0 from rfl)]; exact h
  | some c =>
    rw [rkysAt_of hc]
    dsimp only
    split
    · exact h
    · rename_i h0
      split
      · exact h.setSt hc h0 (.inr (.inl rfl))
      · exact h
theorem Same.accs {acc : Int} {l : Cs} {C : List Ct} (h : Same acc l C) (a : Nat) : Same acc (if stOf l (a : Int) = 3 then Go.Proofs.YtcplbkbimpiioaaGreatDoor.setSt l (a : Int) 1 else l) (raccC C a) := by
  unfold raccC
  rw [← h.rst a]
  cases hc : C[a]? with
  | none => rw [rstAt_no hc, if_neg (by decide)]; exact h
  | some c =>
    rw [rstAt_of hc]
    dsimp only
    split
    · rename_i h3
      exact h.setSt hc (fun h0 => by rw [(h.unk hc).2 h0] at h3; cases h3) (.inl rfl)
    · exact h
theorem numT_set (acc : Int) (own : List Ky) (a : Int) (l : List Ky) : numT acc (setK own) a l = numT acc own a l := by
  unfold numT
  rw [digF_congr (acc := acc) (setK_idem own)]
theorem Same.kle {acc : Int} {l : Cs} {C : List Ct} (h : Same acc l C) (a : Nat) : (rkysAt C a).length ≤ 4 := by
  cases hc : C[a]? with
  | none => rw [rkysAt_no hc]; exact Nat.zero_le _
  | some c => rw [rkysAt_of hc]; exact Ct.kys_le (h.cok.get hc)
end Go.Proofs.YtcplbkbimpiioaaGreatDoor

namespace Go.Proofs.YtcplbkbimpiioaaGreatDoor
open Go Go.RowKit
def knC (p : Nat × Ky) : List Value := .int .u8 (p.1 : Int) :: p.2.cells
def knV (p : Nat × Ky) : Value := .agg (knC p).toArray
theorem knC_len (p : Nat × Ky) : (knC p).length = 33 := by unfold knC; rw [List.length_cons, p.2.clen]
theorem knC_ones (p : Nat × Ky) : ∀ u ∈ knC p, u.oneCell' = true := by
  intro u hu
  rcases List.mem_cons.1 hu with rfl | hu
  · rfl
  · exact p.2.ones u hu
theorem knV_cells (p : Nat × Ky) : (knV p).cells.toList = knC p := by simp [knV, Value.cells]
theorem vtKn : VT Tryz.prog 97 33 (fun _ : Nat × Ky => True) knV := .agg (cel := knC) (by kernel_rfl) (by kernel_rfl) (by decide) (fun _ => rfl) (fun p _ => knC_len p) knC_ones
theorem knC_key (p : Nat × Ky) : ((knC p).drop 1).take 32 = p.2.cells := by
  unfold knC
  rw [List.drop_succ_cons, List.drop_zero, List.take_of_length_le (by rw [p.2.clen]; omega)]
abbrev knR (v : Value) (l : List (Nat × Ky)) : Res := ownR v 97 33 l.length (vcs knV l)
/-- An account, and where its keys lie. -/
abbrev OnE := On × Option Addr × Nat
def onC (e : OnE) : List Value := [.int .u8 e.1.a, .int .u8 e.1.st, .slice e.2.1 e.1.l.length e.2.2]
def onV (e : OnE) : Value := .agg (onC e).toArray
theorem onC_ones (e : OnE) : ∀ u ∈ onC e, u.oneCell' = true := by
  intro u hu
  simp [onC] at hu
  rcases hu with rfl | rfl | rfl <;> rfl
theorem vtOn : VT Tryz.prog 94 3 (fun _ : OnE => True) onV := .agg (cel := onC) (by kernel_rfl) (by kernel_rfl) (by decide) (fun _ => rfl) (fun _ _ => rfl) onC_ones
abbrev onR (e : OnE) : Res := knR (.slice e.2.1 e.1.l.length e.2.2) e.1.l
abbrev onsR (v : Value) (l : List OnE) : Res := ownR v 94 3 l.length (vcs onV l)
theorem RdOf.all {A : List Res} {r : Res} {v : Value} {s n : Nat} {cs : List Value} (hr : r ∈ A) (h : RdOf r v s n cs) : RdOf (allR A) v s n cs := ⟨fun w hw => h.rd w (hw.1 r hr)⟩
theorem RdOf.onE {l : List OnE} {e : OnE} (h : e ∈ l) : RdOf (allR (l.map onR)) (.slice e.2.1 e.1.l.length e.2.2) 33 e.1.l.length (vcs knV e.1.l) := RdOf.all (List.mem_map.2 ⟨e, h, rfl⟩) RdOf.own
theorem knV_size (p : Nat × Ky) : ∀ v ∈ [knV p], v.cells.size = 33 := by
  intro v hv
  rw [List.mem_singleton] at hv
  subst hv
  unfold knV
  simp [Value.cells, knC_len]
theorem rdKn {b : Nat} (p : Nat × Ky) : RdOf (blkR b 97 (flat [knV p])) (.slice (some ⟨b, 0, none⟩) 1 1) 33 1 (vcs knV [p]) :=
  RdOf.blk (size := 33) (n := 1) (cs := flat [knV p]) (cs' := vcs knV [p]) (Nat.le_refl _) (by unfold maxLen; omega) (by simp [flat, knV_cells, knC_len]) (by rw [List.drop_zero, List.take_of_length_le (by simp [flat, knV_cells, knC_len])]; rfl)
theorem len32 {l : List Int} (h : l.length = 32) : ∃ a0 a1 a2 a3 a4 a5 a6 a7 a8 a9 a10 a11 a12 a13 a14 a15 a16 a17 a18 a19 a20 a21 a22 a23 a24 a25 a26 a27 a28 a29 a30 a31 : Int, l = [a0, a1, a2, a3, a4, a5, a6, a7, a8, a9, a10, a11, a12, a13, a14, a15, a16, a17, a18, a19, a20, a21, a22, a23, a24, a25, a26, a27, a28, a29, a30, a31] := by
  match l, h with
  | [a0, a1, a2, a3, a4, a5, a6, a7, a8, a9, a10, a11, a12, a13, a14, a15, a16, a17, a18, a19, a20, a21, a22, a23, a24, a25, a26, a27, a28, a29, a30, a31], _ => exact ⟨a0, a1, a2, a3, a4, a5, a6, a7, a8, a9, a10, a11, a12, a13, a14, a15, a16, a17, a18, a19, a20, a21, a22, a23, a24, a25, a26, a27, a28, a29, a30, a31, rfl⟩
theorem build_kn {xs : List Int} (h : xs.length = 32) (a : Int) (w : World) :
    (Instr.build 97 [(0, .int .u8 a), (1, .agg (ints .u8 xs).toArray)].toArray).run Tryz.prog w = .ok (.agg (.int .u8 a :: ints .u8 xs).toArray) w := by
  obtain ⟨a0, a1, a2, a3, a4, a5, a6, a7, a8, a9, a10, a11, a12, a13, a14, a15, a16, a17, a18, a19, a20, a21, a22, a23, a24, a25, a26, a27, a28, a29, a30, a31, rfl⟩ := len32 h
  kernel_rfl
end Go.Proofs.YtcplbkbimpiioaaGreatDoor
