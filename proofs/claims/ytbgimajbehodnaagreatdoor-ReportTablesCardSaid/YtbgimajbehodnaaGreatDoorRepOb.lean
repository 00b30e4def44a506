/- Rows of uint64 compared: the walk. -/
import Derived.Test.YtbgimajbehodnaaGreatDoorRepC
import Derived.Test.YtbgimajbehodnaaGreatDoorRepX
import Derived.Test.YtbgimajbehodnaaGreatDoorRepSb
import Derived.Test.YtbgimajbehodnaaGreatDoorLibBu
import Derived.Test.YtbgimajbehodnaaGreatDoorLibZ
import Derived.Test.YtbgimajbehodnaaGreatDoorLibN
import Derived.Test.YtbgimajbehodnaaGreatDoorRows
import Derived.Lib.LaidTab
import Derived.LaidSub
import Derived.Shelf.Vars
namespace Go.Proofs.YtbgimajbehodnaaGreatDoor
open Go Go.RowKit
theorem take_nextV {xs ys : List Int} {j : Nat} {x y : Int} (h : xs.take j = ys.take j) (hx : xs[j]? = some x) (hy : ys[j]? = some y) : xs.take (j + 1) = ys.take (j + 1) ↔ x = y := by
  rw [← take_snoc _ _ _ hx, ← take_snoc _ _ _ hy, h]
  simp
theorem equalV_any (v1 v2 : Value) (xs ys : List Int) (hl : xs.length ≤ 1099511627776) (w : World) (hx : RdS w (fpL []) v1 1 xs.length (ints .u64 xs)) (hy : RdS w (fpL []) v2 1 ys.length (ints .u64 ys)) (hw : OK w (fpL []) [] w) :
    Fn Tryz.prog 77 [v1, v2] [] w (fun _ : Unit => True) (fun _ => .bool (decide (xs = ys))) (fun _ => []) := by
  obtain ⟨al, cl, rfl, hcl, hml⟩ := hx.rd.form
  obtain ⟨bl, dl, rfl, hdl, hml2⟩ := hy.rd.form
  refine enterF Tryz.func77 rfl Tryz.ntmps77 rfl hw ?_
  refine WC.seq ?_
  refine WC.region ?_
  refine WL.y (Yl.assign rfl) rfl ?_
  refine WL.nil ?_
  refine WC.seq ?_
  refine WC.seq ?_
  refine WC.region ?_
  refine WL.y (Yl.move rfl) rfl ?_
  refine WL.y (Yl.len un48 rfl) rfl ?_
  refine WL.y (Yl.move rfl) rfl ?_
  refine WL.y (Yl.len un48 rfl) rfl ?_
  refine WL.y (Yl.neq rfl rfl) rfl ?_
  refine WL.nil ?_
  refine WC.condD rfl (fun g10 => ?_) (fun g10 => ?_)
  · refine WC.seq ?_
    refine WC.region ?_
    refine WL.y (Yl.assign rfl) rfl ?_
    refine WL.nil ?_
    refine WC.ret ?_
    repeat (with_reducible (first | refine peelT ?_ | refine peelB ?_ | refine peelTX ?_ | refine peelBX ?_ | refine peelBN ?_ | refine peelBO rfl ?_))
    have hne : ¬ xs = ys := fun e => by
      have := g10
      rw [e] at this
      exact this rfl
    exact ret1 (.inr rfl) Tryz.results77 rfl fun w' h => ⟨(), trivial, by rw [decide_eq_false hne], h.sub (by repeat' constructor)⟩
  · refine WC.skip ?_
    refine WC.seq ?_
    refine WC.seq ?_
    have hlen : xs.length = ys.length := by have := g10; omega
    refine WC.region ?_
    refine WL.y (Yl.move rfl) rfl ?_
    refine WL.y (Yl.len un48 rfl) rfl ?_
    refine WL.y (Yl.move rfl) rfl ?_
    refine WL.nil ?_
    refine WC.block ?_
    refine WC.loop (α := Nat) (fun k => [(0, .slice al xs.length cl), (1, .slice bl ys.length dl), (12, .int .i64 (xs.length : Int)), (13, .int .i64 (k : Int))]) (fun _ => []) (fun k => k ≤ xs.length ∧ xs.take k = ys.take k) (fun k => xs.length - k) 0 ⟨Nat.zero_le _, by simp⟩ ⟨(by repeat' constructor), _, (by repeat' constructor)⟩ ?_
    rintro k ⟨hk, hsame⟩
    refine WC.seq ?_
    refine WC.region ?_
    refine WL.y (Yl.lss rfl rfl) rfl ?_
    refine WL.nil ?_
    refine WC.seq ?_
    refine WC.condD rfl (fun g14 => ?_) (fun g14 => ?_)
    · refine WC.skip ?_
      refine WC.seq ?_
      refine WC.block ?_
      refine WC.seq ?_
      refine WC.region ?_
      refine WL.y (Yl.move rfl) rfl ?_
      refine WL.y (Yl.assign rfl) rfl ?_
      refine WL.nil ?_
      refine WC.seq ?_
      have hkl : k < xs.length := by have := g14; omega
      obtain ⟨x, hx0⟩ : ∃ x, xs[k]? = some x := ⟨_, List.getElem?_eq_getElem hkl⟩
      obtain ⟨y, hy0⟩ : ∃ x, ys[k]? = some x := ⟨_, List.getElem?_eq_getElem (by omega)⟩
      refine WC.drawRead mixed (by kernel_rfl) ?_
      refine WH.y (Yl.move rfl) rfl ?_
      refine WH.y (Yl.move rfl) rfl ?_
      refine WH.y (Yl.index un48 sz34 rfl rfl (Reads.s hx) rfl (by omega)) rfl ?_
      refine WH.y (Yl.loadE (j := k) on34 rfl (Reads.s hx) (u := .int .u64 x) (by simp [ints, hx0])) rfl ?_
      refine WH.y (Yl.move rfl) rfl ?_
      refine WH.y (Yl.move rfl) rfl ?_
      refine WH.y (Yl.index un48 sz34 rfl rfl (Reads.s hy) rfl (by omega)) rfl ?_
      refine WH.y (Yl.loadE (j := k) on34 rfl (Reads.s hy) (u := .int .u64 y) (by simp [ints, hy0])) rfl ?_
      refine WH.y (Yl.neq rfl rfl) rfl ?_
      refine WH.nil ?_
      refine WC.condD rfl (fun g24 => ?_) (fun g24 => ?_)
      · refine WC.seq ?_
        refine WC.region ?_
        refine WL.y (Yl.assign rfl) rfl ?_
        refine WL.nil ?_
        refine WC.ret ?_
        repeat (with_reducible (first | refine peelT ?_ | refine peelB ?_ | refine peelTX ?_ | refine peelBX ?_ | refine peelBN ?_ | refine peelBO rfl ?_))
        have hne : ¬ xs = ys := fun e => by
          subst e
          rw [hx0] at hy0
          exact g24 (Option.some.inj hy0)
        exact ret1 (.inr rfl) Tryz.results77 rfl fun w' h => ⟨(), trivial, by rw [decide_eq_false hne], h.sub (by repeat' constructor)⟩
      · refine WC.skip ?_
        refine WC.region ?_
        refine WL.y (Yl.add rfl rfl (IntWalk.i64_in _ (by omega))) rfl ?_
        refine WL.y (Yl.move rfl) rfl ?_
        refine WL.nil ?_
        have hxy : x = y := by have := g24; omega
        exact ⟨rfl, k + 1, ⟨by omega, (take_nextV hsame hx0 hy0).2 hxy⟩, by omega, (by repeat' constructor), _, (by repeat' constructor)⟩
    · refine WC.exit ?_
      refine WC.seq ?_
      refine WC.region ?_
      refine WL.y (Yl.assign rfl) rfl ?_
      refine WL.nil ?_
      refine WC.ret ?_
      repeat (with_reducible (first | refine peelT ?_ | refine peelB ?_ | refine peelTX ?_ | refine peelBX ?_ | refine peelBN ?_ | refine peelBO rfl ?_))
      have hkn : k = xs.length := by have := g14; omega
      have he : xs = ys := by
        rw [hkn, List.take_length, hlen, List.take_length] at hsame
        exact hsame
      exact ret1 (.inr rfl) Tryz.results77 rfl fun w' h => ⟨(), trivial, by rw [decide_eq_true he], h.sub (by repeat' constructor)⟩
end Go.Proofs.YtbgimajbehodnaaGreatDoor

namespace Go.Proofs.YtbgimajbehodnaaGreatDoor
open Go Go.RowKit
def Dg (x : Int) : Prop := 48 ≤ x ∧ x ≤ 57
theorem valI_app (a b : List Int) : valI a ≤ valI (a ++ b) := by
  refine snocI (p := fun b => valI a ≤ valI (a ++ b)) (by rw [List.append_nil]; exact Nat.le_refl _) (fun xs x ih => ?_) b
  rw [← List.append_assoc, valI_snoc]
  omega
/-- Digits ahead of something else are the first of those. -/
theorem dig_pre : ∀ {ds D r rest : List Int} {c : Int}, DigI ds → ¬ Dg c → ds ++ r = D ++ c :: rest → ∃ e, D = ds ++ e
  | [], D, _, _, _, _, _, _ => ⟨D, rfl⟩
  | x :: ds, [], r, rest, c, hd, hc, h => by
    simp only [List.cons_append, List.nil_append, List.cons.injEq] at h
    exact absurd (h.1 ▸ hd x (by simp)) hc
  | x :: ds, y :: D, r, rest, c, hd, hc, h => by
    simp only [List.cons_append, List.cons.injEq] at h
    obtain ⟨rfl, h⟩ := h
    obtain ⟨e, rfl⟩ := dig_pre (fun z hz => hd z (List.mem_cons_of_mem _ hz)) hc h
    exact ⟨e, rfl⟩
/-- What is known behind some digits of a number. -/
structure NmI (l : List Int) (at0 : Nat) (most : Int) (n : Int) (at1 : Nat) : Prop where
  le : at0 ≤ at1
  le2 : at1 ≤ l.length
  dig : DigI ((l.drop at0).take (at1 - at0))
  val : n = (valI ((l.drop at0).take (at1 - at0)) : Int)
  mo : n ≤ most
/-- What a number's reader tells. -/
structure NmR (l : List Int) (at0 : Nat) (most : Int) (y : Int × Nat × Bool) : Prop where
  le : at0 ≤ y.2.1
  le2 : y.2.1 ≤ l.length
  n0 : 0 ≤ y.1
  mo : y.1 ≤ most
  yes : y.2.2 = true → l.drop at0 = decI y.1.toNat ++ l.drop y.2.1
  no : ∀ (u : Nat) (c : Int) (rest : List Int), (u : Int) ≤ most → ¬ Dg c → l.drop at0 = decI u ++ c :: rest → y = ((u : Int), at0 + (decI u).length, true)
theorem NmI.start {l : List Int} {at0 : Nat} {most : Int} (h : at0 ≤ l.length) (hm : 0 ≤ most) : NmI l at0 most 0 at0 :=
  ⟨Nat.le_refl _, h, by rw [Nat.sub_self, List.take_zero]; exact fun _ h => (nomatch h), by rw [Nat.sub_self, List.take_zero]; rfl, hm⟩
theorem seg_snoc {l : List Int} {at0 at1 : Nat} {x : Int} (h : at0 ≤ at1) (hx : l[at1]? = some x) : (l.drop at0).take (at1 + 1 - at0) = (l.drop at0).take (at1 - at0) ++ [x] := by
  rw [show at1 + 1 - at0 = (at1 - at0) + 1 by omega]
  refine (take_snoc _ _ _ ?_).symm
  rw [List.getElem?_drop, show at0 + (at1 - at0) = at1 by omega, hx]
theorem seg_len {l : List Int} {at0 at1 : Nat} (h : at0 ≤ at1) (h2 : at1 ≤ l.length) : ((l.drop at0).take (at1 - at0)).length = at1 - at0 := by
  rw [List.length_take, List.length_drop]; omega
theorem seg_app {l : List Int} {at0 at1 : Nat} (h : at0 ≤ at1) : l.drop at0 = (l.drop at0).take (at1 - at0) ++ l.drop at1 := by
  conv => lhs; rw [← List.take_append_drop (at1 - at0) (l.drop at0), List.drop_drop, show at0 + (at1 - at0) = at1 by omega]
theorem NmI.step {l : List Int} {at0 at1 : Nat} {most n x : Int} (h : NmI l at0 most n at1) (hx : l[at1]? = some x) (hd : Dg x) (hm : 10 * n + (x - 48) ≤ most) : NmI l at0 most (10 * n + (x - 48)) (at1 + 1) := by
  obtain ⟨hlt, _⟩ := List.getElem?_eq_some_iff.1 hx
  have hs := seg_snoc h.le hx
  have h1 := h.le
  refine ⟨by omega, by omega, ?_, ?_, hm⟩
  · rw [hs]
    intro y hy
    rcases List.mem_append.1 hy with hy | hy
    · exact h.dig y hy
    · rw [List.mem_singleton.1 hy]; exact hd
  · rw [hs, valI_snoc, h.val]
    unfold Dg at hd
    omega
theorem NmI.fail {l : List Int} {at0 at1 : Nat} {most n x : Int} (h : NmI l at0 most n at1) (hm : 0 ≤ most) (hx : l[at1]? = some x) (hd : Dg x) (hm2 : most < 10 * n + (x - 48)) : NmR l at0 most (0, at1, false) := by
  obtain ⟨hlt, _⟩ := List.getElem?_eq_some_iff.1 hx
  have hs := seg_snoc h.le hx
  have h1 := h.le
  refine ⟨h1, h.le2, Int.le_refl _, hm, (fun e => nomatch e), fun u c rest hu hc e => ?_⟩
  exfalso
  have hd2 : DigI ((l.drop at0).take (at1 + 1 - at0)) := by
    rw [hs]
    intro y hy
    rcases List.mem_append.1 hy with hy | hy
    · exact h.dig y hy
    · rw [List.mem_singleton.1 hy]; exact hd
  obtain ⟨q, hq⟩ := dig_pre hd2 hc (by rw [← seg_app (l := l) (at0 := at0) (at1 := at1 + 1) (by omega)]; exact e)
  have hv := valI_app ((l.drop at0).take (at1 + 1 - at0)) q
  rw [← hq, decI_val, hs, valI_snoc] at hv
  have := h.val
  unfold Dg at hd
  omega
theorem NmI.done {l : List Int} {at0 at1 : Nat} {most n : Int} (h : NmI l at0 most n at1) (hend : ∀ x, l[at1]? = some x → ¬ Dg x) {b : Bool} (hb : b = true ↔ at0 < at1 ∧ (l[at0]? ≠ some 48 ∨ at1 = at0 + 1)) : NmR l at0 most (n, at1, b) := by
  have h1 := h.le
  have hsl := seg_len h1 h.le2
  have hse : l.drop at0 = _ := seg_app h1
  have hval := h.val
  have hhead : ∀ x, ((l.drop at0).take (at1 - at0)).head? = some x → l[at0]? = some x := fun x hx => by
    rw [List.head?_eq_getElem?, List.getElem?_take] at hx
    split at hx
    · rw [List.getElem?_drop, Nat.add_zero] at hx; exact hx
    · cases hx
  refine ⟨h1, h.le2, by rw [hval]; omega, h.mo, fun e => ?_, fun u c rest hu hc e => ?_⟩
  · obtain ⟨h2, h3⟩ := hb.1 e
    dsimp only
    have hd : decI (valI ((l.drop at0).take (at1 - at0))) = (l.drop at0).take (at1 - at0) := by
      refine decI_of _ h.dig (fun e0 => by rw [e0] at hsl; simp at hsl; omega) ?_
      rcases h3 with h3 | h3
      · exact .inl fun e0 => h3 (hhead _ e0)
      · by_cases h48 : ((l.drop at0).take (at1 - at0)).head? = some 48
        · refine .inr ?_
          generalize (l.drop at0).take (at1 - at0) = ds at hsl h48
          match ds, hsl, h48 with
          | [], _, h48 => cases h48
          | [x], _, h48 => cases h48; rfl
          | x :: y :: r, hsl, _ => simp at hsl; omega
        · exact .inl h48
    rw [hval, Int.toNat_natCast, hd]
    exact hse
  · obtain ⟨q, hq⟩ := dig_pre h.dig hc (by rw [← hse]; exact e)
    have hq0 : q = [] := by
      cases q with
      | nil => rfl
      | cons x q =>
        exfalso
        have hx : l[at1]? = some x := by
          have e2 : l.drop at1 = x :: (q ++ c :: rest) := by
            have e3 := hse.symm.trans e
            rw [hq, List.append_assoc] at e3
            exact List.append_cancel_left e3
          have := congrArg (fun z => z[0]?) e2
          simpa [List.getElem?_drop] using this
        refine hend x hx ?_
        exact decI_dig u x (by rw [hq]; simp)
    rw [hq0, List.append_nil] at hq
    have hlen : (decI u).length = at1 - at0 := by rw [hq]; exact hsl
    have hne : 0 < (decI u).length := List.length_pos_iff.2 (decI_ne u)
    have hn : n = (u : Int) := by rw [hval, ← hq, decI_val]
    have hbt : b = true := hb.2 ⟨by omega, by
      by_cases h0 : u = 0
      · right
        rw [h0, decI_zero] at hlen
        simp at hlen
        omega
      · left
        intro h48
        refine decI_head h0 ?_
        rw [hq, List.head?_eq_getElem?, List.getElem?_take, if_pos (by omega), List.getElem?_drop, Nat.add_zero]
        exact h48⟩
    rw [hn, hbt]
    congr 2
    omega
/-! ### A row -/
/-- The text of numbers, each with a blank behind it. -/
def cmI (row : List Int) : List Int := row.flatMap fun n => decI n.toNat ++ [32]
theorem cmI_snoc (row : List Int) (n : Int) : cmI (row ++ [n]) = cmI row ++ decI n.toNat ++ [32] := by simp [cmI]
theorem cm_row (p : Int) (ns : List Int) (n : Int) : cmI (p :: ns) ++ decI n.toNat = rowT p (ns ++ [n]) := by
  unfold rowT
  revert p
  induction ns with
  | nil => intro p; simp [cmI, numI]
  | cons m ns ih =>
    intro p
    have := ih m
    have e1 : cmI (p :: m :: ns) = decI p.toNat ++ [32] ++ cmI (m :: ns) := by simp [cmI]
    rw [e1, List.append_assoc, this]
    simp [numI]
def moF (i : Nat) : Int := if i = 0 then 255 else 18446744073709551615
/-- What is known when i numbers of a row were read. -/
structure RoI (l : List Int) (at0 : Nat) (row : List Int) (i at1 : Nat) : Prop where
  len : row.length = i
  le : at0 ≤ at1
  le2 : at1 ≤ l.length
  n : ∀ (j : Nat) x, row[j]? = some x → 0 ≤ x ∧ x ≤ moF j
  text : l.drop at0 = cmI row ++ l.drop at1
  no : ∀ (p : Int) (ms : List Int) (rest : List Int), RGd p ms → l.drop at0 = lineI p ms ++ rest → row = (p :: ms).take i
theorem RoI.start {l : List Int} {at0 : Nat} (h : at0 ≤ l.length) : RoI l at0 [] 0 at0 := ⟨rfl, Nat.le_refl _, h, (fun _ _ h => by simp at h), rfl, fun _ _ _ _ _ => rfl⟩
theorem line_split (p : Int) (ms : List Int) (i : Nat) {x : Int} (hx : (p :: ms)[i]? = some x) : lineI p ms = cmI ((p :: ms).take i) ++ decI x.toNat ++ numI ((p :: ms).drop (i + 1)) ++ [10] := by
  unfold lineI
  rw [List.append_cancel_right_eq]
  induction i generalizing p ms with
  | zero => simp at hx; subst hx; simp [cmI]
  | succ i ih =>
    cases ms with
    | nil => simp at hx
    | cons m ms =>
      have := ih m ms (by simpa using hx)
      rw [List.take_succ_cons, List.drop_succ_cons]
      have e1 : cmI (p :: (m :: ms).take i) = decI p.toNat ++ [32] ++ cmI ((m :: ms).take i) := by simp [cmI]
      rw [e1, List.append_assoc, List.append_assoc, ← List.append_assoc (cmI _), ← this]
      simp [numI]
theorem rg_at {p : Int} {ms : List Int} (h : RGd p ms) {i : Nat} {x : Int} (hx : (p :: ms)[i]? = some x) : 0 ≤ x ∧ x ≤ moF i := by
  cases i with
  | zero =>
    simp at hx
    subst hx
    have := h.p
    unfold U8 at this
    unfold moF
    rw [if_pos rfl]
    omega
  | succ i =>
    have := h.n x (List.mem_of_getElem? (show ms[i]? = some x by simpa using hx))
    unfold U64 at this
    unfold moF
    rw [if_neg (by omega)]
    omega
theorem not32 : ¬ Dg 32 := by unfold Dg; decide
theorem not10 : ¬ Dg 10 := by unfold Dg; decide
/-- Where a line stands: its next number's reader tells it. -/
theorem RoI.next {l : List Int} {at0 at1 i : Nat} {row : List Int} (h : RoI l at0 row i at1) (hi : i < 7) {y : Int × Nat × Bool} (hy : NmR l at1 (moF i) y) {p : Int} {ms rest : List Int} (hg : RGd p ms) (hl : l.drop at0 = lineI p ms ++ rest) :
    ∃ x, (p :: ms)[i]? = some x ∧ y.1 = x ∧ y.2.2 = true ∧ l.drop y.2.1 = numI ((p :: ms).drop (i + 1)) ++ [10] ++ rest := by
  have hlen : (p :: ms).length = 7 := by rw [List.length_cons, hg.len]
  obtain ⟨x, hx⟩ : ∃ x, (p :: ms)[i]? = some x := ⟨_, List.getElem?_eq_getElem (by omega)⟩
  have hx2 := rg_at hg hx
  have e := h.text.symm.trans hl
  rw [line_split p ms i hx, ← h.no p ms rest hg hl] at e
  simp only [List.append_assoc] at e
  have e2 := List.append_cancel_left e
  obtain ⟨c, r2, hc, hr⟩ : ∃ c r2, ¬ Dg c ∧ numI ((p :: ms).drop (i + 1)) ++ ([10] ++ rest) = c :: r2 := by
    cases hq : (p :: ms).drop (i + 1) with
    | nil => exact ⟨10, rest, not10, rfl⟩
    | cons z zs => exact ⟨32, decI z.toNat ++ numI zs ++ ([10] ++ rest), not32, by simp [numI]⟩
  rw [hr] at e2
  have h3 := hy.no x.toNat c r2 (by omega) hc e2
  have h4 : y.1 = x := by rw [h3]; show ((x.toNat : Nat) : Int) = x; omega
  have h5 : y.2.2 = true := by rw [h3]
  refine ⟨x, hx, h4, h5, ?_⟩
  have h6 := hy.yes h5
  rw [h4, e2] at h6
  rw [← List.append_cancel_left h6, ← hr, List.append_assoc]
theorem RoI.step {l : List Int} {at0 at1 i : Nat} {row : List Int} (h : RoI l at0 row i at1) (hi : i < 7) {y : Int × Nat × Bool} (hy : NmR l at1 (moF i) y) (hk : y.2.2 = true) (h32 : l[y.2.1]? = some 32) : RoI l at0 (row ++ [y.1]) (i + 1) (y.2.1 + 1) := by
  obtain ⟨hlt, he⟩ := List.getElem?_eq_some_iff.1 h32
  have h1 := h.le
  have h2 := hy.le
  refine ⟨by rw [List.length_append, h.len]; rfl, by omega, by omega, fun j x hx => ?_, ?_, fun p ms rest hg hl => ?_⟩
  · rw [List.getElem?_append] at hx
    split at hx
    · exact h.n j x hx
    · rename_i hj
      rw [h.len] at hx hj
      have : j = i := by
        have := (List.getElem?_eq_some_iff.1 hx).1
        simp at this
        omega
      subst this
      rw [Nat.sub_self] at hx
      cases hx
      exact ⟨hy.n0, hy.mo⟩
  · rw [cmI_snoc, h.text, hy.yes hk, List.drop_eq_getElem_cons hlt, he]
    simp
  · obtain ⟨x, hx, h4, _, _⟩ := h.next hi hy hg hl
    rw [← take_snoc _ _ _ hx, ← h.no p ms rest hg hl, h4]
theorem RoI.bad {l : List Int} {at0 at1 i : Nat} {row : List Int} (h : RoI l at0 row i at1) (hi : i < 7) {y : Int × Nat × Bool} (hy : NmR l at1 (moF i) y) (hk : y.2.2 = false ∨ (i < 6 ∧ l[y.2.1]? ≠ some 32)) {p : Int} {ms rest : List Int} (hg : RGd p ms) : l.drop at0 ≠ lineI p ms ++ rest := fun hl => by
  obtain ⟨x, hx, h4, h5, h6⟩ := h.next hi hy hg hl
  rcases hk with hk | ⟨hi6, hk⟩
  · rw [hk] at h5; cases h5
  · have hlen : (p :: ms).length = 7 := by rw [List.length_cons, hg.len]
    cases hq : (p :: ms).drop (i + 1) with
    | nil =>
      have := congrArg List.length hq
      rw [List.length_drop, hlen] at this
      simp at this
      omega
    | cons z zs =>
      rw [hq] at h6
      refine hk ?_
      have := congrArg (fun q => q[0]?) h6
      simpa [numI, List.getElem?_drop] using this
/-- What a row's reader knows at a line's end. -/
structure RoE (l : List Int) (at0 : Nat) (row : List Int) (at1 : Nat) : Prop where
  len : row.length = 7
  le : at0 ≤ at1
  le2 : at1 ≤ l.length
  n : ∀ (j : Nat) x, row[j]? = some x → 0 ≤ x ∧ x ≤ moF j
  text : ∃ p ns, row = p :: ns ∧ l.drop at0 = rowT p ns ++ l.drop at1
  no : ∀ (p : Int) (ms : List Int) (rest : List Int), RGd p ms → l.drop at0 = lineI p ms ++ rest → row = p :: ms ∧ l.drop at1 = 10 :: rest
theorem RoI.last {l : List Int} {at0 at1 : Nat} {row : List Int} (h : RoI l at0 row 6 at1) {y : Int × Nat × Bool} (hy : NmR l at1 (moF 6) y) (hk : y.2.2 = true) : RoE l at0 (row ++ [y.1]) y.2.1 := by
  have h1 := h.le
  have h2 := hy.le
  have hl6 := h.len
  refine ⟨by rw [List.length_append, hl6]; rfl, by omega, hy.le2, fun j x hx => ?_, ?_, fun p ms rest hg hl => ?_⟩
  · rw [List.getElem?_append] at hx
    split at hx
    · exact h.n j x hx
    · rename_i hj
      rw [hl6] at hx hj
      have : j = 6 := by
        have := (List.getElem?_eq_some_iff.1 hx).1
        simp at this
        omega
      subst this
      cases hx
      exact ⟨hy.n0, hy.mo⟩
  · cases hr : row with
    | nil => rw [hr] at hl6; cases hl6
    | cons p ns =>
      refine ⟨p, ns ++ [y.1], rfl, ?_⟩
      rw [← cm_row, h.text, hy.yes hk, hr]
      simp
  · obtain ⟨x, hx, h4, _, h6⟩ := h.next (by decide) hy hg hl
    have hlen : (p :: ms).length = 7 := by rw [List.length_cons, hg.len]
    have hd : (p :: ms).drop 7 = [] := List.drop_of_length_le (by omega)
    rw [hd] at h6
    refine ⟨?_, h6⟩
    rw [h.no p ms rest hg hl, h4, take_snoc _ _ _ hx, List.take_of_length_le (by omega)]
/-! ### Rows -/
structure RsI (l : List Int) (rs : List (Int × List Int)) (at1 : Nat) : Prop where
  pre : preI l = true
  le : at1 ≤ l.length
  good : ∀ r ∈ rs, RGd r.1 r.2
  asc : rs.Pairwise fun a b => a.1 < b.1
  text : cutI l = rs.flatMap lnE ++ l.drop at1
theorem flat_lnE (rs : List (Int × List Int)) : rs.flatMap lnE = (rs.map fun r => rowT r.1 r.2).flatMap fun p => p ++ [10] := by
  rw [List.flatMap_map]
  rfl
/-- What is told behind rows that were read. -/
theorem RsI.rest {l : List Int} {rs : List (Int × List Int)} {at1 : Nat} (h : RsI l rs at1) {ss : List (Int × List Int)} (hs : RowsOk l ss) : ∃ ts, ss = rs ++ ts ∧ l.drop at1 = ts.flatMap lnE := by
  have h1 := hs.2.lines
  have e : lnI (cutI l) = rs.map lnE ++ lnI (l.drop at1) := by
    rw [h.text, flat_lnE, lnI_of _ (fun p hp => by
      obtain ⟨r, _, rfl⟩ := List.mem_map.1 hp
      exact rowT_free _ _), List.map_map]
    rfl
  rw [e] at h1
  have hlen : rs.length ≤ ss.length := by
    have := congrArg List.length h1
    rw [List.length_append, List.length_map, List.length_map] at this
    omega
  have h2 := congrArg (List.take rs.length) h1
  rw [List.take_left' (List.length_map _), ← List.map_take] at h2
  have h3 := map_lnE h.good (fun r hr => hs.2.good r (List.mem_of_mem_take hr)) h2
  have h4 := congrArg (List.drop rs.length) h1
  rw [List.drop_left' (List.length_map _), ← List.map_drop] at h4
  refine ⟨ss.drop rs.length, by conv => rhs; rw [h3, List.length_take, Nat.min_eq_left hlen, List.take_append_drop], ?_⟩
  rw [← lnI_flat (l.drop at1), h4, List.flatMap_def]
theorem RsI.start {l : List Int} (h : preI l = true) : RsI l [] 43 := by
  refine ⟨h, ?_, (fun _ h => nomatch h), List.Pairwise.nil, ?_⟩
  · unfold preI at h
    rw [List.isPrefixOf_iff_prefix] at h
    have := h.length_le
    rwa [headI_len] at this
  · unfold cutI
    rw [if_pos h]
    rfl
theorem RsI.done {l : List Int} {rs : List (Int × List Int)} {at1 : Nat} (h : RsI l rs at1) (he : l.length ≤ at1) : RowsOk l rs := by
  refine ⟨h.pre, h.good, h.asc, ?_⟩
  rw [h.text, List.drop_of_length_le he, List.append_nil]
theorem RsI.step {l : List Int} {rs : List (Int × List Int)} {at1 at2 : Nat} (h : RsI l rs at1) {row : List Int} (hr : RoE l at1 row at2) (h10 : l[at2]? = some 10) {p : Int} {ns : List Int} (hrow : row = p :: ns) (hg : RGd p ns) (hz : ∀ z, 0 < rs.length → rs[rs.length - 1]? = some z → z.1 < p) : RsI l (rs ++ [(p, ns)]) (at2 + 1) := by
  obtain ⟨hlt, he⟩ := List.getElem?_eq_some_iff.1 h10
  refine ⟨h.pre, by omega, fun r hr => ?_, List.pairwise_append.2 ⟨h.asc, List.pairwise_singleton _ _, fun a ha c hc => ?_⟩, ?_⟩
  · rcases List.mem_append.1 hr with hr | hr
    · exact h.good r hr
    · rw [List.mem_singleton.1 hr]; exact hg
  · rw [List.mem_singleton.1 hc]
    obtain ⟨k, hk, rfl⟩ := List.getElem_of_mem ha
    have hl := hz _ (by omega) (List.getElem?_eq_getElem (by omega))
    by_cases e : k = rs.length - 1
    · subst e; exact hl
    · have := List.pairwise_iff_getElem.1 h.asc k (rs.length - 1) hk (by omega) (by omega)
      show rs[k].1 < p
      omega
  · obtain ⟨p', ns', e1, e2⟩ := hr.text
    rw [hrow] at e1
    cases e1
    rw [h.text, e2, List.drop_eq_getElem_cons hlt, he, List.flatMap_append, List.flatMap_cons, List.flatMap_nil, List.append_nil]
    show _ = _ ++ (rowT p ns ++ [10]) ++ _
    simp
/-- No rows are told, where none stands. -/
theorem RsI.none {l : List Int} {rs : List (Int × List Int)} {at1 : Nat} (h : RsI l rs at1) (hlt : at1 < l.length) (hb : ∀ (p : Int) (ms rest : List Int), RGd p ms → l.drop at1 = lineI p ms ++ rest → (∀ z, 0 < rs.length → rs[rs.length - 1]? = some z → z.1 < p) → False) : ∀ ss, ¬ RowsOk l ss := fun ss hs => by
  obtain ⟨ts, rfl, ht⟩ := h.rest hs
  cases ts with
  | nil =>
    have := congrArg List.length ht
    rw [List.length_drop] at this
    simp at this
    omega
  | cons t ts =>
    refine hb t.1 t.2 (ts.flatMap lnE) (hs.2.good t (by simp)) (by rw [ht]; simp [lnE]) fun z hz hz2 => ?_
    exact (List.pairwise_append.1 hs.2.asc).2.2 z (List.mem_of_getElem? hz2) t (by simp)
theorem pre_no {l : List Int} (h : preI l = false) : ∀ ss, ¬ RowsOk l ss := fun ss hs => by rw [hs.1] at h; cases h
end Go.Proofs.YtbgimajbehodnaaGreatDoor

namespace Go.Proofs.YtbgimajbehodnaaGreatDoor
open Go Go.RowKit
theorem digits_step (u : Nat) (hu : u < 18446744073709551616) (ih : ∀ v, v < u → ∀ w, OK w (fpL []) [] w → Fn Tryz.prog 74 [.int .u64 (v : Int)] [] w (fun _ : Unit => True) (fun _ => .string (strOfNums (decI v))) (fun _ => [])) (w : World) (hw : OK w (fpL []) [] w) :
    Fn Tryz.prog 74 [.int .u64 (u : Int)] [] w (fun _ : Unit => True) (fun _ => .string (strOfNums (decI u))) (fun _ => []) := by
  obtain ⟨d, hd⟩ : ∃ d : Int, d = 48 + ((u % 10 : Nat) : Int) := ⟨_, rfl⟩
  refine enterF Tryz.func74 rfl Tryz.ntmps74 rfl hw ?_
  refine WC.seq ?_
  refine WC.region ?_
  refine WL.y (Yl.assign rfl) rfl ?_
  refine WL.nil ?_
  refine WC.seq ?_
  refine WC.region ?_
  refine WL.y (Yl.move rfl) rfl ?_
  refine WL.y (Yl.rem (r := (u : Int) % 10) rfl rfl (by omega) (Int.tmod_eq_emod_of_nonneg (by omega))) rfl ?_
  refine WL.y (Yl.add (r := d) rfl rfl (by rw [show (48 : Int) + (u : Int) % 10 = d by omega]; exact u64_in _ (by omega))) rfl ?_
  refine WL.y (Yl.conv un34 un5 rfl (show IntKind.u8.wrap d = d by rw [IntKind.wrap_u8]; omega)) rfl ?_
  refine WL.to (To.buildSlice (vs := [.int .u8 d]) un62 zs5 rfl rfl (by simp [Value.cells]) (by decide) (by decide)) rfl ?_
  intro b8
  rw [show flat [Value.int .u8 d] = ints .u8 [d] from rfl]
  refine WL.y (Yl.toStr un62 un5 un9 rfl (Reads.of (RdOf.blk (off := 0) (size := 1) (n := ([d] : List Int).length) (cap := 1) (cs := ints .u8 [d]) (cs' := ints .u8 [d]) (Nat.le_refl _) (by unfold maxLen; omega) (by simp [ints]) (by simp [ints])) (by repeat constructor))) rfl ?_
  refine WL.y (Yl.assign rfl) rfl ?_
  refine WL.nil ?_
  refine WC.seq ?_
  refine WC.seq ?_
  refine WC.region ?_
  refine WL.y (Yl.move rfl) rfl ?_
  refine WL.y (Yl.lss rfl rfl) rfl ?_
  refine WL.nil ?_
  refine WC.condD rfl (fun g11 => ?_) (fun g11 => ?_)
  · refine WC.seq ?_
    refine WC.region ?_
    refine WL.y (Yl.move rfl) rfl ?_
    refine WL.y (Yl.assign rfl) rfl ?_
    refine WL.nil ?_
    refine WC.ret ?_
    repeat (with_reducible (first | refine peelT ?_ | refine peelB ?_ | refine peelTX ?_ | refine peelBX ?_ | refine peelBN ?_ | refine peelBO rfl ?_))
    exact ret1 (.inr rfl) Tryz.results74 rfl fun w' h => ⟨(), trivial, by rw [decI_small (by omega), hd, show u % 10 = u by omega], h.sub (by repeat' constructor)⟩
  · refine WC.skip ?_
    refine WC.seq ?_
    refine WC.region ?_
    refine WL.y (Yl.move rfl) rfl ?_
    refine WL.y (Yl.quo (r := ((u / 10 : Nat) : Int)) rfl rfl (by omega) (by rw [Int.tdiv_eq_ediv_of_nonneg (by omega), show (u : Int) / 10 = ((u / 10 : Nat) : Int) by omega]; exact u64_in _ (by omega))) rfl ?_
    have hl := decI_len (u := u / 10) (by omega)
    refine WL.callC (xs := [.tmp 14]) (cap := []) rfl rfl en74 (by repeat' constructor) (fun w hw => ih (u / 10) (by omega) w hw.left.here) rfl ?_
    rintro ⟨⟩ -
    refine WL.y (Yl.move rfl) rfl ?_
    refine WL.y (Yl.sAdd (xs := decI (u / 10)) (ys := [d]) (by simp; omega) rfl rfl) rfl ?_
    refine WL.y (Yl.assign rfl) rfl ?_
    refine WL.nil ?_
    refine WC.ret ?_
    repeat (with_reducible (first | refine peelT ?_ | refine peelB ?_ | refine peelTX ?_ | refine peelBX ?_ | refine peelBN ?_ | refine peelBO rfl ?_))
    exact ret1 (.inr rfl) Tryz.results74 rfl fun w' h => ⟨(), trivial, by rw [decI_big (u := u) (by omega), hd], h.sub (by repeat' constructor)⟩
theorem digits_any (u : Nat) (hu : u < 18446744073709551616) (w : World) (hw : OK w (fpL []) [] w) :
    Fn Tryz.prog 74 [.int .u64 (u : Int)] [] w (fun _ : Unit => True) (fun _ => .string (strOfNums (decI u))) (fun _ => []) := by
  induction u using Nat.strongRecOn generalizing w with
  | _ u ih => exact digits_step u hu (fun v hv w hw => ih v hv (by omega) w hw) w hw
set_option maxRecDepth 100000 in
set_option maxHeartbeats 1600000 in
theorem numR_any (l : List Int) (hby : Bytes l) (hl : l.length ≤ 1000000000) (at0 : Nat) (h0 : at0 ≤ l.length) (most : Int) (hm : 0 ≤ most) (hm2 : most < 18446744073709551616) (w : World) (hw : OK w (fpL []) [] w) :
    Fn Tryz.prog 76 [strV l, .int .i64 (at0 : Int), .int .u64 most] [] w (NmR l at0 most) (fun y => .tuple #[.int .u64 y.1, .int .i64 (y.2.1 : Int), .bool y.2.2]) (fun _ => []) := by
  refine enterF Tryz.func76 rfl Tryz.ntmps76 rfl hw ?_
  refine WC.seq ?_
  refine WC.region ?_
  refine WL.y (Yl.assign rfl) rfl ?_
  refine WL.y (Yl.assign rfl) rfl ?_
  refine WL.y (Yl.assign rfl) rfl ?_
  refine WL.nil ?_
  refine WC.seq ?_
  refine WC.region ?_
  refine WL.y (Yl.move rfl) rfl ?_
  refine WL.y (Yl.assign rfl) rfl ?_
  refine WL.nil ?_
  refine WC.seq ?_
  refine WC.region ?_
  refine WL.y (Yl.assign rfl) rfl ?_
  refine WL.nil ?_
  refine WC.midX (α := Int × Nat) (fun p => [(0, strV l), (1, .int .i64 (p.2 : Int)), (2, .int .u64 most), (9, .int .i64 (at0 : Int)), (10, .int .u64 p.1)]) (fun _ => []) (fun p => NmI l at0 most p.1 p.2 ∧ ∀ x, l[p.2]? = some x → ¬ Dg x) ?_ ?_
  · refine WC.block ?_
    refine WC.loop (α := Int × Nat) (fun p => [(0, strV l), (1, .int .i64 (p.2 : Int)), (2, .int .u64 most), (9, .int .i64 (at0 : Int)), (10, .int .u64 p.1)]) (fun _ => []) (fun p => NmI l at0 most p.1 p.2) (fun p => l.length - p.2) (0, at0) (NmI.start h0 hm) ⟨(by repeat' constructor), _, (by repeat' constructor)⟩ ?_
    rintro ⟨n, at1⟩ hI
    dsimp only at hI ⊢
    have hle := hI.le2
    have hn0 : 0 ≤ n := by have := hI.val; omega
    have hnm := hI.mo
    refine WC.seq ?_
    refine WC.seq ?_
    refine WC.region ?_
    refine WL.y (Yl.move rfl) rfl ?_
    refine WL.y (Yl.move rfl) rfl ?_
    refine WL.y (Yl.lenT (ys := l) un9 rfl) rfl ?_
    refine WL.y (Yl.lss rfl rfl) rfl ?_
    refine WL.y (Yl.move rfl) rfl ?_
    refine WL.both (t := 17) rfl (fun g17 => ?_) (fun g17 => ?_)
    · refine WL.on rfl rfl ?_
      have hlt : at1 < l.length := by have q := g17; simp at q; omega
      obtain ⟨x, hx⟩ : ∃ x, l[at1]? = some x := ⟨_, List.getElem?_eq_getElem hlt⟩
      have hxb := hby x (List.mem_of_getElem? hx)
      refine WL.y (Yl.move rfl) rfl ?_
      refine WL.on rfl rfl ?_
      refine WL.y (Yl.move rfl) rfl ?_
      refine WL.on rfl rfl ?_
      refine WL.y (Yl.idxStr (j := at1) (y := x) un9 rfl rfl hx hby) rfl ?_
      refine WL.on rfl rfl ?_
      refine WL.y (Yl.geq rfl rfl) rfl ?_
      refine WL.y (Yl.pickT rfl rfl) rfl ?_
      refine WL.y (Yl.move rfl) rfl ?_
      refine WL.both (t := 23) rfl (fun g23 => ?_) (fun g23 => ?_)
      · refine WL.on rfl rfl ?_
        refine WL.y (Yl.move rfl) rfl ?_
        refine WL.on rfl rfl ?_
        refine WL.y (Yl.move rfl) rfl ?_
        refine WL.on rfl rfl ?_
        refine WL.y (Yl.idxStr (j := at1) (y := x) un9 rfl rfl hx hby) rfl ?_
        refine WL.on rfl rfl ?_
        refine WL.y (Yl.leq rfl rfl) rfl ?_
        refine WL.y (Yl.pickT rfl rfl) rfl ?_
        refine WL.nil ?_
        refine WC.condD rfl (fun g28 => ?_) (fun g28 => ?_)
        · refine WC.skip ?_
          refine WC.block ?_
          refine WC.seq ?_
          refine WC.region ?_
          have q23 := g23
          have q28 := g28
          simp at q23
          have hd : Dg x := ⟨by omega, by first | omega | (simp at q28; omega)⟩
          refine WL.y (Yl.move rfl) rfl ?_
          refine WL.y (Yl.move rfl) rfl ?_
          refine WL.y (Yl.idxStr (j := at1) (y := x) un9 rfl rfl hx hby) rfl ?_
          refine WL.y (Yl.conv un5 un34 rfl (show IntKind.u64.wrap x = x by rw [IntKind.wrap_u64]; omega)) rfl ?_
          refine WL.y (Yl.sub (r := x - 48) rfl rfl (u64_in _ (by omega))) rfl ?_
          refine WL.y (Yl.assign rfl) rfl ?_
          refine WL.nil ?_
          refine WC.seq ?_
          refine WC.seq ?_
          refine WC.region ?_
          refine WL.y (Yl.move rfl) rfl ?_
          refine WL.y (Yl.move rfl) rfl ?_
          refine WL.y (Yl.gtr rfl rfl) rfl ?_
          refine WL.y (Yl.move rfl) rfl ?_
          refine WL.both (t := 37) rfl (fun g37 => ?_) (fun g37 => ?_)
          · refine WL.off rfl rfl rfl rfl ?_
            refine WL.off rfl rfl rfl rfl ?_
            refine WL.off rfl rfl rfl rfl ?_
            refine WL.off rfl rfl rfl rfl ?_
            refine WL.off rfl rfl rfl rfl ?_
            refine WL.off rfl rfl rfl rfl ?_
            refine WL.y (Yl.pickT rfl rfl) rfl ?_
            refine WL.nil ?_
            refine WC.condT rfl (by first | rfl | (simp; done) | (simp; omega)) ?_
            refine WC.seq ?_
            refine WC.region ?_
            refine WL.y (Yl.move rfl) rfl ?_
            refine WL.y (Yl.assign rfl) rfl ?_
            refine WL.y (Yl.assign rfl) rfl ?_
            refine WL.y (Yl.assign rfl) rfl ?_
            refine WL.nil ?_
            refine WC.ret ?_
            repeat (with_reducible (first | refine peelT ?_ | refine peelB ?_ | refine peelTX ?_ | refine peelBX ?_ | refine peelBN ?_ | refine peelBO rfl ?_))
            have q37 := g37
            simp at q37
            exact ret3 (.inr rfl) Tryz.results76 rfl rfl rfl fun w' h => ⟨(0, at1, false), hI.fail hm hx hd (by omega), rfl, h.sub (by repeat' constructor)⟩
          · refine WL.on rfl rfl ?_
            have q37 := g37
            simp at q37
            refine WL.y (Yl.move rfl) rfl ?_
            refine WL.on rfl rfl ?_
            refine WL.y (Yl.move rfl) rfl ?_
            refine WL.on rfl rfl ?_
            refine WL.y (Yl.move rfl) rfl ?_
            refine WL.on rfl rfl ?_
            refine WL.y (Yl.sub (r := most - (x - 48)) rfl rfl (u64_in _ (by omega))) rfl ?_
            refine WL.on rfl rfl ?_
            refine WL.y (Yl.quo (r := (most - (x - 48)) / 10) rfl rfl (by omega) (by rw [Int.tdiv_eq_ediv_of_nonneg (by omega)]; exact u64_in _ (by omega))) rfl ?_
            refine WL.on rfl rfl ?_
            refine WL.y (Yl.gtr rfl rfl) rfl ?_
            refine WL.y (Yl.pickF rfl rfl) rfl ?_
            refine WL.nil ?_
            refine WC.condD rfl (fun g44 => ?_) (fun g44 => ?_)
            · refine WC.seq ?_
              refine WC.region ?_
              refine WL.y (Yl.move rfl) rfl ?_
              refine WL.y (Yl.assign rfl) rfl ?_
              refine WL.y (Yl.assign rfl) rfl ?_
              refine WL.y (Yl.assign rfl) rfl ?_
              refine WL.nil ?_
              refine WC.ret ?_
              repeat (with_reducible (first | refine peelT ?_ | refine peelB ?_ | refine peelTX ?_ | refine peelBX ?_ | refine peelBN ?_ | refine peelBO rfl ?_))
              have q := g44
              exact ret3 (.inr rfl) Tryz.results76 rfl rfl rfl fun w' h => ⟨(0, at1, false), hI.fail hm hx hd (by first | omega | (simp at q; omega)), rfl, h.sub (by repeat' constructor)⟩
            · refine WC.skip ?_
              refine WC.seq ?_
              refine WC.region ?_
              have hfit : 10 * n + (x - 48) ≤ most := by have q := g44; first | omega | (simp at q; omega)
              refine WL.y (Yl.move rfl) rfl ?_
              refine WL.y (Yl.mul (r := 10 * n) rfl rfl (u64_in _ (by omega))) rfl ?_
              refine WL.y (Yl.move rfl) rfl ?_
              refine WL.y (Yl.add (r := 10 * n + (x - 48)) rfl rfl (u64_in _ (by omega))) rfl ?_
              refine WL.y (Yl.assign rfl) rfl ?_
              refine WL.nil ?_
              refine WC.region ?_
              refine WL.y (Yl.move rfl) rfl ?_
              refine WL.y (Yl.add rfl rfl (IntWalk.i64_in _ (by omega))) rfl ?_
              refine WL.y (Yl.assign rfl) rfl ?_
              refine WL.nil ?_
              exact ⟨rfl, (10 * n + (x - 48), at1 + 1), hI.step hx hd hfit, by dsimp only; omega, (by repeat' constructor), _, (by repeat' constructor)⟩
        · refine WC.exit ?_
          have q := g28
          exact ⟨rfl, (n, at1), ⟨hI, fun y hy hd => by rw [hx] at hy; cases hy; unfold Dg at hd; first | omega | (simp at q; omega)⟩, (by repeat' constructor), _, (by repeat' constructor)⟩
      · refine WL.off rfl rfl rfl rfl ?_
        refine WL.off rfl rfl rfl rfl ?_
        refine WL.off rfl rfl rfl rfl ?_
        refine WL.off rfl rfl rfl rfl ?_
        refine WL.y (Yl.pickF rfl rfl) rfl ?_
        refine WL.nil ?_
        refine WC.condF rfl (by first | rfl | (simp; done) | (simp; omega)) ?_
        refine WC.exit ?_
        have q := g23
        simp at q
        exact ⟨rfl, (n, at1), ⟨hI, fun y hy hd => by rw [hx] at hy; cases hy; unfold Dg at hd; omega⟩, (by repeat' constructor), _, (by repeat' constructor)⟩
    · refine WL.off rfl rfl rfl rfl ?_
      refine WL.off rfl rfl rfl rfl ?_
      refine WL.off rfl rfl rfl rfl ?_
      refine WL.off rfl rfl rfl rfl ?_
      refine WL.y (Yl.pickF rfl rfl) rfl ?_
      refine WL.y (Yl.move rfl) rfl ?_
      refine WL.off rfl rfl rfl rfl ?_
      refine WL.off rfl rfl rfl rfl ?_
      refine WL.off rfl rfl rfl rfl ?_
      refine WL.off rfl rfl rfl rfl ?_
      refine WL.y (Yl.pickF rfl rfl) rfl ?_
      refine WL.nil ?_
      refine WC.condF rfl (by first | rfl | (simp; done) | (simp; omega)) ?_
      refine WC.exit ?_
      have q := g17
      simp at q
      exact ⟨rfl, (n, at1), ⟨hI, fun y hy hd => by have := (List.getElem?_eq_some_iff.1 hy).1; omega⟩, (by repeat' constructor), _, (by repeat' constructor)⟩
  · rintro ⟨n, at1⟩ ⟨hI, hend⟩
    dsimp only at hI hend ⊢
    have hle := hI.le
    have hle2 := hI.le2
    refine WC.seq ?_
    refine WC.region ?_
    refine WL.y (Yl.move rfl) rfl ?_
    refine WL.y (Yl.move rfl) rfl ?_
    refine WL.y (Yl.move rfl) rfl ?_
    refine WL.y (Yl.move rfl) rfl ?_
    refine WL.y (Yl.gtr rfl rfl) rfl ?_
    refine WL.y (Yl.move rfl) rfl ?_
    refine WL.both (t := 57) rfl (fun g57 => ?_) (fun g57 => ?_)
    · refine WL.on rfl rfl ?_
      have q57 := g57
      simp at q57
      obtain ⟨x, hx⟩ : ∃ x, l[at0]? = some x := ⟨_, List.getElem?_eq_getElem (by omega)⟩
      refine WL.y (Yl.move rfl) rfl ?_
      refine WL.on rfl rfl ?_
      refine WL.y (Yl.move rfl) rfl ?_
      refine WL.on rfl rfl ?_
      refine WL.y (Yl.idxStr (j := at0) (y := x) un9 rfl rfl hx hby) rfl ?_
      refine WL.on rfl rfl ?_
      refine WL.y (Yl.neq rfl rfl) rfl ?_
      refine WL.on rfl rfl ?_
      refine WL.y (Yl.move rfl) rfl ?_
      refine WL.both (t := 62) rfl (fun g62 => ?_) (fun g62 => ?_)
      · refine WL.off rfl rfl rfl rfl ?_
        refine WL.off rfl rfl rfl rfl ?_
        refine WL.off rfl rfl rfl rfl ?_
        refine WL.off rfl rfl rfl rfl ?_
        refine WL.on rfl rfl ?_
        refine WL.y (Yl.pickT rfl rfl) rfl ?_
        refine WL.y (Yl.pickT rfl rfl) rfl ?_
        refine WL.y (Yl.assign rfl) rfl ?_
        refine WL.y (Yl.assign rfl) rfl ?_
        refine WL.y (Yl.assign rfl) rfl ?_
        refine WL.nil ?_
        refine WC.ret ?_
        repeat (with_reducible (first | refine peelT ?_ | refine peelB ?_ | refine peelTX ?_ | refine peelBX ?_ | refine peelBN ?_ | refine peelBO rfl ?_))
        have q62 := g62
        simp at q62
        exact ret3 (.inr rfl) Tryz.results76 rfl rfl rfl fun w' h => ⟨(n, at1, true), hI.done hend (b := true) ⟨fun _ => ⟨by omega, .inl (by rw [hx]; intro e; exact q62 (Option.some.inj e))⟩, fun _ => rfl⟩, rfl, h.sub (by repeat' constructor)⟩
      · refine WL.on rfl rfl ?_
        refine WL.y (Yl.move rfl) rfl ?_
        refine WL.on rfl rfl ?_
        refine WL.y (Yl.move rfl) rfl ?_
        refine WL.on rfl rfl ?_
        refine WL.y (Yl.add rfl rfl (IntWalk.i64_in _ (by omega))) rfl ?_
        refine WL.on rfl rfl ?_
        refine WL.y (Yl.eql rfl rfl) rfl ?_
        refine WL.on rfl rfl ?_
        refine WL.y (Yl.pickF rfl rfl) rfl ?_
        refine WL.y (Yl.pickT rfl rfl) rfl ?_
        refine WL.y (Yl.assign rfl) rfl ?_
        refine WL.y (Yl.assign rfl) rfl ?_
        refine WL.y (Yl.assign rfl) rfl ?_
        refine WL.nil ?_
        refine WC.ret ?_
        repeat (with_reducible (first | refine peelT ?_ | refine peelB ?_ | refine peelTX ?_ | refine peelBX ?_ | refine peelBN ?_ | refine peelBO rfl ?_))
        have q62 := g62
        simp at q62
        exact ret3 (.inr rfl) Tryz.results76 rfl rfl rfl fun w' h => ⟨(n, at1, decide ((at1 : Int) = (at0 : Int) + 1)), hI.done hend (by
          rw [decide_eq_true_iff]
          constructor
          · intro e
            exact ⟨by omega, .inr (by omega)⟩
          · rintro ⟨_, h | h⟩
            · exact absurd (by rw [hx, q62]) h
            · omega), rfl, h.sub (by repeat' constructor)⟩
    · refine WL.off rfl rfl rfl rfl ?_
      refine WL.off rfl rfl rfl rfl ?_
      refine WL.off rfl rfl rfl rfl ?_
      refine WL.off rfl rfl rfl rfl ?_
      refine WL.off rfl rfl rfl rfl ?_
      refine WL.offU rfl rfl rfl ?_
      refine WL.offU rfl rfl rfl ?_
      refine WL.offU rfl rfl rfl ?_
      refine WL.offU rfl rfl rfl ?_
      refine WL.off rfl rfl rfl rfl ?_
      refine WL.y (Yl.pickF rfl rfl) rfl ?_
      refine WL.y (Yl.assign rfl) rfl ?_
      refine WL.y (Yl.assign rfl) rfl ?_
      refine WL.y (Yl.assign rfl) rfl ?_
      refine WL.nil ?_
      refine WC.ret ?_
      repeat (with_reducible (first | refine peelT ?_ | refine peelB ?_ | refine peelTX ?_ | refine peelBX ?_ | refine peelBN ?_ | refine peelBO rfl ?_))
      have q57 := g57
      simp at q57
      exact ret3 (.inr rfl) Tryz.results76 rfl rfl rfl fun w' h => ⟨(n, at1, false), hI.done hend ⟨(fun e => nomatch e), (fun e => by omega)⟩, rfl, h.sub (by repeat' constructor)⟩
/-! ### The table -/
theorem flt_mem : ∀ {K : List Int} {q : Int}, K.Pairwise (· < ·) → q ∈ K → K.filter (fun k => decide (k < q + 1)) = K.filter (fun k => decide (k < q)) ++ [q]
  | [], _, _, h => by cases h
  | k :: K, q, hp, h => by
    rw [List.pairwise_cons] at hp
    have h0 : ∀ r, r ≤ k + 1 → K.filter (fun x => decide (x < r)) = [] := fun r hr => List.filter_eq_nil_iff.2 fun x hx => by
      have := hp.1 x hx
      simp
      omega
    by_cases e : q = k
    · subst e
      rw [List.filter_cons, if_pos (by simp; omega), h0 (q + 1) (by omega), List.filter_cons, if_neg (by simp), h0 q (by omega)]
      rfl
    · have hq : q ∈ K := by rcases List.mem_cons.1 h with h | h; exact absurd h e; exact h
      have hk := hp.1 q hq
      rw [List.filter_cons, if_pos (by simp; omega), List.filter_cons, if_pos (by simpa using hk), flt_mem hp.2 hq]
      rfl
theorem flt_not {K : List Int} {q : Int} (h : q ∉ K) : K.filter (fun k => decide (k < q + 1)) = K.filter (fun k => decide (k < q)) := by
  refine List.filter_congr fun x hx => ?_
  have : x ≠ q := fun e => h (e ▸ hx)
  rw [Bool.eq_iff_iff]
  simp
  omega
/-- The table's text when these accounts were told. -/
def tbV (xs : List Rc) (q : Int) : List (Int × Sm) := ((byK (fun r : Rc => r.peer) xs).filter fun k => decide (k < q)).map fun k => (k, sumS (selS (fun r : Rc => r.peer) k xs))
def tbF (xs : List Rc) (q : Int) : List Int := headI ++ rowsI (tbV xs q)
theorem tbF_zero {xs : List Rc} (h : ROk xs) : tbF xs 0 = headI := by
  unfold tbF tbV
  rw [List.filter_eq_nil_iff.2 fun k hk => by
    obtain ⟨x, hx, rfl⟩ := (byK_mem (fun r : Rc => r.peer)).1 hk
    have := (h x hx).peer
    unfold U8 at this
    simp
    omega]
  show headI ++ [] = _
  rw [List.append_nil]
theorem tbF_all {xs : List Rc} (h : ROk xs) : tbF xs 256 = tabI xs := by
  unfold tbF tbV tabI byV
  rw [List.filter_eq_self.2 fun k hk => by
    obtain ⟨x, hx, rfl⟩ := (byK_mem (fun r : Rc => r.peer)).1 hk
    have := (h x hx).peer
    unfold U8 at this
    simp
    omega]
theorem selS_nilB {key : Rc → Int} {k : Int} {xs : List Rc} : selS key k xs = [] ↔ k ∉ byK key xs := by
  rw [byK_mem]
  unfold selS
  rw [List.filter_eq_nil_iff]
  constructor
  · rintro h ⟨x, hx, e⟩
    exact h x hx (by simpa using e)
  · intro h x hx e
    exact h ⟨x, hx, by simpa using e⟩
theorem tbF_not {xs : List Rc} {q : Int} (h : selS (fun r : Rc => r.peer) q xs = []) : tbF xs (q + 1) = tbF xs q := by
  unfold tbF tbV
  rw [flt_not (selS_nilB.1 h)]
theorem tbF_mem {xs : List Rc} {q : Int} (h : selS (fun r : Rc => r.peer) q xs ≠ []) : tbF xs (q + 1) = tbF xs q ++ lineI q (smN (sumS (selS (fun r : Rc => r.peer) q xs))) := by
  unfold tbF tbV
  rw [flt_mem (byK_lt (fun r : Rc => r.peer) xs) (Classical.not_not.1 fun q => h (selS_nilB.2 q)), List.map_append, List.map_singleton, rowsI_snoc, List.append_assoc]
theorem tbF_len {xs : List Rc} (h : ROk xs) (hl : xs.length ≤ 1000000) (q : Int) : (tbF xs q).length ≤ 200000000 := by
  have h1 : ∀ p ∈ tbV xs q, U8 p.1 ∧ p.2.ok := fun p hp => by
    obtain ⟨k, hk, rfl⟩ := List.mem_map.1 hp
    exact byV_u8 h _ (List.mem_map.2 ⟨k, (List.mem_filter.1 hk).1, rfl⟩)
  have h2 := rowsI_len h1
  have h3 : (tbV xs q).length ≤ xs.length := by
    unfold tbV
    rw [List.length_map]
    have := List.length_filter_le (fun k => decide (k < q)) (byK (fun r : Rc => r.peer) xs)
    have := byV_le (fun r : Rc => r.peer) xs
    have := byV_len (fun r : Rc => r.peer) xs
    omega
  unfold tbF
  rw [List.length_append, headI_len]
  omega
set_option maxRecDepth 100000 in
set_option maxHeartbeats 1600000 in
theorem refTable_any (v : Value) (xs : List Rc) (hG : ROk xs) (hl : xs.length ≤ 1000000) (w : World) (hx : RdS w (fpL []) v 22 xs.length (vcs rcV xs)) (hw : OK w (fpL []) [] w) :
    Fn Tryz.prog 35 [v] [] w (fun _ : Unit => True) (fun _ => strV (tabI xs)) (fun _ => []) := by
  obtain ⟨al, cl, rfl, hcl, hml⟩ := hx.rd.form
  refine enterF Tryz.func35 rfl Tryz.ntmps35 rfl hw ?_
  refine WC.seq ?_
  refine WC.region ?_
  refine WL.y (Yl.assign rfl) rfl ?_
  refine WL.nil ?_
  refine WC.seq ?_
  refine WC.region ?_
  refine WL.y (Yl.assign rfl) rfl ?_
  refine WL.nil ?_
  refine WC.seq ?_
  refine WC.seq ?_
  refine WC.region ?_
  refine WL.y (Yl.assign rfl) rfl ?_
  refine WL.nil ?_
  refine WC.block ?_
  refine WC.loop (α := Nat) (fun q => [(0, .slice al xs.length cl), (3, strV (tbF xs (q : Int))), (4, .int .i64 (q : Int))]) (fun _ => []) (fun q => q ≤ 256) (fun q => 256 - q) 0 (by decide) ⟨by rw [show ((0 : Nat) : Int) = 0 from rfl, tbF_zero hG]; exact (by repeat' constructor), _, (by repeat' constructor)⟩ ?_
  intro q hq
  refine WC.seq ?_
  refine WC.seq ?_
  refine WC.region ?_
  refine WL.y (Yl.move rfl) rfl ?_
  refine WL.y (Yl.lss rfl rfl) rfl ?_
  refine WL.nil ?_
  refine WC.condD rfl (fun g10 => ?_) (fun g10 => ?_)
  · refine WC.skip ?_
    refine WC.seq ?_
    refine WC.block ?_
    refine WC.seq ?_
    refine WC.region ?_
    have hq2 : q < 256 := by omega
    refine WL.y (Yl.move rfl) rfl ?_
    refine WL.y (Yl.move rfl) rfl ?_
    refine WL.y (Yl.conv un3 un5 rfl (show IntKind.u8.wrap (q : Int) = (q : Int) by rw [IntKind.wrap_u8]; omega)) rfl ?_
    refine WL.callC (xs := [.tmp 13, .tmp 15]) (cap := []) rfl rfl en34 (by repeat' constructor) (fun w hw => peer_any (.slice al xs.length cl) xs hG hl (q : Int) w (hw.srcS hx) hw.left.here) rfl ?_
    rintro ⟨a16, c16⟩ -
    try dsimp only [List.cons_append, List.nil_append]
    have hO : ROk (selS (fun r : Rc => r.peer) (q : Int) xs) := selS_ok (fun r : Rc => r.peer) hG (q : Int)
    have hOl := sel_len (fun r : Rc => r.peer) (q : Int) xs
    have hOn := fun h => tbF_not (xs := xs) (q := (q : Int)) h
    have hOm := fun h => tbF_mem (xs := xs) (q := (q : Int)) h
    generalize selS (fun r : Rc => r.peer) (q : Int) xs = O at hO hOl hOn hOm ⊢
    have hsO := sumS_ok hO
    refine WL.y (Yl.assign rfl) rfl ?_
    refine WL.nil ?_
    refine WC.seq ?_
    refine WC.seq ?_
    refine WC.region ?_
    refine WL.y (Yl.move rfl) rfl ?_
    refine WL.y (Yl.len un33 rfl) rfl ?_
    refine WL.y (Yl.eql rfl rfl) rfl ?_
    refine WL.nil ?_
    refine WC.condD rfl (fun g19 => ?_) (fun g19 => ?_)
    · refine WC.exit ?_
      refine WC.region ?_
      refine WL.y (Yl.move rfl) rfl ?_
      refine WL.y (Yl.add rfl rfl (IntWalk.i64_in _ (by omega))) rfl ?_
      refine WL.y (Yl.assign rfl) rfl ?_
      refine WL.nil ?_
      have h0 : O = [] := List.length_eq_zero_iff.1 (by omega)
      exact ⟨rfl, q + 1, by omega, by omega, by rw [Int.natCast_succ, hOn h0]; exact (by repeat' constructor), _, (by repeat' constructor)⟩
    · refine WC.skip ?_
      refine WC.seq ?_
      refine WC.region ?_
      have h0 : ¬ O = [] := fun e => by subst e; exact g19 rfl
      have hOm := hOm h0
      refine WL.y (Yl.move rfl) rfl ?_
      refine WL.callC (xs := [.tmp 20]) (cap := []) rfl rfl en25 (by repeat' constructor) (fun w hw => refOf_any (.slice a16 O.length c16) O hO (by omega) w (hw.src (A := []) (r := ownR (.slice a16 O.length c16) 45 22 O.length (vcs rcV O)) RdOf.own (by repeat constructor)) hw.left.here) rfl ?_
      rintro ⟨⟩ -
      generalize sumS O = S at hsO hOm ⊢
      have hol := hsO.ol
      have hsn := smN_ok hsO
      have h3 : S.oc[3]? = some (S.oc.getD 3 0) := getD_ofI (by omega)
      refine WL.to (To.alloc (cs := Sm.zero.cells) zr72 rfl) rfl ?_
      intro b6
      refine WL.sto (Sto.agg sz72 rfl rfl (by repeat constructor) (Sm.ones _) (Sm.cells_len hol) (by rfl) (putAll rfl)) (fun _ h => nomatch h) ?_
      refine WL.nil ?_
      refine WC.seq ?_
      refine WC.region ?_
      refine WL.y (Yl.field fo72_0 rfl) rfl ?_
      refine WL.y (Yl.load on34 rfl (by repeat constructor) (Sm.g0 S)) rfl ?_
      refine WL.y (Yl.field fo72_1 rfl) rfl ?_
      refine WL.y (Yl.load on34 rfl (by repeat constructor) (Sm.g1 S)) rfl ?_
      refine WL.y (Yl.field fo72_2 rfl) rfl ?_
      refine WL.y (Yl.load on34 rfl (by repeat constructor) (Sm.g2 S)) rfl ?_
      refine WL.y (Yl.field fo72_4 rfl) rfl ?_
      refine WL.y (Yl.load on34 rfl (by repeat constructor) (Sm.g11 hol)) rfl ?_
      refine WL.y (Yl.field fo72_5 rfl) rfl ?_
      refine WL.y (Yl.load on34 rfl (by repeat constructor) (Sm.g12 hol)) rfl ?_
      refine WL.y (Yl.field fo72_3 rfl) rfl ?_
      refine WL.y (Yl.indexA (j := 3) un35 sz34 rfl rfl rfl (by omega)) rfl ?_
      refine WL.y (Yl.load on34 rfl (by repeat constructor) (Sm.ocAt hol (i := 3) h3 rfl)) rfl ?_
      refine WL.to (To.buildSlice (vs := [.int .u64 S.n, .int .u64 S.o, .int .u64 S.t, .int .u64 S.tk, .int .u64 S.lg, .int .u64 (S.oc.getD 3 0)]) un48 zs34 rfl rfl (by simp [Value.cells]) (by decide) (by decide)) rfl ?_
      intro b35
      rw [show flat [Value.int .u64 S.n, .int .u64 S.o, .int .u64 S.t, .int .u64 S.tk, .int .u64 S.lg, .int .u64 (S.oc.getD 3 0)] = ints .u64 (smN S) from rfl]
      refine WL.y (Yl.assign rfl) rfl ?_
      refine WL.nil ?_
      refine WC.seq ?_
      refine WC.region ?_
      refine WL.y (Yl.move rfl) rfl ?_
      refine WL.y (Yl.move rfl) rfl ?_
      refine WL.y (Yl.conv un3 un34 rfl (show IntKind.u64.wrap (q : Int) = (q : Int) by rw [IntKind.wrap_u64]; omega)) rfl ?_
      refine WL.callC (xs := [.tmp 38]) (cap := []) rfl rfl en74 (by repeat' constructor) (fun w hw => digits_any q (by omega) w hw.left.here) rfl ?_
      rintro ⟨⟩ -
      have hql := decI_len (u := q) (by omega)
      have hBl := tbF_len hG hl (q : Int)
      generalize tbF xs (q : Int) = B at hBl hOm ⊢
      refine WL.y (Yl.sAdd (xs := B) (ys := decI q) (by omega) rfl rfl) rfl ?_
      refine WL.y (Yl.assign rfl) rfl ?_
      refine WL.nil ?_
      refine WC.seq ?_
      refine WC.seq ?_
      refine WC.region ?_
      refine WL.y (Yl.assign rfl) rfl ?_
      refine WL.nil ?_
      refine WC.block ?_
      refine WC.loop (α := Nat) (fun k => [(0, .slice al xs.length cl), (3, strV (B ++ decI q ++ numI ((smN S).take k))), (4, .int .i64 (q : Int)), (7, .slice (some ⟨b35, 0, none⟩) 6 6), (8, .int .i64 (k : Int))]) (fun _ => [blkR b35 34 (ints .u64 (smN S))]) (fun k => k ≤ 6) (fun k => 6 - k) 0 (Nat.zero_le _) ⟨by rw [List.take_zero, show numI [] = [] from rfl, List.append_nil]; exact (by repeat' constructor), _, (by repeat' constructor)⟩ ?_
      intro k hk
      refine WC.seq ?_
      refine WC.seq ?_
      refine WC.region ?_
      refine WL.y (Yl.move rfl) rfl ?_
      refine WL.y (Yl.lss rfl rfl) rfl ?_
      refine WL.nil ?_
      refine WC.condD rfl (fun g42 => ?_) (fun g42 => ?_)
      · refine WC.skip ?_
        refine WC.seq ?_
        refine WC.block ?_
        refine WC.region ?_
        have hk6 : k < 6 := by omega
        have hnl : (smN S).length = 6 := rfl
        obtain ⟨v, hv⟩ : ∃ v, (smN S)[k]? = some v := ⟨_, List.getElem?_eq_getElem (by omega)⟩
        have hvu := hsn v (List.mem_of_getElem? hv)
        obtain ⟨vn, rfl⟩ : ∃ vn : Nat, v = (vn : Int) := ⟨v.toNat, by unfold U64 at hvu; omega⟩
        have hvn : vn < 18446744073709551616 := by unfold U64 at hvu; omega
        have hvl := decI_len hvn
        have hnk : B ++ decI q ++ numI ((smN S).take (k + 1)) = B ++ decI q ++ numI ((smN S).take k) ++ [32] ++ decI vn := by
          rw [← take_snoc _ _ _ hv, numI_snoc]
          simp
        have hnkl := numI_len (l := (smN S).take k) fun x hx => hsn x (List.mem_of_mem_take hx)
        rw [List.length_take] at hnkl
        have hlen : (B ++ decI q ++ numI ((smN S).take k)).length ≤ 300000000 := by simp only [List.length_append]; omega
        refine WL.y (Yl.move rfl) rfl ?_
        refine WL.y (Yl.sAdd (xs := B ++ decI q ++ numI ((smN S).take k)) (ys := [32]) (by simp only [List.length_cons, List.length_nil]; omega) rfl rfl) rfl ?_
        refine WL.y (Yl.move rfl) rfl ?_
        refine WL.y (Yl.move rfl) rfl ?_
        refine WL.y (Yl.index un48 sz34 rfl rfl (Reads.of (RdOf.blk (b := b35) (off := 0) (size := 1) (n := 6) (cap := 6) (T := 34) (cs := ints .u64 (smN S)) (cs' := ints .u64 (smN S)) (Nat.le_refl _) (by unfold maxLen; omega) (by rw [ints_length]; exact Nat.le_refl _) (by rw [List.drop_zero, Nat.mul_one, List.take_of_length_le (by rw [ints_length]; exact Nat.le_refl _)])) (by repeat constructor)) rfl (by omega)) rfl ?_
        refine WL.y (Yl.loadE (j := k) (u := .int .u64 (vn : Int)) on34 rfl (Reads.of (RdOf.blk (b := b35) (off := 0) (size := 1) (n := 6) (cap := 6) (T := 34) (cs := ints .u64 (smN S)) (cs' := ints .u64 (smN S)) (Nat.le_refl _) (by unfold maxLen; omega) (by rw [ints_length]; exact Nat.le_refl _) (by rw [List.drop_zero, Nat.mul_one, List.take_of_length_le (by rw [ints_length]; exact Nat.le_refl _)])) (by repeat constructor)) (by rw [mapU_at hv])) rfl ?_
        refine WL.callC (xs := [.tmp 50]) (cap := []) rfl rfl en74 (by repeat' constructor) (fun w hw => digits_any vn hvn w hw.left.here) rfl ?_
        rintro ⟨⟩ -
        refine WL.y (Yl.sAdd (xs := B ++ decI q ++ numI ((smN S).take k) ++ [32]) (ys := decI vn) (by rw [List.length_append]; simp only [List.length_cons, List.length_nil]; omega) rfl rfl) rfl ?_
        refine WL.y (Yl.assign rfl) rfl ?_
        refine WL.nil ?_
        refine WC.region ?_
        refine WL.y (Yl.move rfl) rfl ?_
        refine WL.y (Yl.add rfl rfl (IntWalk.i64_in _ (by omega))) rfl ?_
        refine WL.y (Yl.assign rfl) rfl ?_
        refine WL.nil ?_
        exact ⟨rfl, k + 1, by omega, by omega, by rw [hnk]; exact (by repeat' constructor), _, (by repeat' constructor)⟩
      · refine WC.exit ?_
        refine WC.region ?_
        obtain rfl : k = 6 := by omega
        have hnkl := numI_len hsn
        have hnl : (smN S).length = 6 := rfl
        rw [show (smN S).take 6 = smN S from rfl]
        refine WL.y (Yl.move rfl) rfl ?_
        refine WL.y (Yl.sAdd (xs := B ++ decI q ++ numI (smN S)) (ys := [10]) (by simp only [List.length_append, List.length_cons, List.length_nil]; omega) rfl rfl) rfl ?_
        refine WL.y (Yl.assign rfl) rfl ?_
        refine WL.nil ?_
        refine WC.region ?_
        refine WL.y (Yl.move rfl) rfl ?_
        refine WL.y (Yl.add rfl rfl (IntWalk.i64_in _ (by omega))) rfl ?_
        refine WL.y (Yl.assign rfl) rfl ?_
        refine WL.nil ?_
        exact ⟨rfl, q + 1, by omega, by omega, by rw [Int.natCast_succ, hOm, show B ++ lineI (q : Int) (smN S) = B ++ decI q ++ numI (smN S) ++ [10] by unfold lineI; simp]; exact (by repeat' constructor), _, (by repeat' constructor)⟩
  · refine WC.exit ?_
    refine WC.seq ?_
    refine WC.region ?_
    obtain rfl : q = 256 := by omega
    rw [show ((256 : Nat) : Int) = 256 from rfl, tbF_all hG]
    refine WL.y (Yl.move rfl) rfl ?_
    refine WL.y (Yl.assign rfl) rfl ?_
    refine WL.nil ?_
    refine WC.ret ?_
    repeat (with_reducible (first | refine peelT ?_ | refine peelB ?_ | refine peelTX ?_ | refine peelBX ?_ | refine peelBN ?_ | refine peelBO rfl ?_))
    exact ret1 (.inr rfl) Tryz.results35 rfl fun w' h => ⟨(), trivial, rfl, h.sub (by repeat' constructor)⟩
end Go.Proofs.YtbgimajbehodnaaGreatDoor

namespace Go.Proofs.YtbgimajbehodnaaGreatDoor
open Go Go.RowKit
/-- A row in memory: where it lies, its numbers. -/
abbrev Rw := (Option Addr × Nat) × Int × List Int
def Rw.v (r : Rw) : Value := .slice r.1.1 7 r.1.2
def Rw.l (r : Rw) : List Int := r.2.1 :: r.2.2
def Rw.res (r : Rw) : Res := ownR r.v 34 1 7 (ints .u64 r.l)
def rwsA (R : List Rw) : List Res := R.map Rw.res
def rwsV (R : List Rw) : List Value := R.map Rw.v
theorem rwsV_ones (R : List Rw) : ∀ v ∈ rwsV R, v.oneCell' = true := by
  intro v hv
  obtain ⟨r, _, rfl⟩ := List.mem_map.1 hv
  rfl
theorem rws_rd {R : List Rw} {i : Nat} {r : Rw} (h : R[i]? = some r) : RdOf (bunR (rwsA R)) r.v 1 7 (ints .u64 r.l) := ⟨fun _ hk => Sown.rd (hk r.res (List.mem_map.2 ⟨r, List.mem_of_getElem? h, rfl⟩))⟩
def rfV (x : Option Addr × Nat) (R : List Rw) : Value := .slice x.1 R.length x.2
/-- What the reference's Rows hands back. -/
structure RfOk (l : List Int) (R : List Rw) (ok : Bool) : Prop where
  yes : ok = true → RowsOk l (R.map (·.2))
  no : ok = false → ∀ ss, ¬ RowsOk l ss
theorem pre_take {l : List Int} : preI l = true ↔ 43 ≤ l.length ∧ l.take 43 = headI := by
  unfold preI
  rw [List.isPrefixOf_iff_prefix]
  constructor
  · rintro ⟨t, rfl⟩
    exact ⟨by rw [List.length_append, headI_len]; omega, List.take_left' headI_len⟩
  · rintro ⟨_, h⟩
    exact ⟨l.drop 43, by rw [← h, List.take_append_drop]⟩
theorem moF_lt (i : Nat) : 0 ≤ moF i ∧ moF i < 18446744073709551616 := by unfold moF; split <;> omega
theorem RoE.gd {l : List Int} {at0 at1 : Nat} {p : Int} {ns : List Int} (h : RoE l at0 (p :: ns) at1) (h0 : ns.getD 0 0 ≠ 0) (h1 : ns.getD 1 0 ≤ ns.getD 0 0) (h2 : ns.getD 2 0 ≤ ns.getD 0 0) (h3 : ns.getD 5 0 ≤ ns.getD 0 0) : RGd p ns := by
  have hl := h.len
  have h6 : ns.length = 6 := by simpa using hl
  have hp := h.n 0 p rfl
  have hu : ∀ x ∈ ns, U64 x := fun x hx => by
    obtain ⟨i, hi⟩ := List.mem_iff_getElem?.1 hx
    have := h.n (i + 1) x (by rw [List.getElem?_cons_succ]; exact hi)
    unfold moF at this
    rw [if_neg (by omega)] at this
    unfold U64
    omega
  have h00 := hu _ (List.mem_of_getElem? (getD_ofI (a := ns) (j := 0) (by omega)))
  refine ⟨?_, h6, hu, ?_, h1, h2, h3⟩
  · unfold moF at hp
    rw [if_pos rfl] at hp
    unfold U8
    omega
  · unfold U64 at h00
    omega
set_option maxRecDepth 100000 in
set_option maxHeartbeats 3200000 in
theorem refRows_any (l : List Int) (hby : Bytes l) (hl : l.length ≤ 1000000) (w : World) (hw : OK w (fpL []) [] w) :
    Fn Tryz.prog 37 [strV l] [] w (fun y : (Option Addr × Nat) × List Rw × Bool => RfOk l y.2.1 y.2.2) (fun y => .tuple #[rfV y.1 y.2.1, .bool y.2.2]) (fun y => [ownR (rfV y.1 y.2.1) 48 1 y.2.1.length (rwsV y.2.1), bunR (rwsA y.2.1)]) := by
  refine enterF Tryz.func37 rfl Tryz.ntmps37 rfl hw ?_
  refine WC.seq ?_
  refine WC.region ?_
  refine WL.y (Yl.assign rfl) rfl ?_
  refine WL.y (Yl.assign rfl) rfl ?_
  refine WL.nil ?_
  refine WC.seq ?_
  refine WC.region ?_
  refine WL.y (Yl.assign rfl) rfl ?_
  refine WL.nil ?_
  refine WC.seq ?_
  refine WC.seq ?_
  refine WC.region ?_
  refine WL.y (Yl.move rfl) rfl ?_
  refine WL.y (Yl.lenT (ys := l) un9 rfl) rfl ?_
  refine WL.y (Yl.move rfl) rfl ?_
  refine WL.y (Yl.lenT (ys := headI) un9 rfl) rfl ?_
  refine WL.y (Yl.lss rfl rfl) rfl ?_
  refine WL.y (Yl.move rfl) rfl ?_
  refine WL.both (t := 18) rfl (fun g18 => ?_) (fun g18 => ?_)
  · refine WL.off rfl rfl rfl rfl ?_
    refine WL.off rfl rfl rfl rfl ?_
    refine WL.off rfl rfl rfl rfl ?_
    refine WL.off rfl rfl rfl rfl ?_
    refine WL.off rfl rfl rfl rfl ?_
    refine WL.off rfl rfl rfl rfl ?_
    refine WL.y (Yl.pickT rfl rfl) rfl ?_
    refine WL.nil ?_
    refine WC.condT rfl (by first | rfl | (simp; done) | (simp; omega)) ?_
    refine WC.seq ?_
    refine WC.region ?_
    refine WL.y (Yl.assign rfl) rfl ?_
    refine WL.y (Yl.assign rfl) rfl ?_
    refine WL.nil ?_
    refine WC.ret ?_
    repeat (with_reducible (first | refine peelT ?_ | refine peelB ?_ | refine peelTX ?_ | refine peelBX ?_ | refine peelBN ?_ | refine peelBO rfl ?_))
    have hno : ∀ ss, ¬ RowsOk l ss := pre_no (by
      have q := g18
      rw [decide_eq_true_iff, headI_len] at q
      cases hp : preI l with
      | false => rfl
      | true => have := (pre_take.1 hp).1; omega)
    exact ret2 (.inr rfl) Tryz.results37 rfl rfl fun w' h => ⟨((none, 0), [], false), ⟨(fun e => nomatch e), fun _ => hno⟩, rfl, OK.sub (OK.bun (A := []) (h.addNil 48 1)) (by repeat' constructor)⟩
  · refine WL.on rfl rfl ?_
    have q18 := g18
    rw [decide_eq_false_iff_not] at q18
    have hl43 : 43 ≤ l.length := by rw [headI_len] at q18; omega
    refine WL.y (Yl.move rfl) rfl ?_
    refine WL.on rfl rfl ?_
    refine WL.y (Yl.move rfl) rfl ?_
    refine WL.on rfl rfl ?_
    refine WL.y (Yl.lenT (ys := headI) un9 rfl) rfl ?_
    refine WL.on rfl rfl ?_
    refine WL.y (Yl.sliceStr (l := 0) (h := 43) (ys := l) (zs := l.take 43) un9 rfl rfl ⟨_, rfl⟩ (by omega) (by omega) (by rw [List.drop_zero])) rfl ?_
    refine WL.on rfl rfl ?_
    refine WL.y (Yl.move rfl) rfl ?_
    refine WL.on rfl rfl ?_
    refine WL.y (Yl.sNeT (xs := l.take 43) (ys := headI) (fun x hx => hby x (List.mem_of_mem_take hx)) headI_bytes rfl rfl) rfl ?_
    refine WL.y (Yl.pickF rfl rfl) rfl ?_
    refine WL.nil ?_
    refine WC.condD rfl (fun g25 => ?_) (fun g25 => ?_)
    · refine WC.seq ?_
      refine WC.region ?_
      refine WL.y (Yl.assign rfl) rfl ?_
      refine WL.y (Yl.assign rfl) rfl ?_
      refine WL.nil ?_
      refine WC.ret ?_
      repeat (with_reducible (first | refine peelT ?_ | refine peelB ?_ | refine peelTX ?_ | refine peelBX ?_ | refine peelBN ?_ | refine peelBO rfl ?_))
      have hno : ∀ ss, ¬ RowsOk l ss := pre_no (by
        have q := g25
        cases hp : preI l with
        | false => rfl
        | true => have h2 := (pre_take.1 hp).2; rw [h2] at q; simp at q)
      exact ret2 (.inr rfl) Tryz.results37 rfl rfl fun w' h => ⟨((none, 0), [], false), ⟨(fun e => nomatch e), fun _ => hno⟩, rfl, OK.sub (OK.bun (A := []) (h.addNil 48 1)) (by repeat' constructor)⟩
    · refine WC.skip ?_
      refine WC.seq ?_
      refine WC.region ?_
      refine WL.y (Yl.assign rfl) rfl ?_
      refine WL.nil ?_
      refine WC.seq ?_
      refine WC.seq ?_
      refine WC.region ?_
      refine WL.y (Yl.move rfl) rfl ?_
      refine WL.y (Yl.lenT (ys := headI) un9 rfl) rfl ?_
      refine WL.y (Yl.assign rfl) rfl ?_
      refine WL.nil ?_
      refine WC.block ?_
      have q25 := g25
      have hpre : preI l = true := pre_take.2 ⟨hl43, by first | exact Classical.not_not.1 q25 | (simp at q25; exact q25)⟩
      refine WC.view (fun w h => OK.bun (A := []) (h.addNil 48 1)) ?_
      refine WC.loop (α := Nat × (Option Addr × Nat) × List Rw) (fun k => [(0, strV l), (4, strV headI), (5, .slice k.2.1.1 k.2.2.length k.2.1.2), (6, .int .i64 (k.1 : Int))]) (fun k => [ownR (.slice k.2.1.1 k.2.2.length k.2.1.2) 48 1 k.2.2.length (rwsV k.2.2), bunR (rwsA k.2.2)]) (fun k => RsI l (k.2.2.map (·.2)) k.1 ∧ k.2.2.length ≤ k.1) (fun k => l.length - k.1) (43, (none, 0), []) ⟨RsI.start hpre, Nat.zero_le _⟩ ⟨(by repeat' constructor), _, (by repeat' constructor)⟩ ?_
      rintro ⟨at0, ⟨ao, ca⟩, R⟩ ⟨hI, hRl⟩
      dsimp only at hI hRl ⊢
      have hle := hI.le
      refine WC.seq ?_
      refine WC.seq ?_
      refine WC.region ?_
      refine WL.y (Yl.move rfl) rfl ?_
      refine WL.y (Yl.move rfl) rfl ?_
      refine WL.y (Yl.lenT (ys := l) un9 rfl) rfl ?_
      refine WL.y (Yl.lss rfl rfl) rfl ?_
      refine WL.nil ?_
      refine WC.condD rfl (fun g31 => ?_) (fun g31 => ?_)
      · refine WC.skip ?_
        refine WC.seq ?_
        refine WC.block ?_
        refine WC.seq ?_
        refine WC.region ?_
        refine WL.y (Yl.assign rfl) rfl ?_
        refine WL.nil ?_
        refine WC.seq ?_
        refine WC.seq ?_
        refine WC.region ?_
        refine WL.y (Yl.assign rfl) rfl ?_
        refine WL.nil ?_
        refine WC.block ?_
        have hlt : at0 < l.length := by omega
        refine WC.view (fun w h => h.addNil 34 1) ?_
        refine WC.loop (α := Nat × Nat × (Option Addr × Nat) × List Int) (fun k => [(0, strV l), (4, strV headI), (5, .slice ao R.length ca), (6, .int .i64 (k.2.1 : Int)), (7, .slice k.2.2.1.1 k.2.2.2.length k.2.2.1.2), (8, .int .i64 (k.1 : Int))]) (fun k => [ownR (.slice ao R.length ca) 48 1 R.length (rwsV R), bunR (rwsA R), ownR (.slice k.2.2.1.1 k.2.2.2.length k.2.2.1.2) 34 1 k.2.2.2.length (ints .u64 k.2.2.2)]) (fun k => k.1 ≤ 7 ∧ (k.1 < 7 → RoI l at0 k.2.2.2 k.1 k.2.1) ∧ (k.1 = 7 → RoE l at0 k.2.2.2 k.2.1)) (fun k => 7 - k.1) (0, at0, (none, 0), []) ⟨Nat.zero_le _, fun _ => RoI.start hle, fun h => by cases h⟩ ⟨(by repeat' constructor), _, (by repeat' constructor)⟩ ?_
        rintro ⟨i, at1, ⟨ao7, c7⟩, row⟩ ⟨hi, hRo, hRe⟩
        dsimp only at hi hRo hRe ⊢
        refine WC.seq ?_
        refine WC.seq ?_
        refine WC.region ?_
        refine WL.y (Yl.move rfl) rfl ?_
        refine WL.y (Yl.lss rfl rfl) rfl ?_
        refine WL.nil ?_
        refine WC.condD rfl (fun g35 => ?_) (fun g35 => ?_)
        · refine WC.skip ?_
          refine WC.seq ?_
          refine WC.block ?_
          refine WC.seq ?_
          have hi7 : i < 7 := by omega
          have hR := hRo hi7
          have hRlen := hR.len
          have hmo := moF_lt i
          refine WC.region ?_
          refine WL.y (Yl.assign rfl) rfl ?_
          refine WL.nil ?_
          refine WC.midX (α := Unit) (fun _ => [(0, strV l), (4, strV headI), (5, .slice ao R.length ca), (6, .int .i64 (at1 : Int)), (7, .slice ao7 row.length c7), (8, .int .i64 (i : Int)), (9, .int .u64 (moF i))]) (fun _ => [ownR (.slice ao R.length ca) 48 1 R.length (rwsV R), bunR (rwsA R), ownR (.slice ao7 row.length c7) 34 1 row.length (ints .u64 row)]) (fun _ => True) ?_ ?_
          · refine WC.seq ?_
            refine WC.region ?_
            refine WL.y (Yl.move rfl) rfl ?_
            refine WL.y (Yl.eql rfl rfl) rfl ?_
            refine WL.nil ?_
            refine WC.condD rfl (fun g39 => ?_) (fun g39 => ?_)
            · refine WC.region ?_
              refine WL.y (Yl.assign rfl) rfl ?_
              refine WL.nil ?_
              rw [show moF i = 255 by unfold moF; rw [if_pos (by omega)]]
              exact ⟨rfl, (), trivial, (by repeat' constructor), _, (by repeat' constructor)⟩
            · refine WC.skip ?_
              rw [show moF i = 18446744073709551615 by unfold moF; rw [if_neg (by omega)]]
              exact ⟨rfl, (), trivial, (by repeat' constructor), _, (by repeat' constructor)⟩
          · rintro ⟨⟩ -
            refine WC.seq ?_
            refine WC.region ?_
            refine WL.y (Yl.move rfl) rfl ?_
            refine WL.y (Yl.move rfl) rfl ?_
            refine WL.y (Yl.move rfl) rfl ?_
            refine WL.callC (xs := [.tmp 41, .tmp 42, .tmp 43]) (cap := []) rfl rfl en76 (by repeat' constructor) (fun w hw => numR_any l hby (by omega) at1 hR.le2 (moF i) hmo.1 hmo.2 w hw.left.here) rfl ?_
            rintro ⟨n, e, ok⟩ hN
            dsimp only
            have hNle := hN.le
            have hNle2 := hN.le2
            refine WL.y (Yl.move rfl) rfl ?_
            refine WL.y (Yl.extract rfl rfl) rfl ?_
            refine WL.y (Yl.extract rfl rfl) rfl ?_
            refine WL.y (Yl.extract rfl rfl) rfl ?_
            refine WL.y (Yl.assign rfl) rfl ?_
            refine WL.y (Yl.assign rfl) rfl ?_
            refine WL.y (Yl.assign rfl) rfl ?_
            refine WL.nil ?_
            refine WC.seq ?_
            refine WC.seq ?_
            refine WC.region ?_
            refine WL.y (Yl.move rfl) rfl ?_
            refine WL.y (Yl.not rfl) rfl ?_
            refine WL.nil ?_
            refine WC.cond rfl (fun g49 => ?_) (fun g49 => ?_)
            · refine WC.seq ?_
              refine WC.region ?_
              refine WL.y (Yl.assign rfl) rfl ?_
              refine WL.y (Yl.assign rfl) rfl ?_
              refine WL.nil ?_
              refine WC.ret ?_
              repeat (with_reducible (first | refine peelT ?_ | refine peelB ?_ | refine peelTX ?_ | refine peelBX ?_ | refine peelBN ?_ | refine peelBO rfl ?_))
              have q49 := g49
              have hno : ∀ ss, ¬ RowsOk l ss := hI.none hlt fun p ms rest hg hl2 _ => hR.bad hi7 hN (.inl (by simpa using q49)) hg hl2
              exact ret2 (.inr rfl) Tryz.results37 rfl rfl fun w' h => ⟨((none, 0), [], false), ⟨(fun e => nomatch e), fun _ => hno⟩, rfl, OK.sub (OK.bun (A := []) (h.addNil 48 1)) (by repeat' constructor)⟩
            · refine WC.skip ?_
              refine WC.seq ?_
              refine WC.region ?_
              have hok : ok = true := by have q := g49; simpa using q
              subst hok
              have hN1 := hN.n0
              have hN2 := hN.mo
              refine WL.y (Yl.move rfl) rfl ?_
              refine WL.y (Yl.move rfl) rfl ?_
              refine WL.to (To.buildSlice (vs := [.int .u64 n]) un48 zs34 rfl rfl (by simp [Value.cells]) (by decide) (by decide)) rfl ?_
              intro b52
              rw [show flat [Value.int .u64 n] = ints .u64 [n] from rfl]
              refine WL.to (To.append sl48 rfl rfl (by repeat constructor) (Reads.of (RdOf.blk (off := 0) (size := 1) (n := 1) (cap := 1) (cs := ints .u64 [n]) (cs' := ints .u64 [n]) (Nat.le_refl _) (by unfold maxLen; omega) (by simp [ints]) (by simp [ints])) (by repeat constructor)) (ints_one _ _) (show row.length + 1 = (row ++ [n]).length by simp) (show ints .u64 row ++ ints .u64 [n] = ints .u64 (row ++ [n]) by simp [ints]) (by simp; unfold maxLen; omega) (by simp; omega)) rfl ?_
              rintro ⟨⟨ao53, c53⟩, hc53⟩
              dsimp only at hc53 ⊢
              refine WL.y (Yl.assign rfl) rfl ?_
              refine WL.nil ?_
              refine WC.seq ?_
              refine WC.region ?_
              refine WL.y (Yl.move rfl) rfl ?_
              refine WL.y (Yl.assign rfl) rfl ?_
              refine WL.nil ?_
              refine WC.seq ?_
              refine WC.region ?_
              refine WL.y (Yl.move rfl) rfl ?_
              refine WL.y (Yl.lss rfl rfl) rfl ?_
              refine WL.nil ?_
              refine WC.condD rfl (fun g56 => ?_) (fun g56 => ?_)
              · refine WC.seq ?_
                refine WC.seq ?_
                refine WC.region ?_
                refine WL.y (Yl.move rfl) rfl ?_
                refine WL.y (Yl.move rfl) rfl ?_
                refine WL.y (Yl.lenT (ys := l) un9 rfl) rfl ?_
                refine WL.y (Yl.geq rfl rfl) rfl ?_
                refine WL.y (Yl.move rfl) rfl ?_
                refine WL.both (t := 61) rfl (fun g61 => ?_) (fun g61 => ?_)
                · refine WL.off rfl rfl rfl rfl ?_
                  refine WL.off rfl rfl rfl rfl ?_
                  refine WL.off rfl rfl rfl rfl ?_
                  refine WL.off rfl rfl rfl rfl ?_
                  refine WL.y (Yl.pickT rfl rfl) rfl ?_
                  refine WL.nil ?_
                  refine WC.condT rfl (by first | rfl | (simp; done) | (simp; omega)) ?_
                  refine WC.seq ?_
                  refine WC.region ?_
                  refine WL.y (Yl.assign rfl) rfl ?_
                  refine WL.y (Yl.assign rfl) rfl ?_
                  refine WL.nil ?_
                  refine WC.ret ?_
                  repeat (with_reducible (first | refine peelT ?_ | refine peelB ?_ | refine peelTX ?_ | refine peelBX ?_ | refine peelBN ?_ | refine peelBO rfl ?_))
                  have q61 := g61
                  rw [decide_eq_true_iff] at q61
                  have hno : ∀ ss, ¬ RowsOk l ss := hI.none hlt fun p ms rest hg hl2 _ => hR.bad hi7 hN (.inr ⟨by omega, by dsimp only; rw [List.getElem?_eq_none (by omega)]; exact fun h => nomatch h⟩) hg hl2
                  exact ret2 (.inr rfl) Tryz.results37 rfl rfl fun w' h => ⟨((none, 0), [], false), ⟨(fun e => nomatch e), fun _ => hno⟩, rfl, OK.sub (OK.bun (A := []) (h.addNil 48 1)) (by repeat' constructor)⟩
                · refine WL.on rfl rfl ?_
                  have q61 := g61
                  rw [decide_eq_false_iff_not] at q61
                  have hel : e < l.length := by omega
                  obtain ⟨x, hx⟩ : ∃ x, l[e]? = some x := ⟨_, List.getElem?_eq_getElem hel⟩
                  refine WL.y (Yl.move rfl) rfl ?_
                  refine WL.on rfl rfl ?_
                  refine WL.y (Yl.move rfl) rfl ?_
                  refine WL.on rfl rfl ?_
                  refine WL.y (Yl.idxStr (j := e) (y := x) un9 rfl rfl hx hby) rfl ?_
                  refine WL.on rfl rfl ?_
                  refine WL.y (Yl.neq rfl rfl) rfl ?_
                  refine WL.y (Yl.pickF rfl rfl) rfl ?_
                  refine WL.nil ?_
                  refine WC.condD rfl (fun g66 => ?_) (fun g66 => ?_)
                  · refine WC.seq ?_
                    refine WC.region ?_
                    refine WL.y (Yl.assign rfl) rfl ?_
                    refine WL.y (Yl.assign rfl) rfl ?_
                    refine WL.nil ?_
                    refine WC.ret ?_
                    repeat (with_reducible (first | refine peelT ?_ | refine peelB ?_ | refine peelTX ?_ | refine peelBX ?_ | refine peelBN ?_ | refine peelBO rfl ?_))
                    have q66 := g66
                    have hno : ∀ ss, ¬ RowsOk l ss := hI.none hlt fun p ms rest hg hl2 _ => hR.bad hi7 hN (.inr ⟨by omega, by dsimp only; rw [hx]; intro h; cases h; first | exact q66 rfl | (simp at q66)⟩) hg hl2
                    exact ret2 (.inr rfl) Tryz.results37 rfl rfl fun w' h => ⟨((none, 0), [], false), ⟨(fun e => nomatch e), fun _ => hno⟩, rfl, OK.sub (OK.bun (A := []) (h.addNil 48 1)) (by repeat' constructor)⟩
                  · refine WC.skip ?_
                    refine WC.region ?_
                    refine WL.y (Yl.move rfl) rfl ?_
                    refine WL.y (Yl.add rfl rfl (IntWalk.i64_in _ (by omega))) rfl ?_
                    refine WL.y (Yl.assign rfl) rfl ?_
                    refine WL.nil ?_
                    refine WC.region ?_
                    refine WL.y (Yl.move rfl) rfl ?_
                    refine WL.y (Yl.add rfl rfl (IntWalk.i64_in _ (by omega))) rfl ?_
                    refine WL.y (Yl.assign rfl) rfl ?_
                    refine WL.nil ?_
                    have q66 := g66
                    have hx32 : x = 32 := by first | omega | (simp at q66; exact q66)
                    subst hx32
                    exact ⟨rfl, (i + 1, e + 1, (ao53, c53), row ++ [n]), ⟨by dsimp only; omega, fun _ => hR.step hi7 hN rfl hx, fun h => by dsimp only at h; omega⟩, by dsimp only; omega, (by repeat' constructor), _, (by repeat' constructor)⟩
              · refine WC.skip ?_
                refine WC.region ?_
                refine WL.y (Yl.move rfl) rfl ?_
                refine WL.y (Yl.add rfl rfl (IntWalk.i64_in _ (by omega))) rfl ?_
                refine WL.y (Yl.assign rfl) rfl ?_
                refine WL.nil ?_
                obtain rfl : i = 6 := by omega
                exact ⟨rfl, (7, e, (ao53, c53), row ++ [n]), ⟨Nat.le_refl _, (fun h => by dsimp only at h; omega), fun _ => hR.last hN rfl⟩, by dsimp only; omega, (by repeat' constructor), _, (by repeat' constructor)⟩
        · refine WC.exit ?_
          refine WC.seq ?_
          refine WC.seq ?_
          obtain rfl : i = 7 := by omega
          have hE := hRe rfl
          obtain ⟨p, ns, rfl, htext⟩ := hE.text
          have hEl := hE.len
          have h6 : ns.length = 6 := by simpa using hEl
          have hEle := hE.le
          have hEle2 := hE.le2
          have v0 := getD_ofI (a := ns) (j := 0) (by omega)
          have v1 := getD_ofI (a := ns) (j := 1) (by omega)
          have v2 := getD_ofI (a := ns) (j := 2) (by omega)
          have v5 := getD_ofI (a := ns) (j := 5) (by omega)
          have hnoE : (∀ ms rest, RGd p ms → ns = ms → l.drop at1 = 10 :: rest → (∀ z, 0 < (R.map (·.2)).length → (R.map (·.2))[(R.map (·.2)).length - 1]? = some z → z.1 < p) → False) → ∀ ss, ¬ RowsOk l ss := fun hh => hI.none hlt fun p' ms rest hg hl2 hz => by
            obtain ⟨e1, e2⟩ := hE.no p' ms rest hg hl2
            cases e1
            exact hh ns rest hg rfl e2 hz
          refine WC.drawRead mixed (by kernel_rfl) ?_
          refine WH.y (Yl.move rfl) rfl ?_
          refine WH.y (Yl.move rfl) rfl ?_
          refine WH.y (Yl.lenT (ys := l) un9 rfl) rfl ?_
          refine WH.y (Yl.geq rfl rfl) rfl ?_
          refine WH.y (Yl.move rfl) rfl ?_
          refine WH.both (t := 73) rfl (fun g73 => ?_) (fun g73 => ?_)
          · refine WH.off rfl rfl rfl rfl ?_
            refine WH.off rfl rfl rfl rfl ?_
            refine WH.off rfl rfl rfl rfl ?_
            refine WH.off rfl rfl rfl rfl ?_
            refine WH.y (Yl.pickT rfl rfl) rfl ?_
            refine WH.y (Yl.move rfl) rfl ?_
            refine WH.off rfl rfl rfl rfl ?_
            refine WH.off rfl rfl rfl rfl ?_
            refine WH.off rfl rfl rfl rfl ?_
            refine WH.off rfl rfl rfl rfl ?_
            refine WH.y (Yl.pickT rfl rfl) rfl ?_
            refine WH.y (Yl.move rfl) rfl ?_
            refine WH.off rfl rfl rfl rfl ?_
            refine WH.off rfl rfl rfl rfl ?_
            refine WH.off rfl rfl rfl rfl ?_
            refine WH.off rfl rfl rfl rfl ?_
            refine WH.off rfl rfl rfl rfl ?_
            refine WH.off rfl rfl rfl rfl ?_
            refine WH.off rfl rfl rfl rfl ?_
            refine WH.y (Yl.pickT rfl rfl) rfl ?_
            refine WH.y (Yl.move rfl) rfl ?_
            refine WH.off rfl rfl rfl rfl ?_
            refine WH.off rfl rfl rfl rfl ?_
            refine WH.off rfl rfl rfl rfl ?_
            refine WH.off rfl rfl rfl rfl ?_
            refine WH.off rfl rfl rfl rfl ?_
            refine WH.off rfl rfl rfl rfl ?_
            refine WH.off rfl rfl rfl rfl ?_
            refine WH.y (Yl.pickT rfl rfl) rfl ?_
            refine WH.y (Yl.move rfl) rfl ?_
            refine WH.off rfl rfl rfl rfl ?_
            refine WH.off rfl rfl rfl rfl ?_
            refine WH.off rfl rfl rfl rfl ?_
            refine WH.off rfl rfl rfl rfl ?_
            refine WH.off rfl rfl rfl rfl ?_
            refine WH.off rfl rfl rfl rfl ?_
            refine WH.off rfl rfl rfl rfl ?_
            refine WH.y (Yl.pickT rfl rfl) rfl ?_
            refine WH.nil ?_
            refine WC.condT rfl (by first | rfl | (simp; done) | (simp; omega)) ?_
            refine WC.seq ?_
            refine WC.region ?_
            refine WL.y (Yl.assign rfl) rfl ?_
            refine WL.y (Yl.assign rfl) rfl ?_
            refine WL.nil ?_
            refine WC.ret ?_
            repeat (with_reducible (first | refine peelT ?_ | refine peelB ?_ | refine peelTX ?_ | refine peelBX ?_ | refine peelBN ?_ | refine peelBO rfl ?_))
            have q := g73
            rw [decide_eq_true_iff] at q
            have hno := hnoE fun ms rest hg e1 e2 _ => by rw [List.drop_of_length_le (by omega)] at e2; cases e2
            exact ret2 (.inr rfl) Tryz.results37 rfl rfl fun w' h => ⟨((none, 0), [], false), ⟨(fun e => nomatch e), fun _ => hno⟩, rfl, OK.sub (OK.bun (A := []) (h.addNil 48 1)) (by repeat' constructor)⟩
          · refine WH.on rfl rfl ?_
            have q73 := g73
            rw [decide_eq_false_iff_not] at q73
            obtain ⟨x, hx⟩ : ∃ x, l[at1]? = some x := ⟨_, List.getElem?_eq_getElem (by omega)⟩
            refine WH.y (Yl.move rfl) rfl ?_
            refine WH.on rfl rfl ?_
            refine WH.y (Yl.move rfl) rfl ?_
            refine WH.on rfl rfl ?_
            refine WH.y (Yl.idxStr (j := at1) (y := x) un9 rfl rfl hx hby) rfl ?_
            refine WH.on rfl rfl ?_
            refine WH.y (Yl.neq rfl rfl) rfl ?_
            refine WH.y (Yl.pickF rfl rfl) rfl ?_
            refine WH.y (Yl.move rfl) rfl ?_
            refine WH.both (t := 79) rfl (fun g79 => ?_) (fun g79 => ?_)
            · refine WH.off rfl rfl rfl rfl ?_
              refine WH.off rfl rfl rfl rfl ?_
              refine WH.off rfl rfl rfl rfl ?_
              refine WH.off rfl rfl rfl rfl ?_
              refine WH.y (Yl.pickT rfl rfl) rfl ?_
              refine WH.y (Yl.move rfl) rfl ?_
              refine WH.off rfl rfl rfl rfl ?_
              refine WH.off rfl rfl rfl rfl ?_
              refine WH.off rfl rfl rfl rfl ?_
              refine WH.off rfl rfl rfl rfl ?_
              refine WH.off rfl rfl rfl rfl ?_
              refine WH.off rfl rfl rfl rfl ?_
              refine WH.off rfl rfl rfl rfl ?_
              refine WH.y (Yl.pickT rfl rfl) rfl ?_
              refine WH.y (Yl.move rfl) rfl ?_
              refine WH.off rfl rfl rfl rfl ?_
              refine WH.off rfl rfl rfl rfl ?_
              refine WH.off rfl rfl rfl rfl ?_
              refine WH.off rfl rfl rfl rfl ?_
              refine WH.off rfl rfl rfl rfl ?_
              refine WH.off rfl rfl rfl rfl ?_
              refine WH.off rfl rfl rfl rfl ?_
              refine WH.y (Yl.pickT rfl rfl) rfl ?_
              refine WH.y (Yl.move rfl) rfl ?_
              refine WH.off rfl rfl rfl rfl ?_
              refine WH.off rfl rfl rfl rfl ?_
              refine WH.off rfl rfl rfl rfl ?_
              refine WH.off rfl rfl rfl rfl ?_
              refine WH.off rfl rfl rfl rfl ?_
              refine WH.off rfl rfl rfl rfl ?_
              refine WH.off rfl rfl rfl rfl ?_
              refine WH.y (Yl.pickT rfl rfl) rfl ?_
              refine WH.nil ?_
              refine WC.condT rfl (by first | rfl | (simp; done) | (simp; omega)) ?_
              refine WC.seq ?_
              refine WC.region ?_
              refine WL.y (Yl.assign rfl) rfl ?_
              refine WL.y (Yl.assign rfl) rfl ?_
              refine WL.nil ?_
              refine WC.ret ?_
              repeat (with_reducible (first | refine peelT ?_ | refine peelB ?_ | refine peelTX ?_ | refine peelBX ?_ | refine peelBN ?_ | refine peelBO rfl ?_))
              have q := g79
              rw [decide_eq_true_iff] at q
              have hno := hnoE fun ms rest hg e1 e2 _ => by
                have e3 := congrArg (fun z => z[0]?) e2
                simp [List.getElem?_drop, hx] at e3
                exact q e3
              exact ret2 (.inr rfl) Tryz.results37 rfl rfl fun w' h => ⟨((none, 0), [], false), ⟨(fun e => nomatch e), fun _ => hno⟩, rfl, OK.sub (OK.bun (A := []) (h.addNil 48 1)) (by repeat' constructor)⟩
            · refine WH.on rfl rfl ?_
              refine WH.y (Yl.move rfl) rfl ?_
              refine WH.on rfl rfl ?_
              refine WH.y (Yl.index (j := 1) un48 sz34 rfl rfl (Reads.of (r := ownR (.slice ao7 (p :: ns).length c7) 34 1 (p :: ns).length (ints .u64 (p :: ns))) RdOf.own (by repeat constructor)) rfl (by omega)) rfl ?_
              refine WH.on rfl rfl ?_
              refine WH.y (Yl.loadE (j := 1) (u := .int .u64 (ns.getD 0 0)) on34 rfl (Reads.of (r := ownR (.slice ao7 (p :: ns).length c7) 34 1 (p :: ns).length (ints .u64 (p :: ns))) RdOf.own (by repeat constructor)) (mapU_at v0)) rfl ?_
              refine WH.on rfl rfl ?_
              refine WH.y (Yl.eql rfl rfl) rfl ?_
              refine WH.y (Yl.pickF rfl rfl) rfl ?_
              refine WH.y (Yl.move rfl) rfl ?_
              refine WH.both (t := 85) rfl (fun g85 => ?_) (fun g85 => ?_)
              · refine WH.off rfl rfl rfl rfl ?_
                refine WH.off rfl rfl rfl rfl ?_
                refine WH.off rfl rfl rfl rfl ?_
                refine WH.off rfl rfl rfl rfl ?_
                refine WH.off rfl rfl rfl rfl ?_
                refine WH.off rfl rfl rfl rfl ?_
                refine WH.off rfl rfl rfl rfl ?_
                refine WH.y (Yl.pickT rfl rfl) rfl ?_
                refine WH.y (Yl.move rfl) rfl ?_
                refine WH.off rfl rfl rfl rfl ?_
                refine WH.off rfl rfl rfl rfl ?_
                refine WH.off rfl rfl rfl rfl ?_
                refine WH.off rfl rfl rfl rfl ?_
                refine WH.off rfl rfl rfl rfl ?_
                refine WH.off rfl rfl rfl rfl ?_
                refine WH.off rfl rfl rfl rfl ?_
                refine WH.y (Yl.pickT rfl rfl) rfl ?_
                refine WH.y (Yl.move rfl) rfl ?_
                refine WH.off rfl rfl rfl rfl ?_
                refine WH.off rfl rfl rfl rfl ?_
                refine WH.off rfl rfl rfl rfl ?_
                refine WH.off rfl rfl rfl rfl ?_
                refine WH.off rfl rfl rfl rfl ?_
                refine WH.off rfl rfl rfl rfl ?_
                refine WH.off rfl rfl rfl rfl ?_
                refine WH.y (Yl.pickT rfl rfl) rfl ?_
                refine WH.nil ?_
                refine WC.condT rfl (by first | rfl | (simp; done) | (simp; omega)) ?_
                refine WC.seq ?_
                refine WC.region ?_
                refine WL.y (Yl.assign rfl) rfl ?_
                refine WL.y (Yl.assign rfl) rfl ?_
                refine WL.nil ?_
                refine WC.ret ?_
                repeat (with_reducible (first | refine peelT ?_ | refine peelB ?_ | refine peelTX ?_ | refine peelBX ?_ | refine peelBN ?_ | refine peelBO rfl ?_))
                have q := g85
                rw [decide_eq_true_iff] at q
                have hno := hnoE fun ms rest hg e1 e2 _ => by subst e1; have := hg.pos; omega
                exact ret2 (.inr rfl) Tryz.results37 rfl rfl fun w' h => ⟨((none, 0), [], false), ⟨(fun e => nomatch e), fun _ => hno⟩, rfl, OK.sub (OK.bun (A := []) (h.addNil 48 1)) (by repeat' constructor)⟩
              · refine WH.on rfl rfl ?_
                refine WH.y (Yl.move rfl) rfl ?_
                refine WH.on rfl rfl ?_
                refine WH.y (Yl.index (j := 2) un48 sz34 rfl rfl (Reads.of (r := ownR (.slice ao7 (p :: ns).length c7) 34 1 (p :: ns).length (ints .u64 (p :: ns))) RdOf.own (by repeat constructor)) rfl (by omega)) rfl ?_
                refine WH.on rfl rfl ?_
                refine WH.y (Yl.loadE (j := 2) (u := .int .u64 (ns.getD 1 0)) on34 rfl (Reads.of (r := ownR (.slice ao7 (p :: ns).length c7) 34 1 (p :: ns).length (ints .u64 (p :: ns))) RdOf.own (by repeat constructor)) (mapU_at v1)) rfl ?_
                refine WH.on rfl rfl ?_
                refine WH.y (Yl.move rfl) rfl ?_
                refine WH.on rfl rfl ?_
                refine WH.y (Yl.index (j := 1) un48 sz34 rfl rfl (Reads.of (r := ownR (.slice ao7 (p :: ns).length c7) 34 1 (p :: ns).length (ints .u64 (p :: ns))) RdOf.own (by repeat constructor)) rfl (by omega)) rfl ?_
                refine WH.on rfl rfl ?_
                refine WH.y (Yl.loadE (j := 1) (u := .int .u64 (ns.getD 0 0)) on34 rfl (Reads.of (r := ownR (.slice ao7 (p :: ns).length c7) 34 1 (p :: ns).length (ints .u64 (p :: ns))) RdOf.own (by repeat constructor)) (mapU_at v0)) rfl ?_
                refine WH.on rfl rfl ?_
                refine WH.y (Yl.gtr rfl rfl) rfl ?_
                refine WH.y (Yl.pickF rfl rfl) rfl ?_
                refine WH.y (Yl.move rfl) rfl ?_
                refine WH.both (t := 94) rfl (fun g94 => ?_) (fun g94 => ?_)
                · refine WH.off rfl rfl rfl rfl ?_
                  refine WH.off rfl rfl rfl rfl ?_
                  refine WH.off rfl rfl rfl rfl ?_
                  refine WH.off rfl rfl rfl rfl ?_
                  refine WH.off rfl rfl rfl rfl ?_
                  refine WH.off rfl rfl rfl rfl ?_
                  refine WH.off rfl rfl rfl rfl ?_
                  refine WH.y (Yl.pickT rfl rfl) rfl ?_
                  refine WH.y (Yl.move rfl) rfl ?_
                  refine WH.off rfl rfl rfl rfl ?_
                  refine WH.off rfl rfl rfl rfl ?_
                  refine WH.off rfl rfl rfl rfl ?_
                  refine WH.off rfl rfl rfl rfl ?_
                  refine WH.off rfl rfl rfl rfl ?_
                  refine WH.off rfl rfl rfl rfl ?_
                  refine WH.off rfl rfl rfl rfl ?_
                  refine WH.y (Yl.pickT rfl rfl) rfl ?_
                  refine WH.nil ?_
                  refine WC.condT rfl (by first | rfl | (simp; done) | (simp; omega)) ?_
                  refine WC.seq ?_
                  refine WC.region ?_
                  refine WL.y (Yl.assign rfl) rfl ?_
                  refine WL.y (Yl.assign rfl) rfl ?_
                  refine WL.nil ?_
                  refine WC.ret ?_
                  repeat (with_reducible (first | refine peelT ?_ | refine peelB ?_ | refine peelTX ?_ | refine peelBX ?_ | refine peelBN ?_ | refine peelBO rfl ?_))
                  have q := g94
                  rw [decide_eq_true_iff] at q
                  have hno := hnoE fun ms rest hg e1 e2 _ => by subst e1; have := hg.o; omega
                  exact ret2 (.inr rfl) Tryz.results37 rfl rfl fun w' h => ⟨((none, 0), [], false), ⟨(fun e => nomatch e), fun _ => hno⟩, rfl, OK.sub (OK.bun (A := []) (h.addNil 48 1)) (by repeat' constructor)⟩
                · refine WH.on rfl rfl ?_
                  refine WH.y (Yl.move rfl) rfl ?_
                  refine WH.on rfl rfl ?_
                  refine WH.y (Yl.index (j := 3) un48 sz34 rfl rfl (Reads.of (r := ownR (.slice ao7 (p :: ns).length c7) 34 1 (p :: ns).length (ints .u64 (p :: ns))) RdOf.own (by repeat constructor)) rfl (by omega)) rfl ?_
                  refine WH.on rfl rfl ?_
                  refine WH.y (Yl.loadE (j := 3) (u := .int .u64 (ns.getD 2 0)) on34 rfl (Reads.of (r := ownR (.slice ao7 (p :: ns).length c7) 34 1 (p :: ns).length (ints .u64 (p :: ns))) RdOf.own (by repeat constructor)) (mapU_at v2)) rfl ?_
                  refine WH.on rfl rfl ?_
                  refine WH.y (Yl.move rfl) rfl ?_
                  refine WH.on rfl rfl ?_
                  refine WH.y (Yl.index (j := 1) un48 sz34 rfl rfl (Reads.of (r := ownR (.slice ao7 (p :: ns).length c7) 34 1 (p :: ns).length (ints .u64 (p :: ns))) RdOf.own (by repeat constructor)) rfl (by omega)) rfl ?_
                  refine WH.on rfl rfl ?_
                  refine WH.y (Yl.loadE (j := 1) (u := .int .u64 (ns.getD 0 0)) on34 rfl (Reads.of (r := ownR (.slice ao7 (p :: ns).length c7) 34 1 (p :: ns).length (ints .u64 (p :: ns))) RdOf.own (by repeat constructor)) (mapU_at v0)) rfl ?_
                  refine WH.on rfl rfl ?_
                  refine WH.y (Yl.gtr rfl rfl) rfl ?_
                  refine WH.y (Yl.pickF rfl rfl) rfl ?_
                  refine WH.y (Yl.move rfl) rfl ?_
                  refine WH.both (t := 103) rfl (fun g103 => ?_) (fun g103 => ?_)
                  · refine WH.off rfl rfl rfl rfl ?_
                    refine WH.off rfl rfl rfl rfl ?_
                    refine WH.off rfl rfl rfl rfl ?_
                    refine WH.off rfl rfl rfl rfl ?_
                    refine WH.off rfl rfl rfl rfl ?_
                    refine WH.off rfl rfl rfl rfl ?_
                    refine WH.off rfl rfl rfl rfl ?_
                    refine WH.y (Yl.pickT rfl rfl) rfl ?_
                    refine WH.nil ?_
                    refine WC.condT rfl (by first | rfl | (simp; done) | (simp; omega)) ?_
                    refine WC.seq ?_
                    refine WC.region ?_
                    refine WL.y (Yl.assign rfl) rfl ?_
                    refine WL.y (Yl.assign rfl) rfl ?_
                    refine WL.nil ?_
                    refine WC.ret ?_
                    repeat (with_reducible (first | refine peelT ?_ | refine peelB ?_ | refine peelTX ?_ | refine peelBX ?_ | refine peelBN ?_ | refine peelBO rfl ?_))
                    have q := g103
                    rw [decide_eq_true_iff] at q
                    have hno := hnoE fun ms rest hg e1 e2 _ => by subst e1; have := hg.t; omega
                    exact ret2 (.inr rfl) Tryz.results37 rfl rfl fun w' h => ⟨((none, 0), [], false), ⟨(fun e => nomatch e), fun _ => hno⟩, rfl, OK.sub (OK.bun (A := []) (h.addNil 48 1)) (by repeat' constructor)⟩
                  · refine WH.on rfl rfl ?_
                    refine WH.y (Yl.move rfl) rfl ?_
                    refine WH.on rfl rfl ?_
                    refine WH.y (Yl.index (j := 6) un48 sz34 rfl rfl (Reads.of (r := ownR (.slice ao7 (p :: ns).length c7) 34 1 (p :: ns).length (ints .u64 (p :: ns))) RdOf.own (by repeat constructor)) rfl (by omega)) rfl ?_
                    refine WH.on rfl rfl ?_
                    refine WH.y (Yl.loadE (j := 6) (u := .int .u64 (ns.getD 5 0)) on34 rfl (Reads.of (r := ownR (.slice ao7 (p :: ns).length c7) 34 1 (p :: ns).length (ints .u64 (p :: ns))) RdOf.own (by repeat constructor)) (mapU_at v5)) rfl ?_
                    refine WH.on rfl rfl ?_
                    refine WH.y (Yl.move rfl) rfl ?_
                    refine WH.on rfl rfl ?_
                    refine WH.y (Yl.index (j := 1) un48 sz34 rfl rfl (Reads.of (r := ownR (.slice ao7 (p :: ns).length c7) 34 1 (p :: ns).length (ints .u64 (p :: ns))) RdOf.own (by repeat constructor)) rfl (by omega)) rfl ?_
                    refine WH.on rfl rfl ?_
                    refine WH.y (Yl.loadE (j := 1) (u := .int .u64 (ns.getD 0 0)) on34 rfl (Reads.of (r := ownR (.slice ao7 (p :: ns).length c7) 34 1 (p :: ns).length (ints .u64 (p :: ns))) RdOf.own (by repeat constructor)) (mapU_at v0)) rfl ?_
                    refine WH.on rfl rfl ?_
                    refine WH.y (Yl.gtr rfl rfl) rfl ?_
                    refine WH.y (Yl.pickF rfl rfl) rfl ?_
                    refine WH.nil ?_
                    refine WC.condD rfl (fun g111 => ?_) (fun g111 => ?_)
                    · refine WC.seq ?_
                      refine WC.region ?_
                      refine WL.y (Yl.assign rfl) rfl ?_
                      refine WL.y (Yl.assign rfl) rfl ?_
                      refine WL.nil ?_
                      refine WC.ret ?_
                      repeat (with_reducible (first | refine peelT ?_ | refine peelB ?_ | refine peelTX ?_ | refine peelBX ?_ | refine peelBN ?_ | refine peelBO rfl ?_))
                      have q := g111
                      have hno := hnoE fun ms rest hg e1 e2 _ => by subst e1; have := hg.m; first | omega | (simp at q; omega)
                      exact ret2 (.inr rfl) Tryz.results37 rfl rfl fun w' h => ⟨((none, 0), [], false), ⟨(fun e => nomatch e), fun _ => hno⟩, rfl, OK.sub (OK.bun (A := []) (h.addNil 48 1)) (by repeat' constructor)⟩
                    · refine WC.skip ?_
                      refine WC.seq ?_
                      refine WC.seq ?_
                      have q79 := g79
                      have q85 := g85
                      have q94 := g94
                      have q103 := g103
                      have q111 := g111
                      rw [decide_eq_false_iff_not] at q79 q85 q94 q103
                      have hx10 : x = 10 := Classical.not_not.1 q79
                      subst hx10
                      have hgd := hE.gd q85 (by omega) (by omega) (by first | omega | (simp at q111; omega))
                      refine WC.drawRead mixed (by kernel_rfl) ?_
                      refine WH.y (Yl.move rfl) rfl ?_
                      refine WH.y (Yl.len un86 rfl) rfl ?_
                      refine WH.y (Yl.gtr rfl rfl) rfl ?_
                      refine WH.y (Yl.move rfl) rfl ?_
                      refine WH.both (t := 115) rfl (fun g115 => ?_) (fun g115 => ?_)
                      · refine WH.on rfl rfl ?_
                        have q115 := g115
                        rw [decide_eq_true_iff] at q115
                        obtain ⟨z, hz⟩ : ∃ z, R[R.length - 1]? = some z := ⟨_, List.getElem?_eq_getElem (by omega)⟩
                        refine WH.y (Yl.move rfl) rfl ?_
                        refine WH.on rfl rfl ?_
                        refine WH.y (Yl.move rfl) rfl ?_
                        refine WH.on rfl rfl ?_
                        refine WH.y (Yl.len un86 rfl) rfl ?_
                        refine WH.on rfl rfl ?_
                        refine WH.y (Yl.sub rfl rfl (IntWalk.i64_in _ (by omega))) rfl ?_
                        refine WH.say (t := 119) (v' := .int .i64 ((R.length - 1 : Nat) : Int)) rfl (by (refine congrArg _ ?_; omega)) ?_
                        refine WH.on rfl rfl ?_
                        refine WH.y (Yl.index un86 sz48 rfl rfl (Reads.of (r := ownR (.slice ao R.length ca) 48 1 R.length (rwsV R)) RdOf.own (by repeat constructor)) rfl (by omega)) rfl ?_
                        refine WH.on rfl rfl ?_
                        refine WH.y (Yl.loadE (j := R.length - 1) (u := z.v) on48 rfl (Reads.of (r := ownR (.slice ao R.length ca) 48 1 R.length (rwsV R)) RdOf.own (by repeat constructor)) (by unfold rwsV; rw [List.getElem?_map, hz]; rfl)) rfl ?_
                        refine WH.on rfl rfl ?_
                        refine WH.y (Yl.index (j := 0) un48 sz34 rfl rfl (Reads.of (rws_rd hz) (by repeat constructor)) rfl (by omega)) rfl ?_
                        refine WH.on rfl rfl ?_
                        refine WH.y (Yl.loadE (j := 0) (u := .int .u64 z.2.1) on34 rfl (Reads.of (rws_rd hz) (by repeat constructor)) rfl) rfl ?_
                        refine WH.on rfl rfl ?_
                        refine WH.y (Yl.move rfl) rfl ?_
                        refine WH.on rfl rfl ?_
                        refine WH.y (Yl.index (j := 0) un48 sz34 rfl rfl (Reads.of (r := ownR (.slice ao7 (p :: ns).length c7) 34 1 (p :: ns).length (ints .u64 (p :: ns))) RdOf.own (by repeat constructor)) rfl (by omega)) rfl ?_
                        refine WH.on rfl rfl ?_
                        refine WH.y (Yl.loadE (j := 0) (u := .int .u64 p) on34 rfl (Reads.of (r := ownR (.slice ao7 (p :: ns).length c7) 34 1 (p :: ns).length (ints .u64 (p :: ns))) RdOf.own (by repeat constructor)) rfl) rfl ?_
                        refine WH.on rfl rfl ?_
                        refine WH.y (Yl.geq rfl rfl) rfl ?_
                        refine WH.y (Yl.pickT rfl rfl) rfl ?_
                        refine WH.nil ?_
                        refine WC.condD rfl (fun g128 => ?_) (fun g128 => ?_)
                        · refine WC.seq ?_
                          refine WC.region ?_
                          refine WL.y (Yl.assign rfl) rfl ?_
                          refine WL.y (Yl.assign rfl) rfl ?_
                          refine WL.nil ?_
                          refine WC.ret ?_
                          repeat (with_reducible (first | refine peelT ?_ | refine peelB ?_ | refine peelTX ?_ | refine peelBX ?_ | refine peelBN ?_ | refine peelBO rfl ?_))
                          have q := g128
                          have hno := hnoE fun ms rest hg e1 e2 hzz => by
                            have := hzz z.2 (by rw [List.length_map]; omega) (by rw [List.getElem?_map, List.length_map, hz]; rfl)
                            first | omega | (simp at q; omega)
                          exact ret2 (.inr rfl) Tryz.results37 rfl rfl fun w' h => ⟨((none, 0), [], false), ⟨(fun e => nomatch e), fun _ => hno⟩, rfl, OK.sub (OK.bun (A := []) (h.addNil 48 1)) (by repeat' constructor)⟩
                        · refine WC.skip ?_
                          refine WC.region ?_
                          refine WL.view (fun w h => h.bunO1 (r := ownR (.slice ao7 (p :: ns).length c7) 34 1 (p :: ns).length (ints .u64 (p :: ns))) (by repeat constructor)) ?_
                          refine WL.view (fun w h => h.bun2 (A := rwsA R) (B := [ownR (.slice ao7 (p :: ns).length c7) 34 1 (p :: ns).length (ints .u64 (p :: ns))]) (by repeat' constructor)) ?_
                          rw [show rwsA R ++ [ownR (.slice ao7 (p :: ns).length c7) 34 1 (p :: ns).length (ints .u64 (p :: ns))] = rwsA (R ++ [((ao7, c7), p, ns)]) by unfold rwsA; rw [List.map_append, List.map_singleton]; congr 1; unfold Rw.res Rw.v Rw.l; simp only; rw [hEl]]
                          refine WL.y (Yl.move rfl) rfl ?_
                          refine WL.y (Yl.move rfl) rfl ?_
                          refine WL.to (To.buildSlice (vs := [.slice ao7 (p :: ns).length c7]) un86 zs48 rfl rfl (by simp [Value.cells]) (by decide) (by decide)) rfl ?_
                          intro b131
                          rw [show flat [Value.slice ao7 (p :: ns).length c7] = rwsV [((ao7, c7), p, ns)] by unfold rwsV Rw.v; rw [hEl]; rfl]
                          refine WL.to (To.append sl86 rfl rfl (by repeat constructor) (Reads.of (RdOf.blk (off := 0) (size := 1) (n := 1) (cap := 1) (cs := rwsV [((ao7, c7), p, ns)]) (cs' := rwsV [((ao7, c7), p, ns)]) (Nat.le_refl _) (by unfold maxLen; omega) (by simp [rwsV]) (by simp [rwsV])) (by repeat constructor)) (rwsV_ones _) (show R.length + 1 = (R ++ [((ao7, c7), p, ns)]).length by simp) (show rwsV R ++ rwsV [((ao7, c7), p, ns)] = rwsV (R ++ [((ao7, c7), p, ns)]) by simp [rwsV]) (by simp; unfold maxLen; omega) (by simp; omega)) rfl ?_
                          rintro ⟨⟨ao132, c132⟩, hc132⟩
                          dsimp only at hc132 ⊢
                          refine WL.y (Yl.assign rfl) rfl ?_
                          refine WL.nil ?_
                          refine WC.region ?_
                          refine WL.y (Yl.move rfl) rfl ?_
                          refine WL.y (Yl.add rfl rfl (IntWalk.i64_in _ (by omega))) rfl ?_
                          refine WL.y (Yl.assign rfl) rfl ?_
                          refine WL.nil ?_
                          have q := g128
                          have hst := hI.step hE hx rfl hgd (fun z' h0 hz' => by
                            rw [List.getElem?_map, List.length_map, hz] at hz'
                            cases hz'
                            first | omega | (simp at q; omega))
                          exact ⟨rfl, (at1 + 1, (ao132, c132), R ++ [((ao7, c7), p, ns)]), ⟨by dsimp only; rw [List.map_append]; exact hst, by dsimp only; rw [List.length_append, List.length_singleton]; omega⟩, by dsimp only; omega, (by repeat' constructor), _, (by repeat' constructor)⟩
                      · refine WH.off rfl rfl rfl rfl ?_
                        refine WH.off rfl rfl rfl rfl ?_
                        refine WH.off rfl rfl rfl rfl ?_
                        refine WH.off rfl rfl rfl rfl ?_
                        refine WH.off rfl rfl rfl rfl ?_
                        refine WH.off rfl rfl rfl rfl ?_
                        refine WH.off rfl rfl rfl rfl ?_
                        refine WH.off rfl rfl rfl rfl ?_
                        refine WH.off rfl rfl rfl rfl ?_
                        refine WH.off rfl rfl rfl rfl ?_
                        refine WH.off rfl rfl rfl rfl ?_
                        refine WH.off rfl rfl rfl rfl ?_
                        refine WH.y (Yl.pickF rfl rfl) rfl ?_
                        refine WH.nil ?_
                        refine WC.condF rfl (by first | rfl | (simp; done) | (simp; omega)) ?_
                        refine WC.skip ?_
                        refine WC.region ?_
                        refine WL.view (fun w h => h.bunO1 (r := ownR (.slice ao7 (p :: ns).length c7) 34 1 (p :: ns).length (ints .u64 (p :: ns))) (by repeat constructor)) ?_
                        refine WL.view (fun w h => h.bun2 (A := rwsA R) (B := [ownR (.slice ao7 (p :: ns).length c7) 34 1 (p :: ns).length (ints .u64 (p :: ns))]) (by repeat' constructor)) ?_
                        rw [show rwsA R ++ [ownR (.slice ao7 (p :: ns).length c7) 34 1 (p :: ns).length (ints .u64 (p :: ns))] = rwsA (R ++ [((ao7, c7), p, ns)]) by unfold rwsA; rw [List.map_append, List.map_singleton]; congr 1; unfold Rw.res Rw.v Rw.l; simp only; rw [hEl]]
                        refine WL.y (Yl.move rfl) rfl ?_
                        refine WL.y (Yl.move rfl) rfl ?_
                        refine WL.to (To.buildSlice (vs := [.slice ao7 (p :: ns).length c7]) un86 zs48 rfl rfl (by simp [Value.cells]) (by decide) (by decide)) rfl ?_
                        intro b131
                        rw [show flat [Value.slice ao7 (p :: ns).length c7] = rwsV [((ao7, c7), p, ns)] by unfold rwsV Rw.v; rw [hEl]; rfl]
                        refine WL.to (To.append sl86 rfl rfl (by repeat constructor) (Reads.of (RdOf.blk (off := 0) (size := 1) (n := 1) (cap := 1) (cs := rwsV [((ao7, c7), p, ns)]) (cs' := rwsV [((ao7, c7), p, ns)]) (Nat.le_refl _) (by unfold maxLen; omega) (by simp [rwsV]) (by simp [rwsV])) (by repeat constructor)) (rwsV_ones _) (show R.length + 1 = (R ++ [((ao7, c7), p, ns)]).length by simp) (show rwsV R ++ rwsV [((ao7, c7), p, ns)] = rwsV (R ++ [((ao7, c7), p, ns)]) by simp [rwsV]) (by simp; unfold maxLen; omega) (by simp; omega)) rfl ?_
                        rintro ⟨⟨ao132, c132⟩, hc132⟩
                        dsimp only at hc132 ⊢
                        refine WL.y (Yl.assign rfl) rfl ?_
                        refine WL.nil ?_
                        refine WC.region ?_
                        refine WL.y (Yl.move rfl) rfl ?_
                        refine WL.y (Yl.add rfl rfl (IntWalk.i64_in _ (by omega))) rfl ?_
                        refine WL.y (Yl.assign rfl) rfl ?_
                        refine WL.nil ?_
                        have q := g115
                        rw [decide_eq_false_iff_not] at q
                        have hst := hI.step hE hx rfl hgd (fun z' h0 hz' => by rw [List.length_map] at h0; omega)
                        exact ⟨rfl, (at1 + 1, (ao132, c132), R ++ [((ao7, c7), p, ns)]), ⟨by dsimp only; rw [List.map_append]; exact hst, by dsimp only; rw [List.length_append, List.length_singleton]; omega⟩, by dsimp only; omega, (by repeat' constructor), _, (by repeat' constructor)⟩
      · refine WC.exit ?_
        refine WC.seq ?_
        refine WC.region ?_
        have hd := hI.done (by omega)
        refine WL.y (Yl.move rfl) rfl ?_
        refine WL.y (Yl.assign rfl) rfl ?_
        refine WL.y (Yl.assign rfl) rfl ?_
        refine WL.nil ?_
        refine WC.ret ?_
        repeat (with_reducible (first | refine peelT ?_ | refine peelB ?_ | refine peelTX ?_ | refine peelBX ?_ | refine peelBN ?_ | refine peelBO rfl ?_))
        exact ret2 (.inr rfl) Tryz.results37 rfl rfl fun w' h => ⟨((ao, ca), R, true), ⟨fun _ => hd, (fun e => nomatch e)⟩, rfl, h.sub (by repeat' constructor)⟩
end Go.Proofs.YtbgimajbehodnaaGreatDoor

namespace Go.Proofs.YtbgimajbehodnaaGreatDoor
open Go Go.RowKit
theorem six_of {ns : List Int} (h : ns.length = 6) : [ns.getD 0 0, ns.getD 1 0, ns.getD 2 0, ns.getD 3 0, ns.getD 4 0, ns.getD 5 0] = ns := by
  match ns, h with
  | [a, b, c, d, e, f], _ => rfl
theorem rows_u {rs : List (Int × List Int)} {l : List Int} (h : RowsOk l rs) : ∀ r ∈ rs, R6 r ∧ U8 r.1 := fun r hr => ⟨(h.2.good r hr).len, (h.2.good r hr).p⟩
set_option maxRecDepth 100000 in
set_option maxHeartbeats 1600000 in
theorem same_any (x y : Option Addr × Nat) (R : List Rw) (rs : List (Int × List Int)) (hrs : rs = R.map (·.2)) (hu : ∀ r ∈ rs, R6 r ∧ U8 r.1) (hl : rs.length ≤ 1000000) (w : World) (hx : RdS w (fpL []) (rwB x rs) 7 rs.length (vcs rwE rs)) (hy : RdS w (fpL []) (rfV y R) 1 R.length (rwsV R))
    (hz : ∀ (i : Nat) r, R[i]? = some r → RdS w (fpL []) r.v 1 7 (ints .u64 r.l)) (hw : OK w (fpL []) [] w) :
    Fn Tryz.prog 38 [rwB x rs, rfV y R] [] w (fun _ : Unit => True) (fun _ => .bool true) (fun _ => []) := by
  have hlen : rs.length = R.length := by rw [hrs, List.length_map]
  have hr6 : ∀ r ∈ rs, R6 r := fun r hr => (hu r hr).1
  refine enterF Tryz.func38 rfl Tryz.ntmps38 rfl hw ?_
  refine WC.seq ?_
  refine WC.region ?_
  refine WL.y (Yl.assign rfl) rfl ?_
  refine WL.nil ?_
  refine WC.seq ?_
  refine WC.seq ?_
  refine WC.region ?_
  refine WL.y (Yl.move rfl) rfl ?_
  refine WL.y (Yl.len un57 rfl) rfl ?_
  refine WL.y (Yl.move rfl) rfl ?_
  refine WL.y (Yl.len un86 rfl) rfl ?_
  refine WL.y (Yl.neq rfl rfl) rfl ?_
  refine WL.know (t := 11) (b' := false) rfl (by rw [hlen]; simp) ?_
  refine WL.nil ?_
  refine WC.condF rfl (by first | rfl | (simp; done) | (simp; omega)) ?_
  refine WC.skip ?_
  refine WC.seq ?_
  refine WC.seq ?_
  refine WC.region ?_
  refine WL.y (Yl.move rfl) rfl ?_
  refine WL.y (Yl.len un57 rfl) rfl ?_
  refine WL.y (Yl.move rfl) rfl ?_
  refine WL.nil ?_
  refine WC.block ?_
  refine WC.loop (α := Nat) (fun i => [(0, rwB x rs), (1, rfV y R), (12, rwB x rs), (13, .int .i64 (rs.length : Int)), (14, .int .i64 (i : Int))]) (fun _ => []) (fun i => i ≤ rs.length) (fun i => rs.length - i) 0 (Nat.zero_le _) ⟨(by repeat' constructor), _, (by repeat' constructor)⟩ ?_
  intro i hi
  refine WC.seq ?_
  refine WC.region ?_
  refine WL.y (Yl.lss rfl rfl) rfl ?_
  refine WL.nil ?_
  refine WC.seq ?_
  refine WC.condD rfl (fun g15 => ?_) (fun g15 => ?_)
  · refine WC.skip ?_
    refine WC.seq ?_
    refine WC.block ?_
    refine WC.seq ?_
    refine WC.region ?_
    have hil : i < rs.length := by omega
    obtain ⟨r, hr⟩ : ∃ r, R[i]? = some r := ⟨_, List.getElem?_eq_getElem (by omega)⟩
    have hri : rs[i]? = some r.2 := by rw [hrs, List.getElem?_map, hr]; rfl
    obtain ⟨⟨ar, cr⟩, p, ns⟩ := r
    dsimp only at hri
    have hpu := hu _ (List.mem_of_getElem? hri)
    have h6 : ns.length = 6 := hpu.1
    have hp8 := hpu.2
    unfold U8 at hp8
    dsimp only at hp8
    have hsx := six_of h6
    have hzr := hz i _ hr
    refine WL.y (Yl.move rfl) rfl ?_
    refine WL.y (Yl.index un57 sz70 rfl rfl (Reads.s hx) rfl (by omega)) rfl ?_
    refine WL.y (Yl.loadV (j := i) (u := (p, ns)) vtW hr6 rfl (Reads.s hx) rfl hri) rfl ?_
    refine WL.to (To.alloc (cs := rwC 0 [0, 0, 0, 0, 0, 0]) zr70 rfl) rfl ?_
    intro b6
    refine WL.y (Yl.assign rfl) rfl ?_
    refine WL.sto (Sto.agg sz70 rfl rfl (by repeat constructor) (rwC_ones _ _) (rwC_len h6) (by rfl) (putAll rfl)) (fun _ h => nomatch h) ?_
    refine WL.nil ?_
    refine WC.seq ?_
    refine WC.drawAny (Hs := [blkR b6 70 (rwC p ns)]) mixed (by kernel_rfl) ⟨_, (by repeat' constructor)⟩ ?_
    refine WD.tk 0 rfl (by kernel_rfl) rfl rfl (Yl.field fo70_0 rfl) rfl ?_
    refine WD.tk 1 rfl (by kernel_rfl) rfl rfl (Yl.load on5 rfl (by repeat constructor) (show (rwC p ns)[0 + 0]? = some (Value.int .u8 p) from rfl)) rfl ?_
    refine WD.tk 2 rfl (by kernel_rfl) rfl rfl (Yl.conv un5 un34 rfl (show IntKind.u64.wrap p = p by rw [IntKind.wrap_u64]; omega)) rfl ?_
    refine WD.tk 3 rfl (by kernel_rfl) rfl rfl (Yl.field fo70_1 rfl) rfl ?_
    refine WD.tk 4 rfl (by kernel_rfl) rfl rfl (Yl.load on34 rfl (by repeat constructor) (rwC_getD (k := 0) h6 (by decide))) rfl ?_
    refine WD.tk 5 rfl (by kernel_rfl) rfl rfl (Yl.field fo70_2 rfl) rfl ?_
    refine WD.tk 6 rfl (by kernel_rfl) rfl rfl (Yl.load on34 rfl (by repeat constructor) (rwC_getD (k := 1) h6 (by decide))) rfl ?_
    refine WD.tk 7 rfl (by kernel_rfl) rfl rfl (Yl.field fo70_3 rfl) rfl ?_
    refine WD.tk 8 rfl (by kernel_rfl) rfl rfl (Yl.load on34 rfl (by repeat constructor) (rwC_getD (k := 2) h6 (by decide))) rfl ?_
    refine WD.tk 9 rfl (by kernel_rfl) rfl rfl (Yl.field fo70_4 rfl) rfl ?_
    refine WD.tk 10 rfl (by kernel_rfl) rfl rfl (Yl.load on34 rfl (by repeat constructor) (rwC_getD (k := 3) h6 (by decide))) rfl ?_
    refine WD.tk 11 rfl (by kernel_rfl) rfl rfl (Yl.field fo70_5 rfl) rfl ?_
    refine WD.tk 12 rfl (by kernel_rfl) rfl rfl (Yl.load on34 rfl (by repeat constructor) (rwC_getD (k := 4) h6 (by decide))) rfl ?_
    refine WD.tk 13 rfl (by kernel_rfl) rfl rfl (Yl.field fo70_6 rfl) rfl ?_
    refine WD.tk 14 rfl (by kernel_rfl) rfl rfl (Yl.load on34 rfl (by repeat constructor) (rwC_getD (k := 5) h6 (by decide))) rfl ?_
    refine WD.tk 16 rfl (by kernel_rfl) rfl rfl (Yl.move rfl) rfl ?_
    refine WD.tk 17 rfl (by kernel_rfl) rfl rfl (Yl.move rfl) rfl ?_
    refine WD.tk 18 rfl (by kernel_rfl) rfl rfl (Yl.index un86 sz48 rfl rfl (Reads.s hy) rfl (by omega)) rfl ?_
    refine WD.tk 19 rfl (by kernel_rfl) rfl rfl (Yl.loadE (j := i) (u := .slice ar 7 cr) on48 rfl (Reads.s hy) (by unfold rwsV; rw [List.getElem?_map, hr]; rfl)) rfl ?_
    refine WD.one 15 (by kernel_rfl) ?_
    refine WO.to rfl rfl .no (To.buildSlice (vs := [.int .u64 p, .int .u64 (ns.getD 0 0), .int .u64 (ns.getD 1 0), .int .u64 (ns.getD 2 0), .int .u64 (ns.getD 3 0), .int .u64 (ns.getD 4 0), .int .u64 (ns.getD 5 0)]) un48 zs34 rfl rfl (by simp [Value.cells]) (by decide) (by decide)) rfl (fun _ => ⟨_, (by repeat' constructor)⟩) ?_
    intro b34
    rw [show flat [Value.int .u64 p, .int .u64 (ns.getD 0 0), .int .u64 (ns.getD 1 0), .int .u64 (ns.getD 2 0), .int .u64 (ns.getD 3 0), .int .u64 (ns.getD 4 0), .int .u64 (ns.getD 5 0)] = ints .u64 (p :: ns) by rw [← hsx]; rfl]
    refine WD.one 20 (by kernel_rfl) ?_
    refine WO.callC (xs := [.tmp 34, .tmp 38]) (cap := []) rfl .no rfl rfl en77 (by repeat' constructor) (fun w hw => equalV_any (.slice (some ⟨b34, 0, none⟩) 7 7) (.slice ar 7 cr) (p :: ns) (p :: ns) (by rw [List.length_cons, h6]; decide) w (hw.src (A := []) (RdOf.blk (b := b34) (off := 0) (size := 1) (n := (p :: ns).length) (cap := 7) (T := 34) (cs := ints .u64 (p :: ns)) (cs' := ints .u64 (p :: ns)) (by rw [List.length_cons, h6]; exact Nat.le_refl _) (by unfold maxLen; omega) (by rw [ints_length]; omega) (by rw [List.drop_zero, Nat.mul_one, List.take_of_length_le (by rw [ints_length]; exact Nat.le_refl _)]) |> fun h => by rwa [show (p :: ns).length = 7 by rw [List.length_cons, h6]] at h ⊢) (by repeat constructor)) (by have h := hw.srcS hzr; rwa [show (p :: ns).length = 7 by rw [List.length_cons, h6]]) hw.left.here) rfl (fun _ => ⟨_, (by repeat' constructor)⟩) ?_
    rintro ⟨⟩ -
    refine WD.tk 21 rfl (by kernel_rfl) rfl rfl (Yl.not rfl) rfl ?_
    refine WD.know (t := 40) (b' := false) rfl (by simp) ?_
    refine WD.done (by kernel_rfl) ?_
    refine WC.condF rfl (by first | rfl | (simp; done) | (simp; omega)) ?_
    refine WC.skip ?_
    refine WC.region ?_
    refine WL.y (Yl.add rfl rfl (IntWalk.i64_in _ (by omega))) rfl ?_
    refine WL.y (Yl.move rfl) rfl ?_
    refine WL.nil ?_
    exact ⟨rfl, i + 1, by omega, by omega, (by repeat' constructor), _, (by repeat' constructor)⟩
  · refine WC.exit ?_
    refine WC.seq ?_
    refine WC.region ?_
    refine WL.y (Yl.assign rfl) rfl ?_
    refine WL.nil ?_
    refine WC.ret ?_
    repeat (with_reducible (first | refine peelT ?_ | refine peelB ?_ | refine peelTX ?_ | refine peelBX ?_ | refine peelBN ?_ | refine peelBO rfl ?_))
    exact ret1 (.inr rfl) Tryz.results38 rfl fun w' h => ⟨(), trivial, rfl, h.sub (by repeat' constructor)⟩
theorem tab_end {xs : List Rc} : ∃ q, tabI xs = q ++ [10] := by
  unfold tabI
  rcases List.eq_nil_or_concat (byV (fun r : Rc => r.peer) xs) with h | ⟨ss, s, h⟩
  · rw [h]
    exact ⟨headI.take 42, rfl⟩
  · rw [h, List.concat_eq_append, rowsI_snoc]
    unfold lineI
    exact ⟨headI ++ (rowsI ss ++ (decI s.1.toNat ++ numI (smN s.2))), by simp⟩
theorem bnot_t {b : Bool} (h : (!b) = true) : b = false := by simpa using h
theorem bnot_f {b : Bool} (h : (!b) = false) : b = true := by simpa using h
/-- Both readers tell the same. -/
theorem both_rows {l : List Int} {x : Option Addr × Nat} {rs : List (Int × List Int)} {ok ok2 : Bool} {R : List Rw} (h1 : RsOk l x rs ok) (h2 : RfOk l R ok2) : ok2 = ok ∧ (ok = true → rs = R.map (·.2) ∧ RowsOk l rs) ∧ (ok = false → rs = []) := by
  cases ok with
  | true =>
    have hr := h1.yes rfl
    cases ok2 with
    | true => exact ⟨rfl, fun _ => ⟨hr.2.uniq (h2.yes rfl).2, hr⟩, (fun e => nomatch e)⟩
    | false => exact absurd hr (h2.no rfl rs)
  | false =>
    have hr := h1.no rfl
    cases ok2 with
    | true => exact absurd (h2.yes rfl) (hr.1 _)
    | false => exact ⟨rfl, (fun e => nomatch e), fun _ => hr.2.1⟩
set_option maxRecDepth 100000 in
set_option maxHeartbeats 1600000 in
theorem tablesLaw_any (v : Value) (xs : List Rc) (hG : ROk xs) (sl : List Int) (hs : Bytes sl) (w : World) (hw : OK w (fpL [rdR v 22 xs.length (vcs rcV xs), glR]) [rdR v 22 xs.length (vcs rcV xs), glR] w) :
    Fn Tryz.prog 7 [v, strV sl] [rdR v 22 xs.length (vcs rcV xs), glR] w (fun _ : Unit => True) (fun _ => .bool true) (fun _ => []) := by
  obtain ⟨al, cl, rfl, hcl, hml⟩ := (hw.get .head : Rd _ _ _ _ _).form
  refine enterF Tryz.func7 rfl Tryz.ntmps7 rfl hw ?_
  refine WC.seq ?_
  refine WC.region ?_
  refine WL.y (Yl.assign rfl) rfl ?_
  refine WL.nil ?_
  refine WC.seq ?_
  refine WC.seq ?_
  refine WC.region ?_
  refine WL.callC (xs := []) (cap := []) rfl rfl en8 (by repeat' constructor) (fun w hw => known_any w hw.left.here) rfl ?_
  rintro ⟨⟩ -
  try dsimp only [List.cons_append, List.nil_append]
  refine WL.y (Yl.not rfl) rfl ?_
  refine WL.know (t := 13) (b' := false) rfl (by first | rfl | (simp; done) | (simp; omega)) ?_
  refine WL.nil ?_
  refine WC.condF rfl (by first | rfl | (simp; done) | (simp; omega)) ?_
  refine WC.skip ?_
  refine WC.seq ?_
  refine WC.seq ?_
  refine WC.region ?_
  refine WL.y (Yl.move rfl) rfl ?_
  refine WL.y (Yl.len un33 rfl) rfl ?_
  refine WL.y (Yl.gtr rfl rfl) rfl ?_
  refine WL.y (Yl.move rfl) rfl ?_
  refine WL.both (t := 17) rfl (fun g17 => ?_) (fun g17 => ?_)
  · refine WL.off rfl rfl rfl rfl ?_
    refine WL.off rfl rfl rfl rfl ?_
    refine WL.off rfl rfl rfl rfl ?_
    refine WL.y (Yl.pickT rfl rfl) rfl ?_
    refine WL.nil ?_
    refine WC.condT rfl (by first | rfl | (simp; done) | (simp; omega)) ?_
    refine WC.seq ?_
    refine WC.region ?_
    refine WL.y (Yl.assign rfl) rfl ?_
    refine WL.nil ?_
    refine WC.ret ?_
    repeat (with_reducible (first | refine peelT ?_ | refine peelB ?_ | refine peelTX ?_ | refine peelBX ?_ | refine peelBN ?_ | refine peelBO rfl ?_))
    exact ret1 (.inr rfl) Tryz.results7 rfl fun w' h => ⟨(), trivial, rfl, h.sub (by repeat' constructor)⟩
  · refine WL.on rfl rfl ?_
    refine WL.y (Yl.move rfl) rfl ?_
    refine WL.on rfl rfl ?_
    refine WL.y (Yl.lenT (ys := sl) un9 rfl) rfl ?_
    refine WL.on rfl rfl ?_
    refine WL.y (Yl.gtr rfl rfl) rfl ?_
    refine WL.y (Yl.pickF rfl rfl) rfl ?_
    refine WL.nil ?_
    refine WC.condD rfl (fun g21 => ?_) (fun g21 => ?_)
    · refine WC.seq ?_
      refine WC.region ?_
      refine WL.y (Yl.assign rfl) rfl ?_
      refine WL.nil ?_
      refine WC.ret ?_
      repeat (with_reducible (first | refine peelT ?_ | refine peelB ?_ | refine peelTX ?_ | refine peelBX ?_ | refine peelBN ?_ | refine peelBO rfl ?_))
      exact ret1 (.inr rfl) Tryz.results7 rfl fun w' h => ⟨(), trivial, rfl, h.sub (by repeat' constructor)⟩
    · refine WC.skip ?_
      refine WC.seq ?_
      have q17 := g17
      have q21 := g21
      rw [decide_eq_false_iff_not] at q17
      have hl300 : xs.length ≤ 300 := by omega
      have hs5 : sl.length ≤ 5000 := by first | omega | (simp at q21; omega)
      have htl : (tabI xs).length ≤ 100000 := by
        have := rowsI_len (byV_u8 hG)
        have := byV_le (fun r : Rc => r.peer) xs
        unfold tabI
        rw [List.length_append, headI_len]
        omega
      have htb := tabI_bytes xs
      refine WC.region ?_
      refine WL.y (Yl.move rfl) rfl ?_
      refine WL.view (fun w h => h.dup (r := rdR (.slice al xs.length cl) 22 xs.length (vcs rcV xs)) (by repeat constructor) (fun _ h => h)) ?_
      refine WL.view (fun w h => h.dup (r := glR) (by repeat constructor) (fun _ h => h)) ?_
      refine WL.callC (xs := [.tmp 22]) (cap := []) rfl rfl en14 (by repeat' constructor) (fun w hw => val_any (.slice al xs.length cl) xs hG (by omega) w hw.left.here) rfl ?_
      rintro ⟨v1, o1⟩ -
      try dsimp only
      refine WL.callC (xs := [.tmp 23]) (cap := []) rfl rfl en21 (by repeat' constructor) (fun w hw => table_any 48 [.pointer (some ⟨v1, 0, none⟩)] o1 xs hG (by omega) en48 w hw.left.here) rfl ?_
      rintro ⟨⟩ -
      refine WL.y (Yl.assign rfl) rfl ?_
      refine WL.nil ?_
      refine WC.seq ?_
      refine WC.seq ?_
      refine WC.region ?_
      refine WL.y (Yl.move rfl) rfl ?_
      refine WL.y (Yl.move rfl) rfl ?_
      refine WL.callC (xs := [.tmp 26]) (cap := []) rfl rfl en35 (by repeat' constructor) (fun w hw => refTable_any (.slice al xs.length cl) xs hG (by omega) w (hw.src (A := []) (r := rdR (.slice al xs.length cl) 22 xs.length (vcs rcV xs)) RdOf.rd' (by repeat constructor)) hw.left.here) rfl ?_
      rintro ⟨⟩ -
      refine WL.y (Yl.sNeT (xs := tabI xs) (ys := tabI xs) htb htb rfl rfl) rfl ?_
      refine WL.know (t := 28) (b' := false) rfl (by simp) ?_
      refine WL.nil ?_
      refine WC.condF rfl (by first | rfl | (simp; done) | (simp; omega)) ?_
      refine WC.skip ?_
      refine WC.seq ?_
      refine WC.seq ?_
      refine WC.region ?_
      obtain ⟨q, hq⟩ := tab_end (xs := xs)
      rw [hq] at htl htb ⊢
      have hqb : Bytes q := fun x hx => htb x (List.mem_append_left _ hx)
      have hql : q.length ≤ 100000 := by rw [List.length_append] at htl; omega
      refine WL.y (Yl.move rfl) rfl ?_
      refine WL.y (Yl.move rfl) rfl ?_
      refine WL.y (Yl.move rfl) rfl ?_
      refine WL.callC (xs := [.tmp 31, _]) (cap := []) rfl rfl en36 (by repeat' constructor) (fun w hw => trim_any q hqb (by omega) w) rfl ?_
      rintro ⟨⟩ -
      refine WL.y (Yl.move rfl) rfl ?_
      refine WL.y (Yl.move rfl) rfl ?_
      refine WL.y (Yl.sAdd (xs := q ++ [10]) (ys := sl) (by omega) rfl rfl) rfl ?_
      refine WL.to (To.buildSlice (vs := [strV (q ++ [10]), strV sl, strV q, strV (q ++ [10] ++ sl)]) un85 zs9 rfl rfl (by intro v hv; simp at hv; rcases hv with rfl | rfl | rfl | rfl <;> rfl) (by decide) (by decide)) rfl ?_
      intro b36
      obtain ⟨Ts, hT⟩ : ∃ Ts : List (List Int), Ts = [q ++ [10], sl, q, q ++ [10] ++ sl] := ⟨_, rfl⟩
      have hTl : Ts.length = 4 := by rw [hT]; rfl
      have hTb : ∀ t ∈ Ts, Bytes t ∧ t.length ≤ 1000000 := fun t ht => by
        rw [hT] at ht
        simp only [List.mem_cons, List.not_mem_nil, or_false] at ht
        rcases ht with rfl | rfl | rfl | rfl
        · exact ⟨htb, by omega⟩
        · exact ⟨hs, by omega⟩
        · exact ⟨hqb, by omega⟩
        · exact ⟨htb.app hs, by rw [List.length_append]; omega⟩
      rw [show flat [strV (q ++ [10]), strV sl, strV q, strV (q ++ [10] ++ sl)] = Ts.map strV by rw [hT]; rfl]
      refine WL.y (Yl.len un85 rfl) rfl ?_
      refine WL.y (Yl.move rfl) rfl ?_
      refine WL.nil ?_
      refine WC.block ?_
      refine WC.loop (α := Nat) (fun i => [(36, .slice (some ⟨b36, 0, none⟩) 4 4), (37, .int .i64 4), (38, .int .i64 (i : Int))]) (fun _ => [blkR b36 9 (Ts.map strV), glR]) (fun i => i ≤ 4) (fun i => 4 - i) 0 (Nat.zero_le _) ⟨(by repeat' constructor), _, (by repeat' constructor)⟩ ?_
      intro i hi
      refine WC.seq ?_
      refine WC.region ?_
      refine WL.y (Yl.lss rfl rfl) rfl ?_
      refine WL.nil ?_
      refine WC.seq ?_
      refine WC.condD rfl (fun g39 => ?_) (fun g39 => ?_)
      · refine WC.skip ?_
        refine WC.seq ?_
        refine WC.block ?_
        refine WC.seq ?_
        refine WC.region ?_
        have hi4 : i < 4 := by omega
        obtain ⟨t, ht⟩ : ∃ t, Ts[i]? = some t := ⟨_, List.getElem?_eq_getElem (by omega)⟩
        obtain ⟨htB, htL⟩ := hTb t (List.mem_of_getElem? ht)
        refine WL.y (Yl.index un85 sz9 rfl rfl (Reads.of (RdOf.blk (b := b36) (off := 0) (size := 1) (n := 4) (cap := 4) (T := 9) (cs := Ts.map strV) (cs' := Ts.map strV) (Nat.le_refl _) (by unfold maxLen; omega) (by rw [List.length_map, hTl]; exact Nat.le_refl _) (by rw [List.drop_zero, Nat.mul_one, List.take_of_length_le (by rw [List.length_map, hTl]; exact Nat.le_refl _)])) (by repeat constructor)) rfl (by omega)) rfl ?_
        refine WL.y (Yl.loadE (j := i) (u := strV t) on9 rfl (Reads.of (RdOf.blk (b := b36) (off := 0) (size := 1) (n := 4) (cap := 4) (T := 9) (cs := Ts.map strV) (cs' := Ts.map strV) (Nat.le_refl _) (by unfold maxLen; omega) (by rw [List.length_map, hTl]; exact Nat.le_refl _) (by rw [List.drop_zero, Nat.mul_one, List.take_of_length_le (by rw [List.length_map, hTl]; exact Nat.le_refl _)])) (by repeat constructor)) (by rw [List.getElem?_map, ht]; rfl)) rfl ?_
        refine WL.y (Yl.assign rfl) rfl ?_
        refine WL.nil ?_
        refine WC.seq ?_
        refine WC.region ?_
        refine WL.y (Yl.move rfl) rfl ?_
        refine WL.callC (xs := [.tmp 43]) (cap := []) rfl rfl en20 (by repeat' constructor) (fun w hw => rows_any t htB (by omega) w hw.left.here) rfl ?_
        rintro ⟨x, rs, ok⟩ hR
        dsimp only at hR ⊢
        refine WL.y (Yl.move rfl) rfl ?_
        refine WL.y (Yl.extract rfl rfl) rfl ?_
        refine WL.y (Yl.extract rfl rfl) rfl ?_
        refine WL.y (Yl.assign rfl) rfl ?_
        refine WL.y (Yl.assign rfl) rfl ?_
        refine WL.nil ?_
        refine WC.seq ?_
        refine WC.region ?_
        refine WL.y (Yl.move rfl) rfl ?_
        refine WL.callC (xs := [.tmp 48]) (cap := []) rfl rfl en37 (by repeat' constructor) (fun w hw => refRows_any t htB htL w hw.left.here) rfl ?_
        rintro ⟨y, R, ok2⟩ hF
        dsimp only at hF ⊢
        obtain ⟨rfl, hyes, hno⟩ := both_rows hR hF
        try dsimp only [List.cons_append, List.nil_append]
        refine WL.y (Yl.move rfl) rfl ?_
        refine WL.y (Yl.extract rfl rfl) rfl ?_
        refine WL.y (Yl.extract rfl rfl) rfl ?_
        refine WL.y (Yl.assign rfl) rfl ?_
        refine WL.y (Yl.assign rfl) rfl ?_
        refine WL.nil ?_
        refine WC.seq ?_
        refine WC.region ?_
        refine WL.y (Yl.move rfl) rfl ?_
        refine WL.y (Yl.eql rfl rfl) rfl ?_
        refine WL.say (t := 53) (v' := .bool ok2) rfl (by (cases ok2 <;> rfl)) ?_
        refine WL.y (Yl.move rfl) rfl ?_
        refine WL.y (Yl.bNe un4 rfl rfl) rfl ?_
        refine WL.know (t := 55) (b' := false) rfl (by simp) ?_
        refine WL.y (Yl.move rfl) rfl ?_
        refine WL.on rfl rfl ?_
        refine WL.y (Yl.move rfl) rfl ?_
        refine WL.on rfl rfl ?_
        refine WL.y (Yl.not rfl) rfl ?_
        refine WL.on rfl rfl ?_
        refine WL.y (Yl.move rfl) rfl ?_
        refine WL.both (t := 59) rfl (fun g59 => ?_) (fun g59 => ?_)
        · refine WL.on rfl rfl ?_
          refine WL.y (Yl.move rfl) rfl ?_
          refine WL.on rfl rfl ?_
          refine WL.y (Yl.neq rfl rfl) rfl ?_
          refine WL.know (t := 61) (b' := false) rfl (by rw [bnot_t g59]; rfl) ?_
          refine WL.on rfl rfl ?_
          refine WL.y (Yl.move rfl) rfl ?_
          refine WL.on rfl rfl ?_
          refine WL.y (Yl.move rfl) rfl ?_
          refine WL.on rfl rfl ?_
          refine WL.y (Yl.len un57 rfl) rfl ?_
          refine WL.on rfl rfl ?_
          refine WL.y (Yl.neq rfl rfl) rfl ?_
          refine WL.know (t := 65) (b' := false) rfl (by rw [hno (bnot_t g59)]; rfl) ?_
          refine WL.on rfl rfl ?_
          refine WL.y (Yl.pickF rfl rfl) rfl ?_
          refine WL.on rfl rfl ?_
          refine WL.y (Yl.pickT rfl rfl) rfl ?_
          refine WL.y (Yl.pickF rfl rfl) rfl ?_
          refine WL.y (Yl.move rfl) rfl ?_
          refine WL.on rfl rfl ?_
          refine WL.y (Yl.move rfl) rfl ?_
          refine WL.know (t := 70) (b' := false) rfl (bnot_t g59) ?_
          refine WL.on rfl rfl ?_
          refine WL.y (Yl.move rfl) rfl ?_
          refine WL.off rfl rfl rfl rfl ?_
          refine WL.off rfl rfl rfl rfl ?_
          refine WL.off rfl rfl rfl rfl ?_
          refine WL.off rfl rfl rfl rfl ?_
          refine WL.on rfl rfl ?_
          refine WL.y (Yl.pickF rfl rfl) rfl ?_
          refine WL.y (Yl.pickF rfl rfl) rfl ?_
          refine WL.nil ?_
          refine WC.condF rfl (by first | rfl | (simp; done) | (simp; omega)) ?_
          refine WC.skip ?_
          refine WC.region ?_
          refine WL.y (Yl.add rfl rfl (IntWalk.i64_in _ (by omega))) rfl ?_
          refine WL.y (Yl.move rfl) rfl ?_
          refine WL.nil ?_
          exact ⟨rfl, i + 1, by omega, by omega, (by repeat' constructor), _, (by repeat' constructor)⟩
        · refine WL.off rfl rfl rfl rfl ?_
          refine WL.off rfl rfl rfl rfl ?_
          refine WL.off rfl rfl rfl rfl ?_
          refine WL.offU rfl rfl rfl ?_
          refine WL.offU rfl rfl rfl ?_
          refine WL.offU rfl rfl rfl ?_
          refine WL.off rfl rfl rfl rfl ?_
          refine WL.on rfl rfl ?_
          refine WL.y (Yl.pickF rfl rfl) rfl ?_
          refine WL.y (Yl.pickF rfl rfl) rfl ?_
          refine WL.y (Yl.move rfl) rfl ?_
          refine WL.on rfl rfl ?_
          refine WL.y (Yl.move rfl) rfl ?_
          refine WL.know (t := 70) (b' := true) rfl (bnot_f g59) ?_
          refine WL.on rfl rfl ?_
          refine WL.y (Yl.move rfl) rfl ?_
          refine WL.on rfl rfl ?_
          refine WL.y (Yl.move rfl) rfl ?_
          refine WL.on rfl rfl ?_
          refine WL.y (Yl.move rfl) rfl ?_
          refine WL.on rfl rfl ?_
          refine WL.callC (xs := [.tmp 72, .tmp 73]) (cap := []) rfl rfl en38 (by repeat' constructor) (fun w hw => same_any x y R rs (hyes (bnot_f g59)).1 (rows_u (hyes (bnot_f g59)).2) (by have hl := (hyes (bnot_f g59)).2.2.lines; have h2 := congrArg List.length hl; rw [List.length_map] at h2; have h3 := lnI_le (cutI t); have h4 := cut_len t; omega) w (hw.src (A := []) (r := ownR (rwB x rs) 70 7 rs.length (vcs rwE rs)) RdOf.own (by repeat constructor)) (hw.src (A := []) (r := ownR (rfV y R) 48 1 R.length (rwsV R)) RdOf.own (by repeat constructor)) (fun i r hr => hw.src (A := []) (rws_rd hr) (by repeat constructor)) hw.left.here) rfl ?_
          rintro ⟨⟩ -
          refine WL.on rfl rfl ?_
          refine WL.y (Yl.not rfl) rfl ?_
          refine WL.know (t := 75) (b' := false) rfl (by first | rfl | (simp; done) | (simp; omega)) ?_
          refine WL.on rfl rfl ?_
          refine WL.y (Yl.pickT rfl rfl) rfl ?_
          refine WL.y (Yl.pickF rfl rfl) rfl ?_
          refine WL.nil ?_
          refine WC.condF rfl (by first | rfl | (simp; done) | (simp; omega)) ?_
          refine WC.skip ?_
          refine WC.region ?_
          refine WL.y (Yl.add rfl rfl (IntWalk.i64_in _ (by omega))) rfl ?_
          refine WL.y (Yl.move rfl) rfl ?_
          refine WL.nil ?_
          exact ⟨rfl, i + 1, by omega, by omega, (by repeat' constructor), _, (by repeat' constructor)⟩
      · refine WC.exit ?_
        refine WC.seq ?_
        refine WC.region ?_
        refine WL.y (Yl.assign rfl) rfl ?_
        refine WL.nil ?_
        refine WC.ret ?_
        repeat (with_reducible (first | refine peelT ?_ | refine peelB ?_ | refine peelTX ?_ | refine peelBX ?_ | refine peelBN ?_ | refine peelBO rfl ?_))
        exact ret1 (.inr rfl) Tryz.results7 rfl fun w' h => ⟨(), trivial, rfl, h.sub (by repeat' constructor)⟩
end Go.Proofs.YtbgimajbehodnaaGreatDoor

namespace Go.Proofs.YtbgimajbehodnaaGreatDoor
open Go Go.RowKit
theorem trod_ifc {H : Type} {enc : TypeId × Value → H} {P : Program} {w : World} {base : Nat} {spare : Nat → Bool} {held : Bool} {fuel : Nat} {t : TypeId} {cs : List Value} {x : DataW H × List MemPlace} (ht : isIfcB P t = true) (h : DataW.trod enc P w base spare held fuel t cs = some x) : ∃ v, cs = [v] ∧ (v = .nilIface ∨ ∃ te pe, v = .iface te pe) := by
  obtain ⟨ms, hms⟩ : ∃ ms, P.underlying t = some (.interface ms) := by
    unfold isIfcB at ht
    split at ht
    · rename_i ms h; exact ⟨ms, h⟩
    · cases ht
  cases fuel with
  | zero => simp [DataW.trod] at h
  | succ n =>
    unfold DataW.trod at h
    rw [hms] at h
    match cs, h with
    | [.nilIface], _ => exact ⟨_, rfl, .inl rfl⟩
    | [.iface te pe], _ => exact ⟨_, rfl, .inr ⟨te, pe, rfl⟩⟩
theorem var_ifc {W : World} {nm : String} {g : Nat} {d : DataW Unit} (hg : Tryz.prog.globalNamed nm = some g) (ht : (Tryz.prog.globals[g]?).map (·.type) = some 125) (h : laidMet Tryz.prog [(nm, d)] W) : ∃ v, W.var? Tryz.prog nm = some #[v] ∧ (v = .nilIface ∨ ∃ te pe, v = .iface te pe) := by
  obtain ⟨ps, ⟨g', t', cs, fuel, p, q, hg', ht', hvar, hd, _, _⟩, _⟩ := h
  obtain rfl := Option.some.inj (hg.symm.trans hg')
  obtain rfl := Option.some.inj (ht.symm.trans ht')
  obtain ⟨v, hv, h2⟩ := trod_ifc (by kernel_rfl) hd
  refine ⟨v, ?_, h2⟩
  rw [hvar]
  congr 1
  exact Array.toList_inj.1 hv
theorem var_at {w : World} {nm : String} {g : Nat} {v : Value} {t : TypeId} (hg : Tryz.prog.globalNamed nm = some g) (h : w.heap[g]? = some (.cells #[v] t)) : w.var? Tryz.prog nm = some #[v] := by
  unfold World.var?
  rw [hg, Option.bind_some, h]
theorem max_int {w : World} (h : w.ShapedOpen Tryz.prog) : ∃ m : Int, w.var? Tryz.prog "internal/bytealg.MaxLen" = some #[.int .i64 m] := by
  obtain ⟨cs, hh, hs, _⟩ := h.1 1 #[.int .i64 0] 3 (of_decide_eq_true (by kernel_rfl)) (by kernel_rfl)
  obtain ⟨m, hm⟩ : ∃ m, w.cell? ⟨1, 0, none⟩ = some (.int .i64 m) := cell_of_shapedOpen_int (g := 1) (t := 3) (zero := #[.int .i64 0]) (k := .i64) h (of_decide_eq_true (by kernel_rfl)) (by kernel_rfl) rfl (by kernel_rfl) (by kernel_rfl) (by kernel_rfl)
  refine ⟨m, var_at (t := 3) gn1 ?_⟩
  rw [hh]
  have h1 : 0 < cs.size := by rw [hs]; decide
  have hc : cs[0] = .int .i64 m := by simpa [World.cell?, hh, h1] using hm
  congr 2
  apply Array.ext
  · rw [hs]; rfl
  · intro i h2 h3
    have : i = 0 := by simp at h3; exact h3
    subst this
    exact hc
theorem tab_of {W : World} (h : laidMetH Tryz.prog Rows.reportTablesRow.laid W) : Lib.TabIs Tryz.prog W "internal/strconv.uint64pow10" .u64 Lib.pow10Tab := by
  have h2 := h.filter (fun x => x.1 == "internal/strconv.uint64pow10")
  exact Lib.tabIs_of_head (rest := []) gn0 (by kernel_rfl) (n := 20) (t := 212) (e := 34) (by kernel_rfl) (by kernel_rfl) (by kernel_rfl) (by kernel_rfl) h2
theorem gl_of {W : World} (h : laidMetH Tryz.prog Rows.reportTablesRow.laid W) (hs : W.ShapedOpen Tryz.prog) : glR.ok W := by
  have h2 : laidMet Tryz.prog [("strconv.ErrSyntax", Rows.laid_strconv_ErrSyntax)] W := h.filter (fun x => x.1 == "strconv.ErrSyntax")
  have h3 : laidMet Tryz.prog [("strconv.ErrRange", Rows.laid_strconv_ErrRange)] W := h.filter (fun x => x.1 == "strconv.ErrRange")
  refine ⟨⟨tab_of h, var_ifc gn2 (by kernel_rfl) h2, var_ifc gn3 (by kernel_rfl) h3, max_int hs⟩, ?_⟩
  obtain ⟨v, e, _⟩ := var_ifc gn3 (by kernel_rfl) h3
  unfold World.var? at e
  rw [gn3, Option.bind_some] at e
  rcases Nat.lt_or_ge 3 W.heap.size with h' | h'
  · exact h'
  · rw [Array.getElem?_eq_none h'] at e; cases e
theorem Rc.of_fits {cs : List Value} (h : Fits1 rcLeaf cs) : ∃ r : Rc, r.ok ∧ cs = r.cells := by
  obtain ⟨h1, h2⟩ := Fits1.app (ks := List.replicate 16 (some .u8)) h
  rw [List.length_replicate] at h1 h2
  obtain ⟨id, e1, hl, hb⟩ := fits_bytes h1
  obtain ⟨ds, e2⟩ : ∃ ds, cs.drop 16 = ds := ⟨_, rfl⟩
  rw [e2] at h2
  have hcs : cs = ints .u8 id ++ ds := by rw [← e1, ← e2, List.take_append_drop]
  match ds, h2 with
  | [.int q1 p, .bool o, .int q2 c, .int q3 b, .int q4 a, .int q5 e], h2 =>
    obtain ⟨⟨rfl, w1⟩, _, ⟨rfl, w2⟩, ⟨rfl, w3⟩, ⟨rfl, w4⟩, ⟨rfl, w5⟩, _⟩ := h2
    exact ⟨⟨id, p, o, c, b, a, e⟩, ⟨hl, hb, wf_u8 w1, wf_u8 w2, wf_u64 w3, wf_u64 w4, wf_u64 w5⟩, hcs⟩
theorem nums_of (s : ByteArray) : ∃ ys : List Int, Bytes ys ∧ s = strOfNums ys := by
  refine ⟨s.data.toList.map (fun b => (b.toNat : Int)), fun y hy => ?_, ?_⟩
  · obtain ⟨b, _, rfl⟩ := List.mem_map.1 hy
    have := b.toNat_lt
    omega
  · apply ByteArray.ext
    apply Array.toList_inj.1
    rw [strOfNums_data, List.map_map]
    refine ((List.map_id _).symm.trans (List.map_congr_left fun b _ => ?_))
    simp
section
variable {w : World} {base : Nat} {sp : Nat → Bool} {held : Bool} {H : Type} {enc : TypeId × Value → H}
theorem open_recs {a : Option Addr} {len cap : Nat} {x : DataW H} {p : List MemPlace} (h : DataW.Trod enc Tryz.prog w base sp held 33 (.slice a len cap) x p) : ∃ rs : List Rc, rs.length = len ∧ ROk rs ∧ Rd w 22 (.slice a len cap) len (vcs rcV rs) := by
  obtain ⟨xss, h1, h2, h3⟩ := open_flats (d := 5) (ks := rcLeaf) un33 (by kernel_rfl) (by kernel_rfl) h
  have : ∃ rs : List Rc, xss = rs.map Rc.cells ∧ ROk rs := by
    clear h1 h3
    induction xss with
    | nil => exact ⟨[], rfl, fun x hx => nomatch hx⟩
    | cons ys xss ih =>
      obtain ⟨rs, rfl, hrs⟩ := ih (fun zs hz => h2 zs (by simp [hz]))
      obtain ⟨r, hr, rfl⟩ := Rc.of_fits (h2 ys (by simp)).1
      exact ⟨r :: rs, rfl, fun z hz => by
        rcases List.mem_cons.1 hz with rfl | hz
        · exact hr
        · exact hrs z hz⟩
  obtain ⟨rs, rfl, hrs⟩ := this
  refine ⟨rs, by simpa using h1, hrs, ?_⟩
  have e1 : (rs.map Rc.cells).flatten = vcs rcV rs := by
    clear h1 h2 h3 hrs
    induction rs with
    | nil => rfl
    | cons y ys ih => rw [List.map_cons, List.flatten_cons, ih, vcs_cons]; simp [rcV, Value.cells]
  rwa [e1] at h3
end
end Go.Proofs.YtbgimajbehodnaaGreatDoor
