/- Lines gone over; a table's rows: the walks. -/
import Derived.Test.YtbgimajbehodnaaGreatDoorRepL
import Derived.Test.YtbgimajbehodnaaGreatDoorLibG
import Derived.Test.YtbgimajbehodnaaGreatDoorLibEl
namespace Go.Proofs.YtbgimajbehodnaaGreatDoor
open Go Go.RowKit
def ysL (l : List Int) : List (Array Value) := (lnI l).map fun p => #[strV p]
theorem ysL_size {l : List Int} : ∀ y ∈ ysL l, y.size = 1 := by
  intro y hy
  obtain ⟨x, _, rfl⟩ := List.mem_map.1 hy
  rfl
theorem ysL_at {l : List Int} {i : Nat} {y : Array Value} (h : (ysL l)[i]? = some y) : ∃ x, (lnI l)[i]? = some x ∧ y = #[strV x] := by
  simp [ysL] at h
  obtain ⟨x, h1, h2⟩ := h
  exact ⟨x, h1, h2.symm⟩
def rstI (l : List Int) (i : Nat) : List Int := ((lnI l).drop i).flatten
theorem rst_of {l r : List Int} {i : Nat} (h : lnI r = (lnI l).drop i) : r = rstI l i := by unfold rstI; rw [← h, lnI_flat]
theorem ln_step {l r x r2 : List Int} {i : Nat} (h : lnI r = (lnI l).drop i) (hx : lnI r = x :: lnI r2) : (lnI l)[i]? = some x ∧ lnI r2 = (lnI l).drop (i + 1) := by
  rw [h] at hx
  constructor
  · have := congrArg (fun q => q[0]?) hx
    simpa [List.getElem?_drop] using this
  · rw [← List.drop_drop, hx]
    rfl
set_option maxRecDepth 100000 in
theorem lines1_iter (b1 : Nat) (l : List Int) (hby : Bytes l) (hl : l.length ≤ 1000000000) :
    IterW Tryz.prog 93 ([.pointer (some ⟨b1, 0, none⟩)] : List Value).toArray [blkR b1 9 [strV l]] (ysL l) [blkR b1 9 [strV []]] (fun i => [blkR b1 9 [strV (rstI l (i + 1))]]) := by
  refine iterW_of Tryz.func93 rfl Tryz.ntmps93 rfl ?_
  intro l2 W gs gx T0 hy
  refine WC.block ?_
  refine WC.loop (α := Nat × List Int × (Nat → Prop)) (fun _ => [(0, .func (.yield l2) #[] #[]), (1, .pointer (some ⟨b1, 0, none⟩))]) (fun p => [gstW gs p.1 p.2.2, blkR b1 9 [strV p.2.1]]) (fun p => p.1 ≤ (lnI l).length ∧ lnI p.2.1 = (lnI l).drop p.1 ∧ Bytes p.2.1 ∧ p.2.1.length ≤ l.length) (fun p => (lnI l).length - p.1) (0, l, T0) ⟨Nat.zero_le _, rfl, hby, Nat.le_refl _⟩ ⟨(by repeat' constructor), _, (by repeat' constructor)⟩ ?_
  rintro ⟨i, r, T⟩ ⟨hi, hr, hrb, hrl⟩
  dsimp only at hi hr hrb hrl ⊢
  refine WC.seq ?_
  refine WC.seq ?_
  refine WC.region ?_
  refine WL.y (Yl.load on9 rfl (by repeat constructor) (by rfl)) rfl ?_
  refine WL.y (Yl.lenT (ys := r) un9 rfl) rfl ?_
  refine WL.y (Yl.gtr rfl rfl) rfl ?_
  refine WL.nil ?_
  refine WC.condD rfl (fun g7 => ?_) (fun g7 => ?_)
  · refine WC.skip ?_
    refine WC.block ?_
    refine WC.seq ?_
    refine WC.region ?_
    refine WL.y (Yl.assign rfl) rfl ?_
    refine WL.nil ?_
    refine WC.seq ?_
    refine WC.seq ?_
    refine WC.region ?_
    refine WL.y (Yl.load on9 rfl (by repeat constructor) (by rfl)) rfl ?_
    refine WL.callC (xs := [.tmp 8, _]) (cap := []) rfl rfl en94 (by repeat' constructor) (fun w hw => idx_any r w) rfl ?_
    rintro ⟨⟩ -
    refine WL.y (Yl.assign rfl) rfl ?_
    refine WL.nil ?_
    refine WC.seq ?_
    refine WC.region ?_
    refine WL.y (Yl.move rfl) rfl ?_
    refine WL.y (Yl.geq rfl rfl) rfl ?_
    refine WL.nil ?_
    refine WC.condD rfl (fun g11 => ?_) (fun g11 => ?_)
    · obtain ⟨j, hj, hjl, hje, hjf⟩ : ∃ i : Nat, ixI r = i ∧ i < r.length ∧ r = r.take i ++ 10 :: r.drop (i + 1) ∧ Free 10 (r.take i) := by
        rcases ix_cases hrb with ⟨h, _⟩ | h
        · rw [h] at g11; omega
        · exact h
      rw [hj]
      have hx : lnI r = r.take (j + 1) :: lnI (r.drop (j + 1)) := by
        conv => lhs; rw [hje, lnI_hit _ hjf]
        congr 1
        conv => rhs; rw [hje]
        rw [List.take_append, List.length_take, Nat.min_eq_left (by omega), List.take_take, Nat.min_eq_right (by omega), Nat.add_sub_cancel_left]
        rfl
      obtain ⟨hx1, hx2⟩ := ln_step hr hx
      have hil := (List.getElem?_eq_some_iff.1 hx1).1
      refine WC.drawLast 9 (Hs := [blkR b1 9 [strV r]]) rfl rfl mixed (by kernel_rfl) ⟨_, (by repeat' constructor)⟩ ?_
      try dsimp only [List.dropLast]
      refine WD.tk 0 rfl (by kernel_rfl) rfl rfl (Yl.load on9 rfl (by repeat constructor) (by rfl)) rfl ?_
      refine WD.tk 1 rfl (by kernel_rfl) rfl rfl (Yl.move rfl) rfl ?_
      refine WD.tk 2 rfl (by kernel_rfl) rfl rfl (Yl.add rfl rfl (IntWalk.i64_in _ (by omega))) rfl ?_
      refine WD.tk 3 rfl (by kernel_rfl) rfl rfl (Yl.sliceStr (l := 0) (h := j + 1) (ys := r) (zs := r.take (j + 1)) un9 rfl rfl ⟨_, rfl⟩ (by omega) (by omega) (by rw [List.drop_zero])) rfl ?_
      refine WD.tk 4 rfl (by kernel_rfl) rfl rfl (Yl.load on9 rfl (by repeat constructor) (by rfl)) rfl ?_
      refine WD.tk 5 rfl (by kernel_rfl) rfl rfl (Yl.move rfl) rfl ?_
      refine WD.tk 6 rfl (by kernel_rfl) rfl rfl (Yl.add rfl rfl (IntWalk.i64_in _ (by omega))) rfl ?_
      refine WD.tk 7 rfl (by kernel_rfl) rfl rfl (Yl.sliceStr (l := j + 1) (h := r.length) (ys := r) (zs := r.drop (j + 1)) un9 rfl ⟨_, rfl⟩ rfl (by omega) (by omega) (by rw [List.take_length])) rfl ?_
      refine WD.tk 8 rfl (by kernel_rfl) rfl rfl (Yl.assign rfl) rfl ?_
      refine WD.done (by kernel_rfl) ?_
      refine ⟨_, (Sto.one sz9 rfl rfl (by repeat constructor) rfl (by rfl) (by rfl)), ?_⟩
      refine WC.seq ?_
      refine WC.region ?_
      refine WL.y (Yl.move rfl) rfl ?_
      refine WL.y (Yl.move rfl) rfl ?_
      refine WL.yieldW (xs := [.tmp 22]) (i := i) hy rfl rfl (by simp [ysL, hx1, strV]) (by repeat constructor) rfl ?_
      intro b23 T'
      refine WL.y (Yl.not rfl) rfl ?_
      refine WL.nil ?_
      refine WC.cond rfl (fun g24 => ?_) (fun g24 => ?_)
      · refine WC.ret ?_
        repeat (with_reducible (first | refine peelT ?_ | refine peelB ?_ | refine peelTX ?_ | refine peelBX ?_ | refine peelBN ?_ | refine peelBO rfl ?_))
        have hb : b23 = false := by simpa using g24
        subst hb
        simp only [Bool.false_eq_true, if_false]
        exact itStopW (i := i) (.inr rfl) Tryz.results93 (by repeat constructor) (by unfold ysL; rw [List.length_map]; exact hil) (by rw [← rst_of hx2]; exact (by repeat' constructor))
      · refine WC.skip ?_
        have hb : b23 = true := by simpa using g24
        subst hb
        simp only [if_true]
        exact ⟨rfl, (i + 1, r.drop (j + 1), T'), ⟨by dsimp only; omega, hx2, fun x hx => hrb x (List.mem_of_mem_drop hx), by dsimp only; rw [List.length_drop]; omega⟩, by dsimp only; omega, (by repeat' constructor), _, (by repeat' constructor)⟩
    · refine WC.region ?_
      have hrne : r ≠ [] := by rintro rfl; simp at g7
      have hfr : Free 10 r := by
        rcases ix_cases hrb with ⟨_, h⟩ | ⟨j, h, _⟩
        · exact h
        · rw [h] at g11; omega
      have hx : lnI r = r :: lnI [] := lnI_none hfr hrne
      obtain ⟨hx1, hx2⟩ := ln_step hr hx
      have hil := (List.getElem?_eq_some_iff.1 hx1).1
      refine WL.y (Yl.load on9 rfl (by repeat constructor) (by rfl)) rfl ?_
      refine WL.y (Yl.assign rfl) rfl ?_
      refine WL.sto (Sto.one sz9 rfl rfl (by repeat constructor) rfl (by rfl) (by rfl)) (fun _ h => nomatch h) ?_
      refine WL.nil ?_
      refine WC.seq ?_
      refine WC.region ?_
      refine WL.y (Yl.move rfl) rfl ?_
      refine WL.y (Yl.move rfl) rfl ?_
      refine WL.yieldW (xs := [.tmp 22]) (i := i) hy rfl rfl (by simp [ysL, hx1, strV]) (by repeat constructor) rfl ?_
      intro b23 T'
      refine WL.y (Yl.not rfl) rfl ?_
      refine WL.nil ?_
      refine WC.cond rfl (fun g24 => ?_) (fun g24 => ?_)
      · refine WC.ret ?_
        repeat (with_reducible (first | refine peelT ?_ | refine peelB ?_ | refine peelTX ?_ | refine peelBX ?_ | refine peelBN ?_ | refine peelBO rfl ?_))
        have hb : b23 = false := by simpa using g24
        subst hb
        simp only [Bool.false_eq_true, if_false]
        exact itStopW (i := i) (.inr rfl) Tryz.results93 (by repeat constructor) (by unfold ysL; rw [List.length_map]; exact hil) (by rw [← rst_of hx2]; exact (by repeat' constructor))
      · refine WC.skip ?_
        have hb : b23 = true := by simpa using g24
        subst hb
        simp only [if_true]
        exact ⟨rfl, (i + 1, [], T'), ⟨by dsimp only; omega, hx2, (fun x (hx : x ∈ []) => nomatch hx), Nat.zero_le _⟩, by dsimp only; omega, (by repeat' constructor), _, (by repeat' constructor)⟩
  · refine WC.exit ?_
    repeat (with_reducible (first | refine peelT ?_ | refine peelB ?_ | refine peelTX ?_ | refine peelBX ?_ | refine peelBN ?_ | refine peelBO rfl ?_))
    have hr0 : r = [] := by cases r with | nil => rfl | cons a r => exact absurd (by simp) g7
    subst hr0
    have hin : i = (ysL l).length := by
      unfold ysL
      rw [List.length_map]
      have := congrArg List.length hr
      rw [List.length_drop, show (lnI []).length = 0 from rfl] at this
      omega
    rw [hin]
    exact itEndW (.inl rfl) Tryz.results93 (by repeat constructor) (by repeat' constructor)
theorem lines_any (l : List Int) (w : World) (hw : OK w (fpL []) [] w) :
    Fn Tryz.prog 56 [strV l] [] w (fun _ : Nat => True) (fun b => .func (.func 93) #[] #[.pointer (some ⟨b, 0, none⟩)]) (fun b => [blkR b 9 [strV l]]) := by
  refine enterF Tryz.func56 rfl Tryz.ntmps56 rfl hw ?_
  refine WC.seq ?_
  refine WC.region ?_
  refine WL.to (To.box (cs := [strV l]) rfl rfl) rfl ?_
  intro b1
  refine WL.y (Yl.assign rfl) rfl ?_
  refine WL.nil ?_
  refine WC.seq ?_
  refine WC.region ?_
  refine WL.y (Yl.makeFunc (xs := []) (ys := [.tmp 1]) rfl rfl) rfl ?_
  refine WL.y (Yl.assign rfl) rfl ?_
  refine WL.nil ?_
  refine WC.ret ?_
  repeat (with_reducible (first | refine peelT ?_ | refine peelB ?_ | refine peelTX ?_ | refine peelBX ?_ | refine peelBN ?_ | refine peelBO rfl ?_))
  exact ret1 (.inr rfl) Tryz.results56 rfl fun w' h => ⟨b1, trivial, rfl, h.sub (by repeat' constructor)⟩
end Go.Proofs.YtbgimajbehodnaaGreatDoor

namespace Go.Proofs.YtbgimajbehodnaaGreatDoor
open Go Go.RowKit
def lnE (r : Int × List Int) : List Int := lineI r.1 r.2
/-- These rows, and no others, are told. -/
structure RowsR (R : List Int) (rs : List (Int × List Int)) : Prop where
  good : ∀ r ∈ rs, RGd r.1 r.2
  asc : rs.Pairwise fun a b => a.1 < b.1
  text : R = rs.flatMap lnE
structure RwI (R : List Int) (i : Nat) (rs : List (Int × List Int)) : Prop where
  len : rs.length = i
  good : ∀ r ∈ rs, RGd r.1 r.2
  asc : rs.Pairwise fun a b => a.1 < b.1
  lines : (lnI R).take i = rs.map lnE
theorem RowsR.lines {R : List Int} {rs : List (Int × List Int)} (h : RowsR R rs) : lnI R = rs.map lnE := by
  have := lnI_of (ps := rs.map fun r => rowT r.1 r.2) [] (fun p hp => by
    obtain ⟨r, _, rfl⟩ := List.mem_map.1 hp
    exact rowT_free _ _)
  rw [List.append_nil, show lnI [] = [] from rfl, List.append_nil, List.flatMap_map, List.map_map] at this
  rw [h.text]
  exact this
theorem lnE_inj {r s : Int × List Int} (h1 : RGd r.1 r.2) (h2 : RGd s.1 s.2) (h : lnE r = lnE s) : r = s := by
  have := rowT_inj h1 h2 (List.append_cancel_right h)
  exact Prod.ext this.1 this.2
theorem map_lnE {rs ss : List (Int × List Int)} (h1 : ∀ r ∈ rs, RGd r.1 r.2) (h2 : ∀ r ∈ ss, RGd r.1 r.2) (h : rs.map lnE = ss.map lnE) : rs = ss := by
  induction rs generalizing ss with
  | nil => cases ss with | nil => rfl | cons m ms => cases h
  | cons n ns ih =>
    cases ss with
    | nil => cases h
    | cons m ms =>
      simp only [List.map_cons, List.cons.injEq] at h
      rw [lnE_inj (h1 n (by simp)) (h2 m (by simp)) h.1, ih (fun q hq => h1 q (List.mem_cons_of_mem _ hq)) (fun q hq => h2 q (List.mem_cons_of_mem _ hq)) h.2]
theorem RowsR.uniq {R : List Int} {rs ss : List (Int × List Int)} (h1 : RowsR R rs) (h2 : RowsR R ss) : rs = ss :=
  map_lnE h1.good h2.good (h1.lines.symm.trans h2.lines)
theorem RwI.fail {R : List Int} {i : Nat} {rs : List (Int × List Int)} (h : RwI R i rs) {q : List Int} (hx : (lnI R)[i]? = some (q ++ [10])) {p : Int} {ns : List Int} {b : Bool} (hL : LnOk q p ns b)
    (hb : b = false ∨ ∃ z, 0 < i ∧ rs[i - 1]? = some z ∧ p ≤ z.1) : ∀ ss, ¬ RowsR R ss := fun ss hs => by
  have hl := hs.lines
  rw [hl, List.getElem?_map] at hx
  obtain ⟨s, hs1, hs2⟩ := Option.map_eq_some_iff.1 hx
  have hq : rowT s.1 s.2 = q := List.append_cancel_right (show rowT s.1 s.2 ++ [10] = q ++ [10] from hs2)
  have hsg := hs.good s (List.mem_of_getElem? hs1)
  have hbt := hL.no s.1 s.2 hsg hq.symm
  obtain ⟨hg, e⟩ := hL.yes hbt
  obtain ⟨e1, e2⟩ := rowT_inj hsg hg (hq.trans e)
  rcases hb with hb | ⟨z, hi, hz, hzp⟩
  · rw [hbt] at hb; cases hb
  · have ht : rs = ss.take i := by
      refine map_lnE h.good (fun r hr => hs.good r (List.mem_of_mem_take hr)) ?_
      rw [← h.lines, hl, List.map_take]
    rw [ht, List.getElem?_take, if_pos (by omega)] at hz
    obtain ⟨h3, rfl⟩ := List.getElem?_eq_some_iff.1 hz
    obtain ⟨h4, rfl⟩ := List.getElem?_eq_some_iff.1 hs1
    have := List.pairwise_iff_getElem.1 hs.asc (i - 1) i h3 h4 (by omega)
    omega
theorem RwI.step {R : List Int} {i : Nat} {rs : List (Int × List Int)} (h : RwI R i rs) {q : List Int} (hx : (lnI R)[i]? = some (q ++ [10])) {p : Int} {ns : List Int} {b : Bool} (hL : LnOk q p ns b) (hb : b = true)
    (hz : ∀ z, 0 < i → rs[i - 1]? = some z → z.1 < p) : RwI R (i + 1) (rs ++ [(p, ns)]) := by
  obtain ⟨hg, e⟩ := hL.yes hb
  have hlen := h.len
  refine ⟨by rw [List.length_append, hlen]; rfl, fun r hr => ?_, List.pairwise_append.2 ⟨h.asc, List.pairwise_singleton _ _, fun a ha c hc => ?_⟩, ?_⟩
  · rcases List.mem_append.1 hr with hr | hr
    · exact h.good r hr
    · rw [List.mem_singleton.1 hr]; exact hg
  · rw [List.mem_singleton.1 hc]
    obtain ⟨k, hk, rfl⟩ := List.getElem_of_mem ha
    have h0 : 0 < i := by omega
    have hl := hz _ h0 (List.getElem?_eq_getElem (by omega))
    by_cases e : k = i - 1
    · subst e; exact hl
    · have := List.pairwise_iff_getElem.1 h.asc k (i - 1) hk (by omega) (by omega)
      show rs[k].1 < p
      omega
  · rw [← take_snoc _ _ _ hx, h.lines, List.map_append]
    show _ = _ ++ [rowT p ns ++ [10]]
    rw [← e]
theorem RwI.done {R : List Int} {rs : List (Int × List Int)} (h : RwI R (lnI R).length rs) : RowsR R rs := by
  have h1 := h.lines
  rw [List.take_length] at h1
  exact ⟨h.good, h.asc, by rw [← lnI_flat R, h1, List.flatMap_def]⟩
theorem RwI.start (R : List Int) : RwI R 0 [] := ⟨rfl, (fun _ h => nomatch h), List.Pairwise.nil, rfl⟩
/-- What may be a table. -/
def RowsOk (l : List Int) (rs : List (Int × List Int)) : Prop := preI l = true ∧ RowsR (cutI l) rs
theorem rows_end {R : List Int} {rs : List (Int × List Int)} (h : RowsR R rs) : R = [] ∨ R.getLast? = some 10 := by
  rcases List.eq_nil_or_concat rs with rfl | ⟨ss, s, rfl⟩
  · exact .inl h.text
  · right
    rw [h.text, List.concat_eq_append, List.flatMap_append, List.flatMap_cons, List.flatMap_nil, List.append_nil]
    unfold lnE lineI
    rw [← List.append_assoc]
    simp
theorem pre_head (t : List Int) : preI (headI ++ t) = true ∧ cutI (headI ++ t) = t := by
  have h : preI (headI ++ t) = true := by unfold preI; rw [List.isPrefixOf_iff_prefix]; exact ⟨_, rfl⟩
  refine ⟨h, ?_⟩
  unfold cutI
  rw [if_pos h]
  rfl
theorem cut_bytes {l : List Int} (h : Bytes l) : Bytes (cutI l) := by
  unfold cutI
  split
  · exact fun x hx => h x (List.mem_of_mem_drop hx)
  · exact h
theorem cut_len (l : List Int) : (cutI l).length ≤ l.length := by
  unfold cutI
  split
  · rw [List.length_drop]; omega
  · exact Nat.le_refl _
end Go.Proofs.YtbgimajbehodnaaGreatDoor

namespace Go.Proofs.YtbgimajbehodnaaGreatDoor
open Go Go.RowKit
section
variable {c : Cx} {env : Env} {ds : List Deferred} {H : List Res} {dst : Option Tmp} {ty : TypeId} {pos : String} {af : Array Edge} {g : Option (Nat × Bool)}
theorem Yl.sNeT {t t2 : TypeId} {x y : Operand} {xs ys : List Int} (h1 : Bytes xs) (h2 : Bytes ys) (hx : ev env x = some (.string (strOfNums xs))) (hy : ev env y = some (.string (strOfNums ys))) : Yl c env ds H ⟨dst, .binOp .neq t x y t2, ty, pos, af, g⟩ (.bool (decide (xs ≠ ys))) := by
  have := Yl.sNe (c := c) (env := env) (ds := ds) (H := H) (dst := dst) (ty := ty) (pos := pos) (af := af) (g := g) (t := t) (t2 := t2) hx hy
  rw [strEq h1 h2] at this
  have e : (!decide (xs = ys)) = decide (xs ≠ ys) := by simp
  rwa [e] at this
end
def rwE (r : Int × List Int) : Value := rwV r.1 r.2
def R6 (r : Int × List Int) : Prop := r.2.length = 6
theorem vtW : VT Tryz.prog 70 7 R6 rwE := .agg (cel := fun r => rwC r.1 r.2) (by kernel_rfl) (by kernel_rfl) (by decide) (fun _ => rfl) (fun r h => rwC_len h) (fun r => rwC_ones r.1 r.2)
theorem RwI.r6 {R : List Int} {i : Nat} {rs : List (Int × List Int)} (h : RwI R i rs) : ∀ r ∈ rs, R6 r := fun r hr => (h.good r hr).len
def rwB (x : Option Addr × Nat) (rs : List (Int × List Int)) : Value := .slice x.1 rs.length x.2
/-- What Rows hands back. -/
structure RsOk (l : List Int) (x : Option Addr × Nat) (rs : List (Int × List Int)) (ok : Bool) : Prop where
  yes : ok = true → RowsOk l rs
  no : ok = false → (∀ ss, ¬ RowsOk l ss) ∧ rs = [] ∧ x = (none, 0)
set_option maxRecDepth 100000 in
set_option maxHeartbeats 1600000 in
theorem rows_any (l : List Int) (hby : Bytes l) (hl : l.length ≤ 200000000) (w : World) (hw : OK w (fpL [glR]) [glR] w) :
    Fn Tryz.prog 20 [strV l] [glR] w (fun y : (Option Addr × Nat) × List (Int × List Int) × Bool => RsOk l y.1 y.2.1 y.2.2) (fun y => .tuple #[rwB y.1 y.2.1, .int .i64 (if y.2.2 then 0 else 2)]) (fun y => [ownR (rwB y.1 y.2.1) 70 7 y.2.1.length (vcs rwE y.2.1), glR]) := by
  have hcb := cut_bytes hby
  have hcl := cut_len l
  refine enterM Tryz.func20 rfl Tryz.ntmps20 rfl hw ?_
  refine WC.seq ?_
  refine WC.region ?_
  refine WL.to (To.alloc (cs := [.slice none 0 0]) zr57 rfl) rfl ?_
  intro b2
  refine WL.to (To.alloc (cs := [.int .i64 0]) zr58 rfl) rfl ?_
  intro b3
  refine WL.nil ?_
  refine WC.seq ?_
  refine WC.region ?_
  refine WL.y (Yl.move rfl) rfl ?_
  refine WL.callC (xs := [.tmp 12, _]) (cap := []) rfl rfl en54 (by repeat' constructor) (fun w hw => cut_any l hby w) rfl ?_
  rintro ⟨⟩ -
  refine WL.y (Yl.move rfl) rfl ?_
  refine WL.y (Yl.extract rfl rfl) rfl ?_
  refine WL.y (Yl.extract rfl rfl) rfl ?_
  refine WL.y (Yl.assign rfl) rfl ?_
  refine WL.y (Yl.assign rfl) rfl ?_
  refine WL.nil ?_
  refine WC.midX (α := Unit) (fun _ => [(2, .pointer (some ⟨b2, 0, none⟩)), (3, .pointer (some ⟨b3, 0, none⟩)), (4, strV (cutI l))]) (fun _ => [blkR b2 57 [.slice none 0 0], blkR b3 58 [.int .i64 0], glR]) (fun _ => preI l = true ∧ (cutI l = [] ∨ (cutI l).getLast? = some 10)) ?_ ?_
  · refine WC.seq ?_
    refine WC.region ?_
    refine WL.y (Yl.move rfl) rfl ?_
    refine WL.y (Yl.not rfl) rfl ?_
    refine WL.y (Yl.move rfl) rfl ?_
    refine WL.both (t := 18) rfl (fun g18 => ?_) (fun g18 => ?_)
    · refine WL.off rfl rfl rfl rfl ?_
      refine WL.off rfl rfl rfl rfl ?_
      refine WL.off rfl rfl rfl rfl ?_
      refine WL.offU rfl rfl rfl ?_
      refine WL.offU rfl rfl rfl ?_
      refine WL.offU rfl rfl rfl ?_
      refine WL.off rfl rfl rfl rfl ?_
      refine WL.y (Yl.pickT rfl rfl) rfl ?_
      refine WL.nil ?_
      refine WC.condT rfl (by first | rfl | (simp; done) | (simp; omega)) ?_
      refine WC.seq ?_
      refine WC.region ?_
      refine WL.sto (Sto.one sz57 rfl rfl (by repeat constructor) rfl (by rfl) (by rfl)) (fun _ h => nomatch h) ?_
      refine WL.sto (Sto.one sz58 rfl rfl (by repeat constructor) rfl (by rfl) (by rfl)) (fun _ h => nomatch h) ?_
      refine WL.nil ?_
      refine WC.ret ?_
      repeat (with_reducible (first | refine peelT ?_ | refine peelB ?_ | refine peelTX ?_ | refine peelBX ?_ | refine peelBN ?_ | refine peelBO rfl ?_))
      first
        | (have hno : ∀ ss, ¬ RowsOk l ss := (fun ss h => by rw [h.1] at g18; cases g18)
           refine retM.of .nil ?_
           exact retVV (.inr rfl) Tryz.results20 on57 on58 rfl rfl (by repeat constructor) (by repeat constructor) fun w' h => ⟨((none, 0), [], false), ⟨(fun e => nomatch e), fun _ => ⟨hno, rfl, rfl⟩⟩, rfl, OK.sub (h.addNil 70 7) (by repeat' constructor)⟩)
        | (refine retM.of (.cons (by repeat constructor) .nil) ?_
           exact retVV (.inr rfl) Tryz.results20 on57 on58 rfl rfl (by repeat constructor) (by repeat constructor) fun w' h => ⟨((none, 0), [], false), ⟨(fun e => nomatch e), fun _ => ⟨hno, rfl, rfl⟩⟩, rfl, OK.sub (h.addNil 70 7) (by repeat' constructor)⟩)
    · refine WL.on rfl rfl ?_
      refine WL.y (Yl.move rfl) rfl ?_
      refine WL.on rfl rfl ?_
      refine WL.y (Yl.sNeT (ys := []) hcb (fun x (hx : x ∈ []) => nomatch hx) rfl rfl) rfl ?_
      refine WL.on rfl rfl ?_
      refine WL.y (Yl.move rfl) rfl ?_
      refine WL.both (t := 21) rfl (fun g21 => ?_) (fun g21 => ?_)
      · refine WL.on rfl rfl ?_
        refine WL.y (Yl.move rfl) rfl ?_
        refine WL.on rfl rfl ?_
        refine WL.callC (xs := [.tmp 22, _]) (cap := []) rfl rfl en55 (by repeat' constructor) (fun w hw => hasS_any (cutI l) hcb (by omega) w) rfl ?_
        rintro ⟨⟩ -
        refine WL.on rfl rfl ?_
        refine WL.y (Yl.not rfl) rfl ?_
        refine WL.on rfl rfl ?_
        refine WL.y (Yl.pickT rfl rfl) rfl ?_
        refine WL.y (Yl.pickF rfl rfl) rfl ?_
        refine WL.nil ?_
        refine WC.cond rfl (fun g26 => ?_) (fun g26 => ?_)
        · refine WC.seq ?_
          refine WC.region ?_
          refine WL.sto (Sto.one sz57 rfl rfl (by repeat constructor) rfl (by rfl) (by rfl)) (fun _ h => nomatch h) ?_
          refine WL.sto (Sto.one sz58 rfl rfl (by repeat constructor) rfl (by rfl) (by rfl)) (fun _ h => nomatch h) ?_
          refine WL.nil ?_
          refine WC.ret ?_
          repeat (with_reducible (first | refine peelT ?_ | refine peelB ?_ | refine peelTX ?_ | refine peelBX ?_ | refine peelBN ?_ | refine peelBO rfl ?_))
          first
            | (have hno : ∀ ss, ¬ RowsOk l ss := (fun ss h => by
                 have h1 : cutI l ≠ [] := by simpa using g21
                 have h2 : sufI (cutI l) = false := by simpa using g26
                 rcases rows_end h.2 with h3 | h3
                 · exact h1 h3
                 · unfold sufI at h2; rw [decide_eq_true h3] at h2; cases h2)
               refine retM.of .nil ?_
               exact retVV (.inr rfl) Tryz.results20 on57 on58 rfl rfl (by repeat constructor) (by repeat constructor) fun w' h => ⟨((none, 0), [], false), ⟨(fun e => nomatch e), fun _ => ⟨hno, rfl, rfl⟩⟩, rfl, OK.sub (h.addNil 70 7) (by repeat' constructor)⟩)
            | (refine retM.of (.cons (by repeat constructor) .nil) ?_
               exact retVV (.inr rfl) Tryz.results20 on57 on58 rfl rfl (by repeat constructor) (by repeat constructor) fun w' h => ⟨((none, 0), [], false), ⟨(fun e => nomatch e), fun _ => ⟨hno, rfl, rfl⟩⟩, rfl, OK.sub (h.addNil 70 7) (by repeat' constructor)⟩)
        · refine WC.skip ?_
          have h1 : preI l = true := by simpa using g18
          have h2 : sufI (cutI l) = true := by simpa using g26
          exact ⟨rfl, (), ⟨h1, .inr (of_decide_eq_true h2)⟩, (by repeat' constructor), _, (by repeat' constructor)⟩
      · refine WL.off rfl rfl rfl rfl ?_
        refine WL.off rfl rfl rfl rfl ?_
        refine WL.off rfl rfl rfl rfl ?_
        refine WL.on rfl rfl ?_
        refine WL.y (Yl.pickF rfl rfl) rfl ?_
        refine WL.y (Yl.pickF rfl rfl) rfl ?_
        refine WL.nil ?_
        refine WC.condF rfl (by first | rfl | (simp; done) | (simp; omega)) ?_
        refine WC.skip ?_
        have h1 : preI l = true := by simpa using g18
        have h2 : cutI l = [] := by simpa using g21
        exact ⟨rfl, (), ⟨h1, .inl h2⟩, (by repeat' constructor), _, (by repeat' constructor)⟩
  · rintro ⟨⟩ ⟨hpre, hend⟩
    refine WC.seq ?_
    refine WC.region ?_
    refine WL.to (To.alloc (cs := [.slice none 0 0]) zr57 rfl) rfl ?_
    intro b6
    refine WL.nil ?_
    refine WC.seq ?_
    refine WC.seq ?_
    refine WC.region ?_
    refine WL.y (Yl.move rfl) rfl ?_
    refine WL.callC (xs := [.tmp 27]) (cap := []) rfl rfl en56 (by repeat' constructor) (fun w hw => lines_any (cutI l) w hw.left.here) rfl ?_
    rintro bL -
    refine WL.nil ?_
    refine WC.block ?_
    refine WC.view (fun w h => h.addNil 70 7) ?_
    refine WC.rangeW (α := (Option Addr × Nat) × List (Int × List Int)) (A := [blkR bL 9 [strV (cutI l)]]) (E := [blkR bL 9 [strV []]]) (Ex := fun i => [blkR bL 9 [strV (rstI (cutI l) (i + 1))]]) (lb := [.pointer (some ⟨bL, 0, none⟩)]) (xs := ysL (cutI l)) (fun i s => [blkR b2 57 [.slice none 0 0], blkR b3 58 [.int .i64 0], blkR b6 57 [rwB s.1 s.2], ownR (rwB s.1 s.2) 70 7 s.2.length (vcs rwE s.2), glR]) (fun i s => RwI (cutI l) i s.2) ((none, 0), []) rfl en93 ysL_size rfl (by repeat' constructor) (lines1_iter bL (cutI l) hcb (by omega)) rfl (fun _ => rfl) (RwI.start _) (by repeat' constructor) ?_ ?_
    · rintro l2 i y ⟨⟨ao, ca⟩, rs⟩ hx hI W
      dsimp only at hI ⊢
      obtain ⟨x, hx0, rfl⟩ := ysL_at hx
      have hxm := List.mem_of_getElem? hx0
      have hxb := lnI_bytes hcb x hxm
      have hxl := lnI_plen x hxm
      have hil := (List.getElem?_eq_some_iff.1 hx0).1
      have hnl := lnI_le (cutI l)
      have hrl := hI.len
      have hr6 := hI.r6
      obtain ⟨q, rfl⟩ := lnI_ends hend x hxm
      have hqb : Bytes q := fun z hz => hxb z (List.mem_append_left _ hz)
      rw [List.length_append] at hxl
      show WC _ _ _ ((29, strV (q ++ [10])) :: _) _ _
      refine WC.region ?_
      refine WL.y (Yl.assign rfl) rfl ?_
      refine WL.nil ?_
      repeat (with_reducible (first | refine peelT ?_ | refine peelB ?_ | refine peelTX ?_ | refine peelBX ?_ | refine peelBN ?_ | refine peelBO rfl ?_))
      refine fun W2 => ?_
      refine WC.block ?_
      refine WC.seq ?_
      refine WC.region ?_
      refine WL.y (Yl.move rfl) rfl ?_
      refine WL.callC (xs := [.tmp 31, _]) (cap := []) rfl rfl en36 (by repeat' constructor) (fun w hw => trim_any q hqb (by omega) w) rfl ?_
      rintro ⟨⟩ -
      refine WL.callC (xs := [.tmp 32]) (cap := []) rfl rfl en57 (by repeat' constructor) (fun w hw => line_any q hqb (by omega) w hw.left.here) rfl ?_
      rintro ⟨p, ns, b⟩ hL
      dsimp only at hL ⊢
      have hnl6 := hL.len
      refine WL.y (Yl.move rfl) rfl ?_
      refine WL.y (Yl.extract rfl rfl) rfl ?_
      refine WL.y (Yl.extract rfl rfl) rfl ?_
      refine WL.to (To.alloc (cs := rwC 0 [0, 0, 0, 0, 0, 0]) zr70 rfl) rfl ?_
      intro b8
      refine WL.sto (Sto.agg sz70 rfl rfl (by repeat constructor) (rwC_ones _ _) (rwC_len hnl6) (by rfl) (putAll rfl)) (fun _ h => nomatch h) ?_
      refine WL.y (Yl.assign rfl) rfl ?_
      refine WL.nil ?_
      refine WC.seq ?_
      refine WC.seq ?_
      refine WC.region ?_
      refine WL.y (Yl.load on57 rfl (by repeat constructor) (by rfl)) rfl ?_
      refine WL.y (Yl.len un57 rfl) rfl ?_
      refine WL.y (Yl.assign rfl) rfl ?_
      refine WL.nil ?_
      refine WC.seq ?_
      refine WC.drawRead mixed (by kernel_rfl) ?_
      refine WH.y (Yl.move rfl) rfl ?_
      refine WH.y (Yl.not rfl) rfl ?_
      refine WH.y (Yl.move rfl) rfl ?_
      refine WH.both (t := 40) rfl (fun g40 => ?_) (fun g40 => ?_)
      · refine WH.off rfl rfl rfl rfl ?_
        refine WH.off rfl rfl rfl rfl ?_
        refine WH.off rfl rfl rfl rfl ?_
        refine WH.offU rfl rfl rfl ?_
        refine WH.offU rfl rfl rfl ?_
        refine WH.offU rfl rfl rfl ?_
        refine WH.offU rfl rfl rfl ?_
        refine WH.offU rfl rfl rfl ?_
        refine WH.offU rfl rfl rfl ?_
        refine WH.offU rfl rfl rfl ?_
        refine WH.offU rfl rfl rfl ?_
        refine WH.offU rfl rfl rfl ?_
        refine WH.off rfl rfl rfl rfl ?_
        refine WH.y (Yl.pickT rfl rfl) rfl ?_
        refine WH.nil ?_
        refine WC.condT rfl (by first | rfl | (simp; done) | (simp; omega)) ?_
        refine WC.seq ?_
        refine WC.region ?_
        refine WL.sto (Sto.one sz57 rfl rfl (by repeat constructor) rfl (by rfl) (by rfl)) (fun _ h => nomatch h) ?_
        refine WL.sto (Sto.one sz58 rfl rfl (by repeat constructor) rfl (by rfl) (by rfl)) (fun _ h => nomatch h) ?_
        refine WL.nil ?_
        refine WC.ret ?_
        repeat (with_reducible (first | refine peelT ?_ | refine peelB ?_ | refine peelTX ?_ | refine peelBX ?_ | refine peelBN ?_ | refine peelBO rfl ?_))
        have hno : ∀ ss, ¬ RowsOk l ss := fun ss h => hI.fail hx0 hL (by first | exact .inl (by simpa using g40) | exact .inr ⟨z, hi0, hz, by simpa using g54⟩) ss h.2
        refine ⟨[blkR b2 57 [.slice none 0 0], blkR b3 58 [.int .i64 2], glR], _, (by repeat' constructor), fun D => ?_⟩
        dsimp only [List.cons_append, List.nil_append]
        repeat (with_reducible (first | refine peelT ?_ | refine peelB ?_ | refine peelTX ?_ | refine peelBX ?_ | refine peelBN ?_ | refine peelBO rfl ?_))
        first
          | (have hno : ∀ ss, ¬ RowsOk l ss := (fun ss h => by rw [h.1] at g18; cases g18)
             refine retM.of .nil ?_
             exact retVV (.inr rfl) Tryz.results20 on57 on58 rfl rfl (by repeat constructor) (by repeat constructor) fun w' h => ⟨((none, 0), [], false), ⟨(fun e => nomatch e), fun _ => ⟨hno, rfl, rfl⟩⟩, rfl, OK.sub (h.addNil 70 7) (by repeat' constructor)⟩)
          | (refine retM.of (.cons (by repeat constructor) .nil) ?_
             exact retVV (.inr rfl) Tryz.results20 on57 on58 rfl rfl (by repeat constructor) (by repeat constructor) fun w' h => ⟨((none, 0), [], false), ⟨(fun e => nomatch e), fun _ => ⟨hno, rfl, rfl⟩⟩, rfl, OK.sub (h.addNil 70 7) (by repeat' constructor)⟩)
      · refine WH.on rfl rfl ?_
        refine WH.y (Yl.move rfl) rfl ?_
        refine WH.on rfl rfl ?_
        refine WH.y (Yl.gtr rfl rfl) rfl ?_
        refine WH.on rfl rfl ?_
        refine WH.y (Yl.move rfl) rfl ?_
        refine WH.both (t := 43) rfl (fun g43 => ?_) (fun g43 => ?_)
        · refine WH.on rfl rfl ?_
          have hi0 : 0 < i := by
            have h0 : decide (0 < (rs.length : Int)) = true := g43
            rw [decide_eq_true_iff] at h0
            omega
          obtain ⟨z, hz⟩ : ∃ z, rs[i - 1]? = some z := ⟨_, List.getElem?_eq_getElem (by omega)⟩
          refine WH.y (Yl.load on57 rfl (by repeat constructor) (by rfl)) rfl ?_
          refine WH.on rfl rfl ?_
          refine WH.y (Yl.move rfl) rfl ?_
          refine WH.on rfl rfl ?_
          refine WH.y (Yl.sub rfl rfl (IntWalk.i64_in _ (by omega))) rfl ?_
          refine WH.say (t := 46) (v' := .int .i64 ((i - 1 : Nat) : Int)) rfl (by (refine congrArg _ ?_; omega)) ?_
          refine WH.on rfl rfl ?_
          refine WH.y (Yl.index un57 sz70 rfl rfl (Reads.of (r := ownR (rwB (ao, ca) rs) 70 7 rs.length (vcs rwE rs)) RdOf.own (by repeat constructor)) rfl (by omega)) rfl ?_
          refine WH.on rfl rfl ?_
          refine WH.y (Yl.fieldE fo70_0 rfl vtW hr6 (Reads.of (r := ownR (rwB (ao, ca) rs) 70 7 rs.length (vcs rwE rs)) RdOf.own (by repeat constructor)) hz) rfl ?_
          refine WH.on rfl rfl ?_
          refine WH.y (Yl.loadF on5 rfl vtW hr6 (Reads.of (r := ownR (rwB (ao, ca) rs) 70 7 rs.length (vcs rwE rs)) RdOf.own (by repeat constructor)) hz (by rfl)) rfl ?_
          refine WH.on rfl rfl ?_
          refine WH.y (Yl.field fo70_0 rfl) rfl ?_
          refine WH.on rfl rfl ?_
          refine WH.y (Yl.load on5 rfl (by repeat constructor) (by rfl)) rfl ?_
          refine WH.on rfl rfl ?_
          refine WH.y (Yl.geq rfl rfl) rfl ?_
          refine WH.on rfl rfl ?_
          refine WH.y (Yl.pickT rfl rfl) rfl ?_
          refine WH.y (Yl.pickF rfl rfl) rfl ?_
          refine WH.nil ?_
          refine WC.condD rfl (fun g54 => ?_) (fun g54 => ?_)
          · refine WC.seq ?_
            refine WC.region ?_
            refine WL.sto (Sto.one sz57 rfl rfl (by repeat constructor) rfl (by rfl) (by rfl)) (fun _ h => nomatch h) ?_
            refine WL.sto (Sto.one sz58 rfl rfl (by repeat constructor) rfl (by rfl) (by rfl)) (fun _ h => nomatch h) ?_
            refine WL.nil ?_
            refine WC.ret ?_
            repeat (with_reducible (first | refine peelT ?_ | refine peelB ?_ | refine peelTX ?_ | refine peelBX ?_ | refine peelBN ?_ | refine peelBO rfl ?_))
            have hno : ∀ ss, ¬ RowsOk l ss := fun ss h => hI.fail hx0 hL (by first | exact .inl (by simpa using g40) | exact .inr ⟨z, hi0, hz, by simpa using g54⟩) ss h.2
            refine ⟨[blkR b2 57 [.slice none 0 0], blkR b3 58 [.int .i64 2], glR], _, (by repeat' constructor), fun D => ?_⟩
            dsimp only [List.cons_append, List.nil_append]
            repeat (with_reducible (first | refine peelT ?_ | refine peelB ?_ | refine peelTX ?_ | refine peelBX ?_ | refine peelBN ?_ | refine peelBO rfl ?_))
            first
              | (have hno : ∀ ss, ¬ RowsOk l ss := (fun ss h => by
                   have h1 : cutI l ≠ [] := by simpa using g21
                   have h2 : sufI (cutI l) = false := by simpa using g26
                   rcases rows_end h.2 with h3 | h3
                   · exact h1 h3
                   · unfold sufI at h2; rw [decide_eq_true h3] at h2; cases h2)
                 refine retM.of .nil ?_
                 exact retVV (.inr rfl) Tryz.results20 on57 on58 rfl rfl (by repeat constructor) (by repeat constructor) fun w' h => ⟨((none, 0), [], false), ⟨(fun e => nomatch e), fun _ => ⟨hno, rfl, rfl⟩⟩, rfl, OK.sub (h.addNil 70 7) (by repeat' constructor)⟩)
              | (refine retM.of (.cons (by repeat constructor) .nil) ?_
                 exact retVV (.inr rfl) Tryz.results20 on57 on58 rfl rfl (by repeat constructor) (by repeat constructor) fun w' h => ⟨((none, 0), [], false), ⟨(fun e => nomatch e), fun _ => ⟨hno, rfl, rfl⟩⟩, rfl, OK.sub (h.addNil 70 7) (by repeat' constructor)⟩)
          · refine WC.skip ?_
            refine WC.region ?_
            refine WL.y (Yl.load on57 rfl (by repeat constructor) (by rfl)) rfl ?_
            refine WL.y (Yl.loadN ag70 rfl (by repeat constructor) (leBl (by rw [rwC_len hnl6]; omega)) (rwC_call hnl6)) rfl ?_
            refine WL.to (To.buildSlice (vs := [.agg (rwC p ns).toArray]) un57 zs70 rfl rfl (by simp [Value.cells, rwC_len hnl6]) (by decide) (by decide)) rfl ?_
            intro b57
            rw [flat1]
            refine WL.to (To.append sl57 rfl rfl (by repeat constructor) (Reads.of (RdOf.blk (off := 0) (size := 7) (n := 1) (cap := 1) (cs := rwC p ns) (cs' := rwC p ns) (Nat.le_refl _) (by unfold maxLen; omega) (by rw [rwC_len hnl6]; omega) (rwC_call hnl6)) (by repeat constructor)) (rwC_ones p ns) (show rs.length + 1 = (rs ++ [(p, ns)]).length by simp) (show vcs rwE rs ++ rwC p ns = vcs rwE (rs ++ [(p, ns)]) by rw [vcs_app, vcs_one]; rfl) (by simp; unfold maxLen; omega) (by simp; omega)) rfl ?_
            rintro ⟨⟨ao58, c58⟩, hc58⟩
            dsimp only at hc58 ⊢
            refine WL.sto (Sto.one sz57 rfl rfl (by repeat constructor) rfl (by rfl) (by rfl)) (fun _ h => nomatch h) ?_
            refine WL.nil ?_
            repeat (with_reducible (first | refine peelT ?_ | refine peelB ?_ | refine peelTX ?_ | refine peelBX ?_ | refine peelBN ?_ | refine peelBO rfl ?_))
            have hbt : b = true := by simpa using g40
            have hst : RwI (cutI l) (i + 1) (rs ++ [(p, ns)]) := hI.step hx0 hL hbt (fun z' _ hz' => by rw [hz] at hz'; cases hz'; have h0 := g54; simp at h0; omega)
            exact ⟨[blkR b2 57 [.slice none 0 0], blkR b3 58 [.int .i64 0], blkR b6 57 [rwB (ao58, c58) (rs ++ [(p, ns)])], ownR (rwB (ao58, c58) (rs ++ [(p, ns)])) 70 7 (rs ++ [(p, ns)]).length (vcs rwE (rs ++ [(p, ns)])), glR], _, (by repeat' constructor), ((ao58, c58), rs ++ [(p, ns)]), hst, rfl⟩
        · refine WH.off rfl rfl rfl rfl ?_
          refine WH.off rfl rfl rfl rfl ?_
          refine WH.off rfl rfl rfl rfl ?_
          refine WH.off rfl rfl rfl rfl ?_
          refine WH.off rfl rfl rfl rfl ?_
          refine WH.off rfl rfl rfl rfl ?_
          refine WH.off rfl rfl rfl rfl ?_
          refine WH.off rfl rfl rfl rfl ?_
          refine WH.off rfl rfl rfl rfl ?_
          refine WH.on rfl rfl ?_
          refine WH.y (Yl.pickF rfl rfl) rfl ?_
          refine WH.y (Yl.pickF rfl rfl) rfl ?_
          refine WH.nil ?_
          refine WC.condF rfl (by first | rfl | (simp; done) | (simp; omega)) ?_
          refine WC.skip ?_
          refine WC.region ?_
          refine WL.y (Yl.load on57 rfl (by repeat constructor) (by rfl)) rfl ?_
          refine WL.y (Yl.loadN ag70 rfl (by repeat constructor) (leBl (by rw [rwC_len hnl6]; omega)) (rwC_call hnl6)) rfl ?_
          refine WL.to (To.buildSlice (vs := [.agg (rwC p ns).toArray]) un57 zs70 rfl rfl (by simp [Value.cells, rwC_len hnl6]) (by decide) (by decide)) rfl ?_
          intro b57
          rw [flat1]
          refine WL.to (To.append sl57 rfl rfl (by repeat constructor) (Reads.of (RdOf.blk (off := 0) (size := 7) (n := 1) (cap := 1) (cs := rwC p ns) (cs' := rwC p ns) (Nat.le_refl _) (by unfold maxLen; omega) (by rw [rwC_len hnl6]; omega) (rwC_call hnl6)) (by repeat constructor)) (rwC_ones p ns) (show rs.length + 1 = (rs ++ [(p, ns)]).length by simp) (show vcs rwE rs ++ rwC p ns = vcs rwE (rs ++ [(p, ns)]) by rw [vcs_app, vcs_one]; rfl) (by simp; unfold maxLen; omega) (by simp; omega)) rfl ?_
          rintro ⟨⟨ao58, c58⟩, hc58⟩
          dsimp only at hc58 ⊢
          refine WL.sto (Sto.one sz57 rfl rfl (by repeat constructor) rfl (by rfl) (by rfl)) (fun _ h => nomatch h) ?_
          refine WL.nil ?_
          repeat (with_reducible (first | refine peelT ?_ | refine peelB ?_ | refine peelTX ?_ | refine peelBX ?_ | refine peelBN ?_ | refine peelBO rfl ?_))
          have hbt : b = true := by simpa using g40
          have hst : RwI (cutI l) (i + 1) (rs ++ [(p, ns)]) := hI.step hx0 hL hbt (fun z' h0 _ => by
            have h1 : decide (0 < (rs.length : Int)) = false := g43
            rw [decide_eq_false_iff_not] at h1
            omega)
          exact ⟨[blkR b2 57 [.slice none 0 0], blkR b3 58 [.int .i64 0], blkR b6 57 [rwB (ao58, c58) (rs ++ [(p, ns)])], ownR (rwB (ao58, c58) (rs ++ [(p, ns)])) 70 7 (rs ++ [(p, ns)]).length (vcs rwE (rs ++ [(p, ns)])), glR], _, (by repeat' constructor), ((ao58, c58), rs ++ [(p, ns)]), hst, rfl⟩
    · rintro ⟨⟨ao, ca⟩, rs⟩ D hI
      have hyl : (ysL (cutI l)).length = (lnI (cutI l)).length := List.length_map _
      rw [hyl] at hI
      have hd := RwI.done hI
      dsimp only [List.cons_append, List.nil_append]
      refine WC.seq ?_
      refine WC.region ?_
      refine WL.y (Yl.load on57 rfl (by repeat constructor) (by rfl)) rfl ?_
      refine WL.sto (Sto.one sz57 rfl rfl (by repeat constructor) rfl (by rfl) (by rfl)) (fun _ h => nomatch h) ?_
      refine WL.sto (Sto.one sz58 rfl rfl (by repeat constructor) rfl (by rfl) (by rfl)) (fun _ h => nomatch h) ?_
      refine WL.nil ?_
      refine WC.ret ?_
      repeat (with_reducible (first | refine peelT ?_ | refine peelB ?_ | refine peelTX ?_ | refine peelBX ?_ | refine peelBN ?_ | refine peelBO rfl ?_))
      refine retM.of (.cons (by repeat constructor) .nil) ?_
      exact retVV (.inr rfl) Tryz.results20 on57 on58 rfl rfl (by repeat constructor) (by repeat constructor) fun w' h => ⟨((ao, ca), rs, true), ⟨fun _ => ⟨hpre, hd⟩, (fun e => nomatch e)⟩, rfl, h.sub (by repeat' constructor)⟩
end Go.Proofs.YtbgimajbehodnaaGreatDoor
