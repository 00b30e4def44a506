/- What was made, by places: plain laws. -/
import Derived.Test.YtifhkjcimhhaiaaTerXe
import Derived.Test.YtifhkjcimhhaiaaLibMk
namespace Go.Proofs.Ytifhkjcimhhaiaa
open Go Go.RowKit
def trP (P : List Nd) (j : Nat) : Tm := (trs P).getD j zT
def tmO1 (P : List Nd) (o : Option Nat) : Option Tm := o.map (trP P)
/-- What the law has of any steps. -/
structure Wk (P : List Nd) (m : List (Option Nat)) : Prop where
  p : PoolOk P
  md : MadeOk P m
  all : ∀ i, i < P.length → some i ∈ m
  li : Light P
theorem Wk.ok {P : List Nd} {m : List (Option Nat)} (h : Wk P m) {j : Nat} (hj : j < P.length) : (trP P j).ok ∧ (trP P j).enc.length ≤ 40000 := by
  have hm : trP P j ∈ trs P := by
    have hj2 : j < (trs P).length := by rw [trs_len]; exact hj
    simp [trP, List.getD, List.getElem?_eq_getElem hj2]
  exact ⟨trs_tok h.p hj, h.li.enc hm⟩
theorem Wk.lm {P : List Nd} {m : List (Option Nat)} (h : Wk P m) {o : Option Nat} (ho : o ∈ m) : Lm (tmO1 P o) := by
  cases o with
  | none => exact ⟨(fun t h => nomatch h), by show ([] : List Int).length ≤ _; simp⟩
  | some j => exact ⟨fun t e => by cases e; exact (h.ok (h.md j ho)).1, (h.ok (h.md j ho)).2⟩
theorem Wk.allO {P : List Nd} {m : List (Option Nat)} (h : Wk P m) : AllO (tmO P m) := by
  intro o ho
  unfold tmO at ho
  obtain ⟨x, hx, rfl⟩ := List.mem_map.1 ho
  exact (h.lm hx).1
theorem Wk.same {P : List Nd} {m : List (Option Nat)} (h : Wk P m) {o q : Option Nat} (ho : o ∈ m) (hq : q ∈ m) : (encO (tmO1 P o) = encO (tmO1 P q)) ↔ plI o = plI q := by
  rw [encO_inj (h.lm ho).1 (h.lm hq).1]
  cases o with
  | none =>
    cases q with
    | none => exact ⟨fun _ => rfl, fun _ => rfl⟩
    | some j => exact ⟨fun e => (nomatch e), fun e => by have : (-1 : Int) = (j : Int) := e; omega⟩
  | some i =>
    cases q with
    | none => exact ⟨fun e => (nomatch e), fun e => by have : (i : Int) = -1 := e; omega⟩
    | some j =>
      refine ⟨fun e => ?_, fun e => ?_⟩
      · have e : some (trP P i) = some (trP P j) := e
        injection e with e
        rw [trs_inj h.p (h.md i ho) (h.md j hq) e]
      · have e : (i : Int) = (j : Int) := e
        rw [show i = j by omega]
theorem wfI {n : Int} (h : -9223372036854775808 ≤ n ∧ n ≤ 9223372036854775807) : (Lit.int .i64 n).wf = true := by
  simpa [Lit.wf, IntKind.min, IntKind.max, IntKind.signed, IntKind.bits] using h
abbrev OfM := List (Int × Option Tm)
/-- The terms of places, so far. -/
structure OfI (P : List Nd) (m : List (Option Nat)) (i : Nat) (mp : OfM) : Prop where
  val : ∀ q ∈ mp, ∃ j, j < P.length ∧ q = ((j : Int), some (trP P j))
  nd : mnd mp
  all : ∀ (k j : Nat), k < i → m[k]? = some (some j) → mget mp (j : Int) = some (some (trP P j))
theorem OfI.start (P : List Nd) (m : List (Option Nat)) : OfI P m 0 [] := ⟨(fun q h => nomatch h), List.Pairwise.nil, fun k j h => absurd h (Nat.not_lt_zero k)⟩
theorem OfI.wf {P : List Nd} {m : List (Option Nat)} {i : Nat} {mp : OfM} (h : OfI P m i mp) (hP : P.length ≤ 1000000) : ∀ q ∈ mp, (Lit.int .i64 q.1).wf = true := fun q hq => by
  obtain ⟨j, hj, rfl⟩ := h.val q hq
  exact wfI ⟨by dsimp only; omega, by dsimp only; omega⟩
theorem OfI.put {P : List Nd} {m : List (Option Nat)} {i : Nat} {mp : OfM} (h : OfI P m i mp) {j : Nat} (hj : j < P.length) (hm : m[i]? = some (some j)) : OfI P m (i + 1) (mput mp (j : Int) (some (trP P j))) := by
  refine ⟨fun q hq => ?_, mput_nd h.nd _ _, fun k l hk hl => ?_⟩
  · rcases mput_mem.1 hq with rfl | hq
    · exact ⟨j, hj, rfl⟩
    · exact h.val q hq.1
  · rw [mget_put h.nd]
    by_cases e : (l : Int) = (j : Int)
    · rw [if_pos e, show l = j by omega]
    · rw [if_neg e]
      by_cases hki : k = i
      · subst hki
        rw [hm] at hl
        cases hl
        exact absurd rfl e
      · exact h.all k l (by omega) hl
theorem OfI.skip {P : List Nd} {m : List (Option Nat)} {i : Nat} {mp : OfM} (h : OfI P m i mp) (hm : m[i]? = some none) : OfI P m (i + 1) mp := by
  refine ⟨h.val, h.nd, fun k l hk hl => ?_⟩
  by_cases hki : k = i
  · subst hki
    rw [hm] at hl
    cases hl
  · exact h.all k l (by omega) hl
theorem OfI.full {P : List Nd} {m : List (Option Nat)} {mp : OfM} (h : OfI P m m.length mp) (hw : Wk P m) {j : Nat} (hj : j < P.length) : mget mp (j : Int) = some (some (trP P j)) := by
  obtain ⟨k, hk⟩ := List.mem_iff_getElem?.1 (hw.all j hj)
  exact h.all k j (List.getElem?_eq_some_iff.1 hk).1 hk
end Go.Proofs.Ytifhkjcimhhaiaa
