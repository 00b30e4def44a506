/- TrustPlays: whatever is learnt, forgotten, verified, accepted, put as bytes and loaded: each answer, how each account stands, its keys, and the bytes, are the document's: true for every input. No conditions beyond the statement's own. -/
import Derived.Test.YtcplbkbimpiioaaGreatDoorRows
import Derived.Test.YtcplbkbimpiioaaGreatDoorTpQ
import Derived.Test.YtcplbkbimpiioaaGreatDoorLibZ
import Derived.WalkKit
import Derived.ProofKit
import Derived.OpenShut
import Derived.ShutString
import Derived.ChangeOld
import Derived.Below
import Derived.JoinedCond
import Derived.Test.YtcplbkbimpiioaaGreatDoorCards
import Derived.Test.YtcplbkbimpiioaaGreatDoorTie
import Derived.Deep.DeepHandedRow
import Derived.Lib.LaidTab
namespace Go.Proofs.YtcplbkbimpiioaaGreatDoor.trustPlays
open Go.ChangeShapes Go.WideShapes Go.ChangeAt Go.RowKit
open Go.ChangeMaps (open_string shut_string)
set_option linter.unusedVariables false

theorem own : ownKnob Tryz.prog.godebug = none := by kernel_rfl
theorem laidOut : laidOutB Tryz.prog = true := by kernel_rfl

set_option maxRecDepth 100000 in
theorem contract (H : Type) (enc : TypeId × Value → H) (W : World) (base : Nat) (args : Array Value) (ds gs : List (DataW H)) (before : List MemPlace)
    (hval0 : ∀ (j : Nat) t v, Tryz.f3.params[j]? = some t → args[j]? = some v → Value.okWide Tryz.prog W .any base t v)
    (hW : DataW.Whole enc Tryz.prog Tryz.f3.params.toList Rows.trustPlaysSpec.vars false W args.toList ds gs before) (hsh : W.ShapedOpen Tryz.prog) :
    Calls Tryz.prog 3 args W fun e W' => ∃ v, e = .returned v ∧ Rows.trustPlaysSpec.post enc Tryz.prog Tryz.f3 false true false false W args v W' := by
  have hval : ∀ (j : Nat) t v, Tryz.f3.params[j]? = some t → args[j]? = some v → Value.okWide Tryz.prog W .any base t v := hval0
  have hW' := hW
  obtain ⟨p, q, hA0, hV, rfl, hfz, hnd⟩ := hW
  have hA : DataW.TrodAll enc Tryz.prog W 0 (fun _ => true) true Tryz.f3.params.toList args.toList ds p := hA0
  rw [Tryz.params3] at hA hval
  obtain ⟨v0, vs0, d0, ds0, p0, q0, hargs, rfl, rfl, h0, r0⟩ := trodAll_cons hA
  obtain ⟨v1, vs1, d1, ds1, p1, q1, rfl, rfl, rfl, h1, r1⟩ := trodAll_cons r0
  obtain ⟨v2, vs2, d2, ds2, p2, q2, rfl, rfl, rfl, h2, r2⟩ := trodAll_cons r1
  obtain ⟨rfl, rfl, rfl⟩ := trodAll_nil r2
  obtain rfl : args = #[v0, v1, v2] := by cases args; simp_all
  obtain ⟨rfl, rfl⟩ := trodVars_none hV
  obtain ⟨a0, rfl, rfl, rfl, w0⟩ := open_int Tryz.underlying5 (hval 0 5 v0 rfl rfl) h0
  obtain ⟨a1, l1, e1, rfl⟩ := okWide_slice Tryz.underlying22 (hval 1 22 v1 rfl rfl)
  have k1 := h1
  have lt1 : ∀ x ∈ p1, x.block < W.heap.size := by obtain ⟨m, hm⟩ := k1; exact DataW.trod_lt m _ _ _ hm
  obtain ⟨x1, rfl, m1, y1⟩ := open_keys h1
  obtain ⟨a2, l2, e2, rfl⟩ := okWide_slice Tryz.underlying23 (hval 2 23 v2 rfl rfl)
  have k2 := h2
  have lt2 : ∀ x ∈ p2, x.block < W.heap.size := by obtain ⟨m, hm⟩ := k2; exact DataW.trod_lt m _ _ _ hm
  obtain ⟨x2, rfl, m2, g2, y2⟩ := open_dus h2
  clear hA0 hval0
  obtain ⟨m, hm⟩ := mx_int hsh
  have w0' := u8_rng w0
  have hNo : ∀ r ∈ ([rdR (.slice a1 x1.length e1) 32 x1.length (vcs kyV x1), rdR (.slice a2 x2.length e2) 36 x2.length (vcs duV x2), rdR mxV 1 1 [.int .i64 m]] : List Res), ∀ k, ¬ r.wr k := (List.forall_mem_cons.2 ⟨(fun _ h => h), (List.forall_mem_cons.2 ⟨(fun _ h => h), (List.forall_mem_cons.2 ⟨(fun _ h => h), (fun _ h => nomatch h)⟩)⟩)⟩)
  have hOK := OK.ro (A := [rdR (.slice a1 x1.length e1) 32 x1.length (vcs kyV x1), rdR (.slice a2 x2.length e2) 36 x2.length (vcs duV x2), rdR mxV 1 1 [.int .i64 m]]) (w := W) (List.forall_mem_cons.2 ⟨y1, (List.forall_mem_cons.2 ⟨y2, (List.forall_mem_cons.2 ⟨hm, (fun _ h => nomatch h)⟩)⟩)⟩) hNo
  refine (plays_any m a0 w0' x1 (.slice a1 x1.length e1) x2 (.slice a2 x2.length e2) g2 W hOK).mono ?_
  rintro e W' ⟨_, _, he, h2⟩
  have bel := h2.below hNo
  subst he
  exact ⟨_, rfl, _, _, _, [], _, [], hW', trodAll_mk1 (shut_bool Tryz.underlying4 _), (trodAll_cons_mk (shut_int Tryz.underlying5 w0) (trodAll_cons_mk (Below.trod laidOut (by kernel_rfl) (of_decide_eq_true (by kernel_rfl)) k1 bel lt1) (trodAll_cons_mk (Below.trod laidOut (by kernel_rfl) (of_decide_eq_true (by kernel_rfl)) k2 bel lt2) trodAll_mk0))), rfl, bel.frame _, fun h => by cases h⟩

/-- The cells of plain data. -/
def litC (d : DataW Unit) : List Value := match d with
  | .agg ps => ps.flatMap fun q => match q with
    | .lit (.int k n) => [.int k n]
    | .agg qs => qs.flatMap fun u => match u with
      | .lit (.int k n) => [.int k n]
      | _ => []
    | _ => []
  | _ => []
def putLaid (cs : List Value) : Obj → Obj
  | .cells _ t frozen => .cells cs.toArray t frozen
  | o => o
/-- A world for the witness: the tables hold what is listed. -/
noncomputable def laidWorld (os : Os) : World :=
  { World.holding Tryz.prog os ⟨#[], #[], []⟩ with heap := ((World.holding Tryz.prog os ⟨#[], #[], []⟩).heap.modify 1 (putLaid (litC Rows.laid_unicode_utf8_first))).modify 2 (putLaid (litC Rows.laid_unicode_utf8_acceptRanges)) }
theorem laid_met (os : Os) : laidMet Tryz.prog Rows.trustPlaysRow.laid ((laidWorld os).forCall (fun _ _ => 0) ⟨#[], #[.int .u8 0, .slice none 0 0, .slice none 0 0], []⟩).memory :=
  laidMet_of_run' 8 (by kernel_rfl) (by kernel_rfl)
theorem reads (os : Os) {H : Type} (enc : TypeId × Value → H) : ∃ places, DataW.whole enc Tryz.prog ((laidWorld os).forCall (fun _ _ => 0) ⟨#[], #[.int .u8 0, .slice none 0 0, .slice none 0 0], []⟩).memory Tryz.f3.params.toList Rows.trustPlaysSpec.vars false #[.int .u8 0, .slice none 0 0, .slice none 0 0].toList 8 = some ([.lit (.int .u8 0), .nil, .nil], [], places) :=
  ⟨[], by kernel_rfl⟩

set_option maxRecDepth 100000 in
theorem lifted (os : Os) (started : os.Started) (H : Type) (enc : TypeId × Value → H) (F : Stop.Interp) :
    ReturnsInHanded {} Tryz.checked os 3 .any ((Go.OpenSpec.ofChange Rows.trustPlaysSpec).preRow enc Tryz.prog Tryz.f3 Rows.trustPlaysRow.domain false Rows.trustPlaysRow.laid) (((Go.OpenSpec.ofChange Rows.trustPlaysSpec).at F).post enc Tryz.prog Tryz.f3 false true false false) := by
  obtain ⟨places, hx⟩ := reads os enc
  refine returnsInHanded_of_row (C := Tryz.checked) (s := Go.OpenSpec.ofChange Rows.trustPlaysSpec) own started (by kernel_rfl) Tryz.func3
    (witness_row_at (enc := enc) (C := Tryz.checked) false (laidWorld os) #[.int .u8 0, .slice none 0 0, .slice none 0 0] rfl (by kernel_rfl) (by kernel_rfl) (by kernel_rfl)
      (OpenSpec.preRow_of_cond 8 hx (by kernel_rfl) (fun k hk => by cases hk) (by kernel_rfl) (laid_met os))) ?_
  intro W base args ds gs before hval hW _ _ _ _ hsh _
  exact contract H enc W base args ds gs before hval hW hsh

theorem over : Rows.trustPlaysRow.holds Tryz.pinned (Go.OpenSpec.ofChange Rows.trustPlaysSpec) :=
  OpenClaim.holds_of_cond 3 Tryz.f3 rfl rfl rfl rfl rfl rfl rfl ⟨rfl, rfl, rfl, rfl, rfl⟩ rfl rfl rfl rfl rfl (by kernel_rfl) Tryz.func3 (by kernel_rfl)
    (of_decide_eq_true (by kernel_rfl)) (by unfold Func.isWrapper; first | (rw [if_pos (by decide +kernel)]; kernel_rfl) | (rw [if_neg (by decide +kernel)]; exact ⟨rfl, rfl⟩))
    (fun os started H enc _ F => by rw [OpenClaim.pre_eq_preRow]; exact lifted os started H enc F)

theorem plain (f : FuncId) (fn : Func) (hf : Tryz.pinned.checked.prog.funcNamed "hailer/hailerlaw37.TrustPlays" = some f) (hfn : Tryz.pinned.checked.prog.funcs[f]? = some fn) :
    false = Tryz.pinned.checked.prog.looks [] ∧ ∀ (j : Nat) t, fn.params[j]? = some t → Tryz.pinned.checked.prog.wantsStandIn t = false := by
  obtain rfl : f = 3 := Option.some.inj ((show Tryz.prog.funcNamed "hailer/hailerlaw37.TrustPlays" = some 3 by kernel_rfl).symm.trans hf) |>.symm
  obtain rfl : fn = Tryz.f3 := (Option.some.inj (Tryz.func3.symm.trans hfn)).symm
  refine ⟨by kernel_rfl, fun j t ht => ?_⟩
  rw [Tryz.params3] at ht
  have hm := Array.mem_of_getElem? ht
  simp only [List.mem_toArray, List.mem_cons, List.not_mem_nil, or_false] at hm
  rcases hm with h | h | h
  · subst h
    exact (show Tryz.prog.wantsStandIn 5 = false by kernel_rfl)
  · subst h
    exact (show Tryz.prog.wantsStandIn 22 = false by kernel_rfl)
  · subst h
    exact (show Tryz.prog.wantsStandIn 23 = false by kernel_rfl)

theorem proved : Rows.TrustPlaysCardSaid :=
  Claim7.holds_tied_plain_at .later [] _ _ _ _ over (fun _ h => by cases h) (by kernel_rfl) (fun _ h => by cases h) trustPlays_row_tie rfl ⟨rfl, rfl⟩ (by kernel_rfl) rfl plain (by kernel_rfl)
#print axioms proved
end Go.Proofs.YtcplbkbimpiioaaGreatDoor.trustPlays
