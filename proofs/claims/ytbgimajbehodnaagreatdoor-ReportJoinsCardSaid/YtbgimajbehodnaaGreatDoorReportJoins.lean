/- ReportJoins: the sum of lists, one behind the other, is theirs joined; joining hangs neither on order nor on brackets; the sums by a key, joined in whatever order, are the sum of all: true for every input. No conditions beyond the statement's own. -/
import Derived.Test.YtbgimajbehodnaaGreatDoorRows
import Derived.Test.YtbgimajbehodnaaGreatDoorRepOj
import Derived.Test.YtbgimajbehodnaaGreatDoorLibZ
import Derived.SizedLaws
import Derived.Test.YtbgimajbehodnaaGreatDoorLibX
import Derived.WalkKit
import Derived.ProofKit
import Derived.OpenShut
import Derived.ShutString
import Derived.ChangeOld
import Derived.Below
import Derived.JoinedCond
import Derived.Test.YtbgimajbehodnaaGreatDoorCards
import Derived.Test.YtbgimajbehodnaaGreatDoorTie
import Derived.Deep.DeepHandedRow
import Derived.Lib.LaidTab
namespace Go.Proofs.YtbgimajbehodnaaGreatDoor.reportJoins
open Go.ChangeShapes Go.WideShapes Go.ChangeAt Go.RowKit
open Go.ChangeMaps (open_string shut_string)
set_option linter.unusedVariables false

theorem own : ownKnob Tryz.prog.godebug = none := by kernel_rfl
theorem laidOut : laidOutB Tryz.prog = true := by kernel_rfl

set_option maxRecDepth 100000 in
theorem contract (H : Type) (enc : TypeId × Value → H) (W : World) (base : Nat) (args : Array Value) (ds gs : List (DataW H)) (before : List MemPlace)
    (hval0 : ∀ (j : Nat) t v, Tryz.f4.params[j]? = some t → args[j]? = some v → Value.okWide Tryz.prog W .any base t v)
    (hW : DataW.Whole enc Tryz.prog Tryz.f4.params.toList Rows.reportJoinsSpec.vars false W args.toList ds gs before) (hL : laidMetH Tryz.prog Rows.reportJoinsRow.laid W) (hsz : (DataW.weightsEach Tryz.prog (Tryz.f4.params.toList ++ (Go.OpenSpec.ofChange Rows.reportJoinsSpec).bare.plain.varTypes Tryz.prog) (ds ++ gs)).all (· ≤ reachBytes) = true) (hsh : W.ShapedOpen Tryz.prog) :
    Calls Tryz.prog 4 args W fun e W' => ∃ v, e = .returned v ∧ Rows.reportJoinsSpec.post enc Tryz.prog Tryz.f4 false true false false W args v W' := by
  have hval : ∀ (j : Nat) t v, Tryz.f4.params[j]? = some t → args[j]? = some v → Value.okWide Tryz.prog W .any base t v := hval0
  have hW' := hW
  obtain ⟨p, q, hA0, hV, rfl, hfz, hnd⟩ := hW
  have hA : DataW.TrodAll enc Tryz.prog W 0 (fun _ => true) true Tryz.f4.params.toList args.toList ds p := hA0
  rw [Tryz.params4] at hA hval
  obtain ⟨v0, vs0, d0, ds0, p0, q0, hargs, rfl, rfl, h0, r0⟩ := trodAll_cons hA
  obtain ⟨v1, vs1, d1, ds1, p1, q1, rfl, rfl, rfl, h1, r1⟩ := trodAll_cons r0
  obtain ⟨v2, vs2, d2, ds2, p2, q2, rfl, rfl, rfl, h2, r2⟩ := trodAll_cons r1
  obtain ⟨v3, vs3, d3, ds3, p3, q3, rfl, rfl, rfl, h3, r3⟩ := trodAll_cons r2
  obtain ⟨rfl, rfl, rfl⟩ := trodAll_nil r3
  obtain rfl : args = #[v0, v1, v2, v3] := by cases args; simp_all
  obtain ⟨rfl, rfl⟩ := trodVars_none hV
  obtain ⟨a0, l0, e0, rfl⟩ := okWide_slice Tryz.underlying33 (hval 0 33 v0 rfl rfl)
  have k0 := h0
  have lt0 : ∀ x ∈ p0, x.block < W.heap.size := by obtain ⟨m, hm⟩ := k0; exact DataW.trod_lt m _ _ _ hm
  obtain ⟨x0, rfl, g0, y0⟩ := open_recs h0
  have z0 : ∀ n ∈ d0.weights Tryz.prog 33, n ≤ reachBytes := fun n hn => by simpa using List.all_eq_true.1 hsz _ (DataW.weights_mem_each (j := 0) rfl rfl n hn)
  have n0 : x0.length ≤ reachBytes := by obtain ⟨fu, hf⟩ := k0; exact sliceLen Tryz.underlying33 (of_decide_eq_true (by kernel_rfl)) hf z0
  obtain ⟨a1, l1, e1, rfl⟩ := okWide_slice Tryz.underlying33 (hval 1 33 v1 rfl rfl)
  have k1 := h1
  have lt1 : ∀ x ∈ p1, x.block < W.heap.size := by obtain ⟨m, hm⟩ := k1; exact DataW.trod_lt m _ _ _ hm
  obtain ⟨x1, rfl, g1, y1⟩ := open_recs h1
  have z1 : ∀ n ∈ d1.weights Tryz.prog 33, n ≤ reachBytes := fun n hn => by simpa using List.all_eq_true.1 hsz _ (DataW.weights_mem_each (j := 1) rfl rfl n hn)
  have n1 : x1.length ≤ reachBytes := by obtain ⟨fu, hf⟩ := k1; exact sliceLen Tryz.underlying33 (of_decide_eq_true (by kernel_rfl)) hf z1
  obtain ⟨a2, l2, e2, rfl⟩ := okWide_slice Tryz.underlying33 (hval 2 33 v2 rfl rfl)
  have k2 := h2
  have lt2 : ∀ x ∈ p2, x.block < W.heap.size := by obtain ⟨m, hm⟩ := k2; exact DataW.trod_lt m _ _ _ hm
  obtain ⟨x2, rfl, g2, y2⟩ := open_recs h2
  have z2 : ∀ n ∈ d2.weights Tryz.prog 33, n ≤ reachBytes := fun n hn => by simpa using List.all_eq_true.1 hsz _ (DataW.weights_mem_each (j := 2) rfl rfl n hn)
  have n2 : x2.length ≤ reachBytes := by obtain ⟨fu, hf⟩ := k2; exact sliceLen Tryz.underlying33 (of_decide_eq_true (by kernel_rfl)) hf z2
  obtain ⟨a3, rfl, rfl, rfl, w3⟩ := open_int Tryz.underlying34 (hval 3 34 v3 rfl rfl) h3
  clear hA0 hval0
  have hNo : ∀ r ∈ ([rdR (.slice a0 x0.length e0) 22 x0.length (vcs rcV x0), rdR (.slice a1 x1.length e1) 22 x1.length (vcs rcV x1), rdR (.slice a2 x2.length e2) 22 x2.length (vcs rcV x2), glR] : List Res), ∀ k, ¬ r.wr k := (List.forall_mem_cons.2 ⟨(fun _ h => h), (List.forall_mem_cons.2 ⟨(fun _ h => h), (List.forall_mem_cons.2 ⟨(fun _ h => h), (List.forall_mem_cons.2 ⟨(fun _ h => h), (fun _ h => nomatch h)⟩)⟩)⟩)⟩)
  have hOK := OK.ro (A := [rdR (.slice a0 x0.length e0) 22 x0.length (vcs rcV x0), rdR (.slice a1 x1.length e1) 22 x1.length (vcs rcV x1), rdR (.slice a2 x2.length e2) 22 x2.length (vcs rcV x2), glR]) (w := W) (List.forall_mem_cons.2 ⟨y0, (List.forall_mem_cons.2 ⟨y1, (List.forall_mem_cons.2 ⟨y2, (List.forall_mem_cons.2 ⟨(gl_of hL hsh), (fun _ h => nomatch h)⟩)⟩)⟩)⟩) hNo
  refine (joinsLaw_any (.slice a0 x0.length e0) (.slice a1 x1.length e1) (.slice a2 x2.length e2) x0 x1 x2 g0 g1 g2 (by have h := n0; unfold reachBytes at h; omega) (by have h := n1; unfold reachBytes at h; omega) (by have h := n2; unfold reachBytes at h; omega) a3 (wf_u64 w3) W hOK).mono ?_
  rintro e W' ⟨_, _, he, h2⟩
  have bel := h2.below hNo
  subst he
  exact ⟨_, rfl, _, _, _, [], _, [], hW', trodAll_mk1 (shut_bool Tryz.underlying4 _), (trodAll_cons_mk (Below.trod laidOut (by kernel_rfl) (of_decide_eq_true (by kernel_rfl)) k0 bel lt0) (trodAll_cons_mk (Below.trod laidOut (by kernel_rfl) (of_decide_eq_true (by kernel_rfl)) k1 bel lt1) (trodAll_cons_mk (Below.trod laidOut (by kernel_rfl) (of_decide_eq_true (by kernel_rfl)) k2 bel lt2) (trodAll_cons_mk (shut_int Tryz.underlying34 w3) trodAll_mk0)))), rfl, bel.frame _, fun h => by cases h⟩

/-- The cells of plain data. -/
def litC (d : DataW Unit) : List Value := match d with
  | .agg ps => ps.flatMap fun q => match q with
    | .lit (.int k n) => [.int k n]
    | .agg qs => qs.flatMap fun u => match u with
      | .lit (.int k n) => [.int k n]
      | _ => []
    | _ => []
  | _ => []
def putLaid (cs : List Value) : Obj → Obj
  | .cells _ t frozen => .cells cs.toArray t frozen
  | o => o
/-- A world for the witness: the tables hold what is listed; the errors lie behind the variables. -/
noncomputable def laidHeap (os : Os) : Array Obj := (World.holding Tryz.prog os ⟨#[], #[], []⟩).heap
noncomputable def laidWorld (os : Os) : World :=
  { World.holding Tryz.prog os ⟨#[], #[], []⟩ with heap := (((((((((laidHeap os).modify 0 (putLaid (litC Rows.laid_internal_strconv_uint64pow10))).modify 4 (putLaid (litC Rows.laid_math_bits_deBruijn32tab))).modify 5 (putLaid (litC Rows.laid_math_bits_deBruijn64tab))).modify 6 (putLaid (litC Rows.laid_unicode_utf8_first))).modify 7 (putLaid (litC Rows.laid_unicode_utf8_acceptRanges))).modify 2 (putLaid [.iface 261 (.pointer (some ⟨(laidHeap os).size, 0, none⟩))])).modify 3 (putLaid [.iface 261 (.pointer (some ⟨(laidHeap os).size + 1, 0, none⟩))])).push (.cells #[.string ⟨#[105, 110, 118, 97, 108, 105, 100, 32, 115, 121, 110, 116, 97, 120]⟩] 263)).push (.cells #[.string ⟨#[118, 97, 108, 117, 101, 32, 111, 117, 116, 32, 111, 102, 32, 114, 97, 110, 103, 101]⟩] 263) }
theorem laid_met (os : Os) : laidMet Tryz.prog Rows.reportJoinsRow.laid ((laidWorld os).forCall (fun _ _ => 0) ⟨#[], #[.slice none 0 0, .slice none 0 0, .slice none 0 0, .int .u64 0], []⟩).memory :=
  laidMet_of_run' 8 (by kernel_rfl) (by kernel_rfl)
theorem reads (os : Os) {H : Type} (enc : TypeId × Value → H) : ∃ places, DataW.whole enc Tryz.prog ((laidWorld os).forCall (fun _ _ => 0) ⟨#[], #[.slice none 0 0, .slice none 0 0, .slice none 0 0, .int .u64 0], []⟩).memory Tryz.f4.params.toList Rows.reportJoinsSpec.vars false #[.slice none 0 0, .slice none 0 0, .slice none 0 0, .int .u64 0].toList 8 = some ([.nil, .nil, .nil, .lit (.int .u64 0)], [], places) :=
  ⟨[], by kernel_rfl⟩

set_option maxRecDepth 100000 in
theorem lifted (os : Os) (started : os.Started) (H : Type) (enc : TypeId × Value → H) (F : Stop.Interp) :
    ReturnsInHanded {} Tryz.checked os 4 .any ((Go.OpenSpec.ofChange Rows.reportJoinsSpec).preRow enc Tryz.prog Tryz.f4 Rows.reportJoinsRow.domain false Rows.reportJoinsRow.laid) (((Go.OpenSpec.ofChange Rows.reportJoinsSpec).at F).post enc Tryz.prog Tryz.f4 false true false false) := by
  obtain ⟨places, hx⟩ := reads os enc
  refine returnsInHanded_of_row (C := Tryz.checked) (s := Go.OpenSpec.ofChange Rows.reportJoinsSpec) own started (by kernel_rfl) Tryz.func4
    (witness_row_at (enc := enc) (C := Tryz.checked) false (laidWorld os) #[.slice none 0 0, .slice none 0 0, .slice none 0 0, .int .u64 0] rfl (by kernel_rfl) (by kernel_rfl) (by kernel_rfl)
      (OpenSpec.preRow_of_cond 8 hx (by kernel_rfl) (fun k hk => by cases hk) (by kernel_rfl) (laid_met os))) ?_
  intro W base args ds gs before hval hW _ _ hsz hL hsh _
  exact contract H enc W base args ds gs before hval hW hL hsz hsh

theorem over : Rows.reportJoinsRow.holds Tryz.pinned (Go.OpenSpec.ofChange Rows.reportJoinsSpec) :=
  OpenClaim.holds_of_cond 4 Tryz.f4 rfl rfl rfl rfl rfl rfl rfl ⟨rfl, rfl, rfl, rfl, rfl⟩ rfl rfl rfl rfl rfl (by kernel_rfl) Tryz.func4 (by kernel_rfl)
    (of_decide_eq_true (by kernel_rfl)) (by unfold Func.isWrapper; first | (rw [if_pos (by decide +kernel)]; kernel_rfl) | (rw [if_neg (by decide +kernel)]; exact ⟨rfl, rfl⟩))
    (fun os started H enc _ F => by rw [OpenClaim.pre_eq_preRow]; exact lifted os started H enc F)

theorem plain (f : FuncId) (fn : Func) (hf : Tryz.pinned.checked.prog.funcNamed "hailer/hailerlaw40.ReportJoins" = some f) (hfn : Tryz.pinned.checked.prog.funcs[f]? = some fn) :
    true = Tryz.pinned.checked.prog.looks [] ∧ ∀ (j : Nat) t, fn.params[j]? = some t → Tryz.pinned.checked.prog.wantsStandIn t = false := by
  obtain rfl : f = 4 := Option.some.inj ((show Tryz.prog.funcNamed "hailer/hailerlaw40.ReportJoins" = some 4 by kernel_rfl).symm.trans hf) |>.symm
  obtain rfl : fn = Tryz.f4 := (Option.some.inj (Tryz.func4.symm.trans hfn)).symm
  refine ⟨by kernel_rfl, fun j t ht => ?_⟩
  rw [Tryz.params4] at ht
  have hm := Array.mem_of_getElem? ht
  simp only [List.mem_toArray, List.mem_cons, List.not_mem_nil, or_false] at hm
  rcases hm with h | h | h | h
  · subst h
    exact (show Tryz.prog.wantsStandIn 33 = false by kernel_rfl)
  · subst h
    exact (show Tryz.prog.wantsStandIn 33 = false by kernel_rfl)
  · subst h
    exact (show Tryz.prog.wantsStandIn 33 = false by kernel_rfl)
  · subst h
    exact (show Tryz.prog.wantsStandIn 34 = false by kernel_rfl)

theorem proved : Rows.ReportJoinsCardSaid :=
  Claim7.holds_tied_plain_at .later [] _ _ _ _ over (fun _ h => by cases h) (by kernel_rfl) (fun _ h => by cases h) reportJoins_row_tie rfl ⟨rfl, rfl⟩ (by kernel_rfl) rfl plain (by kernel_rfl)
#print axioms proved
end Go.Proofs.YtbgimajbehodnaaGreatDoor.reportJoins
