/- JitterPlays: of any buffer, whatever is put, asked, played, gone over: each answer, what is due, what is kept, and the sums, are the document's: true for every input. No conditions beyond the statement's own. -/
import Derived.Test.YtklbmgfpnafdlaaRows
import Derived.Test.YtklbmgfpnafdlaaJitPc
import Derived.Test.YtklbmgfpnafdlaaLibZ
import Derived.WalkKit
import Derived.ProofKit
import Derived.OpenShut
import Derived.ShutString
import Derived.ChangeOld
import Derived.Below
namespace Go.Proofs.Ytklbmgfpnafdlaa.jitterPlays
open Go.ChangeShapes Go.WideShapes Go.ChangeAt Go.RowKit
open Go.ChangeMaps (open_string shut_string)
set_option linter.unusedVariables false

theorem own : ownKnob Try.prog.godebug = none := by kernel_rfl
theorem laidOut : laidOutB Try.prog = true := by kernel_rfl

set_option maxRecDepth 100000 in
theorem lifted (os : Os) (started : os.Started) (H : Type) (enc : TypeId × Value → H) :
    ReturnsInHanded {} Try.checked os 3 .any (Rows.jitterPlaysSpec.pre6 enc Try.prog Try.f3 Rows.jitterPlaysRow.domain false) (Rows.jitterPlaysSpec.post enc Try.prog Try.f3 false true false false) := by
  refine returnsInHanded_of_change (C := Try.checked) own started (by kernel_rfl) Try.func3
    (ChangeSpec.witness6 (enc := enc) (C := Try.checked) false ⟨#[], #[.int .u64 0, .int .u64 0, .slice none 0 0], []⟩ 8 (by kernel_rfl) (by kernel_rfl) (by kernel_rfl) (by kernel_rfl)) ?_
  intro W base args ds gs before hval0 hW hcnd _
  have hval : ∀ (j : Nat) t v, Try.f3.params[j]? = some t → args[j]? = some v → Value.okWide Try.prog W .any base t v := hval0
  have hW' := hW
  obtain ⟨p, q, hA0, hV, rfl, hfz, hnd⟩ := hW
  have hA : DataW.TrodAll enc Try.prog W 0 (fun _ => true) true Try.f3.params.toList args.toList ds p := hA0
  rw [Try.params3] at hA hval
  obtain ⟨v0, vs0, d0, ds0, p0, q0, hargs, rfl, rfl, h0, r0⟩ := trodAll_cons hA
  obtain ⟨v1, vs1, d1, ds1, p1, q1, rfl, rfl, rfl, h1, r1⟩ := trodAll_cons r0
  obtain ⟨v2, vs2, d2, ds2, p2, q2, rfl, rfl, rfl, h2, r2⟩ := trodAll_cons r1
  obtain ⟨rfl, rfl, rfl⟩ := trodAll_nil r2
  obtain rfl : args = #[v0, v1, v2] := by cases args; simp_all
  obtain ⟨rfl, rfl⟩ := trodVars_none hV
  obtain ⟨a0, rfl, rfl, rfl, w0⟩ := open_int Try.underlying22 (hval 0 22 v0 rfl rfl) h0
  obtain ⟨a1, rfl, rfl, rfl, w1⟩ := open_int Try.underlying22 (hval 1 22 v1 rfl rfl) h1
  obtain ⟨a2, l2, e2, rfl⟩ := okWide_slice Try.underlying23 (hval 2 23 v2 rfl rfl)
  have k2 := h2
  have lt2 : ∀ x ∈ p2, x.block < W.heap.size := by obtain ⟨m, hm⟩ := k2; exact DataW.trod_lt m _ _ _ hm
  obtain ⟨z2, rfl, g2, y2⟩ := open_flats (d := 5) (ks := [some .u8, some .u64, some .u64, some .u32, some .i64]) (size := 5) Try.underlying23 (by kernel_rfl) (by kernel_rfl) h2
  clear hA0 hval0
  obtain ⟨l2, e2f, e2l, l2o⟩ := djs_of g2
  have y2' : Rd W 5 (.slice a2 z2.length e2) l2.length (vcs Dj.val l2) := by rw [← e2f, e2l]; exact y2
  have hNo : ∀ r ∈ ([rdR (.slice a2 z2.length e2) 5 l2.length (vcs Dj.val l2)] : List Res), ∀ k, ¬ r.wr k := (List.forall_mem_cons.2 ⟨(fun _ h => h), (fun _ h => nomatch h)⟩)
  have hOK := OK.ro (A := [rdR (.slice a2 z2.length e2) 5 l2.length (vcs Dj.val l2)]) (w := W) (List.forall_mem_cons.2 ⟨y2', (fun _ h => nomatch h)⟩) hNo
  refine (playsL_any a0 a1 l2 _ (wf_u64j w0) (wf_u64j w1) l2o W hOK).mono ?_
  rintro e W' ⟨_, _, he, h2⟩
  have bel := h2.below hNo
  subst he
  exact ⟨_, rfl, _, _, _, [], _, [], hW', trodAll_mk1 (shut_bool Try.underlying4 _), (trodAll_cons_mk (shut_int Try.underlying22 w0) (trodAll_cons_mk (shut_int Try.underlying22 w1) (trodAll_cons_mk (Below.trod laidOut (by kernel_rfl) (of_decide_eq_true (by kernel_rfl)) k2 bel lt2) trodAll_mk0))), rfl, bel.frame _, fun h => by cases h⟩

theorem over : Rows.jitterPlaysRow.holds Try.pinned (OpenSpec.ofChange Rows.jitterPlaysSpec) :=
  OpenClaim.holds_of_wide 3 Try.f3 rfl rfl rfl rfl rfl rfl rfl ⟨rfl, rfl, rfl, rfl, rfl⟩ rfl rfl rfl rfl rfl (by kernel_rfl) Try.func3 (by kernel_rfl)
    (of_decide_eq_true (by kernel_rfl)) (by unfold Func.isWrapper; first | (rw [if_pos (by decide +kernel)]; kernel_rfl) | (rw [if_neg (by decide +kernel)]; exact ⟨rfl, rfl⟩))
    (fun os started H enc _ => lifted os started H enc)

theorem proved : Rows.JitterPlaysSaid := over
#print axioms proved
end Go.Proofs.Ytklbmgfpnafdlaa.jitterPlays
