/- RosterSets: what is told by With and Without follows what was; the members are always those that joined and did not leave; one that joins and leaves leaves the same members: true for every input. No conditions beyond the statement's own. -/
import Derived.Test.YtfdnnlcfolgegaaRows
import Derived.Test.YtfdnnlcfolgegaaRosO
import Derived.Test.YtfdnnlcfolgegaaLibZ
import Derived.WalkKit
import Derived.ProofKit
import Derived.OpenShut
import Derived.ShutString
import Derived.ChangeOld
import Derived.Below
namespace Go.Proofs.Ytfdnnlcfolgegaa.rosterSets
open Go.ChangeShapes Go.WideShapes Go.ChangeAt Go.RowKit
open Go.ChangeMaps (open_string shut_string)
set_option linter.unusedVariables false

theorem own : ownKnob Try.prog.godebug = none := by kernel_rfl
theorem laidOut : laidOutB Try.prog = true := by kernel_rfl

set_option maxRecDepth 100000 in
theorem lifted (os : Os) (started : os.Started) (H : Type) (enc : TypeId × Value → H) :
    ReturnsInHanded {} Try.checked os 4 .any (Rows.rosterSetsSpec.pre6 enc Try.prog Try.f4 Rows.rosterSetsRow.domain false) (Rows.rosterSetsSpec.post enc Try.prog Try.f4 false true false false) := by
  refine returnsInHanded_of_change (C := Try.checked) own started (by kernel_rfl) Try.func4
    (ChangeSpec.witness6 (enc := enc) (C := Try.checked) false ⟨#[], #[.agg #[.int .u8 0, .int .u8 0, .int .u8 0, .int .u8 0, .int .u8 0, .int .u8 0, .int .u8 0, .int .u8 0, .int .u8 0, .int .u8 0, .int .u8 0, .int .u8 0, .int .u8 0, .int .u8 0, .int .u8 0, .int .u8 0], .agg #[.int .u8 0, .int .u8 0], .slice none 0 0], []⟩ 8 (by kernel_rfl) (by kernel_rfl) (by kernel_rfl) (by kernel_rfl)) ?_
  intro W base args ds gs before hval0 hW hcnd _
  have hval : ∀ (j : Nat) t v, Try.f4.params[j]? = some t → args[j]? = some v → Value.okWide Try.prog W .any base t v := hval0
  have hW' := hW
  obtain ⟨p, q, hA0, hV, rfl, hfz, hnd⟩ := hW
  have hA : DataW.TrodAll enc Try.prog W 0 (fun _ => true) true Try.f4.params.toList args.toList ds p := hA0
  rw [Try.params4] at hA hval
  obtain ⟨v0, vs0, d0, ds0, p0, q0, hargs, rfl, rfl, h0, r0⟩ := trodAll_cons hA
  obtain ⟨v1, vs1, d1, ds1, p1, q1, rfl, rfl, rfl, h1, r1⟩ := trodAll_cons r0
  obtain ⟨v2, vs2, d2, ds2, p2, q2, rfl, rfl, rfl, h2, r2⟩ := trodAll_cons r1
  obtain ⟨rfl, rfl, rfl⟩ := trodAll_nil r2
  obtain rfl : args = #[v0, v1, v2] := by cases args; simp_all
  obtain ⟨rfl, rfl⟩ := trodVars_none hV
  obtain ⟨c0, rfl⟩ := okWide_arr Try.underlying23 (hval 0 23 v0 rfl rfl)
  have k0 := h0
  have lt0 : ∀ x ∈ p0, x.block < W.heap.size := by obtain ⟨m, hm⟩ := k0; exact DataW.trod_lt m _ _ _ hm
  have f0 : Fits1 (List.replicate 16 (some .u8)) c0 := by simpa [Value.cells] using open_flat (d := 5) (ks := (List.replicate 16 (some .u8))) (by kernel_rfl) h0
  obtain ⟨c1, rfl⟩ := okWide_agg Try.underlying31 (hval 1 31 v1 rfl rfl)
  have k1 := h1
  have lt1 : ∀ x ∈ p1, x.block < W.heap.size := by obtain ⟨m, hm⟩ := k1; exact DataW.trod_lt m _ _ _ hm
  have f1 : Fits1 [some .u8, some .u8] c1 := by simpa [Value.cells] using open_flat (d := 5) (ks := [some .u8, some .u8]) (by kernel_rfl) h1
  obtain ⟨a2, l2, e2, rfl⟩ := okWide_slice Try.underlying39 (hval 2 39 v2 rfl rfl)
  have k2 := h2
  have lt2 : ∀ x ∈ p2, x.block < W.heap.size := by obtain ⟨m, hm⟩ := k2; exact DataW.trod_lt m _ _ _ hm
  obtain ⟨z2, rfl, g2, y2⟩ := open_flats (d := 5) (ks := [some .u8, some .u8, none]) (size := 3) Try.underlying39 (by kernel_rfl) (by kernel_rfl) h2
  clear hA0 hval0
  obtain ⟨g0, e0, gl0, gb0⟩ := fits_bytes (n := 16) f0
  subst e0
  obtain ⟨hd1, ed1, ho1⟩ := dv_of f1
  subst ed1
  obtain ⟨l2d, e2f, e2l, l2o⟩ := dqs_of g2
  have y2' : Rd W 3 (.slice a2 z2.length e2) l2d.length (vcs Dq.val l2d) := by rw [← e2f, e2l]; exact y2
  have hNo : ∀ r ∈ ([rdR (.slice a2 z2.length e2) 3 l2d.length (vcs Dq.val l2d)] : List Res), ∀ k, ¬ r.wr k := (List.forall_mem_cons.2 ⟨(fun _ h => h), (fun _ h => nomatch h)⟩)
  have hOK := OK.ro (A := [rdR (.slice a2 z2.length e2) 3 l2d.length (vcs Dq.val l2d)]) (w := W) (List.forall_mem_cons.2 ⟨y2', (fun _ h => nomatch h)⟩) hNo
  refine (rosterSets_any g0 gl0 gb0 hd1 ho1 l2d l2o _ W hOK).mono ?_
  rintro e W' ⟨_, _, he, h2⟩
  have bel := h2.below hNo
  subst he
  exact ⟨_, rfl, _, _, _, [], _, [], hW', trodAll_mk1 (shut_bool Try.underlying4 _), (trodAll_cons_mk (Below.trod laidOut (by kernel_rfl) (of_decide_eq_true (by kernel_rfl)) k0 bel lt0) (trodAll_cons_mk (Below.trod laidOut (by kernel_rfl) (of_decide_eq_true (by kernel_rfl)) k1 bel lt1) (trodAll_cons_mk (Below.trod laidOut (by kernel_rfl) (of_decide_eq_true (by kernel_rfl)) k2 bel lt2) trodAll_mk0))), rfl, bel.frame _, fun h => by cases h⟩

theorem over : Rows.rosterSetsRow.holds Try.pinned (OpenSpec.ofChange Rows.rosterSetsSpec) :=
  OpenClaim.holds_of_wide 4 Try.f4 rfl rfl rfl rfl rfl rfl rfl ⟨rfl, rfl, rfl, rfl, rfl⟩ rfl rfl rfl rfl rfl (by kernel_rfl) Try.func4 (by kernel_rfl)
    (of_decide_eq_true (by kernel_rfl)) (by unfold Func.isWrapper; first | (rw [if_pos (by decide +kernel)]; kernel_rfl) | (rw [if_neg (by decide +kernel)]; exact ⟨rfl, rfl⟩))
    (fun os started H enc _ => lifted os started H enc)

theorem proved : Rows.RosterSetsSaid := over
#print axioms proved
end Go.Proofs.Ytfdnnlcfolgegaa.rosterSets
