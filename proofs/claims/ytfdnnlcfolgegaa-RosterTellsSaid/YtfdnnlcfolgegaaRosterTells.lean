/- RosterTells: of any two rosters: whether they may be, whether the one follows the other, who came, the head, the digest, are the document's: true for every input. No conditions beyond the statement's own. -/
import Derived.Test.YtfdnnlcfolgegaaRows
import Derived.Test.YtfdnnlcfolgegaaRosT
import Derived.Test.YtfdnnlcfolgegaaLibZ
import Derived.WalkKit
import Derived.ProofKit
import Derived.OpenShut
import Derived.ShutString
import Derived.ChangeOld
import Derived.Below
namespace Go.Proofs.Ytfdnnlcfolgegaa.rosterTells
open Go.ChangeShapes Go.WideShapes Go.ChangeAt Go.RowKit
open Go.ChangeMaps (open_string shut_string)
set_option linter.unusedVariables false

theorem own : ownKnob Try.prog.godebug = none := by kernel_rfl
theorem laidOut : laidOutB Try.prog = true := by kernel_rfl

set_option maxRecDepth 100000 in
theorem lifted (os : Os) (started : os.Started) (H : Type) (enc : TypeId × Value → H) :
    ReturnsInHanded {} Try.checked os 5 .any (Rows.rosterTellsSpec.pre6 enc Try.prog Try.f5 Rows.rosterTellsRow.domain false) (Rows.rosterTellsSpec.post enc Try.prog Try.f5 false true false false) := by
  refine returnsInHanded_of_change (C := Try.checked) own started (by kernel_rfl) Try.func5
    (ChangeSpec.witness6 (enc := enc) (C := Try.checked) false ⟨#[], #[.agg #[.int .u8 0, .int .u8 0, .int .u8 0, .int .u8 0, .int .u8 0, .int .u8 0, .int .u8 0, .int .u8 0, .int .u8 0, .int .u8 0, .int .u8 0, .int .u8 0, .int .u8 0, .int .u8 0, .int .u8 0, .int .u8 0, .int .u64 0, .slice none 0 0], .agg #[.int .u8 0, .int .u8 0, .int .u8 0, .int .u8 0, .int .u8 0, .int .u8 0, .int .u8 0, .int .u8 0, .int .u8 0, .int .u8 0, .int .u8 0, .int .u8 0, .int .u8 0, .int .u8 0, .int .u8 0, .int .u8 0, .int .u64 0, .slice none 0 0], .agg #[.int .u8 0, .int .u8 0]], []⟩ 8 (by kernel_rfl) (by kernel_rfl) (by kernel_rfl) (by kernel_rfl)) ?_
  intro W base args ds gs before hval0 hW hcnd _
  have hval : ∀ (j : Nat) t v, Try.f5.params[j]? = some t → args[j]? = some v → Value.okWide Try.prog W .any base t v := hval0
  have hW' := hW
  obtain ⟨p, q, hA0, hV, rfl, hfz, hnd⟩ := hW
  have hA : DataW.TrodAll enc Try.prog W 0 (fun _ => true) true Try.f5.params.toList args.toList ds p := hA0
  rw [Try.params5] at hA hval
  obtain ⟨v0, vs0, d0, ds0, p0, q0, hargs, rfl, rfl, h0, r0⟩ := trodAll_cons hA
  obtain ⟨v1, vs1, d1, ds1, p1, q1, rfl, rfl, rfl, h1, r1⟩ := trodAll_cons r0
  obtain ⟨v2, vs2, d2, ds2, p2, q2, rfl, rfl, rfl, h2, r2⟩ := trodAll_cons r1
  obtain ⟨rfl, rfl, rfl⟩ := trodAll_nil r2
  obtain rfl : args = #[v0, v1, v2] := by cases args; simp_all
  obtain ⟨rfl, rfl⟩ := trodVars_none hV
  obtain ⟨c0, rfl⟩ := okWide_agg Try.underlying27 (hval 0 27 v0 rfl rfl)
  have k0 := h0
  have lt0 : ∀ x ∈ p0, x.block < W.heap.size := by obtain ⟨m, hm⟩ := k0; exact DataW.trod_lt m _ _ _ hm
  obtain ⟨s0, g0, cq0, y0⟩ := open_rm h0
  replace cq0 : c0 = s0.cells := by simpa [Value.cells] using cq0
  subst cq0
  obtain ⟨c1, rfl⟩ := okWide_agg Try.underlying27 (hval 1 27 v1 rfl rfl)
  have k1 := h1
  have lt1 : ∀ x ∈ p1, x.block < W.heap.size := by obtain ⟨m, hm⟩ := k1; exact DataW.trod_lt m _ _ _ hm
  obtain ⟨s1, g1, cq1, y1⟩ := open_rm h1
  replace cq1 : c1 = s1.cells := by simpa [Value.cells] using cq1
  subst cq1
  obtain ⟨c2, rfl⟩ := okWide_agg Try.underlying31 (hval 2 31 v2 rfl rfl)
  have k2 := h2
  have lt2 : ∀ x ∈ p2, x.block < W.heap.size := by obtain ⟨m, hm⟩ := k2; exact DataW.trod_lt m _ _ _ hm
  have f2 : Fits1 [some .u8, some .u8] c2 := by simpa [Value.cells] using open_flat (d := 5) (ks := [some .u8, some .u8]) (by kernel_rfl) h2
  clear hA0 hval0
  obtain ⟨hd2, ed2, ho2⟩ := dv_of' f2
  subst ed2
  have hNo : ∀ r ∈ ([rdR s0.r.v 2 s0.ms.length (vcs Dv.val s0.ms), rdR s1.r.v 2 s1.ms.length (vcs Dv.val s1.ms)] : List Res), ∀ k, ¬ r.wr k := (List.forall_mem_cons.2 ⟨(fun _ h => h), (List.forall_mem_cons.2 ⟨(fun _ h => h), (fun _ h => nomatch h)⟩)⟩)
  have hOK := OK.ro (A := [rdR s0.r.v 2 s0.ms.length (vcs Dv.val s0.ms), rdR s1.r.v 2 s1.ms.length (vcs Dv.val s1.ms)]) (w := W) (List.forall_mem_cons.2 ⟨y0, (List.forall_mem_cons.2 ⟨y1, (fun _ h => nomatch h)⟩)⟩) hNo
  refine (rosterTells_any s0.r s1.r g0.r g1.r s0.ms s1.ms g0.ms g1.ms hd2 ho2 W hOK).mono ?_
  rintro e W' ⟨_, _, he, h2⟩
  have bel := h2.below hNo
  subst he
  exact ⟨_, rfl, _, _, _, [], _, [], hW', trodAll_mk1 (shut_bool Try.underlying4 _), (trodAll_cons_mk (Below.trod laidOut (by kernel_rfl) (of_decide_eq_true (by kernel_rfl)) k0 bel lt0) (trodAll_cons_mk (Below.trod laidOut (by kernel_rfl) (of_decide_eq_true (by kernel_rfl)) k1 bel lt1) (trodAll_cons_mk (Below.trod laidOut (by kernel_rfl) (of_decide_eq_true (by kernel_rfl)) k2 bel lt2) trodAll_mk0))), rfl, bel.frame _, fun h => by cases h⟩

theorem over : Rows.rosterTellsRow.holds Try.pinned (OpenSpec.ofChange Rows.rosterTellsSpec) :=
  OpenClaim.holds_of_wide 5 Try.f5 rfl rfl rfl rfl rfl rfl rfl ⟨rfl, rfl, rfl, rfl, rfl⟩ rfl rfl rfl rfl rfl (by kernel_rfl) Try.func5 (by kernel_rfl)
    (of_decide_eq_true (by kernel_rfl)) (by unfold Func.isWrapper; first | (rw [if_pos (by decide +kernel)]; kernel_rfl) | (rw [if_neg (by decide +kernel)]; exact ⟨rfl, rfl⟩))
    (fun os started H enc _ => lifted os started H enc)

theorem proved : Rows.RosterTellsSaid := over
#print axioms proved
end Go.Proofs.Ytfdnnlcfolgegaa.rosterTells
