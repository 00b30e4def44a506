/- MergeOffers: what a book offers another one, what any bytes are accepted as, are the document's: true for every input. No conditions beyond the statement's own. -/
import Derived.Test.YtmcdbjbkkejbbaaGreatRows
import Derived.Test.YtmcdbjbkkejbbaaGreatMerO
import Derived.Test.YtmcdbjbkkejbbaaGreatLibZ
import Derived.WalkKit
import Derived.ProofKit
import Derived.OpenShut
import Derived.ShutString
import Derived.ChangeOld
import Derived.Below
import Derived.Test.YtmcdbjbkkejbbaaGreatLibX
import Derived.SizedLaws
namespace Go.Proofs.YtmcdbjbkkejbbaaGreat.mergeOffers
open Go.ChangeShapes Go.WideShapes Go.ChangeAt Go.RowKit
open Go.ChangeMaps (open_string shut_string)
set_option linter.unusedVariables false

theorem own : ownKnob Tryz.prog.godebug = none := by kernel_rfl
theorem laidOut : laidOutB Tryz.prog = true := by kernel_rfl

set_option maxRecDepth 100000 in
theorem lifted (os : Os) (started : os.Started) (H : Type) (enc : TypeId × Value → H) :
    ReturnsInHanded {} Tryz.checked os 3 .any (Rows.mergeOffersSpec.pre6 enc Tryz.prog Tryz.f3 Rows.mergeOffersRow.domain false) (Rows.mergeOffersSpec.post enc Tryz.prog Tryz.f3 false true false false) := by
  refine returnsInHanded_of_change_sized (C := Tryz.checked) own started (by kernel_rfl) Tryz.func3
    (ChangeSpec.witness6 (enc := enc) (C := Tryz.checked) false ⟨#[], #[.slice none 0 0, .slice none 0 0, .slice none 0 0], []⟩ 8 (by kernel_rfl) (by kernel_rfl) (by kernel_rfl) (by kernel_rfl)) ?_
  intro W base args ds gs before hval0 hW hcnd hsz _
  have hval : ∀ (j : Nat) t v, Tryz.f3.params[j]? = some t → args[j]? = some v → Value.okWide Tryz.prog W .any base t v := hval0
  have hW' := hW
  obtain ⟨p, q, hA0, hV, rfl, hfz, hnd⟩ := hW
  have hA : DataW.TrodAll enc Tryz.prog W 0 (fun _ => true) true Tryz.f3.params.toList args.toList ds p := hA0
  rw [Tryz.params3] at hA hval
  obtain ⟨v0, vs0, d0, ds0, p0, q0, hargs, rfl, rfl, h0, r0⟩ := trodAll_cons hA
  obtain ⟨v1, vs1, d1, ds1, p1, q1, rfl, rfl, rfl, h1, r1⟩ := trodAll_cons r0
  obtain ⟨v2, vs2, d2, ds2, p2, q2, rfl, rfl, rfl, h2, r2⟩ := trodAll_cons r1
  obtain ⟨rfl, rfl, rfl⟩ := trodAll_nil r2
  obtain rfl : args = #[v0, v1, v2] := by cases args; simp_all
  obtain ⟨rfl, rfl⟩ := trodVars_none hV
  obtain ⟨a0, l0, e0, rfl⟩ := okWide_slice Tryz.underlying22 (hval 0 22 v0 rfl rfl)
  have k0 := h0
  have lt0 : ∀ x ∈ p0, x.block < W.heap.size := by obtain ⟨m, hm⟩ := k0; exact DataW.trod_lt m _ _ _ hm
  have z0 : ∀ n ∈ d0.weights Tryz.prog 22, n ≤ reachBytes := fun n hn => by simpa using List.all_eq_true.1 hsz _ (DataW.weights_mem_each (j := 0) rfl rfl n hn)
  obtain ⟨x0, rfl, m0, g0, y0⟩ := open_recz Tryz.underlying22 (by kernel_rfl) (by kernel_rfl) (of_decide_eq_true (by kernel_rfl)) z0 h0
  obtain ⟨a1, l1, e1, rfl⟩ := okWide_slice Tryz.underlying22 (hval 1 22 v1 rfl rfl)
  have k1 := h1
  have lt1 : ∀ x ∈ p1, x.block < W.heap.size := by obtain ⟨m, hm⟩ := k1; exact DataW.trod_lt m _ _ _ hm
  have z1 : ∀ n ∈ d1.weights Tryz.prog 22, n ≤ reachBytes := fun n hn => by simpa using List.all_eq_true.1 hsz _ (DataW.weights_mem_each (j := 1) rfl rfl n hn)
  obtain ⟨x1, rfl, m1, g1, y1⟩ := open_recz Tryz.underlying22 (by kernel_rfl) (by kernel_rfl) (of_decide_eq_true (by kernel_rfl)) z1 h1
  obtain ⟨a2, l2, e2, rfl⟩ := okWide_slice Tryz.underlying23 (hval 2 23 v2 rfl rfl)
  have k2 := h2
  have lt2 : ∀ x ∈ p2, x.block < W.heap.size := by obtain ⟨m, hm⟩ := k2; exact DataW.trod_lt m _ _ _ hm
  obtain ⟨x2, rfl, b2, y2⟩ := open_u8s Tryz.underlying23 Tryz.underlying5 (by kernel_rfl) h2
  clear hA0 hval0
  have hNo : ∀ r ∈ ([rdR (.slice a0 x0.length e0) 22 x0.length (vcs rcV x0), rdR (.slice a1 x1.length e1) 22 x1.length (vcs rcV x1), rdR (.slice a2 x2.length e2) 1 x2.length (ints .u8 x2)] : List Res), ∀ k, ¬ r.wr k := (List.forall_mem_cons.2 ⟨(fun _ h => h), (List.forall_mem_cons.2 ⟨(fun _ h => h), (List.forall_mem_cons.2 ⟨(fun _ h => h), (fun _ h => nomatch h)⟩)⟩)⟩)
  have hOK := OK.ro (A := [rdR (.slice a0 x0.length e0) 22 x0.length (vcs rcV x0), rdR (.slice a1 x1.length e1) 22 x1.length (vcs rcV x1), rdR (.slice a2 x2.length e2) 1 x2.length (ints .u8 x2)]) (w := W) (List.forall_mem_cons.2 ⟨y0, (List.forall_mem_cons.2 ⟨y1, (List.forall_mem_cons.2 ⟨y2, (fun _ h => nomatch h)⟩)⟩)⟩) hNo
  refine (offers_any (.slice a0 x0.length e0) (.slice a1 x1.length e1) (.slice a2 x2.length e2) x0 x1 x2 g0 g1 b2 (Nat.le_trans m0 (of_decide_eq_true (by kernel_rfl))) (Nat.le_trans m1 (of_decide_eq_true (by kernel_rfl))) W hOK).mono ?_
  rintro e W' ⟨_, _, he, h2⟩
  have bel := h2.below hNo
  subst he
  exact ⟨_, rfl, _, _, _, [], _, [], hW', trodAll_mk1 (shut_bool Tryz.underlying4 _), (trodAll_cons_mk (Below.trod laidOut (by kernel_rfl) (of_decide_eq_true (by kernel_rfl)) k0 bel lt0) (trodAll_cons_mk (Below.trod laidOut (by kernel_rfl) (of_decide_eq_true (by kernel_rfl)) k1 bel lt1) (trodAll_cons_mk (Below.trod laidOut (by kernel_rfl) (of_decide_eq_true (by kernel_rfl)) k2 bel lt2) trodAll_mk0))), rfl, bel.frame _, fun h => by cases h⟩

theorem over : Rows.mergeOffersRow.holds Tryz.pinned (OpenSpec.ofChange Rows.mergeOffersSpec) :=
  OpenClaim.holds_of_wide 3 Tryz.f3 rfl rfl rfl rfl rfl rfl rfl ⟨rfl, rfl, rfl, rfl, rfl⟩ rfl rfl rfl rfl rfl (by kernel_rfl) Tryz.func3 (by kernel_rfl)
    (of_decide_eq_true (by kernel_rfl)) (by unfold Func.isWrapper; first | (rw [if_pos (by decide +kernel)]; kernel_rfl) | (rw [if_neg (by decide +kernel)]; exact ⟨rfl, rfl⟩))
    (fun os started H enc _ => lifted os started H enc)

theorem proved : Rows.MergeOffersSaid := over
#print axioms proved
end Go.Proofs.YtmcdbjbkkejbbaaGreat.mergeOffers
