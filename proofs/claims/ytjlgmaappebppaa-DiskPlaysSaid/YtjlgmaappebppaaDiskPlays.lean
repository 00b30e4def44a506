/- DiskPlays: of any disk, whatever is written, torn, spoilt: each answer, the slots, and what is read, are the document's: true for every input. No conditions beyond the statement's own. -/
import Derived.Test.YtjlgmaappebppaaRows
import Derived.Test.YtjlgmaappebppaaDiskK
import Derived.Test.YtjlgmaappebppaaLibZ
import Derived.WalkKit
import Derived.ProofKit
import Derived.OpenShut
import Derived.ShutString
import Derived.ChangeOld
import Derived.Below
import Derived.Test.YtjlgmaappebppaaLibX
import Derived.SizedLaws
namespace Go.Proofs.Ytjlgmaappebppaa.diskPlays
open Go.ChangeShapes Go.WideShapes Go.ChangeAt Go.RowKit
open Go.ChangeMaps (open_string shut_string)
set_option linter.unusedVariables false

theorem own : ownKnob Try.prog.godebug = none := by kernel_rfl
theorem laidOut : laidOutB Try.prog = true := by kernel_rfl

set_option maxRecDepth 100000 in
theorem lifted (os : Os) (started : os.Started) (H : Type) (enc : TypeId × Value → H) :
    ReturnsInHanded {} Try.checked os 3 .any (Rows.diskPlaysSpec.pre6 enc Try.prog Try.f3 Rows.diskPlaysRow.domain false) (Rows.diskPlaysSpec.post enc Try.prog Try.f3 false true false false) := by
  refine returnsInHanded_of_change_sized (C := Try.checked) own started (by kernel_rfl) Try.func3
    (ChangeSpec.witness6 (enc := enc) (C := Try.checked) false ⟨#[], #[.agg #[.slice none 0 0, .slice none 0 0], .slice none 0 0], []⟩ 8 (by kernel_rfl) (by kernel_rfl) (by kernel_rfl) (by kernel_rfl)) ?_
  intro W base args ds gs before hval0 hW hcnd hsz _
  have hval : ∀ (j : Nat) t v, Try.f3.params[j]? = some t → args[j]? = some v → Value.okWide Try.prog W .any base t v := hval0
  have hW' := hW
  obtain ⟨p, q, hA0, hV, rfl, hfz, hnd⟩ := hW
  have hA : DataW.TrodAll enc Try.prog W 0 (fun _ => true) true Try.f3.params.toList args.toList ds p := hA0
  rw [Try.params3] at hA hval
  obtain ⟨v0, vs0, d0, ds0, p0, q0, hargs, rfl, rfl, h0, r0⟩ := trodAll_cons hA
  obtain ⟨v1, vs1, d1, ds1, p1, q1, rfl, rfl, rfl, h1, r1⟩ := trodAll_cons r0
  obtain ⟨rfl, rfl, rfl⟩ := trodAll_nil r1
  obtain rfl : args = #[v0, v1] := by cases args; simp_all
  obtain ⟨rfl, rfl⟩ := trodVars_none hV
  obtain ⟨c0, rfl⟩ := okWide_arr Try.underlying23 (hval 0 23 v0 rfl rfl)
  have k0 := h0
  have lt0 : ∀ x ∈ p0, x.block < W.heap.size := by obtain ⟨m, hm⟩ := k0; exact DataW.trod_lt m _ _ _ hm
  have z0 : ∀ n ∈ d0.weights Try.prog 23, n ≤ reachBytes := fun n hn => by simpa using List.all_eq_true.1 hsz _ (DataW.weights_mem_each (j := 0) rfl rfl n hn)
  obtain ⟨aa0, ca0, x0, ab0, cb0, xx0, rfl, b0, bb0, m0, mm0, y0, yy0⟩ := open_two Try.underlying23 Try.underlying22 Try.underlying5 (by kernel_rfl) (by kernel_rfl) (by kernel_rfl) (of_decide_eq_true (by kernel_rfl)) z0 h0
  obtain ⟨a1, l1, e1, rfl⟩ := okWide_slice Try.underlying24 (hval 1 24 v1 rfl rfl)
  have k1 := h1
  have lt1 : ∀ x ∈ p1, x.block < W.heap.size := by obtain ⟨m, hm⟩ := k1; exact DataW.trod_lt m _ _ _ hm
  have z1 : ∀ n ∈ d1.weights Try.prog 24, n ≤ reachBytes := fun n hn => by simpa using List.all_eq_true.1 hsz _ (DataW.weights_mem_each (j := 1) rfl rfl n hn)
  obtain ⟨fs1, n1, g1, y1⟩ := open_dws z1 h1
  subst n1
  clear hA0 hval0
  have hb1 : ∀ f ∈ fs1, f.b.length ≤ 140737488355328 := fun f hf => by
    have := (g1 f hf).2
    unfold reachBytes at this
    omega
  unfold reachBytes at m0 mm0
  have hNo : ∀ r ∈ ([rdR (.slice aa0 x0.length ca0) 1 x0.length (ints .u8 x0), rdR (.slice ab0 xx0.length cb0) 1 xx0.length (ints .u8 xx0), dwR (.slice a1 fs1.length e1) fs1] : List Res), ∀ k, ¬ r.wr k := (List.forall_mem_cons.2 ⟨(fun _ h => h), (List.forall_mem_cons.2 ⟨(fun _ h => h), (List.forall_mem_cons.2 ⟨(fun _ h => h), (fun _ h => nomatch h)⟩)⟩)⟩)
  have hOK := OK.ro (A := [rdR (.slice aa0 x0.length ca0) 1 x0.length (ints .u8 x0), rdR (.slice ab0 xx0.length cb0) 1 xx0.length (ints .u8 xx0), dwR (.slice a1 fs1.length e1) fs1]) (w := W) (List.forall_mem_cons.2 ⟨y0, (List.forall_mem_cons.2 ⟨yy0, (List.forall_mem_cons.2 ⟨y1, (fun _ h => nomatch h)⟩)⟩)⟩) hNo
  refine (diskPlays_any fs1 _ _ _ x0 xx0 (fun f hf => (g1 f hf).1) hb1 b0 bb0 (by omega) (by omega) W hOK).mono ?_
  rintro e W' ⟨_, _, he, h2⟩
  have bel := h2.below hNo
  subst he
  exact ⟨_, rfl, _, _, _, [], _, [], hW', trodAll_mk1 (shut_bool Try.underlying4 _), (trodAll_cons_mk (Below.trod laidOut (by kernel_rfl) (of_decide_eq_true (by kernel_rfl)) k0 bel lt0) (trodAll_cons_mk (Below.trod laidOut (by kernel_rfl) (of_decide_eq_true (by kernel_rfl)) k1 bel lt1) trodAll_mk0)), rfl, bel.frame _, fun h => by cases h⟩

theorem over : Rows.diskPlaysRow.holds Try.pinned (OpenSpec.ofChange Rows.diskPlaysSpec) :=
  OpenClaim.holds_of_wide 3 Try.f3 rfl rfl rfl rfl rfl rfl rfl ⟨rfl, rfl, rfl, rfl, rfl⟩ rfl rfl rfl rfl rfl (by kernel_rfl) Try.func3 (by kernel_rfl)
    (of_decide_eq_true (by kernel_rfl)) (by unfold Func.isWrapper; first | (rw [if_pos (by decide +kernel)]; kernel_rfl) | (rw [if_neg (by decide +kernel)]; exact ⟨rfl, rfl⟩))
    (fun os started H enc _ => lifted os started H enc)

theorem proved : Rows.DiskPlaysSaid := over
#print axioms proved
end Go.Proofs.Ytjlgmaappebppaa.diskPlays
