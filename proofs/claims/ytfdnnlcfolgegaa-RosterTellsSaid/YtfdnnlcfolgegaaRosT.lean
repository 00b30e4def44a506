/- Rosters that came in: opened. -/
import Derived.Test.YtfdnnlcfolgegaaRosJ
import Derived.Test.YtfdnnlcfolgegaaLibL
import Derived.Test.YtfdnnlcfolgegaaRosS
namespace Go.Proofs.Ytfdnnlcfolgegaa
open Go Go.RowKit
theorem dvs_of : ∀ {zs : List (List Value)}, (∀ xs ∈ zs, Fits1 [some .u8, some .u8] xs ∧ xs.length = 2) → ∃ ds : List Dv, zs.flatten = vcs Dv.val ds ∧ ds.length = zs.length ∧ DOk ds
  | [], _ => ⟨[], rfl, rfl, fun x hx => nomatch hx⟩
  | z :: zs, h => by
    obtain ⟨ds, h1, h2, h3⟩ := dvs_of (zs := zs) (fun xs hx => h xs (by simp [hx]))
    have hf := (h z (by simp)).1
    match z, hf with
    | [.int q1 a, .int q2 d], hf =>
      obtain ⟨⟨rfl, w1⟩, ⟨rfl, w2⟩, _⟩ := hf
      refine ⟨⟨a, d⟩ :: ds, by rw [List.flatten_cons, h1, vcs_cons]; simp [Dv.val, Dv.cells, Value.cells], by simp [h2], fun x hx => ?_⟩
      rcases List.mem_cons.1 hx with rfl | hx
      · exact ⟨wf_u8 w1, wf_u8 w2⟩
      · exact h3 x hx
/-- A roster and its members. -/
structure RM where
  r : Rs
  ms : List Dv
def RM.cells (s : RM) : List Value := s.r.cells
structure RM.ok (s : RM) : Prop where
  r : s.r.ok
  ms : DOk s.ms
section
variable {H : Type} {enc : TypeId × Value → H} {w : World} {base : Nat} {sp : Nat → Bool} {held : Bool}
theorem open_rm {v : Value} {x : DataW H} {p : List MemPlace} (h : DataW.Trod enc Try.prog w base sp held 27 v x p) :
    ∃ s : RM, s.ok ∧ v.cells.toList = s.cells ∧ Rd w 2 s.r.v s.ms.length (vcs Dv.val s.ms) := by
  have hl := (open_fieldAt (i := 0) (ft := 23) (off := 0) (c := 16) (by kernel_rfl) h).1
  rw [show Try.prog.cellsOf 27 = 18 by kernel_rfl] at hl
  obtain ⟨g, e0, l0, w0⟩ := fits_bytes (n := 16) (open_fieldF (i := 0) (ft := 23) (off := 0) (c := 16) (d := 5) (by kernel_rfl) (by kernel_rfl) h)
  obtain ⟨e, e1, w1⟩ := fits_int (open_fieldF (i := 1) (ft := 24) (off := 16) (c := 1) (d := 5) (ks := [some .u64]) (by kernel_rfl) (by kernel_rfl) h)
  have hm : ∃ (v' : Value) (ms : List Dv), (v.cells.toList.drop 17).take 1 = [v'] ∧ DOk ms ∧ Rd w 2 v' ms.length (vcs Dv.val ms) := by
    obtain ⟨_, m, y, hy⟩ := open_fieldAt (i := 2) (ft := 25) (off := 17) (c := 1) (by kernel_rfl) h
    rcases Go.Deep.open_slice Try.underlying25 hy with ⟨h0, _⟩ | ⟨a, len, cap, m', n, D, Pl, h0, _⟩
    · exact ⟨_, [], h0, (fun _ h => nomatch h), Rd.nil w 2⟩
    · rw [h0] at hy
      obtain ⟨zs, h1, h2, h3⟩ := open_flats (d := 5) (ks := [some .u8, some .u8]) (size := 2) Try.underlying25 (by kernel_rfl) (by kernel_rfl) (show DataW.Trod enc Try.prog w base sp held 25 (.slice (some a) len cap) y.1 y.2 from ⟨m, by simpa [Value.cells] using hy⟩)
      obtain ⟨ds, f1, f2, f3⟩ := dvs_of h2
      rw [f1] at h3
      rw [← h1, ← f2] at h3 h0
      exact ⟨_, ds, h0, f3, h3⟩
  obtain ⟨v', ms, e2, w2, rd⟩ := hm
  obtain ⟨cs, hcs⟩ : ∃ cs, v.cells.toList = cs := ⟨_, rfl⟩
  rw [hcs] at hl e0 e1 e2 ⊢
  refine ⟨⟨⟨g, e, v'⟩, ms⟩, ⟨⟨l0, w0, wf_u64' w1⟩, w2⟩, ?_, rd⟩
  have s0 := step_drop 0 16 _ e0
  have s1 := step_drop 16 1 _ e1
  have s2 := step_drop 17 1 _ e2
  have s3 : cs.drop 18 = [] := List.drop_eq_nil_iff.2 (by omega)
  rw [List.drop_zero] at s0
  rw [s0, s1, s2, s3]
  simp [RM.cells, Rs.cells]
end
end Go.Proofs.Ytfdnnlcfolgegaa

namespace Go.Proofs.Ytfdnnlcfolgegaa
open Go Go.RowKit
theorem dv_of' {cs : List Value} (h : Fits1 [some .u8, some .u8] cs) : ∃ d : Dv, cs = d.cells ∧ d.ok := by
  match cs, h with
  | [.int q1 a, .int q2 d], hf =>
    obtain ⟨⟨rfl, w1⟩, ⟨rfl, w2⟩, _⟩ := hf
    exact ⟨⟨a, d⟩, rfl, wf_u8 w1, wf_u8 w2⟩
end Go.Proofs.Ytfdnnlcfolgegaa
