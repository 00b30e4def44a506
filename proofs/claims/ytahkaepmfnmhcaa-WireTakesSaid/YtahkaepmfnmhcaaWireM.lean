/- Fields that came in. -/
import Derived.Test.YtahkaepmfnmhcaaWireL
import Derived.Test.YtahkaepmfnmhcaaLibL
namespace Go.Proofs.Ytahkaepmfnmhcaa
open Go Go.RowKit

def fdRs (v : Value) (fs : List Fd) : List Res := rdR v 5 fs.length (vcs Fd.val fs) :: fs.flatMap (fun f => [rdR (.slice f.ba f.b.length f.bc) 1 f.b.length (ints .u8 f.b), rdR (.slice f.la f.l.length f.lc) 1 f.l.length (ints .u32 f.l)])
def rF (v : Value) (fs : List Fd) : Res := allR (fdRs v fs)
theorem rF_of (v : Value) (fs : List Fd) : FdOf (rF v fs) v fs :=
  ⟨RdOf.all RdOf.rd' (List.mem_cons.2 (.inl rfl)), fun f hf => RdOf.all RdOf.rd' (List.mem_cons.2 (.inr (List.mem_flatMap.2 ⟨f, hf, List.mem_cons.2 (.inl rfl)⟩))),
    fun f hf => RdOf.all RdOf.rd' (List.mem_cons.2 (.inr (List.mem_flatMap.2 ⟨f, hf, List.mem_cons.2 (.inr (List.mem_singleton.2 rfl))⟩)))⟩
theorem vcs_flat (fs : List Fd) : (fs.map Fd.cells).flatten = vcs Fd.val fs := by
  induction fs with
  | nil => rfl
  | cons f fs ih => rw [List.map_cons, List.flatten_cons, ih, vcs_cons]; rfl
section
variable {H : Type} {enc : TypeId × Value → H} {w : World} {base : Nat} {sp : Nat → Bool} {held : Bool}
theorem open_fd (n : Nat) (cs : List Value) (d : DataW H × List MemPlace) (h : DataW.trod enc Try.prog w base sp held n 54 cs = some d) (hs : ∀ k ∈ d.1.weights Try.prog 54, k ≤ reachBytes) :
    ∃ f : Fd, cs = f.cells ∧ (f.ok ∧ f.b.length ≤ reachBytes ∧ f.l.length ≤ reachBytes) ∧ Rd w 1 (.slice f.ba f.b.length f.bc) f.b.length (ints .u8 f.b) ∧ Rd w 1 (.slice f.la f.l.length f.lc) f.l.length (ints .u32 f.l) := by
  have hl := (open_fieldAtL (i := 0) (ft := 5) (off := 0) (c := 1) (by kernel_rfl) h).1
  rw [show Try.prog.cellsOf 54 = 5 by kernel_rfl] at hl
  obtain ⟨k, e0, w0⟩ := fits_int (open_fieldFL (i := 0) (ft := 5) (off := 0) (c := 1) (d := 5) (ks := [some .u8]) (by kernel_rfl) (by kernel_rfl) h)
  obtain ⟨m, e1, w1⟩ := fits_int (open_fieldFL (i := 1) (ft := 51) (off := 1) (c := 1) (d := 5) (ks := [some .u64]) (by kernel_rfl) (by kernel_rfl) h)
  obtain ⟨ba, bc, b, e2, w2, l2, r2⟩ := open_fieldBL (i := 2) (ft := 28) (off := 2) (c := 1) (e := 5) (by kernel_rfl) (by kernel_rfl) (by kernel_rfl) (by kernel_rfl) (of_decide_eq_true (by kernel_rfl)) h hs
  obtain ⟨la, lc, l, e3, w3, l3, r3⟩ := open_fieldU (i := 3) (ft := 52) (off := 3) (c := 1) (e := 49) (by kernel_rfl) (by kernel_rfl) (by kernel_rfl) (by kernel_rfl) (of_decide_eq_true (by kernel_rfl)) h hs
  obtain ⟨mo, e4, w4⟩ := fits_int (open_fieldFL (i := 4) (ft := 3) (off := 4) (c := 1) (d := 5) (ks := [some .i64]) (by kernel_rfl) (by kernel_rfl) h)
  refine ⟨⟨k, m, ba, bc, b, la, lc, l, mo⟩, ?_, ⟨⟨wf_u8 w0, wf_u64' w1, w2, w3, wf_i64' w4⟩, l2, l3⟩, r2, r3⟩
  have s0 := step_drop 0 1 _ e0
  have s1 := step_drop 1 1 _ e1
  have s2 := step_drop 2 1 _ e2
  have s3 := step_drop 3 1 _ e3
  have s4 := step_drop 4 1 _ e4
  have s5 : cs.drop 5 = [] := List.drop_eq_nil_iff.2 (by omega)
  rw [List.drop_zero] at s0
  rw [s0, s1, s2, s3, s4, s5]
  rfl
theorem open_fds {a : Option Addr} {len cap : Nat} {x : DataW H} {p : List MemPlace} (hs : ∀ n ∈ x.weights Try.prog 22, n ≤ reachBytes) (h : DataW.Trod enc Try.prog w base sp held 22 (.slice a len cap) x p) :
    ∃ fs : List Fd, fs.length = len ∧ (∀ f ∈ fs, f.ok ∧ f.b.length ≤ reachBytes ∧ f.l.length ≤ reachBytes) ∧ (rF (.slice a len cap) fs).ok w := by
  obtain ⟨fs, h1, _, h3, h4⟩ := open_rows (size := 5) Fd.cells (fun f => (f.ok ∧ f.b.length ≤ reachBytes ∧ f.l.length ≤ reachBytes) ∧ Rd w 1 (.slice f.ba f.b.length f.bc) f.b.length (ints .u8 f.b) ∧ Rd w 1 (.slice f.la f.l.length f.lc) f.l.length (ints .u32 f.l)) (by kernel_rfl) (by kernel_rfl) (of_decide_eq_true (by kernel_rfl)) open_fd hs h
  refine ⟨fs, h1, fun f hf => (h3 f hf).1, fun r hr => ?_⟩
  rcases List.mem_cons.1 hr with rfl | hr
  · subst h1; show Rd w 5 _ _ _; rw [← vcs_flat]; exact h4
  · obtain ⟨f, hf, hr⟩ := List.mem_flatMap.1 hr
    rcases List.mem_cons.1 hr with rfl | hr
    · exact (h3 f hf).2.1
    · rw [List.mem_singleton.1 hr]; exact (h3 f hf).2.2
end
end Go.Proofs.Ytahkaepmfnmhcaa
