/- Steps that came in, opened. -/
import Derived.Test.YtifhkjcimhhaiaaRows
import Derived.Test.YtifhkjcimhhaiaaTerBa
import Derived.Test.YtifhkjcimhhaiaaLibUp
namespace Go.Proofs.Ytifhkjcimhhaiaa
open Go Go.RowKit
theorem bulk_mem {H : Type} {d : DataW H} {l : List (DataW H)} (h : d ∈ l) : Rows.uptoBulk d ≤ Rows.uptoBulkAll l := by
  induction l with
  | nil => cases h
  | cons x r ih =>
    simp only [Rows.uptoBulkAll]
    cases List.mem_cons.1 h with
    | inl e => subst e; omega
    | inr e => have := ih e; omega
theorem bulk_one {H : Type} (d : DataW H) : 1 ≤ Rows.uptoBulk d := by
  cases d with
  | lit l => cases l <;> simp [Rows.uptoBulk]
  | nil => simp [Rows.uptoBulk]
  | ptr d => simp [Rows.uptoBulk]
  | slice elems spare => simp [Rows.uptoBulk]
  | agg parts => simp [Rows.uptoBulk]
  | iface t d => simp [Rows.uptoBulk]
  | map entries => simp [Rows.uptoBulk]
  | held h => simp [Rows.uptoBulk]
theorem bulk_len {H : Type} (l : List (DataW H)) : l.length ≤ Rows.uptoBulkAll l := by
  induction l with
  | nil => simp [Rows.uptoBulkAll]
  | cons x r ih => have := bulk_one x; simp only [Rows.uptoBulkAll, List.length_cons]; omega
theorem bulkMu {H : Type} : Mu (Rows.uptoBulk (H := H)) where
  len := fun elems spare => by have := bulk_len elems; simp only [Rows.uptoBulk]; omega
  elem := fun elems spare d h => by have := bulk_mem h; simp only [Rows.uptoBulk]; omega
  agg := fun parts d h => by have := bulk_mem h; simp only [Rows.uptoBulk]; omega
theorem dn_flat (l : List Dn) : (l.map Dn.cells).flatten = vcs dnV l := by
  induction l with
  | nil => rfl
  | cons f fs ih => rw [List.map_cons, List.flatten_cons, ih, vcs_cons]; rfl
section
variable {H : Type} {enc : TypeId × Value → H} {w : World} {base : Nat} {sp : Nat → Bool} {held : Bool}
theorem open_do {B : Nat} (n : Nat) (cs : List Value) (d : DataW H × List MemPlace) (h : DataW.trod enc Try.prog w base sp held n 49 cs = some d) (hs : Rows.uptoBulk d.1 ≤ B) :
    ∃ f : Dn, cs = f.cells ∧ (f.d.ok ∧ f.d.l.length ≤ B) ∧ Rd w 1 (dnS f) f.d.l.length (ints .i64 f.d.l) := by
  have hl := (open_fieldAtL (i := 0) (ft := 5) (off := 0) (c := 1) (by kernel_rfl) h).1
  rw [show Try.prog.cellsOf 49 = 5 by kernel_rfl] at hl
  obtain ⟨k, e0, w0⟩ := fits_int (open_fieldFL (i := 0) (ft := 5) (off := 0) (c := 1) (d := 5) (ks := [some .u8]) (by kernel_rfl) (by kernel_rfl) h)
  obtain ⟨m, e1, w1⟩ := fits_int (open_fieldFL (i := 1) (ft := 36) (off := 1) (c := 1) (d := 5) (ks := [some .u64]) (by kernel_rfl) (by kernel_rfl) h)
  obtain ⟨a, e2, w2⟩ := fits_int (open_fieldFL (i := 2) (ft := 3) (off := 2) (c := 1) (d := 5) (ks := [some .i64]) (by kernel_rfl) (by kernel_rfl) h)
  obtain ⟨b, e3, w3⟩ := fits_int (open_fieldFL (i := 3) (ft := 3) (off := 3) (c := 1) (d := 5) (ks := [some .i64]) (by kernel_rfl) (by kernel_rfl) h)
  obtain ⟨la, lc, l, e4, w4, l4, r4⟩ := mu_fieldI bulkMu (i := 4) (ft := 29) (off := 4) (c := 1) (e := 3) (by kernel_rfl) (by kernel_rfl) (by kernel_rfl) (by kernel_rfl) h
  refine ⟨⟨⟨k, m, a, b, l⟩, la, lc⟩, ?_, ⟨⟨wf_u8 w0, wf_u64' w1, wf_i64' w2, wf_i64' w3, w4⟩, Nat.le_trans l4 hs⟩, r4⟩
  have s0 := step_drop 0 1 _ e0
  have s1 := step_drop 1 1 _ e1
  have s2 := step_drop 2 1 _ e2
  have s3 := step_drop 3 1 _ e3
  have s4 := step_drop 4 1 _ e4
  have s5 : cs.drop 5 = [] := List.drop_eq_nil_iff.2 (by omega)
  rw [List.drop_zero] at s0
  rw [s0, s1, s2, s3, s4, s5]
  rfl
theorem open_dos {a : Option Addr} {len cap : Nat} {x : DataW H} {p : List MemPlace} (h : DataW.Trod enc Try.prog w base sp held 22 (.slice a len cap) x p) :
    ∃ fs : List Dn, fs.length = len ∧ len ≤ Rows.uptoBulk x ∧ (∀ f ∈ fs, f.d.ok ∧ f.d.l.length ≤ Rows.uptoBulk x) ∧ (dnR (.slice a len cap) fs).ok w := by
  obtain ⟨fs, h1, h2, h3, h4⟩ := mu_rows bulkMu (size := 5) Dn.cells (fun f => (f.d.ok ∧ f.d.l.length ≤ Rows.uptoBulk x) ∧ Rd w 1 (dnS f) f.d.l.length (ints .i64 f.d.l)) (by kernel_rfl) (by kernel_rfl) (fun n cs d hd hb => open_do n cs d hd hb) h
  refine ⟨fs, h1, h2, fun f hf => (h3 f hf).1, fun r hr => ?_⟩
  rcases List.mem_cons.1 hr with rfl | hr
  · subst h1; show Rd w 5 _ _ _; rw [← dn_flat]; exact h4
  · obtain ⟨f, hf, rfl⟩ := List.mem_map.1 hr
    exact (h3 f hf).2
end
end Go.Proofs.Ytifhkjcimhhaiaa
