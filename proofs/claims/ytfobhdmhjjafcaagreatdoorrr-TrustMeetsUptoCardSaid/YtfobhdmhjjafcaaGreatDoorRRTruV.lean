/- Keys that came in, opened; a number that stands for a package's variable. -/
import Derived.Test.YtfobhdmhjjafcaaGreatDoorRRRows
import Derived.Test.YtfobhdmhjjafcaaGreatDoorRRTruB
import Derived.Test.YtfobhdmhjjafcaaGreatDoorRRTruL
import Derived.Test.YtfobhdmhjjafcaaGreatDoorRRLibUp
import Derived.Test.YtfobhdmhjjafcaaGreatDoorRRLibM
import Derived.Shelf.Vars
import Derived.Test.YtfobhdmhjjafcaaGreatDoorRRTruT
namespace Go.Proofs.YtfobhdmhjjafcaaGreatDoorRR
open Go Go.RowKit
set_option maxRecDepth 100000
theorem bulk_mem {H : Type} {d : DataW H} {l : List (DataW H)} (h : d ∈ l) : Rows.uptoBulk d ≤ Rows.uptoBulkAll l := by
  induction l with
  | nil => cases h
  | cons x r ih =>
    simp only [Rows.uptoBulkAll]
    cases List.mem_cons.1 h with
    | inl e => subst e; omega
    | inr e => have := ih e; omega
theorem bulk_one {H : Type} (d : DataW H) : 1 ≤ Rows.uptoBulk d := by
  cases d with
  | lit l => cases l <;> simp [Rows.uptoBulk]
  | nil => simp [Rows.uptoBulk]
  | ptr d => simp [Rows.uptoBulk]
  | slice elems spare => simp [Rows.uptoBulk]
  | agg parts => simp [Rows.uptoBulk]
  | iface t d => simp [Rows.uptoBulk]
  | map entries => simp [Rows.uptoBulk]
  | held h => simp [Rows.uptoBulk]
theorem bulk_len {H : Type} (l : List (DataW H)) : l.length ≤ Rows.uptoBulkAll l := by
  induction l with
  | nil => simp [Rows.uptoBulkAll]
  | cons x r ih => have := bulk_one x; simp only [Rows.uptoBulkAll, List.length_cons]; omega
theorem bulkMu {H : Type} : Mu (Rows.uptoBulk (H := H)) where
  len := fun elems spare => by have := bulk_len elems; simp only [Rows.uptoBulk]; omega
  elem := fun elems spare d h => by have := bulk_mem h; simp only [Rows.uptoBulk]; omega
  agg := fun parts d h => by have := bulk_mem h; simp only [Rows.uptoBulk]; omega
theorem mx_int {w : World} (h : w.ShapedOpen Tryz.prog) : ∃ m, Rd w 1 mxV 1 [.int .i64 m] := by
  obtain ⟨m, hm⟩ : ∃ m, w.cell? ⟨0, 0, none⟩ = some (.int .i64 m) := cell_of_shapedOpen_int (g := 0) (t := 3) (zero := #[.int .i64 0]) (k := .i64) h (of_decide_eq_true (by kernel_rfl)) (by kernel_rfl) rfl (by kernel_rfl) (by kernel_rfl) (by kernel_rfl)
  refine ⟨m, rfl, .inr ⟨_, _, rfl, Nat.le_refl _, by unfold maxLen; omega, fun j u hj => ⟨rfl, ?_⟩⟩⟩
  cases j with
  | zero => cases hj; exact hm
  | succ j => simp at hj
theorem key_of {cs : List Value} (h : Fits1 (List.replicate 32 (some .u8)) cs) : ∃ k : Ky, cs = k.cells := by
  obtain ⟨ys, rfl, h1, h2⟩ := fits_bytes h
  exact ⟨⟨ys, h1, h2⟩, rfl⟩
section
variable {H : Type} {enc : TypeId × Value → H} {w : World} {base : Nat} {sp : Nat → Bool} {held : Bool}
theorem open_keys {a : Option Addr} {len cap : Nat} {x : DataW H} {p : List MemPlace} (h : DataW.Trod enc Tryz.prog w base sp held 22 (.slice a len cap) x p) :
    ∃ ks : List Ky, ks.length = len ∧ len ≤ Rows.uptoBulk x ∧ Rd w 32 (.slice a len cap) len (vcs kyV ks) := by
  obtain ⟨xss, h1, h2, h3⟩ := open_flats (d := 5) (ks := List.replicate 32 (some .u8)) un22 (by kernel_rfl) (by kernel_rfl) h
  obtain ⟨fuel, ht⟩ := h
  have hm := mu_slice bulkMu un22 ht
  have : ∃ ks : List Ky, xss = ks.map Ky.cells := by
    clear h1 h3
    induction xss with
    | nil => exact ⟨[], rfl⟩
    | cons ys xss ih =>
      obtain ⟨ks, rfl⟩ := ih (fun zs hz => h2 zs (by simp [hz]))
      obtain ⟨k, rfl⟩ := key_of (h2 ys (by simp)).1
      exact ⟨k :: ks, rfl⟩
  obtain ⟨ks, rfl⟩ := this
  refine ⟨ks, by rw [← h1, List.length_map], hm, ?_⟩
  have e : (ks.map Ky.cells).flatten = vcs kyV ks := by
    clear h1 h2 h3
    induction ks with
    | nil => rfl
    | cons k ks ih => rw [List.map_cons, List.flatten_cons, ih, vcs_cons, kyV_cells]
  rw [← e]
  exact h3
theorem open_key {v : Value} {x : DataW H} {p : List MemPlace} {r : Reach} {b : Nat} (hv : Value.okWide Tryz.prog w r b 30 v) (h : DataW.Trod enc Tryz.prog w base sp held 30 v x p) : ∃ k : Ky, v = kyV k := by
  have hf := open_flat (d := 5) (ks := List.replicate 32 (some .u8)) (by kernel_rfl) h
  simp only [Value.okWide, un30] at hv
  obtain ⟨cs, rfl, _⟩ := hv
  obtain ⟨k, hk⟩ := key_of hf
  refine ⟨k, ?_⟩
  unfold kyV
  rw [← hk]
  simp [Value.cells]
end
end Go.Proofs.YtfobhdmhjjafcaaGreatDoorRR

namespace Go.Proofs.YtfobhdmhjjafcaaGreatDoorRR
open Go Go.RowKit
theorem u8_rng {a : Int} (h : (Lit.int .u8 a).wf = true) : 0 ≤ a ∧ a < 256 := wf_u8 h
end Go.Proofs.YtfobhdmhjjafcaaGreatDoorRR
