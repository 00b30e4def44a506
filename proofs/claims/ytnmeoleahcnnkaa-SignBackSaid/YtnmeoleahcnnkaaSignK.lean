/- A signal that came in. -/
import Derived.Test.YtnmeoleahcnnkaaSignJ
import Derived.Test.YtnmeoleahcnnkaaLibM
namespace Go.Proofs.Ytnmeoleahcnnkaa
open Go Go.RowKit
section
variable {H : Type} {enc : TypeId × Value → H} {w : World} {base : Nat} {sp : Nat → Bool} {held : Bool}
theorem open_sg {v : Value} {x : DataW H} {p : List MemPlace} (h : DataW.Trod enc Try.prog w base sp held 34 v x p) :
    ∃ s : Sg, s.ok ∧ v.cells.toList = s.cells ∧ Rd w 1 (.slice s.da s.data.length s.dc) s.data.length (ints .u8 s.data) := by
  have hl := (open_fieldAt (i := 0) (ft := 5) (off := 0) (c := 1) (by kernel_rfl) h).1
  rw [show Try.prog.cellsOf 34 = 55 by kernel_rfl] at hl
  obtain ⟨k, e0, w0⟩ := fits_int (open_fieldF (i := 0) (ft := 5) (off := 0) (c := 1) (d := 5) (ks := [some .u8]) (by kernel_rfl) (by kernel_rfl) h)
  obtain ⟨id, e1, l1, w1⟩ := fits_bytes (n := 16) (open_fieldF (i := 1) (ft := 27) (off := 1) (c := 16) (d := 5) (by kernel_rfl) (by kernel_rfl) h)
  obtain ⟨dv, e2, l2, w2⟩ := fits_bytes (n := 2) (open_fieldF (i := 2) (ft := 29) (off := 17) (c := 2) (d := 5) (by kernel_rfl) (by kernel_rfl) h)
  obtain ⟨ce, e3, w3⟩ := fits_int (open_fieldF (i := 3) (ft := 5) (off := 19) (c := 1) (d := 5) (ks := [some .u8]) (by kernel_rfl) (by kernel_rfl) h)
  obtain ⟨ky, e4, l4, w4⟩ := fits_bytes (n := 32) (open_fieldF (i := 4) (ft := 31) (off := 20) (c := 32) (d := 5) (by kernel_rfl) (by kernel_rfl) h)
  obtain ⟨n, e5, w5⟩ := fits_int (open_fieldF (i := 5) (ft := 32) (off := 52) (c := 1) (d := 5) (ks := [some .u32]) (by kernel_rfl) (by kernel_rfl) h)
  obtain ⟨da, dc, d, e6, w6, rd⟩ := open_fieldB (i := 6) (ft := 22) (off := 53) (c := 1) (e := 5) (by kernel_rfl) (by kernel_rfl) (by kernel_rfl) (by kernel_rfl) h
  obtain ⟨rs, e7, w7⟩ := fits_int (open_fieldF (i := 7) (ft := 5) (off := 54) (c := 1) (d := 5) (ks := [some .u8]) (by kernel_rfl) (by kernel_rfl) h)
  obtain ⟨cs, hcs⟩ : ∃ cs, v.cells.toList = cs := ⟨_, rfl⟩
  rw [hcs] at hl e0 e1 e2 e3 e4 e5 e6 e7 ⊢
  match dv, l2 with
  | [ca, cd], _ =>
    refine ⟨⟨k, id, ca, cd, ce, ky, n, da, dc, d, rs⟩, ⟨wf_u8 w0, l1, w1, w2 ca (by simp), w2 cd (by simp), wf_u8 w3, l4, w4, wf_u32' w5, w6, wf_u8 w7⟩, ?_, rd⟩
    have step : ∀ (i c : Nat) (a : List Value), (cs.drop i).take c = a → cs.drop i = a ++ cs.drop (i + c) := fun i c a ha => by
      rw [← ha, ← List.drop_drop, List.take_append_drop]
    have s0 := step 0 1 _ e0
    have s1 := step 1 16 _ e1
    have s2 := step 17 2 _ e2
    have s3 := step 19 1 _ e3
    have s4 := step 20 32 _ e4
    have s5 := step 52 1 _ e5
    have s6 := step 53 1 _ e6
    have s7 := step 54 1 _ e7
    have s8 : cs.drop 55 = [] := List.drop_eq_nil_iff.2 (by omega)
    rw [List.drop_zero] at s0
    rw [s0, s1, s2, s3, s4, s5, s6, s7, s8]
    simp [Sg.cells, ints]
end
end Go.Proofs.Ytnmeoleahcnnkaa
