/- The chapter's rows: known() and works() answer true. -/
import Derived.Test.YtoodepbkfgjgaaaA8
namespace Go.Proofs.Ytoodepbkfgjgaaa
open Go Go.RowKit
attribute [local go_sem] Oper.semAt_some

def Win.zero : Win := ⟨false, 0, List.replicate 16 0⟩
theorem zero_wf : Win.zero.wf := ⟨by decide, by decide, by decide, fun i => by
  simp only [Win.zero, List.getD_eq_getElem?_getD, List.getElem?_replicate]
  split <;> simp⟩
theorem zero_at (w : World) : WinAt (w.alloc (.cells #[.bool false, .int .u64 0, .int .u64 0, .int .u64 0, .int .u64 0, .int .u64 0, .int .u64 0, .int .u64 0, .int .u64 0, .int .u64 0, .int .u64 0, .int .u64 0, .int .u64 0, .int .u64 0, .int .u64 0, .int .u64 0, .int .u64 0, .int .u64 0] 28)) w.heap.size Win.zero :=
  ⟨zero_wf, World.alloc_heap_new w _⟩

theorem nums_of {xs : List Int} (h : xs.all (fun x => decide (0 ≤ x ∧ x < 18446744073709551616)) = true) : Nums xs := fun i x hx => by
  have := List.all_eq_true.1 h x (List.mem_of_getElem? hx)
  simpa using this

theorem run1 : (Win.zero.run [5, 5, 1029, 6, 5]).1 = [0, 160, 0, 0, 161] := by decide +kernel
theorem run2 : ((Win.zero.run [5, 5, 1029, 6, 5]).2.see 6) = 160 := by decide +kernel
theorem run3 : ((Win.zero.run [5, 5, 1029, 6, 5]).2.all) = [6, 1029] := by decide +kernel
theorem run4 : (Win.zero.run [18446744073709551615, 0]).1 = [0, 161] := by decide +kernel

set_option maxRecDepth 100000 in
set_option maxHeartbeats 1000000 in
theorem works_any (w : World) : Calls Try.prog 15 #[] w fun e w' => e = .returned (.bool true) ∧ Chg noB w w' := by
  go_enter Try.func15, Try.ntmps15
  go_wp2_with fail
  have hw0 := zero_at w
  have hc0 : Chg noB w (w.alloc (.cells #[.bool false, .int .u64 0, .int .u64 0, .int .u64 0, .int .u64 0, .int .u64 0, .int .u64 0, .int .u64 0, .int .u64 0, .int .u64 0, .int .u64 0, .int .u64 0, .int .u64 0, .int .u64 0, .int .u64 0, .int .u64 0, .int .u64 0, .int .u64 0] 28)) := Chg.alloc _ _ _
  have hz0 : (w.alloc (.cells #[.bool false, .int .u64 0, .int .u64 0, .int .u64 0, .int .u64 0, .int .u64 0, .int .u64 0, .int .u64 0, .int .u64 0, .int .u64 0, .int .u64 0, .int .u64 0, .int .u64 0, .int .u64 0, .int .u64 0, .int .u64 0, .int .u64 0, .int .u64 0] 28)).heap.size = w.heap.size + 1 := by simp
  generalize w.alloc (.cells #[.bool false, .int .u64 0, .int .u64 0, .int .u64 0, .int .u64 0, .int .u64 0, .int .u64 0, .int .u64 0, .int .u64 0, .int .u64 0, .int .u64 0, .int .u64 0, .int .u64 0, .int .u64 0, .int .u64 0, .int .u64 0, .int .u64 0, .int .u64 0] 28) = w0 at *
  have hr0 := (Sown.new w0 25 1 #[.int .u64 5, .int .u64 5, .int .u64 1029, .int .u64 6, .int .u64 5] 5 (by simp [maxLen]) rfl).rd
  rw [hz0] at hr0
  refine (notes_any w.heap.size Win.zero _ [5, 5, 1029, 6, 5] _ (hw0.chg (Chg.alloc noB _ _) (fun h => h)) hr0 (nums_of (by decide)) (fun k hk e => by subst e; have : w.heap.size + 1 = w.heap.size := hk; omega) (by decide)).mono ?_
  rintro e w1 ⟨a1, c1, rfl, n1, n2, n3, n4⟩
  rw [run1] at n1
  have hc1 : Chg noB w w1 := (hc0.trans (Chg.alloc _ _ _)).step n3 (fun i hi => by cases hi; exact Nat.le_refl _)
  have H := Lib.hid (And.intro n1 (And.intro n2 hc1))
  clear n1 n2 n3 n4 hc1 hr0 hw0 hc0 hz0
  go_wp2_with (first
    | (go_at_call 16; refine (eq32 _ _ [0, 160, 0, 0, 161] [0, 160, 0, 0, 161] _ (H.out.1.chg (Chg.alloc noB _ _) (fun _ _ h => h)).rd (Sown.new w1 30 1 #[.int .i64 0, .int .i64 160, .int .i64 0, .int .i64 0, .int .i64 161] 5 (by simp [maxLen]) rfl).rd).mono ?_; rintro e w2 ⟨rfl, m1⟩; have M := Lib.hid m1; clear m1)
    | (go_at_call 6; refine (see_any w.heap.size _ 6 _ (by decide) (by decide) ((H.out.2.1.chg (Chg.alloc noB _ _) (fun h => h)).chg M.out (fun h => h))).mono ?_; rintro e w3 ⟨rfl, hw3⟩; obtain rfl := hw3.symm; rw [run2]))
  go_ret
  exact ⟨rfl, (H.out.2.2.trans (Chg.alloc _ _ _)).trans M.out⟩
end Go.Proofs.Ytoodepbkfgjgaaa
