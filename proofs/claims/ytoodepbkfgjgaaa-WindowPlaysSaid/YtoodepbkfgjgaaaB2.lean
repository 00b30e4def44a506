/- The chapter's rows: known() answers true. -/
import Derived.Test.YtoodepbkfgjgaaaB1
namespace Go.Proofs.Ytoodepbkfgjgaaa
open Go Go.RowKit
attribute [local go_sem] Oper.semAt_some

theorem all1_nil (w0 : World) (b : Nat) (hb : Boxed w0 b 24 (.pointer none)) :
    Iter Try.prog 22 #[.pointer (some ⟨b, 0, none⟩)] (fun k => k = b) [] w0 := by
  intro l T0 J Jx W hW hown hT0 hJ hJx hY h00
  have HB := hW.boxed hb (fun h => h rfl)
  have hbW := HB.cell
  clear hY hJ hJx
  refine callsIn_of_wp Try.func22 rfl trivial ?_ rfl
  simp only [Try.ntmps22, List.size_toArray, List.length_cons, List.length_nil, Nat.reduceAdd, Nat.reduceSub, Array.replicate_succ, Array.replicate_zero, List.push_toArray, List.append_toArray, List.nil_append, List.cons_append]
  gi_wp2
  refine bodyPost_ret (results_none rfl _ _ _) rfl ?_
  exact ⟨⟨_, rfl⟩, T0, h00⟩

def nilJ (w : World) (_i : Nat) (T : Nat → Prop) (W : World) : Prop := Boxed W w.heap.size 22 (.slice none 0 0) ∧ (∀ k, T k ↔ k = w.heap.size) ∧ Chg noB w W

theorem nilJ_stable (w : World) (B0 : Nat) (hB : w.heap.size < B0) : ∀ i T A B, nilJ w i T A → Chg (fun k => B0 ≤ k ∧ ¬ T k) A B → nilJ w i T B := by
  rintro i T A B ⟨h1, h2, h3⟩ hc
  exact ⟨hc.boxed h1 (fun h => by omega), h2, h3.trans' hc (fun _ _ h => h) (fun k hk h => by omega)⟩

set_option maxRecDepth 100000 in
set_option maxHeartbeats 400000 in
theorem all_nil (w : World) :
    Calls Try.prog 13 #[.pointer none] w fun e w' => e = .returned (.slice none 0 0) ∧ Chg noB w w' := by
  refine calls_of_wp_marks Try.func13 rfl ?_
  simp only [Try.ntmps13, List.size_toArray, List.length_cons, List.length_nil, Nat.reduceAdd, Nat.reduceSub, Array.replicate_succ, Array.replicate_zero, List.push_toArray, List.append_toArray, List.nil_append, List.cons_append]
  go_wp2_with (go_at_call 20; refine (All_any _ _).mono ?_; rintro e w' ⟨rfl, rfl⟩)
  have hbx : Boxed ((w.alloc (.cells #[.slice none 0 0] 22)).alloc (.cells #[.pointer none] 24)) (w.heap.size + 1) 24 (.pointer none) := by
    have := Boxed.new (w.alloc (.cells #[.slice none 0 0] 22)) 24 (.pointer none); rwa [World.size_alloc] at this
  have hbo : Boxed ((w.alloc (.cells #[.slice none 0 0] 22)).alloc (.cells #[.pointer none] 24)) w.heap.size 22 (.slice none 0 0) := (Boxed.new w 22 _).alloc _
  have hch : Chg noB w ((w.alloc (.cells #[.slice none 0 0] 22)).alloc (.cells #[.pointer none] 24)) := (Chg.alloc noB w _).trans (Chg.alloc _ _ _)
  have hsz : ((w.alloc (.cells #[.slice none 0 0] 22)).alloc (.cells #[.pointer none] 24)).heap.size = w.heap.size + 2 := by simp
  generalize (w.alloc (.cells #[.slice none 0 0] 22)).alloc (.cells #[.pointer none] 24) = w0 at *
  refine wp_range (all1_nil w0 (w.heap.size + 1) hbx) (oneB w.heap.size) (nilJ w)
    (fun _ _ _ _ => False) rfl (enters Try.func22 (by kernel_rfl) rfl) (fun x hx => by cases hx) (Chg.refl _ _) (fun k hk => by omega) (fun k hk => by cases hk; exact ⟨by omega, by omega⟩) (nilJ_stable w _ (by omega)) (fun _ _ _ _ _ h _ => h) ⟨hbo, fun k => Iff.rfl, hch⟩ (fun l i x T W hx => by simp at hx) ?done (fun _ _ _ _ _ _ _ _ _ h => h.elim)
  case done =>
    rintro D T W hD hk hTD ⟨h1, h2, h3⟩
    have hb1 := h1.cell
    clear h1
    go_wp2
    refine leave_mark hk (leave_none (results_tmp rfl _ _ _) ?_)
    exact ⟨rfl, h3.trans' (Chg.putObj (S := oneB D) _ _ _ (fun _ => rfl)) (fun _ _ h => h) (fun k hk h => by cases h; omega)⟩

set_option maxRecDepth 100000 in
set_option maxHeartbeats 1000000 in
theorem known_any (w : World) : Calls Try.prog 5 #[] w fun e w' => e = .returned (.bool true) ∧ Chg noB w w' := by
  go_enter Try.func5, Try.ntmps5
  go_wp2_with (go_at_call 15; refine (works_any _).mono ?_; rintro e w1 ⟨rfl, m1⟩; have M := Lib.hid m1; clear m1)
  have hwa := (zero_at w1).chg (Chg.alloc noB _ (.cells #[.bool false, .int .u64 0, .int .u64 0, .int .u64 0, .int .u64 0, .int .u64 0, .int .u64 0, .int .u64 0, .int .u64 0, .int .u64 0, .int .u64 0, .int .u64 0, .int .u64 0, .int .u64 0, .int .u64 0, .int .u64 0, .int .u64 0, .int .u64 0] 28)) (fun h => h)
  have hwb := zero_at (w1.alloc (.cells #[.bool false, .int .u64 0, .int .u64 0, .int .u64 0, .int .u64 0, .int .u64 0, .int .u64 0, .int .u64 0, .int .u64 0, .int .u64 0, .int .u64 0, .int .u64 0, .int .u64 0, .int .u64 0, .int .u64 0, .int .u64 0, .int .u64 0, .int .u64 0] 28))
  rw [World.size_alloc] at hwb
  have hz0 : ((w1.alloc (.cells #[.bool false, .int .u64 0, .int .u64 0, .int .u64 0, .int .u64 0, .int .u64 0, .int .u64 0, .int .u64 0, .int .u64 0, .int .u64 0, .int .u64 0, .int .u64 0, .int .u64 0, .int .u64 0, .int .u64 0, .int .u64 0, .int .u64 0, .int .u64 0] 28)).alloc (.cells #[.bool false, .int .u64 0, .int .u64 0, .int .u64 0, .int .u64 0, .int .u64 0, .int .u64 0, .int .u64 0, .int .u64 0, .int .u64 0, .int .u64 0, .int .u64 0, .int .u64 0, .int .u64 0, .int .u64 0, .int .u64 0, .int .u64 0, .int .u64 0] 28)).heap.size = w1.heap.size + 1 + 1 := by simp
  have hc0 : Chg noB w ((w1.alloc (.cells #[.bool false, .int .u64 0, .int .u64 0, .int .u64 0, .int .u64 0, .int .u64 0, .int .u64 0, .int .u64 0, .int .u64 0, .int .u64 0, .int .u64 0, .int .u64 0, .int .u64 0, .int .u64 0, .int .u64 0, .int .u64 0, .int .u64 0, .int .u64 0] 28)).alloc (.cells #[.bool false, .int .u64 0, .int .u64 0, .int .u64 0, .int .u64 0, .int .u64 0, .int .u64 0, .int .u64 0, .int .u64 0, .int .u64 0, .int .u64 0, .int .u64 0, .int .u64 0, .int .u64 0, .int .u64 0, .int .u64 0, .int .u64 0, .int .u64 0] 28)) := (M.out.trans (Chg.alloc _ _ _)).trans (Chg.alloc _ _ _)
  have hzz := M.out.size
  generalize (w1.alloc (.cells #[.bool false, .int .u64 0, .int .u64 0, .int .u64 0, .int .u64 0, .int .u64 0, .int .u64 0, .int .u64 0, .int .u64 0, .int .u64 0, .int .u64 0, .int .u64 0, .int .u64 0, .int .u64 0, .int .u64 0, .int .u64 0, .int .u64 0, .int .u64 0] 28)).alloc (.cells #[.bool false, .int .u64 0, .int .u64 0, .int .u64 0, .int .u64 0, .int .u64 0, .int .u64 0, .int .u64 0, .int .u64 0, .int .u64 0, .int .u64 0, .int .u64 0, .int .u64 0, .int .u64 0, .int .u64 0, .int .u64 0, .int .u64 0, .int .u64 0] 28) = w0 at *
  have hr0 := (Sown.new w0 25 1 #[.int .u64 5, .int .u64 5, .int .u64 1029, .int .u64 6, .int .u64 5] 5 (by simp [maxLen]) rfl).rd
  rw [hz0] at hr0
  refine (notes_any w1.heap.size Win.zero _ [5, 5, 1029, 6, 5] _ (hwa.chg (Chg.alloc noB _ _) (fun h => h)) hr0 (nums_of (by decide)) (fun k hk e => by subst e; have : w1.heap.size + 1 + 1 = w1.heap.size := hk; omega) (by decide)).mono ?_
  rintro e w2 ⟨a1, c1, rfl, n1, n2, n3, n4⟩
  have hwb2 := (hwb.chg (Chg.alloc noB _ _) (fun h => h)).chg n3 (fun h => by have : w1.heap.size + 1 = w1.heap.size := h; omega)
  have hc2 : Chg noB w w2 := (hc0.trans (Chg.alloc _ _ _)).step n3 (fun i hi => by cases hi; omega)
  have H := Lib.hid (And.intro n2 (And.intro hwb2 hc2))
  clear n1 n2 n3 n4 hc2 hr0 hwa hwb hc0 hz0 hwb2
  go_wp2_with fail
  refine (Top_nil _).mono ?_
  rintro e w3 ⟨rfl, hw3⟩
  obtain rfl := hw3.symm
  clear hw3
  go_wp2_with fail
  have hall := all_any w1.heap.size _ _ H.out.1
  rw [run3] at hall
  refine hall.mono ?_
  clear hall
  rintro e w3 ⟨a3, c3, rfl, p1, p2, p3⟩
  have HA := Lib.hid (And.intro p1 p2)
  clear p1 p2 p3
  go_wp2_with fail
  refine (eq22 _ _ [6, 1029] [6, 1029] _ (HA.out.1.chg (Chg.alloc noB _ _) (fun _ _ h => h)).rd (Sown.new w3 25 1 #[.int .u64 6, .int .u64 1029] 2 (by simp [maxLen]) rfl).rd).mono ?_
  rintro e w4 ⟨rfl, q1⟩
  have hsz4 := (((HA.out.2.trans (Chg.alloc noB _ (.cells #[.int .u64 6, .int .u64 1029] 25)))).trans q1).size
  have HB : Hid (WinAt w4 (w1.heap.size + 1) Win.zero ∧ Chg noB w w4) := ⟨H.out.2.1.chg ((HA.out.2.trans (Chg.alloc _ _ _)).trans q1) (fun h => h), (H.out.2.2.trans ((HA.out.2.trans (Chg.alloc _ _ _)).trans q1))⟩
  clear q1 H HA
  go_wp2_with fail
  refine (notes_any (w1.heap.size + 1) Win.zero _ [18446744073709551615, 0] _ (HB.out.1.chg (Chg.alloc noB _ _) (fun h => h)) (Sown.new w4 25 1 #[.int .u64 18446744073709551615, .int .u64 0] 2 (by simp [maxLen]) rfl).rd (nums_of (by decide)) (fun k hk e => by subst e; have : w4.heap.size = w1.heap.size + 1 := hk; have := lt_of_heap HB.out.1.2; omega) (by decide)).mono ?_
  rintro e w5 ⟨a5, c5, rfl, r1, r2, r3, r4⟩
  rw [run4] at r1
  have hm1 := M.out.size
  have HC : Hid (Chg noB w w5) := (HB.out.2.trans (Chg.alloc _ _ _)).step r3 (fun i hi => by cases hi; omega)
  have HR := Lib.hid r1
  clear r1 r2 r3 r4
  go_wp2_with fail
  refine (eq32 _ _ [0, 161] [0, 161] _ (HR.out.chg (Chg.alloc noB _ _) (fun _ _ h => h)).rd (Sown.new w5 30 1 #[.int .i64 0, .int .i64 161] 2 (by simp [maxLen]) rfl).rd).mono ?_
  rintro e w6 ⟨rfl, q1⟩
  have HD : Hid (Chg noB w w6) := (HC.out.trans (Chg.alloc _ _ _)).trans q1
  clear q1
  go_wp2_with fail
  refine (see_nil _ _).mono ?_
  rintro e w7 ⟨rfl, hw7⟩
  obtain rfl := hw7.symm
  clear hw7
  go_wp2_with fail
  refine (note_nil _ _).mono ?_
  rintro e w7 ⟨rfl, q1⟩
  have HE : Hid (Chg noB w w7) := HD.out.trans q1
  clear q1
  go_wp2_with fail
  refine (all_nil _).mono ?_
  rintro e w8 ⟨rfl, q1⟩
  have HF : Hid (Chg noB w w8) := HE.out.trans q1
  clear q1
  go_wp2_with fail
  go_ret
  exact ⟨rfl, HF.out⟩
end Go.Proofs.Ytoodepbkfgjgaaa
