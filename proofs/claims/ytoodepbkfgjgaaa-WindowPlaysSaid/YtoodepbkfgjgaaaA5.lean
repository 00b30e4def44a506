/- The counters in the window, collected: the walk. -/
import Derived.Test.YtoodepbkfgjgaaaA4
import Derived.Test.YtoodepbkfgjgaaaLibB
import Derived.Deep.DeepMust
namespace Go.Proofs.Ytoodepbkfgjgaaa
open Go Go.RowKit
attribute [local go_sem] Oper.semAt_some

theorem sl22 : SlT Try.prog 22 25 (.int .u64 0) 1 8 := SlT.mk' Try.underlying22 (by kernel_rfl) rfl (by decide)
theorem sl32 : SlT Try.prog 32 30 (.int .i64 0) 1 8 := SlT.mk' Try.underlying32 (by kernel_rfl) rfl (by decide)

theorem All_any (p : Option Addr) (w : World) :
    Calls Try.prog 20 #[.pointer p] w fun e w' => e = .returned (.func (.func 22) #[] #[.pointer (some ⟨w.heap.size, 0, none⟩)]) ∧ w' = w.alloc (.cells #[.pointer p] 24) := by
  go_enter Try.func20, Try.ntmps20
  go_wp2
  go_ret
  exact ⟨rfl, rfl⟩

theorem Win.all_le (s : Win) : s.all.length ≤ 1024 := by
  unfold Win.all
  split
  · refine Nat.le_trans (List.length_filter_le _ _) ?_
    simp [Win.ctrs, Win.span]; omega
  · simp

def allJ (w : World) (s : Win) (i : Nat) (T : Nat → Prop) (W : World) : Prop :=
  ∃ ao cap, Boxed W w.heap.size 22 (.slice ao i cap) ∧ Sown W 25 1 (.slice ao i cap) i (ints .u64 (s.all.take i)) ∧ (∀ k, T k ↔ k = w.heap.size ∨ blk (.slice ao i cap) k) ∧ (∀ k, blk (.slice ao i cap) k → w.heap.size < k) ∧ Chg noB w W

theorem allJ_stable (w : World) (s : Win) (B0 : Nat) (hB : w.heap.size ≤ B0) : ∀ i T A B, allJ w s i T A → Chg (fun k => B0 ≤ k ∧ ¬ T k) A B → allJ w s i T B := by
  rintro i T A B ⟨ao, cap, h1, h2, h3, h4, h5⟩ hc
  exact ⟨ao, cap, hc.boxed h1 (fun h => h.2 ((h3 _).2 (.inl rfl))), h2.chg hc (fun k hk h => h.2 ((h3 _).2 (.inr hk))), h3, h4, h5.trans' hc (fun _ _ h => h) (fun k hk h => by omega)⟩

set_option maxRecDepth 100000 in
set_option maxHeartbeats 400000 in
theorem all_any (b : Nat) (s : Win) (w : World) (hs : WinAt w b s) :
    Calls Try.prog 13 #[.pointer (some ⟨b, 0, none⟩)] w fun e w' => ∃ ao cap, e = .returned (.slice ao s.all.length cap) ∧
      Sown w' 25 1 (.slice ao s.all.length cap) s.all.length (ints .u64 s.all) ∧ Chg noB w w' ∧ (∀ k, blk (.slice ao s.all.length cap) k → w.heap.size ≤ k) := by
  refine calls_of_wp_marks Try.func13 rfl ?_
  simp only [Try.ntmps13, List.size_toArray, List.length_cons, List.length_nil, Nat.reduceAdd, Nat.reduceSub, Array.replicate_succ, Array.replicate_zero, List.push_toArray, List.append_toArray, List.nil_append, List.cons_append]
  go_wp2_with (go_at_call 20; refine (All_any _ _).mono ?_; rintro e w' ⟨rfl, rfl⟩)
  have hlt := lt_of_heap hs.2
  have hbx : Boxed ((w.alloc (.cells #[.slice none 0 0] 22)).alloc (.cells #[.pointer (some ⟨b, 0, none⟩)] 24)) (w.heap.size + 1) 24 (.pointer (some ⟨b, 0, none⟩)) := by
    have := Boxed.new (w.alloc (.cells #[.slice none 0 0] 22)) 24 (.pointer (some ⟨b, 0, none⟩)); rwa [World.size_alloc] at this
  have hbo : Boxed ((w.alloc (.cells #[.slice none 0 0] 22)).alloc (.cells #[.pointer (some ⟨b, 0, none⟩)] 24)) w.heap.size 22 (.slice none 0 0) := (Boxed.new w 22 _).alloc _
  have hws : WinAt ((w.alloc (.cells #[.slice none 0 0] 22)).alloc (.cells #[.pointer (some ⟨b, 0, none⟩)] 24)) b s := ⟨hs.1, ((Chg.alloc noB w _).trans (Chg.alloc _ _ _)).heap hs.2 (fun h => h)⟩
  have hch : Chg noB w ((w.alloc (.cells #[.slice none 0 0] 22)).alloc (.cells #[.pointer (some ⟨b, 0, none⟩)] 24)) := (Chg.alloc noB w _).trans (Chg.alloc _ _ _)
  have hsz : ((w.alloc (.cells #[.slice none 0 0] 22)).alloc (.cells #[.pointer (some ⟨b, 0, none⟩)] 24)).heap.size = w.heap.size + 2 := by simp
  generalize (w.alloc (.cells #[.slice none 0 0] 22)).alloc (.cells #[.pointer (some ⟨b, 0, none⟩)] 24) = w0 at *
  have hle := s.all_le
  refine wp_range (all1_iter w0 (w.heap.size + 1) b s hbx hws) (oneB w.heap.size) (allJ w s)
    (fun _ _ _ _ => False) rfl (enters Try.func22 (by kernel_rfl) rfl) ?hps (Chg.refl _ _) ?ho ?hT (allJ_stable w s _ (by omega)) (fun _ _ _ _ _ h _ => h) ?h0 (RndOk.plain (fun x => { tmps := #[.pointer (some ⟨b, 0, none⟩), undef, .slice none 0 0, .pointer (some ⟨w.heap.size, 0, none⟩), x.getD 0 undef, .pointer (some ⟨b, 0, none⟩), .func (.func 22) #[] #[.pointer (some ⟨w.heap.size + 1, 0, none⟩)], x.getD 0 undef, undef, undef, undef, undef, undef, undef, undef, undef], defers := [] }) (allJ_stable w s _ (by omega)) ?assign ?body) ?done (fun _ _ _ _ _ _ _ _ _ h => h.elim)
  case hps => intro x hx; obtain ⟨y, _, rfl⟩ := List.mem_map.1 hx; rfl
  case ho => rintro k (rfl | rfl) <;> omega
  case hT => rintro k rfl; exact ⟨by omega, fun h => by rcases h with h | h <;> omega⟩
  case h0 => exact ⟨none, 0, hbo, Sown.nil _ _ _, fun k => ⟨fun h => .inl h, fun h => by rcases h with h | h; exact h; exact h.elim⟩, fun k hk => hk.elim, hch⟩
  case assign =>
    intro l x W K hx hK
    obtain ⟨y, _, rfl⟩ := List.mem_map.1 hx
    unfold enc64 at hK ⊢
    gi_wp2
    exact hK
  case body =>
    rintro l i x T W hx ⟨ao, cap, h1, h2, h3, h4, h5⟩ hB hTl hr hTs
    rw [List.getElem?_map] at hx
    obtain ⟨y, hy, rfl⟩ := Option.map_eq_some_iff.1 hx
    clear hx
    have hi : i < s.all.length := (List.getElem?_eq_some_iff.1 hy).1
    unfold enc64
    have hb1 := h1.cell
    have hf1 := h1.frozen
    have HH := Lib.hid (And.intro h1 (And.intro h2 (And.intro h3 (And.intro h4 h5))))
    have HY := Lib.hid hy
    have HT := Lib.hid (And.intro hTl hTs)
    clear h1 h2 h3 h4 h5 hr hy hTl hTs
    gi_wp2_with (first | (gi_at_builtin; go_must (refine wpListIn_app _ sl22 rfl rfl rfl rfl (HH.out.2.1.chg (Chg.alloc noB _ _) (fun _ _ h => h)) (m := 1) (Sown.new _ 25 1 _ 1 (by simp [maxLen]) rfl).rd (by simp [Value.oneCell']) (by unfold maxLen; omega) (by omega) ?_); intro ao' cap' w1 g1 g2 g3 _; have hbx1 := g2.boxed (HH.out.1.alloc _) (fun hk => absurd (HH.out.2.2.2.1 _ hk) (Nat.lt_irrefl _)); have hc2 := hbx1.cell; have hf2 := hbx1.frozen; have G := Lib.hid (And.intro g1 (And.intro g2 g3)); clear g1 g2 g3 hbx1))
    obtain ⟨h1, h2, h3, h4, h5⟩ := HH.out
    obtain ⟨g1, g2, g3⟩ := G.out
    obtain ⟨k1, k2, k3, k4, k5⟩ := app_boxed h1 (fun k hk => Nat.ne_of_gt (h4 k hk)) g1 g2 g3
    have hWs : w.heap.size < W.heap.size := h1.lt
    refine ⟨fun k => k = w.heap.size ∨ blk (.slice ao' (i + 1) cap') k, ⟨ao', cap', k1, ?_, fun _ => Iff.rfl, fun k hk => ?_, h5.trans' k3 (fun _ _ h => h) ?_⟩, k3.mono (fun k _ h => .inl ((h3 k).2 h)), ?_⟩
    · rw [← take_snoc _ _ _ HY.out, ← ints_snoc]; exact k2
    · rcases k4 k hk with h | h
      · exact h4 k h
      · omega
    · intro k hk h
      rcases h with h | h
      · omega
      · have := h4 k h; omega
    · intro k hk
      rcases hk with h | h
      · exact .inl ((h3 k).2 (.inl h))
      · rcases k4 k h with h | h
        · exact .inl ((h3 k).2 (.inr h))
        · exact .inr h
  case done =>
    rintro D T W hD hk hTD ⟨ao, cap, h1, h2, h3, h4, h5⟩
    have hb1 := h1.cell
    rw [List.length_map] at *
    rw [List.take_of_length_le (Nat.le_refl _)] at h2
    have HH := Lib.hid (And.intro h2 (And.intro h3 (And.intro h4 h5)))
    clear h1 h2 h3 h4 h5
    go_wp2
    obtain ⟨h2, h3, h4, h5⟩ := HH.out
    refine leave_mark hk (leave_none (results_tmp rfl _ _ _) ?_)
    have hDT : ∀ k, blk (.slice ao s.all.length cap) k → k ≠ D := fun k hk e => hTD ((h3 D).2 (.inr (e ▸ hk)))
    exact ⟨ao, cap, rfl, h2.chg (Chg.putObj (S := oneB D) _ _ _ (fun _ => rfl)) (fun k hk h => hDT k hk h), h5.trans' (Chg.putObj (S := oneB D) _ _ _ (fun _ => rfl)) (fun _ _ h => h) (fun k hk h => by have : k = D := h; omega), fun k hk => Nat.le_of_lt (h4 k hk)⟩
end Go.Proofs.Ytoodepbkfgjgaaa
