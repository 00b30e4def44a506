/- Note: its walk. -/
import Derived.Test.YtoodepbkfgjgaaaA5
import Derived.Test.YtoodepbkfgjgaaaLibC
namespace Go.Proofs.Ytoodepbkfgjgaaa
open Go Go.RowKit
attribute [local go_sem] Oper.semAt_some

theorem fresh_any (top ctr : Int) (w : World) :
    Calls Try.prog 18 #[.int .u64 top, .int .u64 ctr] w fun e w' => e = .returned (.func (.func 21) #[] #[.pointer (some ⟨w.heap.size + 1, 0, none⟩), .pointer (some ⟨w.heap.size, 0, none⟩)]) ∧ w' = (w.alloc (.cells #[.int .u64 top] 25)).alloc (.cells #[.int .u64 ctr] 25) := by
  go_enter Try.func18, Try.ntmps18
  go_wp2
  go_ret
  exact ⟨rfl, rfl⟩

theorem note_nil (n : Int) (w : World) :
    Calls Try.prog 9 #[.pointer none, .int .u64 n] w fun e w' => e = .returned (.int .i64 1) ∧ Chg noB w w' := by
  go_enter Try.func9, Try.ntmps9
  go_wp2_with (go_at_call 6; refine (see_nil _ _).mono ?_; rintro e w' ⟨rfl, rfl⟩)
  go_ret
  exact ⟨rfl, Chg.alloc _ _ _⟩

set_option maxRecDepth 100000 in
set_option maxHeartbeats 400000 in
theorem note_no (b : Nat) (s : Win) (n : Int) (w : World) (h0 : 0 ≤ n) (h1 : n < 18446744073709551616) (hs : WinAt w b s) (hsee : s.see n ≠ 0) :
    Calls Try.prog 9 #[.pointer (some ⟨b, 0, none⟩), .int .u64 n] w fun e w' => e = .returned (.int .i64 (s.see n)) ∧ Chg noB w w' := by
  have hb : (s.see n == 0) = false := by simpa using hsee
  have hh := fun w' (hw : WinAt w' b s) => see_any b s n w' h0 h1 hw
  go_enter Try.func9, Try.ntmps9
  go_wp2_with (go_at_call 6; refine (hh _ ⟨hs.1, (Chg.alloc noB w _).heap hs.2 (fun h => h)⟩).mono ?_; rintro e w' ⟨rfl, rfl⟩)
  go_ret
  exact ⟨rfl, Chg.alloc _ _ _⟩

def Win.first (s : Win) (n : Int) : Win := if s.some then s else { s with some := true, top := n }

theorem WinAt.frozen {w : World} {b : Nat} {s : Win} (h : WinAt w b s) (i : Nat) : w.frozen? ⟨b, i, none⟩ = false := by
  obtain ⟨_, h⟩ := h; simp [World.frozen?, h]

theorem WinAt.chg {S : Nat → Prop} {w w' : World} {b : Nat} {s : Win} (h : WinAt w b s) (hc : Chg S w w') (hn : ¬ S b) : WinAt w' b s := ⟨h.1, hc.heap h.2 hn⟩
theorem WinAt.setSome {w : World} {b : Nat} {s : Win} (h : WinAt w b s) (x : Bool) : WinAt (w.setCell ⟨b, 0, none⟩ (.bool x)) b { s with some := x } :=
  ⟨⟨h.1.top0, h.1.top1, h.1.len, h.1.c0⟩, by rw [heap_setCell_same w b 0 _ 28 _ h.2]; simp [Win.cells]⟩
theorem WinAt.setTop {w : World} {b : Nat} {s : Win} (h : WinAt w b s) (n : Int) (h0 : 0 ≤ n) (h1 : n < 18446744073709551616) : WinAt (w.setCell ⟨b, 1, none⟩ (.int .u64 n)) b { s with top := n } :=
  ⟨⟨h0, h1, h.1.len, h.1.c0⟩, by rw [heap_setCell_same w b 1 _ 28 _ h.2]; simp [Win.cells]⟩
theorem WinAt.setCame {w : World} {b : Nat} {s : Win} (h : WinAt w b s) (i : Nat) (n : Int) (h0 : 0 ≤ n) (h1 : n < 18446744073709551616) : WinAt (w.setCell ⟨b, 2 + i, none⟩ (.int .u64 n)) b { s with came := s.came.set i n } := by
  refine ⟨⟨h.1.top0, h.1.top1, by simp [h.1.len], fun j => ?_⟩, ?_⟩
  · have := h.1.c0 j
    simp only [List.getD_eq_getElem?_getD, List.getElem?_set] at this ⊢
    split
    · split
      · simpa using ⟨h0, h1⟩
      · simp
    · exact this
  · rw [heap_setCell_same w b (2 + i) _ 28 _ h.2]
    have e : 2 + i = i + 1 + 1 := by omega
    simp [Win.cells, e, List.map_set]

theorem bits_u64 (op : BinOp) (x y : Int) : 0 ≤ bits op .u64 x y ∧ bits op .u64 x y < 18446744073709551616 := by
  unfold bits; rw [IntKind.wrap_u64]; omega

def Win.clear (s : Win) (n : Int) : Win := { s with came := s.came.set (n % 1024 / 64).toNat (bits .andNot .u64 (s.came.getD (n % 1024 / 64).toNat 0) (IntKind.u64.wrap (2 ^ (n % 64).toNat))) }
def Win.mark (s : Win) (n : Int) : Win := { s with came := s.came.set (n % 1024 / 64).toNat (bits .or .u64 (s.came.getD (n % 1024 / 64).toNat 0) (IntKind.u64.wrap (2 ^ (n % 64).toNat))) }
def Win.fresh (s : Win) (n : Int) : Win := (freshI s.top n).foldl Win.clear s
def Win.rise (s : Win) (n : Int) : Win := { s with top := max s.top n }
def Win.note (s : Win) (n : Int) : Win := (((s.first n).fresh n).rise n).mark n

def noteJ (w : World) (b : Nat) (s : Win) (n : Int) (i : Nat) (T : Nat → Prop) (W : World) : Prop :=
  WinAt W b (((freshI s.top n).take i).foldl Win.clear s) ∧ Boxed W w.heap.size 24 (.pointer (some ⟨b, 0, none⟩)) ∧ (∀ k, T k ↔ k = b) ∧ Chg (oneB b) w W

theorem noteJ_stable (w : World) (b : Nat) (s : Win) (n : Int) (B0 : Nat) (hB : w.heap.size < B0) : ∀ i T A B, noteJ w b s n i T A → Chg (fun k => B0 ≤ k ∧ ¬ T k) A B → noteJ w b s n i T B := by
  rintro i T A B ⟨h1, h2, h3, h4⟩ hc
  exact ⟨h1.chg hc (fun h => h.2 ((h3 _).2 rfl)), hc.boxed h2 (fun h => by omega), h3, h4.trans' hc (fun _ _ h => h) (fun k hk h => by omega)⟩

theorem freshI_range {top n y : Int} {i : Nat} (ht : 0 ≤ top) (h0 : 0 ≤ n) (h1 : n < 18446744073709551616) (h : (freshI top n)[i]? = some y) : 0 ≤ y ∧ y < 18446744073709551616 := by
  obtain ⟨hi, rfl⟩ := List.getElem?_eq_some_iff.1 h
  have hi' : i < freshN top n := by simpa [freshI] using hi
  simp only [freshI, List.getElem_map, List.getElem_range]
  unfold freshN at *
  omega

set_option maxRecDepth 100000 in
set_option maxHeartbeats 400000 in
theorem note_yes (b : Nat) (s : Win) (n : Int) (w : World) (h0 : 0 ≤ n) (h1 : n < 18446744073709551616) (hs : WinAt w b s) (hsee : s.see n = 0) :
    Calls Try.prog 9 #[.pointer (some ⟨b, 0, none⟩), .int .u64 n] w fun e w' => e = .returned (.int .i64 0) ∧ WinAt w' b (s.note n) ∧ Chg (oneB b) w w' := by
  have hh := fun w' (hw : WinAt w' b s) => see_any b s n w' h0 h1 hw
  rw [hsee] at hh
  have hcs := hs.hsome
  have hct := hs.htop
  have hfz : ∀ i, w.frozen? ⟨b, i, none⟩ = false := fun i => by obtain ⟨_, h⟩ := hs; simp [World.frozen?, h]
  have hf0 := hfz 0
  have hf1 := hfz 1
  have hlt := lt_of_heap hs.2
  have HS := Lib.hid hs
  have HF := Lib.hid hfz
  have HZ := Lib.hid hsee
  clear hs hfz hsee
  refine calls_of_wp_marks Try.func9 rfl ?_
  simp only [Try.ntmps9, List.size_toArray, List.length_cons, List.length_nil, Nat.reduceAdd, Nat.reduceSub, Array.replicate_succ, Array.replicate_zero, List.push_toArray, List.append_toArray, List.nil_append, List.cons_append]
  go_upto_if 21 with (go_at_call 6; refine (hh _ ⟨HS.out.1, (Chg.alloc noB w _).heap HS.out.2 (fun h => h)⟩).mono ?_; rintro e w' ⟨rfl, rfl⟩)
  go_cut [] from 11 to 28 (fun wx => WinAt wx b (s.first n) ∧ Boxed wx w.heap.size 24 (.pointer (some ⟨b, 0, none⟩)) ∧ Chg (oneB b) w wx ∧ wx.heap.size = w.heap.size + 1)
  case first =>
    cases hsm : s.some with
    | false =>
      rw [hsm] at hcs
      go_wp2
      go_region
      all_goals (go_wp2; go_meet)
      have e : s.first n = { s with some := true, top := n } := by simp [Win.first, hsm]
      rw [e]
      have hw1 := (HS.out.setSome true).setTop n h0 h1
      have hc1 : Chg (oneB b) w ((w.setCell ⟨b, 0, none⟩ (.bool true)).setCell ⟨b, 1, none⟩ (.int .u64 n)) := (Chg.setCell (S := oneB b) w ⟨b, 0, none⟩ _ (fun _ => rfl)).trans (Chg.setCell (S := oneB b) _ ⟨b, 1, none⟩ _ (fun _ => rfl))
      have hz1 : ((w.setCell ⟨b, 0, none⟩ (.bool true)).setCell ⟨b, 1, none⟩ (.int .u64 n)).heap.size = w.heap.size := by simp [World.setCell]
      generalize (w.setCell ⟨b, 0, none⟩ (.bool true)).setCell ⟨b, 1, none⟩ (.int .u64 n) = w1 at *
      exact ⟨hw1.chg ((Chg.alloc noB _ _).trans (Chg.drew _ _)) (fun h => h), by rw [← hz1]; exact Boxed.new w1 _ _, (hc1.trans (Chg.alloc _ _ _)).trans (Chg.drew _ _), by simp [hz1]⟩
    | true =>
      rw [hsm] at hcs
      go_wp2
      go_meet
      have e : s.first n = s := by simp [Win.first, hsm]
      rw [e]
      exact ⟨⟨HS.out.1, (Chg.alloc noB w _).heap HS.out.2 (fun h => h)⟩, Boxed.new _ _ _, Chg.alloc _ _ _, by simp⟩
  case rest =>
    obtain ⟨c1, c2, c3, c4⟩ := hcut
    have hb2 := c2.cell
    have hct := c1.htop
    have hblt := lt_of_heap c1.2
    have HC := Lib.hid (And.intro c1 (And.intro c2 (And.intro c3 c4)))
    clear c1 c2 c3 c4 hcs hf0 hf1 hh
    go_wp2_with (go_at_call 18; refine (fresh_any _ _ _).mono ?_; rintro e w' ⟨rfl, rfl⟩)
    have hbx1 : Boxed ((wc.alloc (.cells #[.int .u64 (s.first n).top] 25)).alloc (.cells #[.int .u64 n] 25)) wc.heap.size 25 (.int .u64 (s.first n).top) := (Boxed.new wc 25 _).alloc _
    have hbx2 : Boxed ((wc.alloc (.cells #[.int .u64 (s.first n).top] 25)).alloc (.cells #[.int .u64 n] 25)) (wc.heap.size + 1) 25 (.int .u64 n) := by
      have := Boxed.new (wc.alloc (.cells #[.int .u64 (s.first n).top] 25)) 25 (.int .u64 n); rwa [World.size_alloc] at this
    have hch : Chg noB wc ((wc.alloc (.cells #[.int .u64 (s.first n).top] 25)).alloc (.cells #[.int .u64 n] 25)) := (Chg.alloc noB _ _).trans (Chg.alloc _ _ _)
    have hsz : ((wc.alloc (.cells #[.int .u64 (s.first n).top] 25)).alloc (.cells #[.int .u64 n] 25)).heap.size = wc.heap.size + 2 := by simp
    generalize (wc.alloc (.cells #[.int .u64 (s.first n).top] 25)).alloc (.cells #[.int .u64 n] 25) = w0 at *
    obtain ⟨c1, c2, c3, c4⟩ := HC.out
    have t0 := c1.1.top0
    have t1 := c1.1.top1
    refine wp_range (fresh1_iter w0 (wc.heap.size + 1) wc.heap.size (s.first n).top n t0 t1 h0 h1 hbx2 hbx1) (oneB b) (noteJ w b (s.first n) n)
      (fun _ _ _ _ => False) rfl (enters Try.func21 (by kernel_rfl) rfl) ?hps (Chg.refl _ _) ?ho ?hT (noteJ_stable w b _ n _ (by omega)) (fun _ _ _ _ _ h _ => h) ?h0 (RndOk.enc (noteJ_stable w b _ n _ (by omega)) ?a1 ?assign ?body) ?done (fun _ _ _ _ _ _ _ _ _ h => h.elim)
    case hps => intro x hx; obtain ⟨y, _, rfl⟩ := List.mem_map.1 hx; rfl
    case ho => rintro k (rfl | rfl) <;> omega
    case hT => rintro k rfl; exact ⟨by omega, fun h => by rcases h with h | h <;> omega⟩
    case h0 => exact ⟨c1.chg hch (fun h => h), hch.boxed c2 (fun h => h), fun k => Iff.rfl, c3.trans (hch.mono (fun _ _ h => h.elim))⟩
    case assign =>
      intro l y W K hK
      unfold enc64
      gi_wp2
      exact hK
    case body =>
      rintro l i y T W hy ⟨d1, d2, d3, d4⟩ hB hTl hr hTs
      have hb3 := d2.cell
      have hy0 := freshI_range t0 h0 h1 hy
      obtain ⟨y0, y1⟩ := hy0
      have hi : (y % 1024 / 64).toNat < 16 := by omega
      have hcm := d1.hcame _ hi
      have hcf := d1.frozen (2 + (y % 1024 / 64).toNat)
      have HD := Lib.hid (And.intro d1 (And.intro d2 (And.intro d3 d4)))
      have HY := Lib.hid hy
      have HT := Lib.hid (And.intro hTl hTs)
      clear d1 d2 d3 d4 hy hTl hTs hr
      gi_wp2_with (gi_at_call 19; refine (callsIn_fw (at_any y _ y0 y1)).mono ?_; rintro e w' ⟨rfl, rfl⟩)
      have hy2 : 0 ≤ y % 1024 / 64 := by omega
      have hy3 : y % 1024 / 64 < 16 := by omega
      have hy4 : 0 ≤ y % 64 := by omega
      have hy5 : y % 64 < 64 := by omega
      refine wpIn_region_still_tail 12 (fun _ _ h => h) (by kernel_rfl) (by kernel_rfl) ?_
      simp only [List.take_succ_cons, List.take_zero, List.drop_succ_cons, List.drop_zero]
      repeat still_step
      try refine wpStill_nil ?_
      change wpList _ _ _ _ _ w'.drew
      go_wp2
      obtain ⟨d1, d2, d3, d4⟩ := HD.out
      obtain ⟨b0, b1⟩ := bits_u64 .andNot ((List.foldl Win.clear (s.first n) (List.take i (freshI (s.first n).top n))).came.getD (y % 1024 / 64).toNat 0) (IntKind.u64.wrap (2 ^ (y % 64).toNat))
      have k1 := d1.setCame (y % 1024 / 64).toNat _ b0 b1
      refine ⟨T, ⟨?_, ?_, d3, ?_⟩, ?_, Adds.refl _ _ _⟩
      · rw [← take_snoc _ _ _ HY.out, List.foldl_append]
        exact k1.chg (Chg.drew noB _) (fun h => h)
      · exact (Chg.drew noB _).boxed ((Chg.setCell (S := oneB b) w' ⟨b, _, none⟩ _ (fun _ => rfl)).boxed d2 (fun h => by cases h; omega)) (fun h => h)
      · exact (d4.trans (Chg.setCell (S := oneB b) w' ⟨b, _, none⟩ _ (fun _ => rfl))).trans (Chg.drew _ _)
      · exact (Chg.setCell w' ⟨b, _, none⟩ _ (fun _ => .inl ((d3 _).2 rfl))).trans (Chg.drew _ _)
    case done =>
      rintro D T W hD hk hTD ⟨d1, d2, d3, d4⟩
      rw [freshL, List.length_map, List.take_of_length_le (Nat.le_refl _)] at d1
      change WinAt W b ((s.first n).fresh n) at d1
      obtain ⟨s2, hs2⟩ : ∃ s2, (s.first n).fresh n = s2 := ⟨_, rfl⟩
      rw [hs2] at d1
      have hb3 := d2.cell
      have hct3 := d1.htop
      have hcf3 := d1.frozen 1
      have e0 := d1.1.top0
      have e1 := d1.1.top1
      have hi : (n % 1024 / 64).toNat < 16 := by omega
      have hcm := d1.hcame _ hi
      have hcf := d1.frozen (2 + (n % 1024 / 64).toNat)
      have hn2 : 0 ≤ n % 1024 / 64 := by omega
      have hn3 : n % 1024 / 64 < 16 := by omega
      have hn4 : 0 ≤ n % 64 := by omega
      have hn5 : n % 64 < 64 := by omega
      have HD := Lib.hid (And.intro d1 (And.intro d2 (And.intro d3 (And.intro d4 (And.intro hk hTD)))))
      have HS2 := Lib.hid hs2
      clear d1 d2 d3 d4 hk hTD hs2 hb2 hct
      go_wp2
      go_still_tail 9, (by kernel_rfl)
      all_goals
        change wpList _ _ _ _ _ W.drew
        go_wp2_with (go_at_call 19; refine (at_any n _ h0 h1).mono ?_; rintro e w' ⟨rfl, hw'⟩; obtain rfl := hw'.symm)
      · have hmax : max s2.top n = n := by omega
        have HM := Lib.hid hmax
        obtain ⟨d1, d2, d3, d4, hk, hTD⟩ := HD.out
        have k1 := (d1.setTop (max s2.top n) (by omega) (by omega)).chg (Chg.drew noB _) (fun h => h)
        rw [hmax] at k1
        have k2 := (Chg.drew noB _).boxed ((Chg.setCell (S := oneB b) W ⟨b, 1, none⟩ (.int .u64 n) (fun _ => rfl)).boxed d2 (fun h => by cases h; omega)) (fun h => h)
        have k3 := (d4.trans (Chg.setCell (S := oneB b) W ⟨b, 1, none⟩ (.int .u64 n) (fun _ => rfl))).trans (Chg.drew _ _)
        have hDb : D ≠ b := fun e => hTD ((d3 D).2 e)
        have k4 := (Chg.drew noB _).heap ((Chg.setCell (S := oneB b) W ⟨b, 1, none⟩ (.int .u64 n) (fun _ => rfl)).heap hk hDb) (fun h => h)
        generalize (W.setCell ⟨b, 1, none⟩ (.int .u64 n)).drew = W2 at *
        have hb4 := k2.cell
        have hcm := k1.hcame _ hi
        have hcf := k1.frozen (2 + (n % 1024 / 64).toNat)
        have HE := Lib.hid (And.intro k1 (And.intro k2 (And.intro k3 (And.intro k4 (And.intro hDb HS2)))))
        clear d1 d2 d3 d4 hk hTD k1 k2 k3 k4 hDb HS2 hmax
        go_still_tail 12, (by kernel_rfl)
        change wpList _ _ _ _ _ W2.drew
        go_wp2
        obtain ⟨k1, k2, k3, k4, hDb, HS2⟩ := HE.out
        obtain ⟨b0, b1⟩ := bits_u64 .or (s2.came.getD (n % 1024 / 64).toNat 0) (IntKind.u64.wrap (2 ^ (n % 64).toNat))
        have l1 := (k1.setCame (n % 1024 / 64).toNat _ b0 b1).chg (Chg.drew noB _) (fun h => h)
        have l3 := (k3.trans (Chg.setCell (S := oneB b) W2 ⟨b, 2 + (n % 1024 / 64).toNat, none⟩ (.int .u64 (bits .or .u64 (s2.came.getD (n % 1024 / 64).toNat 0) (IntKind.u64.wrap (2 ^ (n % 64).toNat)))) (fun _ => rfl))).trans (Chg.drew _ _)
        have l4 := (Chg.drew noB _).heap ((Chg.setCell (S := oneB b) W2 ⟨b, 2 + (n % 1024 / 64).toNat, none⟩ (.int .u64 (bits .or .u64 (s2.came.getD (n % 1024 / 64).toNat 0) (IntKind.u64.wrap (2 ^ (n % 64).toNat)))) (fun _ => rfl)).heap k4 hDb) (fun h => h)
        refine leave_mark l4 (leave_none (results_tmp rfl _ _ _) ⟨rfl, ?_, ?_⟩)
        · have e : s.note n = Win.mark ({ s2 with top := n }) n := by unfold Win.note; rw [HS2.out]; unfold Win.rise; rw [HM.out]
          rw [e]
          exact l1.chg (Chg.putObj (S := oneB D) _ _ _ (fun _ => rfl)) (fun h => hDb h.symm)
        · exact l3.trans' (Chg.putObj (S := oneB D) _ _ _ (fun _ => rfl)) (fun _ _ h => h) (fun k hk h => by cases h; omega)
      · have hmax : max s2.top n = s2.top := by omega
        have HM := Lib.hid hmax
        obtain ⟨d1, d2, d3, d4, hk, hTD⟩ := HD.out
        have k1 := (d1.setTop (max s2.top n) (by omega) (by omega)).chg (Chg.drew noB _) (fun h => h)
        rw [hmax] at k1
        have k2 := (Chg.drew noB _).boxed ((Chg.setCell (S := oneB b) W ⟨b, 1, none⟩ (.int .u64 s2.top) (fun _ => rfl)).boxed d2 (fun h => by cases h; omega)) (fun h => h)
        have k3 := (d4.trans (Chg.setCell (S := oneB b) W ⟨b, 1, none⟩ (.int .u64 s2.top) (fun _ => rfl))).trans (Chg.drew _ _)
        have hDb : D ≠ b := fun e => hTD ((d3 D).2 e)
        have k4 := (Chg.drew noB _).heap ((Chg.setCell (S := oneB b) W ⟨b, 1, none⟩ (.int .u64 s2.top) (fun _ => rfl)).heap hk hDb) (fun h => h)
        generalize (W.setCell ⟨b, 1, none⟩ (.int .u64 s2.top)).drew = W2 at *
        have hb4 := k2.cell
        have hcm := k1.hcame _ hi
        have hcf := k1.frozen (2 + (n % 1024 / 64).toNat)
        have HE := Lib.hid (And.intro k1 (And.intro k2 (And.intro k3 (And.intro k4 (And.intro hDb HS2)))))
        clear d1 d2 d3 d4 hk hTD k1 k2 k3 k4 hDb HS2 hmax
        go_still_tail 12, (by kernel_rfl)
        change wpList _ _ _ _ _ W2.drew
        go_wp2
        obtain ⟨k1, k2, k3, k4, hDb, HS2⟩ := HE.out
        obtain ⟨b0, b1⟩ := bits_u64 .or (s2.came.getD (n % 1024 / 64).toNat 0) (IntKind.u64.wrap (2 ^ (n % 64).toNat))
        have l1 := (k1.setCame (n % 1024 / 64).toNat _ b0 b1).chg (Chg.drew noB _) (fun h => h)
        have l3 := (k3.trans (Chg.setCell (S := oneB b) W2 ⟨b, 2 + (n % 1024 / 64).toNat, none⟩ (.int .u64 (bits .or .u64 (s2.came.getD (n % 1024 / 64).toNat 0) (IntKind.u64.wrap (2 ^ (n % 64).toNat)))) (fun _ => rfl))).trans (Chg.drew _ _)
        have l4 := (Chg.drew noB _).heap ((Chg.setCell (S := oneB b) W2 ⟨b, 2 + (n % 1024 / 64).toNat, none⟩ (.int .u64 (bits .or .u64 (s2.came.getD (n % 1024 / 64).toNat 0) (IntKind.u64.wrap (2 ^ (n % 64).toNat)))) (fun _ => rfl)).heap k4 hDb) (fun h => h)
        refine leave_mark l4 (leave_none (results_tmp rfl _ _ _) ⟨rfl, ?_, ?_⟩)
        · have e : s.note n = Win.mark ({ s2 with top := s2.top }) n := by unfold Win.note; rw [HS2.out]; unfold Win.rise; rw [HM.out]
          rw [e]
          exact l1.chg (Chg.putObj (S := oneB D) _ _ _ (fun _ => rfl)) (fun h => hDb h.symm)
        · exact l3.trans' (Chg.putObj (S := oneB D) _ _ _ (fun _ => rfl)) (fun _ _ h => h) (fun k hk h => by cases h; omega)
end Go.Proofs.Ytoodepbkfgjgaaa
