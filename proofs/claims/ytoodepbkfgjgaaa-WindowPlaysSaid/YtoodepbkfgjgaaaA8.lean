/- Notes, one behind the other: their walk. -/
import Derived.Test.YtoodepbkfgjgaaaA7
namespace Go.Proofs.Ytoodepbkfgjgaaa
open Go Go.RowKit
attribute [local go_sem] Oper.semAt_some

def Win.step (s : Win) (n : Int) : Win := if s.see n = 0 then s.note n else s
def runStep (p : List Int × Win) (n : Int) : List Int × Win := (p.1 ++ [p.2.see n], p.2.step n)
def Win.run (s : Win) (xs : List Int) : List Int × Win := xs.foldl runStep ([], s)

theorem run_take_succ (s : Win) (xs : List Int) (k : Nat) (x : Int) (h : xs[k]? = some x) :
    (s.run (xs.take (k + 1))).1 = (s.run (xs.take k)).1 ++ [(s.run (xs.take k)).2.see x] ∧ (s.run (xs.take (k + 1))).2 = (s.run (xs.take k)).2.step x := by
  unfold Win.run
  rw [foldl_take_succ runStep _ xs k x h]
  exact ⟨rfl, rfl⟩

theorem note_any (b : Nat) (s : Win) (n : Int) (w : World) (h0 : 0 ≤ n) (h1 : n < 18446744073709551616) (hs : WinAt w b s) :
    Calls Try.prog 9 #[.pointer (some ⟨b, 0, none⟩), .int .u64 n] w fun e w' => e = .returned (.int .i64 (s.see n)) ∧ WinAt w' b (s.step n) ∧ Chg (oneB b) w w' := by
  by_cases h : s.see n = 0
  · refine (note_yes b s n w h0 h1 hs h).mono ?_
    rintro e w' ⟨rfl, h2, h3⟩
    exact ⟨by rw [h], by unfold Win.step; rw [if_pos h]; exact h2, h3⟩
  · refine (note_no b s n w h0 h1 hs h).mono ?_
    rintro e w' ⟨rfl, h2⟩
    exact ⟨rfl, by unfold Win.step; rw [if_neg h]; exact hs.chg h2 (fun h => h), h2.mono (fun _ _ h => h.elim)⟩

set_option maxRecDepth 100000 in
set_option maxHeartbeats 400000 in
theorem notes_any (b : Nat) (s : Win) (v : Value) (xs : List Int) (w : World) (hs : WinAt w b s) (hr : Rd w 1 v xs.length (ints .u64 xs)) (hn : Nums xs) (hne : ∀ k, blk v k → k ≠ b) (hsm : xs.length * 8 ≤ 140737488355328) :
    Calls Try.prog 8 #[.pointer (some ⟨b, 0, none⟩), v] w fun e w' => ∃ ao cap, e = .returned (.slice ao xs.length cap) ∧
      Sown w' 30 1 (.slice ao xs.length cap) xs.length (ints .i64 (s.run xs).1) ∧ WinAt w' b (s.run xs).2 ∧ Chg (oneB b) w w' ∧ (∀ k, blk (.slice ao xs.length cap) k → w.heap.size ≤ k) := by
  obtain ⟨ao, c, rfl, hl, hm⟩ := hr.form
  have hlt := lt_of_heap hs.2
  clear hl hm
  have R := Lib.hid hr
  have HS := Lib.hid hs
  have HN := Lib.hid hn
  have HE := Lib.hid hne
  clear hr hs hn hne
  go_enter Try.func8, Try.ntmps8
  go_wp2
  go_loopw [5, 10] (fun t i wr => ∃ (k : Nat) (a' : Option Addr) (c' : Nat), k ≤ xs.length ∧ i = .int .i64 k ∧ t = .slice a' k c' ∧ Sown wr 30 1 (.slice a' k c') k (ints .i64 (s.run (xs.take k)).1) ∧ WinAt wr b (s.run (xs.take k)).2 ∧ Chg (oneB b) w wr ∧ (∀ j, blk (.slice a' k c') j → w.heap.size ≤ j)) (fun _ i _ => xs.length - (intOf i).toNat)
  case atStart => exact ⟨0, none, 0, Nat.zero_le _, rfl, rfl, Sown.nil _ _ _, HS.out, Chg.refl _ _, fun j hj => hj.elim⟩
  case round =>
    obtain ⟨k, a', c', hk, rfl, rfl, r1, r2, r3, r4⟩ := hrel
    have HR := Lib.hid (And.intro r1 (And.intro r2 (And.intro r3 r4)))
    clear r1 r2 r3 r4
    by_cases hlt2 : k < xs.length
    · obtain ⟨p, o, x, rfl, _, hx, q⟩ := (R.out.chg HR.out.2.2.1 (fun j hj => HE.out j hj)).at k hlt2
      have hx0 := HN.out k x hx
      obtain ⟨x0, x1⟩ := hx0
      have HX := Lib.hid hx
      clear hx
      go_wp2_with (first
        | (go_at_call 9; refine (note_any b _ x _ x0 x1 HR.out.2.1).mono ?_; rintro e w1 ⟨rfl, g1, g2⟩; have HG := Lib.hid (And.intro g1 g2); clear g1 g2)
        | (at_builtin; go_must (refine wpList_app _ sl32 rfl rfl rfl rfl ((HR.out.1.chg HG.out.2 (fun j hj h => by have := HR.out.2.2.2 j hj; cases h; omega)).chg (Chg.alloc noB _ _) (fun _ _ h => h)) (m := 1) (Sown.new _ 30 1 _ 1 (by simp [maxLen]) rfl).rd (by simp [Value.oneCell']) (by unfold maxLen; omega) (by omega) ?_); intro a2 c2 w2 f1 f2 f3 _; have HF := Lib.hid (And.intro f1 (And.intro f2 f3)); clear f1 f2 f3))
      obtain ⟨r1, r2, r3, r4⟩ := HR.out
      obtain ⟨g1, g2⟩ := HG.out
      obtain ⟨f1, f2, f3⟩ := HF.out
      have hbs := r3.size
      have hbs2 := g2.size
      obtain ⟨t1, t2⟩ := run_take_succ s xs k x HX.out
      go_roundw
      case rel =>
        refine ⟨k + 1, a2, c2, by omega, by go_num, rfl, ?_, ?_, ?_, ?_⟩
        · rw [t1, ← ints_snoc]; exact f1
        · rw [t2]; exact (g1.chg (Chg.alloc noB _ _) (fun h => h)).chg f2 (fun h => by have := r4 b h; omega)
        · exact ((r3.trans g2).trans (Chg.alloc _ _ _)).trans' f2 (fun _ _ h => h) (fun j hj h => by have := r4 j h; omega)
        · intro j hj
          rcases f3 j hj with h | h
          · exact r4 j h
          · simp at h; omega
      case measure => simp [intOf]; omega
    · go_wp2
      go_ret
      obtain rfl : k = xs.length := by omega
      obtain ⟨r1, r2, r3, r4⟩ := HR.out
      rw [List.take_of_length_le (Nat.le_refl _)] at r1 r2
      exact ⟨_, _, rfl, r1, r2, r3, r4⟩
end Go.Proofs.Ytoodepbkfgjgaaa
