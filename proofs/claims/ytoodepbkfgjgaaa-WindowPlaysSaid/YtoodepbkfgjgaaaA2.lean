/- The window's state; See and has: their walks. -/
import Derived.Test.YtoodepbkfgjgaaaA1
import Derived.Test.YtoodepbkfgjgaaaLibA
namespace Go.Proofs.Ytoodepbkfgjgaaa
open Go Go.RowKit

structure Win where
  some : Bool
  top : Int
  came : List Int

def Win.cells (s : Win) : List Value := .bool s.some :: .int .u64 s.top :: s.came.map (Value.int .u64)

structure Win.wf (s : Win) : Prop where
  top0 : 0 ≤ s.top
  top1 : s.top < 18446744073709551616
  len : s.came.length = 16
  c0 : ∀ i, 0 ≤ s.came.getD i 0 ∧ s.came.getD i 0 < 18446744073709551616

def Win.has (s : Win) (n : Int) : Bool := bits BinOp.and IntKind.u64 (s.came.getD ((n % 1024 / 64).toNat) 0 / 2 ^ (n % 64).toNat) 1 == 1

def WinAt (w : World) (b : Nat) (s : Win) : Prop := s.wf ∧ w.heap[b]? = some (.cells s.cells.toArray 28 (0, 0))

theorem WinAt.hsome {w : World} {b : Nat} {s : Win} (h : WinAt w b s) : w.cell? ⟨b, 0, none⟩ = some (.bool s.some) := by
  obtain ⟨_, h⟩ := h; simp [World.cell?, h, Win.cells]
theorem WinAt.htop {w : World} {b : Nat} {s : Win} (h : WinAt w b s) : w.cell? ⟨b, 1, none⟩ = some (.int .u64 s.top) := by
  obtain ⟨_, h⟩ := h; simp [World.cell?, h, Win.cells]
theorem WinAt.hcame {w : World} {b : Nat} {s : Win} (h : WinAt w b s) (i : Nat) (hi : i < 16) : w.cell? ⟨b, 2 + i, none⟩ = some (.int .u64 (s.came.getD i 0)) := by
  obtain ⟨hw, h⟩ := h
  have := hw.len
  have e : 2 + i = i + 1 + 1 := by omega
  simp [World.cell?, h, Win.cells, e, List.getElem?_eq_getElem (show i < s.came.length by omega)]

theorem has_any (b : Nat) (s : Win) (n : Int) (w : World) (h0 : 0 ≤ n) (h1 : n < 18446744073709551616) (hs : WinAt w b s) :
    Calls Try.prog 17 #[.pointer (some ⟨b, 0, none⟩), .int .u64 n] w fun e w' => e = .returned (.bool (s.has n)) ∧ w' = w := by
  have hi : (n % 1024 / 64).toNat < 16 := by omega
  have hc1 := hs.hcame _ hi
  clear hs
  go_enter Try.func17, Try.ntmps17
  go_wp2_with (go_at_call 19; refine (at_any _ _ h0 h1).mono ?_; rintro e w' ⟨rfl, rfl⟩)
  go_ret
  exact ⟨by simp [Win.has], rfl⟩

def Win.see (s : Win) (n : Int) : Int := if s.some = false ∨ s.top < n then 0 else if 1024 ≤ s.top - n then 161 else if s.has n then 160 else 0

theorem see_nil (n : Int) (w : World) :
    Calls Try.prog 6 #[.pointer none, .int .u64 n] w fun e w' => e = .returned (.int .i64 1) ∧ w' = w := by
  go_enter Try.func6, Try.ntmps6
  go_wp2
  go_ret
  exact ⟨rfl, rfl⟩

theorem see_any (b : Nat) (s : Win) (n : Int) (w : World) (h0 : 0 ≤ n) (h1 : n < 18446744073709551616) (hs : WinAt w b s) :
    Calls Try.prog 6 #[.pointer (some ⟨b, 0, none⟩), .int .u64 n] w fun e w' => e = .returned (.int .i64 (s.see n)) ∧ w' = w := by
  have hcs := hs.hsome
  have hct := hs.htop
  have ht0 := hs.1.top0
  have ht1 := hs.1.top1
  have hh := fun w' (e : w' = w) => has_any b s n w' h0 h1 (e ▸ hs)
  clear hs
  go_enter Try.func6, Try.ntmps6
  go_wp2_with (go_at_call 17; refine (hh _ rfl).mono ?_; rintro e w' ⟨rfl, rfl⟩)
  · go_ret; exact ⟨ret_int (by unfold Win.see; rw [if_pos (by omega)]), rfl⟩
  · go_ret; exact ⟨ret_int (by unfold Win.see; rw [if_neg (by simp_all), if_pos (by omega)]), rfl⟩
  · go_ret; exact ⟨ret_int (by unfold Win.see; rw [if_neg (by simp_all), if_neg (by omega), if_pos (by assumption)]), rfl⟩
  · go_ret; exact ⟨ret_int (by unfold Win.see; rw [if_neg (by simp_all), if_neg (by omega), if_neg (by simp_all)]), rfl⟩
  · go_ret; exact ⟨ret_int (by unfold Win.see; rw [if_pos (by simp_all)]), rfl⟩
end Go.Proofs.Ytoodepbkfgjgaaa
