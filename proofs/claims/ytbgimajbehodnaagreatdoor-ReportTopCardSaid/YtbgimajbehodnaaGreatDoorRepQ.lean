/- The longest ones: plain laws. -/
import Derived.Test.YtbgimajbehodnaaGreatDoorRepP
namespace Go.Proofs.YtbgimajbehodnaaGreatDoor
open Go Go.RowKit
section
variable {α : Type} (key : α → Int)
/-- Longer ones first. -/
def Desc (l : List α) : Prop := l.Pairwise fun a b => key b ≤ key a
/-- x, put behind all that are not less. -/
def insD (x : α) : List α → List α
  | [] => [x]
  | y :: l => if key x ≤ key y then y :: insD x l else x :: y :: l
theorem insD_len (x : α) : ∀ l : List α, (insD key x l).length = l.length + 1
  | [] => rfl
  | y :: l => by
    unfold insD
    split
    · rw [List.length_cons, insD_len x l, List.length_cons]
    · rfl
theorem insD_perm (x : α) : ∀ l : List α, (insD key x l).Perm (x :: l)
  | [] => List.Perm.refl _
  | y :: l => by
    unfold insD
    split
    · exact ((insD_perm x l).cons y).trans (List.Perm.swap x y l)
    · exact List.Perm.refl _
theorem insD_desc (x : α) : ∀ {l : List α}, Desc key l → Desc key (insD key x l)
  | [], _ => List.pairwise_singleton _ _
  | y :: l, h => by
    unfold Desc at h
    rw [List.pairwise_cons] at h
    unfold insD Desc
    split
    · rename_i hxy
      rw [List.pairwise_cons]
      refine ⟨fun z hz => ?_, insD_desc x h.2⟩
      rcases List.mem_cons.1 ((insD_perm key x l).mem_iff.1 hz) with rfl | hz
      · exact hxy
      · exact h.1 z hz
    · rename_i hxy
      rw [List.pairwise_cons]
      refine ⟨fun z hz => ?_, List.pairwise_cons.2 h⟩
      rcases List.mem_cons.1 hz with rfl | hz
      · omega
      · have := h.1 z hz; omega
/-- What is found from the end on. -/
theorem insD_at (x : α) : ∀ {l : List α} {n : Nat}, n ≤ l.length → (∀ y ∈ l.take n, key x ≤ key y) → (∀ y ∈ l.drop n, key y < key x) → insD key x l = l.take n ++ [x] ++ l.drop n
  | [], n, _, _, _ => by simp [insD]
  | y :: l, 0, _, _, h2 => by
    have := h2 y (by simp)
    unfold insD
    rw [if_neg (by omega)]
    rfl
  | y :: l, n + 1, hn, h1, h2 => by
    have hy := h1 y (by simp)
    unfold insD
    rw [if_pos hy, insD_at x (l := l) (n := n) (by simpa using hn) (fun z hz => h1 z (by rw [List.take_succ_cons]; exact List.mem_cons_of_mem _ hz)) (fun z hz => h2 z (by rw [List.drop_succ_cons]; exact hz))]
    rfl
theorem insD_take (x : α) : ∀ (l : List α) (n : Nat), (insD key x (l.take n)).take n = (insD key x l).take n
  | _, 0 => by simp
  | [], _ + 1 => by simp
  | y :: l, n + 1 => by
    rw [List.take_succ_cons]
    unfold insD
    split
    · rw [List.take_succ_cons, List.take_succ_cons, insD_take x l n]
    · rw [List.take_succ_cons, List.take_succ_cons]
      congr 1
      cases n with
      | zero => rfl
      | succ k => rw [List.take_succ_cons, List.take_succ_cons, List.take_take, Nat.min_eq_left (by omega)]
/-- All of them, the longest first; of like ones the earlier one first. -/
def srt (l : List α) : List α := l.foldl (fun o x => insD key x o) []
theorem srt_snoc (l : List α) (x : α) : srt key (l ++ [x]) = insD key x (srt key l) := by simp [srt]
theorem snoc_ind' {p : List α → Prop} (h0 : p []) (hs : ∀ xs x, p xs → p (xs ++ [x])) (xs : List α) : p xs := by
  have key : ∀ ys : List α, p ys.reverse := by
    intro ys
    induction ys with
    | nil => exact h0
    | cons y ys ih => rw [List.reverse_cons]; exact hs _ _ ih
  have := key xs.reverse
  rwa [List.reverse_reverse] at this
theorem srt_desc (l : List α) : Desc key (srt key l) := by
  refine snoc_ind' (p := fun l => Desc key (srt key l)) List.Pairwise.nil (fun xs x h => ?_) l
  rw [srt_snoc]
  exact insD_desc key x h
theorem srt_perm (l : List α) : (srt key l).Perm l := by
  refine snoc_ind' (p := fun l => (srt key l).Perm l) (List.Perm.refl _) (fun xs x h => ?_) l
  rw [srt_snoc]
  exact (insD_perm key x _).trans ((h.cons x).trans (List.perm_append_singleton x xs).symm)
theorem srt_len (l : List α) : (srt key l).length = l.length := (srt_perm key l).length_eq
/-- The first n of them, one behind the other. -/
def topS (n : Nat) (l : List α) : List α := l.foldl (fun o x => (insD key x o).take n) []
theorem topS_snoc (n : Nat) (l : List α) (x : α) : topS key n (l ++ [x]) = (insD key x (topS key n l)).take n := by simp [topS]
theorem topS_eq (n : Nat) (l : List α) : topS key n l = (srt key l).take n := by
  refine snoc_ind' (p := fun l => topS key n l = (srt key l).take n) (by simp [topS, srt]) (fun xs x h => ?_) l
  rw [topS_snoc, srt_snoc, h, insD_take]
theorem topS_len (n : Nat) (l : List α) : (topS key n l).length = min n l.length := by rw [topS_eq, List.length_take, srt_len]
theorem topS_desc (n : Nat) (l : List α) : Desc key (topS key n l) := by rw [topS_eq]; exact List.Pairwise.sublist (List.take_sublist _ _) (srt_desc key l)
end
end Go.Proofs.YtbgimajbehodnaaGreatDoor
