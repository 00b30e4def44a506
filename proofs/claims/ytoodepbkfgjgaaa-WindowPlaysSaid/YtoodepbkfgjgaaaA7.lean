/- The plain answers of the replay window: their walks. -/
import Derived.Test.YtoodepbkfgjgaaaA6
import Derived.Test.YtoodepbkfgjgaaaE1
namespace Go.Proofs.Ytoodepbkfgjgaaa
open Go Go.RowKit
attribute [local go_sem] Oper.semAt_some

/-- Numbers of 64 bits. -/
def Nums (xs : List Int) : Prop := ∀ (i : Nat) (x : Int), xs[i]? = some x → 0 ≤ x ∧ x < 18446744073709551616

def up (a x : Int) : Int := if a < x then x else a
def refTop (xs : List Int) : Int := xs.foldl up 0

theorem refTop_range (xs : List Int) (h : Nums xs) : 0 ≤ refTop xs ∧ refTop xs < 18446744073709551616 := by
  have key : ∀ (l : List Int) (a : Int), (∀ x ∈ l, 0 ≤ x ∧ x < 18446744073709551616) → 0 ≤ a → a < 18446744073709551616 → 0 ≤ l.foldl up a ∧ l.foldl up a < 18446744073709551616 := by
    intro l
    induction l with
    | nil => intro a _ h0 h1; exact ⟨h0, h1⟩
    | cons x l ih =>
      intro a hl h0 h1
      have hx := hl x (by simp)
      refine ih (up a x) (fun y hy => hl y (by simp [hy])) ?_ ?_ <;> unfold up <;> split <;> omega
  exact key xs 0 (fun x hx => by obtain ⟨i, hi⟩ := List.mem_iff_getElem?.1 hx; exact h i x hi) (by omega) (by omega)

theorem foldl_take_succ {α β : Type} (f : β → α → β) (b : β) (l : List α) (i : Nat) (x : α) (h : l[i]? = some x) : (l.take (i + 1)).foldl f b = f ((l.take i).foldl f b) x := by
  rw [← take_snoc l i x h, List.foldl_append]; rfl

theorem Top_any (b : Nat) (s : Win) (w : World) (hs : WinAt w b s) :
    Calls Try.prog 10 #[.pointer (some ⟨b, 0, none⟩)] w fun e w' => e = .returned (.tuple #[.int .u64 s.top, .bool s.some]) ∧ ∃ m, w' = w.drewN m := by
  have hcs := hs.hsome
  have hct := hs.htop
  clear hs
  go_enter Try.func10, Try.ntmps10
  go_wp2
  go_quiet (fail)
  go_wp2
  go_ret2
  exact ⟨rfl, _, rfl⟩

theorem Top_nil (w : World) :
    Calls Try.prog 10 #[.pointer none] w fun e w' => e = .returned (.tuple #[.int .u64 0, .bool false]) ∧ w' = w := by
  go_enter Try.func10, Try.ntmps10
  go_wp2
  go_ret2
  exact ⟨rfl, rfl⟩

set_option maxRecDepth 100000 in
theorem refTop_any (v : Value) (xs : List Int) (w : World) (hr : Rd w 1 v xs.length (ints .u64 xs)) :
    Calls Try.prog 11 #[v] w fun e w' => e = .returned (.tuple #[.int .u64 (refTop xs), .bool (decide (0 < xs.length))]) ∧ w' = w := by
  obtain ⟨ao, c, rfl, hl, hm⟩ := hr.form
  unfold maxLen at hm
  have hb : xs.length ≤ 9223372036854775807 := by omega
  clear hl hm
  have R := Lib.hid hr
  clear hr
  go_enter Try.func11, Try.ntmps11
  go_wp2
  go_loop [4, 5] (fun t i => ∃ k : Nat, k ≤ xs.length ∧ i = .int .i64 k ∧ t = .int .u64 ((xs.take k).foldl up 0)) (fun _ i => xs.length - (intOf i).toNat)
  case atStart => exact ⟨0, Nat.zero_le _, rfl, rfl⟩
  case round =>
    obtain ⟨k, hk, rfl, rfl⟩ := hrel
    by_cases hlt : k < xs.length
    · obtain ⟨p, o, x, rfl, _, hx, q⟩ := R.out.at k hlt
      have HX := Lib.hid (foldl_take_succ up 0 xs k x hx)
      clear hx
      generalize (xs.take k).foldl up 0 = t at *
      go_wp2
      all_goals
        rename_i hc
        go_round
        case rel => exact ⟨k + 1, by omega, by go_num, int_eq (by rw [HX.out]; unfold up; split <;> omega)⟩
        case measure => simp [intOf]; omega
    · have hke : k = xs.length := by omega
      rw [hke, List.take_of_length_le (Nat.le_refl _)]
      clear hk hlt
      go_wp2
      go_ret2
      exact ⟨rfl, rfl⟩

def refSee (xs : List Int) (n : Int) : Int := if 0 < xs.length ∧ n < refTop xs ∧ 1023 < refTop xs - n then 161 else if n ∈ xs then 160 else 0

theorem not_in_take {xs : List Int} {n : Int} {k : Nat} {x : Int} (h : n ∉ xs.take k) (hx : xs[k]? = some x) (hne : x ≠ n) : n ∉ xs.take (k + 1) := by
  rw [← take_snoc xs k x hx, List.mem_append]
  rintro (h1 | h1)
  · exact h h1
  · simp at h1; exact hne h1.symm

set_option maxRecDepth 100000 in
set_option maxHeartbeats 400000 in
theorem refSee_any (v : Value) (xs : List Int) (n : Int) (w : World) (hr : Rd w 1 v xs.length (ints .u64 xs)) (hn : Nums xs) (h0 : 0 ≤ n) (h1 : n < 18446744073709551616) :
    Calls Try.prog 7 #[v, .int .u64 n] w fun e w' => e = .returned (.int .i64 (refSee xs n)) ∧ w' = w := by
  have ht := refTop_range xs hn
  obtain ⟨t0, t1⟩ := ht
  have hT := fun wq (e : wq = w) => refTop_any v xs wq (e ▸ hr)
  obtain ⟨ao, c, rfl, hl, hm⟩ := hr.form
  unfold maxLen at hm
  have hb : xs.length ≤ 9223372036854775807 := by omega
  clear hl hm hn
  have R := Lib.hid hr
  clear hr
  obtain ⟨T, hTT⟩ : ∃ T, refTop xs = T := ⟨_, rfl⟩
  rw [hTT] at hT t0 t1
  have HT := Lib.hid hTT
  clear hTT
  by_cases hc : 0 < xs.length ∧ n < T ∧ 1023 < T - n
  · obtain ⟨c1, c2, c3⟩ := hc
    have hd : decide (0 < xs.length) = true := by simpa using c1
    rw [hd] at hT
    go_enter Try.func7, Try.ntmps7
    go_wp2_with (go_at_call 11; refine (hT _ rfl).mono ?_; rintro e w' ⟨rfl, rfl⟩)
    go_ret
    exact ⟨ret_int (by unfold refSee; rw [HT.out, if_pos ⟨c1, c2, c3⟩]), rfl⟩
  · have HC := Lib.hid hc
    have hspl : decide (0 < xs.length) = false ∨ (decide (0 < xs.length) = true ∧ ¬ n < T) ∨ (decide (0 < xs.length) = true ∧ n < T ∧ T - n ≤ 1023) := by
      by_cases a : 0 < xs.length
      · by_cases b : n < T
        · exact .inr (.inr ⟨by simpa using a, b, by omega⟩)
        · exact .inr (.inl ⟨by simpa using a, b⟩)
      · exact .inl (by simpa using a)
    clear hc
    rcases hspl with hd | ⟨hd, hnt⟩ | ⟨hd, hnt, hle⟩
    all_goals
      rw [hd] at hT
      clear hd
      go_enter Try.func7, Try.ntmps7
      go_wp2_with (go_at_call 11; refine (hT _ rfl).mono ?_; rintro e w' ⟨rfl, hw'⟩; obtain rfl := hw'.symm)
      go_loop [7] (fun i => ∃ k : Nat, k ≤ xs.length ∧ i = .int .i64 k ∧ n ∉ xs.take k) (fun i => xs.length - (intOf i).toNat)
      case atStart => exact ⟨0, Nat.zero_le _, rfl, by simp⟩
      case round =>
        obtain ⟨k, hk, rfl, hni⟩ := hrel
        have HN := Lib.hid hni
        clear hni
        by_cases hlt : k < xs.length
        · obtain ⟨p, o, x, rfl, _, hx, q⟩ := R.out.at k hlt
          have HX := Lib.hid hx
          clear hx
          go_wp2
          · have he : (x == n) = true := by assumption
            go_ret
            have he' : x = n := by simpa using he
            exact ⟨ret_int (by unfold refSee; rw [HT.out, if_neg HC.out, if_pos (List.mem_of_getElem? (he' ▸ HX.out))]), rfl⟩
          · rename_i he
            have he' : x ≠ n := by simpa using he
            go_round
            case rel => exact ⟨k + 1, by omega, by go_num, not_in_take HN.out HX.out he'⟩
            case measure => simp [intOf]; omega
        · go_wp2
          go_ret
          have hke : k = xs.length := by omega
          have hni := HN.out
          rw [hke, List.take_of_length_le (Nat.le_refl _)] at hni
          exact ⟨ret_int (by unfold refSee; rw [HT.out, if_neg HC.out, if_neg hni]), rfl⟩
end Go.Proofs.Ytoodepbkfgjgaaa
