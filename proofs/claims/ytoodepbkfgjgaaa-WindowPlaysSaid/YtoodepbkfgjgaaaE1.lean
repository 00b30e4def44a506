/- slices.Equal at the two kinds of numbers. -/
import Derived.Test.YtoodepbkfgjgaaaLibD
import Derived.Test.YtoodepbkfgjgaaaProg
namespace Go.Proofs.Ytoodepbkfgjgaaa
open Go Go.RowKit

set_option maxRecDepth 100000 in
set_option maxHeartbeats 400000 in
theorem eq22 (v1 v2 : Value) (xs ys : List Int) (w : World) (h1 : Rd w 1 v1 xs.length (ints .u64 xs)) (h2 : Rd w 1 v2 ys.length (ints .u64 ys)) :
    Calls Try.prog 12 #[v1, v2] w fun e w' => e = .returned (.bool (decide (xs = ys))) ∧ Chg noB w w' := by
  obtain ⟨a1, c1, rfl, hl1, hm1⟩ := h1.form
  obtain ⟨a2, c2, rfl, hl2, hm2⟩ := h2.form
  unfold maxLen at hm1 hm2
  have b1 : xs.length ≤ 9223372036854775807 := by omega
  have b2 : ys.length ≤ 9223372036854775807 := by omega
  clear hl1 hl2 hm1 hm2
  by_cases hlen : xs.length = ys.length
  · have R1 := Lib.hid h1
    have R2 := Lib.hid h2
    have HL := Lib.hid hlen
    have hb : (((xs.length : Int) != (ys.length : Int)) = false) := by simp [hlen]
    clear h1 h2 hlen
    go_enter Try.func12, Try.ntmps12
    go_wp2
    go_loopw [5, 13] (fun _ i wr => ∃ k : Nat, k ≤ xs.length ∧ i = .int .i64 k ∧ (∀ j, j < k → xs.getD j 0 = ys.getD j 0) ∧ Chg noB w wr) (fun _ i _ => xs.length - (intOf i).toNat)
    case atStart => exact ⟨0, Nat.zero_le _, rfl, fun j hj => by omega, Chg.refl _ _⟩
    case round =>
      obtain ⟨k, hk, rfl, hp, hc⟩ := hrel
      have HP := Lib.hid hp
      have HC := Lib.hid hc
      clear hp hc
      by_cases hlt : k < xs.length
      · have hlt2 : (k : Int) < (ys.length : Int) := by have := HL.out; omega
        obtain ⟨p1, o1, x, rfl, hx, _, q1⟩ := (R1.out.chg HC.out (fun _ _ h => h)).at k hlt
        obtain ⟨p2, o2, y, rfl, hy, _, q2⟩ := (R2.out.chg HC.out (fun _ _ h => h)).at k (by omega)
        have HX := Lib.hid hx
        have HY := Lib.hid hy
        clear hx hy
        go_wp2
        go_quiet (fail)
        go_wp2
        · rename_i hne
          go_ret
          have hne' : x ≠ y := by simpa using hne
          exact ⟨ret_bool (by simp [getD_ne HX.out HY.out hne']), HC.out.trans (Chg.drewN _ _ _)⟩
        · rename_i hne
          have he : x = y := by simpa using hne
          go_roundw
          case rel =>
            refine ⟨k + 1, by omega, by go_num, fun j hj => ?_, HC.out.trans (Chg.drewN _ _ _)⟩
            by_cases hjk : j = k
            · subst hjk; rw [HX.out, HY.out, he]
            · exact HP.out j (by omega)
          case measure => simp [intOf]; omega
      · go_wp2
        go_ret
        have hkl : k = xs.length := by omega
        exact ⟨ret_bool (by simp [list_eq_of HL.out (fun i hi => HP.out i (by omega))]), HC.out⟩
  · have hb : (((xs.length : Int) != (ys.length : Int)) = true) := by simp; omega
    have HL := Lib.hid hlen
    clear h1 h2 hlen
    go_enter Try.func12, Try.ntmps12
    go_wp2
    go_ret
    exact ⟨ret_bool (by have : xs ≠ ys := fun e => HL.out (by rw [e]); simp [this]), Chg.refl _ _⟩

set_option maxRecDepth 100000 in
set_option maxHeartbeats 400000 in
theorem eq32 (v1 v2 : Value) (xs ys : List Int) (w : World) (h1 : Rd w 1 v1 xs.length (ints .i64 xs)) (h2 : Rd w 1 v2 ys.length (ints .i64 ys)) :
    Calls Try.prog 16 #[v1, v2] w fun e w' => e = .returned (.bool (decide (xs = ys))) ∧ Chg noB w w' := by
  obtain ⟨a1, c1, rfl, hl1, hm1⟩ := h1.form
  obtain ⟨a2, c2, rfl, hl2, hm2⟩ := h2.form
  unfold maxLen at hm1 hm2
  have b1 : xs.length ≤ 9223372036854775807 := by omega
  have b2 : ys.length ≤ 9223372036854775807 := by omega
  clear hl1 hl2 hm1 hm2
  by_cases hlen : xs.length = ys.length
  · have R1 := Lib.hid h1
    have R2 := Lib.hid h2
    have HL := Lib.hid hlen
    have hb : (((xs.length : Int) != (ys.length : Int)) = false) := by simp [hlen]
    clear h1 h2 hlen
    go_enter Try.func16, Try.ntmps16
    go_wp2
    go_loopw [5, 13] (fun _ i wr => ∃ k : Nat, k ≤ xs.length ∧ i = .int .i64 k ∧ (∀ j, j < k → xs.getD j 0 = ys.getD j 0) ∧ Chg noB w wr) (fun _ i _ => xs.length - (intOf i).toNat)
    case atStart => exact ⟨0, Nat.zero_le _, rfl, fun j hj => by omega, Chg.refl _ _⟩
    case round =>
      obtain ⟨k, hk, rfl, hp, hc⟩ := hrel
      have HP := Lib.hid hp
      have HC := Lib.hid hc
      clear hp hc
      by_cases hlt : k < xs.length
      · have hlt2 : (k : Int) < (ys.length : Int) := by have := HL.out; omega
        obtain ⟨p1, o1, x, rfl, hx, _, q1⟩ := (R1.out.chg HC.out (fun _ _ h => h)).at k hlt
        obtain ⟨p2, o2, y, rfl, hy, _, q2⟩ := (R2.out.chg HC.out (fun _ _ h => h)).at k (by omega)
        have HX := Lib.hid hx
        have HY := Lib.hid hy
        clear hx hy
        go_wp2
        go_quiet (fail)
        go_wp2
        · rename_i hne
          go_ret
          have hne' : x ≠ y := by simpa using hne
          exact ⟨ret_bool (by simp [getD_ne HX.out HY.out hne']), HC.out.trans (Chg.drewN _ _ _)⟩
        · rename_i hne
          have he : x = y := by simpa using hne
          go_roundw
          case rel =>
            refine ⟨k + 1, by omega, by go_num, fun j hj => ?_, HC.out.trans (Chg.drewN _ _ _)⟩
            by_cases hjk : j = k
            · subst hjk; rw [HX.out, HY.out, he]
            · exact HP.out j (by omega)
          case measure => simp [intOf]; omega
      · go_wp2
        go_ret
        have hkl : k = xs.length := by omega
        exact ⟨ret_bool (by simp [list_eq_of HL.out (fun i hi => HP.out i (by omega))]), HC.out⟩
  · have hb : (((xs.length : Int) != (ys.length : Int)) = true) := by simp; omega
    have HL := Lib.hid hlen
    clear h1 h2 hlen
    go_enter Try.func16, Try.ntmps16
    go_wp2
    go_ret
    exact ⟨ret_bool (by have : xs ≠ ys := fun e => HL.out (by rw [e]); simp [this]), Chg.refl _ _⟩

end Go.Proofs.Ytoodepbkfgjgaaa
