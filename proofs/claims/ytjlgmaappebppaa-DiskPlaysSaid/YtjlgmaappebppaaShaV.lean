/- Both sums are the reference's: plain laws. -/
import Derived.Test.YtjlgmaappebppaaShaU
import Derived.Test.YtjlgmaappebppaaShaH
namespace Go.Proofs.Ytjlgmaappebppaa
open Go Go.RowKit

theorem ln_eq {z n : Nat} (hn : n ≤ 100000) : ∀ i, lnF z n i = rlnF (2 * z) (8 * (n : Int)) i
  | 0 => rfl
  | i + 1 => by
    unfold lnF rlnF
    rw [ln_eq hn i]
    congr 1
    have e8 : (2 : Int) ^ (3 : Int).toNat = 8 := by decide
    have e : (2 : Int) ^ (8 * (i : Int)).toNat = 256 ^ i := by
      rw [show (8 * (i : Int)).toNat = 8 * i by omega, Int.pow_mul]
      rfl
    rw [e8, e, u64_in' ⟨by omega, by omega⟩, IntKind.wrap_u8, IntKind.wrap_u8, Int.emod_emod, Int.mul_comm]
theorem rln_zero {s : Nat} {N : Int} : ∀ i j, i + j < s → (rlnF s N i)[j]? = some 0
  | 0, j, h => by rw [show rlnF s N 0 = List.replicate s 0 from rfl, List.getElem?_replicate, if_pos (by omega)]
  | i + 1, j, h => by
    unfold rlnF
    rw [List.getElem?_set_ne (by omega)]
    exact rln_zero i j (by omega)
theorem rln_more {s : Nat} {N : Int} (hN : 0 ≤ N ∧ N < 256 ^ 8) : ∀ i, 8 + i ≤ s → rlnF s N (8 + i) = rlnF s N 8
  | 0, _ => rfl
  | i + 1, h => by
    have ih := rln_more (s := s) hN i (by omega)
    show (rlnF s N (8 + i)).set (s - 1 - (8 + i)) (IntKind.u8.wrap (N / 256 ^ (8 + i) % 256)) = _
    have hp : (256 : Int) ^ 8 ≤ 256 ^ (8 + i) := by
      have := Int.ofNat_le.2 (Nat.pow_le_pow_right (n := 256) (by decide) (by omega : 8 ≤ 8 + i))
      rw [Int.natCast_pow, Int.natCast_pow] at this
      exact this
    rw [Int.ediv_eq_zero_of_lt hN.1 (Int.lt_of_lt_of_le hN.2 hp), show IntKind.u8.wrap (0 % 256) = 0 by decide, ih]
    have h0 := rln_zero (N := N) (s := s) 8 (s - 1 - (8 + i)) (by omega)
    obtain ⟨h1, h2⟩ := List.getElem?_eq_some_iff.1 h0
    conv => lhs; rw [← h2]
    exact List.set_getElem_self _
theorem pad_eq {z : Nat} (hz : z = 4 ∨ z = 8) {msg : List Int} (hn : msg.length ≤ 100000) : padF z msg = rpadF z msg := by
  unfold padF rpadF
  rw [ln_eq hn]
  have hN : 0 ≤ 8 * (msg.length : Int) ∧ 8 * (msg.length : Int) < 256 ^ 8 := by
    have : (256 : Int) ^ 8 = 18446744073709551616 := by decide
    rw [this]; omega
  rcases hz with rfl | rfl
  · rfl
  · rw [show rlnF (2 * 8) (8 * (msg.length : Int)) (2 * 8) = rlnF (2 * 8) (8 * (msg.length : Int)) 8 from rln_more hN 8 (by decide)]
theorem pad_by {z : Nat} (hz : z = 4 ∨ z = 8) {msg : List Int} (hn : msg.length ≤ 100000) (h : BY msg) : BY (padF z msg) := by
  have hl : ∀ i, BY (lnF z msg.length i) := fun i => by
    induction i with
    | zero => intro x hx; rw [(List.mem_replicate.1 hx).2]; decide
    | succ i ih =>
      intro x hx
      unfold lnF at hx
      rcases List.mem_or_eq_of_mem_set hx with h1 | h1
      · exact ih x h1
      · rw [h1, IntKind.wrap_u8]; omega
  intro x hx
  unfold padF at hx
  simp only [List.mem_append, List.mem_singleton, List.mem_replicate] at hx
  rcases hx with h1 | (h1 | h1) | h1
  · exact h x h1
  · subst h1; decide
  · rw [h1.2]; decide
  · exact hl 8 x h1
theorem wd_eq {z : Nat} {x : Int} {j : Nat} (hj : j ≤ z) : wdF z x j = rwdF z x j := by
  unfold wdF rwdF
  refine List.map_congr_left fun t ht => ?_
  have := List.mem_range.1 ht
  rw [show (8 * ((z : Int) - 1 - (t : Int))).toNat = 8 * (z - 1 - t) by omega, IntKind.wrap_u8, IntKind.wrap_u8, Int.emod_emod]
theorem dg_eq {z : Nat} {xs : List Int} : dgF z xs = rdgF z xs := by
  unfold dgF rdgF
  congr 1
  exact List.map_congr_left fun x _ => wd_eq (Nat.le_refl _)

theorem sum_eq {k : IntKind} {bt : Nat} {T : Tn} (t : TkEq k bt T) {z n : Nat} {d : Int} {ks H : List Int} (hz : 8 * z = bt) (hn : 16 ≤ n) (hk : ∀ j, j < n → ks.getD j 0 = const64.getD j 0 / d) (h0 : rdnF d first64 8 = H) (hH : WBS bt H)
    {msg : List Int} (h : BY msg) (hl : msg.length ≤ 100000) : sumF k bt z n T ks H msg = rsumF bt z n d msg := by
  have hz48 : z = 4 ∨ z = 8 := by have := t.W.h2; omega
  have h8 : H.length = 8 := by rw [← h0, rdnF_len]; rfl
  unfold sumF rsumF
  rw [dg_eq, h0, ← pad_eq hz48 hl]
  congr 1
  exact (bk_eq t hz (by omega) hn hk h8 hH (pad_by hz48 hl h) _ (Nat.div_mul_le_self _ _)).1
set_option maxRecDepth 10000 in
theorem kk32 : ∀ j, j < 64 → k32.getD j 0 = const64.getD j 0 / 4294967296 := by decide +kernel
set_option maxRecDepth 10000 in
theorem kk64 : ∀ j, j < 80 → const64.getD j 0 = const64.getD j 0 / 1 := fun j _ => by rw [Int.ediv_one]
theorem hh32 : rdnF 4294967296 first64 8 = h32 := by decide +kernel
theorem hh64 : rdnF 1 first64 8 = first64 := by decide +kernel
theorem wbs32 : WBS 32 h32 := by
  show ∀ x ∈ h32, 0 ≤ x ∧ x < 2 ^ 32
  decide +kernel
theorem wbs64 : WBS 64 first64 := by
  show ∀ x ∈ first64, 0 ≤ x ∧ x < 2 ^ 64
  decide +kernel
theorem sum256_eq {msg : List Int} (h : BY msg) (hl : msg.length ≤ 100000) : sum256 msg = rsumF 32 4 64 4294967296 msg := sum_eq tk32 rfl (by decide) kk32 hh32 wbs32 h hl
theorem sum512_eq {msg : List Int} (h : BY msg) (hl : msg.length ≤ 100000) : sum512 msg = rsumF 64 8 80 1 msg := sum_eq tk64 rfl (by decide) kk64 hh64 wbs64 h hl
end Go.Proofs.Ytjlgmaappebppaa
