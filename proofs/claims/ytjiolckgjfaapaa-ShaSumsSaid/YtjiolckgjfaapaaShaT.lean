/- The program's words are the reference's: plain laws. -/
import Derived.Test.YtjiolckgjfaapaaShaR
import Derived.Test.YtjiolckgjfaapaaShaE
namespace Go.Proofs.Ytjiolckgjfaapaa
open Go Go.RowKit

/-- An unsigned kind of so many bits. -/
structure WK (k : IntKind) (bt : Nat) : Prop where
  hb : k.bits = bt
  hw : ∀ n : Int, k.wrap n = n % 2 ^ bt
  h2 : bt = 32 ∨ bt = 64
  hs : k.signed = false
  hm : k.max = 2 ^ bt - 1
theorem wk32 : WK .u32 32 := ⟨rfl, fun n => by rw [IntKind.wrap_u32]; rfl, .inl rfl, rfl, by decide⟩
theorem wk64 : WK .u64 64 := ⟨rfl, fun n => by rw [IntKind.wrap_u64]; rfl, .inr rfl, rfl, by decide⟩
def WB (bt : Nat) (x : Int) : Prop := 0 ≤ x ∧ x < 2 ^ bt
theorem WB.nat {bt : Nat} {x : Int} (h : WB bt x) : ∃ X : Nat, x = (X : Int) ∧ X < 2 ^ bt := by
  obtain ⟨X, rfl⟩ := Int.eq_ofNat_of_zero_le h.1
  exact ⟨X, rfl, by have := h.2; exact_mod_cast this⟩
theorem WB.of {bt X : Nat} (h : X < 2 ^ bt) : WB bt (X : Int) := ⟨Int.natCast_nonneg _, by exact_mod_cast h⟩
variable {k : IntKind} {bt : Nat}
theorem WK.b64 (W : WK k bt) : bt ≤ 64 := by have := W.h2; omega
theorem WB.w64 {x : Int} (W : WK k bt) (h : WB bt x) : W64 x := by
  have h1 := h.1; have h2 := h.2
  rcases W.h2 with rfl | rfl
  · have e : (2 : Int) ^ 32 = 4294967296 := by decide
    rw [e] at h2
    exact ⟨h1, by omega⟩
  · have e : (2 : Int) ^ 64 = 18446744073709551616 := by decide
    rw [e] at h2
    exact ⟨h1, h2⟩
theorem WB.up {x : Int} (W : WK k bt) (h : WB bt x) : WB 64 x := by
  have := h.w64 W
  have e : (2 : Int) ^ 64 = 18446744073709551616 := by decide
  exact ⟨this.1, by rw [e]; exact this.2⟩
theorem WK.wrapB (W : WK k bt) (n : Int) : WB bt (k.wrap n) := by
  rw [W.hw]
  have := pow_pos bt
  exact ⟨Int.emod_nonneg _ (Int.ne_of_gt this), Int.emod_lt_of_pos _ this⟩
theorem WK.keep (W : WK k bt) {x : Int} (h : WB bt x) : k.wrap x = x := by rw [W.hw]; exact Int.emod_eq_of_lt h.1 h.2
theorem wb0 : WB bt 0 := ⟨Int.le_refl _, pow_pos bt⟩

theorem bits_xa (W : WK k bt) {a b : Nat} (ha : a < 2 ^ bt) (hb : b < 2 ^ bt) : bits .xor k a b = ((a ^^^ b : Nat) : Int) ∧ bits .and k a b = ((a &&& b : Nat) : Int) := by
  have hkeep := fun (x : Int) (h : WB bt x) => W.keep h
  have hbb := W.hb
  subst hbb
  constructor
  · simp only [bits, BitVec.ofInt_natCast, BitVec.toNat_xor, BitVec.toNat_ofNat, Nat.mod_eq_of_lt ha, Nat.mod_eq_of_lt hb]
    exact hkeep _ (WB.of (Nat.xor_lt_two_pow ha hb))
  · simp only [bits, BitVec.ofInt_natCast, BitVec.toNat_and, BitVec.toNat_ofNat, Nat.mod_eq_of_lt ha, Nat.mod_eq_of_lt hb]
    exact hkeep _ (WB.of (Nat.and_lt_two_pow _ hb))
theorem up_nat (W : WK k bt) {X : Nat} (h : X < 2 ^ bt) : X < 2 ^ 64 := Nat.lt_of_lt_of_le h (Nat.pow_le_pow_right (by decide) W.b64)
theorem xor_same (W : WK k bt) {x y : Int} (hx : WB bt x) (hy : WB bt y) : bits .xor k x y = bits .xor .u64 x y ∧ WB bt (bits .xor .u64 x y) := by
  obtain ⟨X, rfl, hX⟩ := hx.nat
  obtain ⟨Y, rfl, hY⟩ := hy.nat
  rw [(bits_xa W hX hY).1, (bits_xa wk64 (up_nat W hX) (up_nat W hY)).1]
  exact ⟨rfl, WB.of (Nat.xor_lt_two_pow hX hY)⟩
theorem and_same (W : WK k bt) {x y : Int} (hx : WB bt x) (hy : WB bt y) : bits .and k x y = bits .and .u64 x y ∧ WB bt (bits .and .u64 x y) := by
  obtain ⟨X, rfl, hX⟩ := hx.nat
  obtain ⟨Y, rfl, hY⟩ := hy.nat
  rw [(bits_xa W hX hY).2, (bits_xa wk64 (up_nat W hX) (up_nat W hY)).2]
  exact ⟨rfl, WB.of (Nat.and_lt_two_pow _ hY)⟩

theorem cutF_wrap (W : WK k bt) (a : Int) : cutF (IntKind.u64.wrap a) bt = k.wrap a := by
  rw [W.hw, IntKind.wrap_u64]
  unfold cutF
  rcases W.h2 with rfl | rfl
  · have e : (2 : Int) ^ 32 = 4294967296 := by decide
    rw [if_neg (by decide), e]; omega
  · have e : (2 : Int) ^ 64 = 18446744073709551616 := by decide
    rw [if_pos rfl, e]
theorem add_wrap (W : WK k bt) (a b : Int) : k.wrap (IntKind.u64.wrap a + b) = k.wrap (a + b) := by
  rw [W.hw, W.hw, IntKind.wrap_u64]
  rcases W.h2 with rfl | rfl
  · have e : (2 : Int) ^ 32 = 4294967296 := by decide
    rw [e]; omega
  · have e : (2 : Int) ^ 64 = 18446744073709551616 := by decide
    rw [e]; omega
theorem add_wrapk (W : WK k bt) (a b : Int) : k.wrap (k.wrap a + b) = k.wrap (a + b) := by
  rw [W.hw, W.hw, W.hw]
  exact Int.emod_add_emod _ _ _

theorem or_comm' (x y : Int) : bits .or k x y = bits .or k y x := by
  unfold bits
  simp only [BitVec.or_comm]
theorem rot_eq (W : WK k bt) {x : Int} (hx : WB bt x) {n : Nat} (hn : n ≤ bt) : rot k bt x n = rturn x n bt ∧ WB bt (rturn x n bt) := by
  obtain ⟨X, rfl, hX⟩ := hx.nat
  have h2 : 2 ^ bt = 2 ^ n * 2 ^ (bt - n) := by rw [← Nat.pow_add]; congr 1; omega
  have e1 : k.wrap ((X : Int) * 2 ^ (bt - n)) = ((X % 2 ^ n * 2 ^ (bt - n) : Nat) : Int) := by
    rw [W.hw]
    have : ((X * 2 ^ (bt - n)) % 2 ^ bt : Nat) = X % 2 ^ n * 2 ^ (bt - n) := by rw [h2, Nat.mul_mod_mul_right]
    rw [← this]
    push_cast
    rfl
  have e2 : (X : Int) / 2 ^ n = ((X / 2 ^ n : Nat) : Int) := by push_cast; rfl
  have hq : X / 2 ^ n < 2 ^ (bt - n) := Nat.div_lt_of_lt_mul (by rw [← h2]; exact hX)
  have hm : X % 2 ^ n < 2 ^ n := Nat.mod_lt _ (Nat.two_pow_pos n)
  have hsum : X % 2 ^ n * 2 ^ (bt - n) + X / 2 ^ n < 2 ^ bt := by
    have : (X % 2 ^ n + 1) * 2 ^ (bt - n) ≤ 2 ^ n * 2 ^ (bt - n) := Nat.mul_le_mul_right _ hm
    rw [Nat.add_mul, Nat.one_mul, ← h2] at this
    exact Nat.lt_of_lt_of_le (Nat.add_lt_add_left hq _) this
  have hkeep : ∀ n : Int, 0 ≤ n → n < 2 ^ bt → k.wrap n = n := fun n h h' => W.keep ⟨h, h'⟩
  have hor : rot k bt X n = ((X % 2 ^ n * 2 ^ (bt - n) + X / 2 ^ n : Nat) : Int) := by
    unfold rot
    rw [Int.toNat_natCast, show ((bt : Int) - (n : Int)).toNat = bt - n by omega, e1, e2, or_comm',
      bits_join k bt (by rw [W.hb]; exact Nat.le_refl _) hkeep (bt - n) _ _ (Int.natCast_nonneg _) (by exact_mod_cast Nat.mul_mod_left _ _) (by exact_mod_cast Nat.lt_of_le_of_lt (Nat.le_add_right _ _) hsum) (Int.natCast_nonneg _) (by exact_mod_cast hq) (by exact_mod_cast Nat.lt_of_le_of_lt (Nat.le_add_left _ _) hsum)]
    push_cast
    rfl
  have hrt : rturn X n bt = ((X % 2 ^ n * 2 ^ (bt - n) + X / 2 ^ n : Nat) : Int) := by
    unfold rturn
    rw [cutF_wrap W, e1, e2, wk64.keep]
    · push_cast; exact Int.add_comm _ _
    · have := (WB.of hsum).up W
      rw [Int.add_comm]
      exact_mod_cast this
  rw [hor, hrt]
  exact ⟨rfl, WB.of hsum⟩
theorem div_b {x : Int} (hx : WB bt x) (n : Nat) : WB bt (x / 2 ^ n) := ⟨Int.ediv_nonneg hx.1 (Int.le_of_lt (pow_pos n)), by have := Int.ediv_le_self (2 ^ n) hx.1; have := hx.2; omega⟩
theorem big_eq (W : WK k bt) {x : Int} (hx : WB bt x) {a b c : Nat} (ha : a ≤ bt) (hb : b ≤ bt) (hc : c ≤ bt) : bigF k bt x a b c = rmix x a b c bt false ∧ WB bt (rmix x a b c bt false) := by
  have h1 := rot_eq W hx ha
  have h2 := rot_eq W hx hb
  have h3 := rot_eq W hx hc
  have h4 := xor_same W h1.2 h2.2
  have h5 := xor_same W h4.2 h3.2
  unfold bigF rmix
  rw [h1.1, h2.1, h3.1, h4.1, h5.1]
  exact ⟨rfl, h5.2⟩
theorem small_eq (W : WK k bt) {x : Int} (hx : WB bt x) {a b c : Nat} (ha : a ≤ bt) (hb : b ≤ bt) : smallF k bt x a b c = rmix x a b c bt true ∧ WB bt (rmix x a b c bt true) := by
  have h1 := rot_eq W hx ha
  have h2 := rot_eq W hx hb
  have h4 := xor_same W h1.2 h2.2
  have h5 := xor_same W h4.2 (div_b hx c)
  unfold smallF rmix
  rw [h1.1, h2.1, h4.1, Int.toNat_natCast, h5.1]
  exact ⟨rfl, h5.2⟩

/-- A machine's turns are the reference's. -/
structure TkEq (k : IntKind) (bt : Nat) (T : Tn) : Prop where
  W : WK k bt
  A : ∀ x, WB bt x → bigF k bt x T.a1 T.a2 T.a3 = fourF 0 x bt ∧ WB bt (fourF 0 x bt)
  E : ∀ x, WB bt x → bigF k bt x T.e1 T.e2 T.e3 = fourF 1 x bt ∧ WB bt (fourF 1 x bt)
  U : ∀ x, WB bt x → smallF k bt x T.u1 T.u2 T.u3 = fourF 2 x bt ∧ WB bt (fourF 2 x bt)
  V : ∀ x, WB bt x → smallF k bt x T.v1 T.v2 T.v3 = fourF 3 x bt ∧ WB bt (fourF 3 x bt)
theorem tk32 : TkEq .u32 32 tn32 := ⟨wk32, fun _ h => big_eq (a := 2) (b := 13) (c := 22) wk32 h (by decide) (by decide) (by decide), fun _ h => big_eq (a := 6) (b := 11) (c := 25) wk32 h (by decide) (by decide) (by decide), fun _ h => small_eq (a := 7) (b := 18) (c := 3) wk32 h (by decide) (by decide), fun _ h => small_eq (a := 17) (b := 19) (c := 10) wk32 h (by decide) (by decide)⟩
theorem tk64 : TkEq .u64 64 tn64 := ⟨wk64, fun _ h => big_eq (a := 28) (b := 34) (c := 39) wk64 h (by decide) (by decide) (by decide), fun _ h => big_eq (a := 14) (b := 18) (c := 41) wk64 h (by decide) (by decide) (by decide), fun _ h => small_eq (a := 1) (b := 8) (c := 7) wk64 h (by decide) (by decide), fun _ h => small_eq (a := 19) (b := 61) (c := 6) wk64 h (by decide) (by decide)⟩
end Go.Proofs.Ytjiolckgjfaapaa
