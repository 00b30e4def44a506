/- The words of the sums, as numbers: plain laws. -/
import Derived.Test.YtfdnnlcfolgegaaFacts
import Derived.Test.YtfdnnlcfolgegaaLibZ
namespace Go.Proofs.Ytfdnnlcfolgegaa
open Go Go.RowKit

def rot (k : IntKind) (B x n : Int) : Int := bits .or k (x / 2 ^ n.toNat) (k.wrap (x * 2 ^ (B - n).toNat))
def bigF (k : IntKind) (B x a b c : Int) : Int := bits .xor k (bits .xor k (rot k B x a) (rot k B x b)) (rot k B x c)
def smallF (k : IntKind) (B x a b c : Int) : Int := bits .xor k (bits .xor k (rot k B x a) (rot k B x b)) (x / 2 ^ c.toNat)
def three (a b c : Int) : List Value := [.int .i64 a, .int .i64 b, .int .i64 c]

structure Tn where
  a1 : Int
  a2 : Int
  a3 : Int
  e1 : Int
  e2 : Int
  e3 : Int
  u1 : Int
  u2 : Int
  u3 : Int
  v1 : Int
  v2 : Int
  v3 : Int

def Tn.ok (T : Tn) (B : Int) : Prop :=
  ((0 ≤ T.a1 ∧ T.a1 ≤ B) ∧ (0 ≤ T.a2 ∧ T.a2 ≤ B) ∧ (0 ≤ T.a3 ∧ T.a3 ≤ B)) ∧ ((0 ≤ T.e1 ∧ T.e1 ≤ B) ∧ (0 ≤ T.e2 ∧ T.e2 ≤ B) ∧ (0 ≤ T.e3 ∧ T.e3 ≤ B)) ∧
  ((0 ≤ T.u1 ∧ T.u1 ≤ B) ∧ (0 ≤ T.u2 ∧ T.u2 ≤ B) ∧ (0 ≤ T.u3 ∧ T.u3 ≤ B)) ∧ ((0 ≤ T.v1 ∧ T.v1 ≤ B) ∧ (0 ≤ T.v2 ∧ T.v2 ≤ B) ∧ (0 ≤ T.v3 ∧ T.v3 ≤ B))

/-- The machine's cells. -/
def mC (hv kv : Value) (z : Int) (T : Tn) : List Value :=
  [hv, kv, .int .i64 z, .int .i64 T.a1, .int .i64 T.a2, .int .i64 T.a3, .int .i64 T.e1, .int .i64 T.e2, .int .i64 T.e3, .int .i64 T.u1, .int .i64 T.u2, .int .i64 T.u3, .int .i64 T.v1, .int .i64 T.v2, .int .i64 T.v3]

/-- The words of a block, behind so many of its bytes. -/
def ldF (k : IntKind) (z n : Nat) (bs : List Int) : Nat → List Int
  | 0 => List.replicate n 0
  | i + 1 => (ldF k z n bs i).set (i / z) (bits .or k (k.wrap ((ldF k z n bs i).getD (i / z) 0 * 2 ^ (8 : Int).toNat)) (k.wrap (bs.getD i 0)))
theorem ldF_len (k : IntKind) (z n : Nat) (bs : List Int) : ∀ i, (ldF k z n bs i).length = n
  | 0 => by simp [ldF]
  | i + 1 => by simp [ldF, ldF_len k z n bs i]

def moreF (k : IntKind) (B : Int) (T : Tn) (L : List Int) (j : Nat) : Int :=
  k.wrap (k.wrap (k.wrap (smallF k B (L.getD (14 + j) 0) T.v1 T.v2 T.v3 + L.getD (9 + j) 0) + smallF k B (L.getD (1 + j) 0) T.u1 T.u2 T.u3) + L.getD j 0)
def exF (k : IntKind) (B : Int) (T : Tn) (ws : List Int) : Nat → List Int
  | 0 => ws
  | j + 1 => (exF k B T ws j).set (16 + j) (moreF k B T (exF k B T ws j) j)
theorem exF_len (k : IntKind) (B : Int) (T : Tn) (ws : List Int) : ∀ j, (exF k B T ws j).length = ws.length
  | 0 => rfl
  | j + 1 => by simp [exF, exF_len k B T ws j]

def comF (k : IntKind) (e : Int) : Int := bits .xor k (if k.signed then -1 else k.max) e
def pF (k : IntKind) (B : Int) (T : Tn) (x7 e x5 x6 kk ww : Int) : Int :=
  k.wrap (k.wrap (k.wrap (k.wrap (x7 + bigF k B e T.e1 T.e2 T.e3) + bits .xor k (bits .and k e x5) (bits .and k (comF k e) x6)) + kk) + ww)
def qF (k : IntKind) (B : Int) (T : Tn) (a b c : Int) : Int :=
  k.wrap (bigF k B a T.a1 T.a2 T.a3 + bits .xor k (bits .xor k (bits .and k a b) (bits .and k a c)) (bits .and k b c))
def rdF (k : IntKind) (B : Int) (T : Tn) (x : List Int) (kk ww : Int) : List Int :=
  match x with
  | [x0, x1, x2, x3, x4, x5, x6, x7] => [k.wrap (pF k B T x7 x4 x5 x6 kk ww + qF k B T x0 x1 x2), x0, x1, x2, k.wrap (x3 + pF k B T x7 x4 x5 x6 kk ww), x4, x5, x6]
  | x => x
def rsF (k : IntKind) (B : Int) (T : Tn) (ks ws x : List Int) : Nat → List Int
  | 0 => x
  | j + 1 => rdF k B T (rsF k B T ks ws x j) (ks.getD j 0) (ws.getD j 0)
theorem len8 {x : List Int} (h : x.length = 8) : ∃ x0 x1 x2 x3 x4 x5 x6 x7 : Int, x = [x0, x1, x2, x3, x4, x5, x6, x7] := by
  match x, h with
  | [a0, a1, a2, a3, a4, a5, a6, a7], _ => exact ⟨a0, a1, a2, a3, a4, a5, a6, a7, rfl⟩
theorem rdF_len {k : IntKind} {B : Int} {T : Tn} {x : List Int} {kk ww : Int} (h : x.length = 8) : (rdF k B T x kk ww).length = 8 := by
  obtain ⟨x0, x1, x2, x3, x4, x5, x6, x7, rfl⟩ := len8 h
  rfl
theorem rsF_len {k : IntKind} {B : Int} {T : Tn} {ks ws x : List Int} (h : x.length = 8) : ∀ j, (rsF k B T ks ws x j).length = 8
  | 0 => h
  | j + 1 => rdF_len (rsF_len h j)
def adF (k : IntKind) (H x : List Int) : Nat → List Int
  | 0 => H
  | i + 1 => (adF k H x i).set i (k.wrap ((adF k H x i).getD i 0 + x.getD i 0))
theorem adF_len (k : IntKind) (H x : List Int) : ∀ i, (adF k H x i).length = H.length
  | 0 => rfl
  | i + 1 => by simp [adF, adF_len k H x i]
/-- The state behind a block. -/
def blockF (k : IntKind) (B : Int) (z n : Nat) (T : Tn) (ks H bs : List Int) : List Int :=
  adF k H (rsF k B T ks (exF k B T (ldF k z n bs bs.length) (n - 16)) H n) 8
theorem blockF_len {k : IntKind} {B : Int} {z n : Nat} {T : Tn} {ks H bs : List Int} : (blockF k B z n T ks H bs).length = H.length := adF_len _ _ _ _

theorem put8 {ys zs : List Value} (h2 : zs.length = 8) : zs.take 0 ++ ys ++ zs.drop (0 + 8) = ys := by
  rw [List.drop_of_length_le (by omega)]
  simp
theorem copy8 {k : IntKind} {H : List Int} {zs : List Value} (h : H.length = 8) (hz : zs.length = 8) : zs.take 0 ++ (ints k H).take 8 ++ zs.drop (0 + ((ints k H).take 8).length) = ints k H := by
  have hl : (ints k H).length = 8 := by rw [ints_length, h]
  have e1 : (ints k H).take 8 = ints k H := List.take_of_length_le (by omega)
  rw [e1, hl, List.drop_of_length_le (l := zs) (by omega)]
  simp
end Go.Proofs.Ytfdnnlcfolgegaa
