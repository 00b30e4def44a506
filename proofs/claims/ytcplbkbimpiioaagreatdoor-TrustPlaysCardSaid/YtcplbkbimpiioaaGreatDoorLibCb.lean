/- Bytes compared, by the model's entry: general lemmas of this claim's own, about no program in particular. -/
import Derived.Test.YtcplbkbimpiioaaGreatDoorLibW
import Derived.Lib.BytesEntry
namespace Go.Proofs.YtcplbkbimpiioaaGreatDoor
open Go Go.RowKit
/-- Two rows of numbers, one behind the other. -/
def lexF : List Int → List Int → Int
  | [], [] => 0
  | [], _ :: _ => -1
  | _ :: _, [] => 1
  | x :: xs, y :: ys => if x < y then -1 else if y < x then 1 else lexF xs ys
theorem u8_lt {x y : Int} (hx : 0 ≤ x ∧ x < 256) (hy : 0 ≤ y ∧ y < 256) : (UInt8.ofNat x.toNat < UInt8.ofNat y.toNat) ↔ x < y := by
  rw [UInt8.lt_iff_toNat_lt, UInt8.toNat_ofNat', UInt8.toNat_ofNat']
  rw [Nat.mod_eq_of_lt (by omega), Nat.mod_eq_of_lt (by omega)]
  omega
theorem compare_lex : ∀ {xs ys : List Int}, (∀ x ∈ xs, 0 ≤ x ∧ x < 256) → (∀ y ∈ ys, 0 ≤ y ∧ y < 256) → Lib.compareBytes (Lib.bytesOf xs) (Lib.bytesOf ys) = lexF xs ys
  | [], [], _, _ => rfl
  | [], _ :: _, _, _ => rfl
  | _ :: _, [], _, _ => rfl
  | x :: xs, y :: ys, h1, h2 => by
    have ih := compare_lex (xs := xs) (ys := ys) (fun z hz => h1 z (by simp [hz])) (fun z hz => h2 z (by simp [hz]))
    have hx := h1 x (by simp)
    have hy := h2 y (by simp)
    show (if UInt8.ofNat x.toNat < UInt8.ofNat y.toNat then (-1 : Int) else if UInt8.ofNat y.toNat < UInt8.ofNat x.toNat then 1 else Lib.compareBytes (Lib.bytesOf xs) (Lib.bytesOf ys)) = if x < y then -1 else if y < x then 1 else lexF xs ys
    rw [ih]
    simp only [u8_lt hx hy, u8_lt hy hx]
theorem run_bytesX {P : Program} {w : World} {v : Value} {xs : List Int} (h : Rd w 1 v xs.length (ints .u8 xs)) : (Extern.Bytes.bytesOf v).run P w = .ok ⟨(Lib.bytesOf xs).toArray⟩ w := by
  rcases h.2 with ⟨rfl, h0⟩ | ⟨a, cap, rfl, h1, h2, h3⟩
  · have : xs = [] := List.eq_nil_of_length_eq_zero h0
    subst this
    rfl
  · have hl := Lib.run_loadBytesX (P := P) w xs a .empty (fun j x hj => by
      obtain ⟨e1, e2⟩ := h3 j (.int .u8 x) (by simp [ints, hj])
      obtain ⟨b, o, sp⟩ := a
      cases e1
      have e : (⟨b, o, none⟩ : Addr).add j = ⟨b, o + j, none⟩ := by unfold Addr.add; split <;> simp_all
      rw [e]
      exact e2)
    have he : (⟨ByteArray.empty.data ++ (Lib.bytesOf xs).toArray⟩ : ByteArray) = ⟨(Lib.bytesOf xs).toArray⟩ := by
      apply ByteArray.ext
      show (#[] : Array UInt8) ++ (Lib.bytesOf xs).toArray = (Lib.bytesOf xs).toArray
      simp
    rw [he] at hl
    exact hl
theorem run_cmpX {P : Program} {w : World} {u v : Value} {xs ys : List Int} (hx : Rd w 1 u xs.length (ints .u8 xs)) (hy : Rd w 1 v ys.length (ints .u8 ys)) (h1 : ∀ x ∈ xs, 0 ≤ x ∧ x < 256) (h2 : ∀ y ∈ ys, 0 ≤ y ∧ y < 256) :
    (Extern.BytealgCompare.compare #[u, v]).run P w = .ok (.int .i64 (lexF xs ys)) w := by
  have a := run_bytesX (P := P) hx
  have b := run_bytesX (P := P) hy
  change Sem.run P (do pure (goInt (Extern.BytealgCompare.cmp (← Extern.Bytes.bytesOf u) (← Extern.Bytes.bytesOf v)))) w = _
  simp only [Sem.run_bind, Sem.run_pure, a, b, Result.andThen]
  rw [Lib.cmp_eq, ← compare_lex h1 h2]
  rfl
end Go.Proofs.YtcplbkbimpiioaaGreatDoor
