/- Plain laws that more than one seat needs: strings of bytes, rows of numbers that fit a flat type. -/
import Derived.Test.YtcplbkbimpiioaaGreatDoorLibZ
import Derived.Lib.Bytes
namespace Go.Proofs.YtcplbkbimpiioaaGreatDoor
open Go Go.RowKit
theorem wfB8 {n : Int} (h : 0 ≤ n ∧ n < 256) : (Lit.int .u8 n).wf = true := by
  rw [Lit.wf_int_iff]; have e1 : IntKind.u8.min = 0 := by decide
  have e2 : IntKind.u8.max = 255 := by decide
  rw [e1, e2]; omega
theorem fitsB {n : Nat} {xs : List Int} (h : xs.length = n) (hb : ∀ x ∈ xs, 0 ≤ x ∧ x < 256) : Fits1 (List.replicate n (some .u8)) (ints .u8 xs) := by
  induction xs generalizing n with
  | nil => subst h; simp [ints, Fits1]
  | cons x xs ih =>
    subst h
    exact ⟨⟨rfl, wfB8 (hb x (by simp))⟩, ih rfl (fun y hy => hb y (by simp [hy]))⟩
theorem bytesOf_inj : ∀ {xs ys : List Int}, (∀ x ∈ xs, 0 ≤ x ∧ x < 256) → (∀ x ∈ ys, 0 ≤ x ∧ x < 256) → Go.Lib.bytesOf xs = Go.Lib.bytesOf ys → xs = ys
  | [], [], _, _, _ => rfl
  | [], _ :: _, _, _, h => by simp [Go.Lib.bytesOf] at h
  | _ :: _, [], _, _, h => by simp [Go.Lib.bytesOf] at h
  | x :: xs, y :: ys, hx, hy, h => by
    simp only [Go.Lib.bytesOf, List.map_cons, List.cons.injEq] at h
    have a := hx x (by simp)
    have b := hy y (by simp)
    have e : x.toNat = y.toNat := by
      have := congrArg UInt8.toNat h.1
      simp only [UInt8.toNat_ofNat'] at this
      omega
    rw [show x = y by omega, bytesOf_inj (fun z hz => hx z (by simp [hz])) (fun z hz => hy z (by simp [hz])) h.2]
theorem strEq {xs ys : List Int} (hx : ∀ x ∈ xs, 0 ≤ x ∧ x < 256) (hy : ∀ x ∈ ys, 0 ≤ x ∧ x < 256) : ((strOfNums xs).toList == (strOfNums ys).toList) = decide (xs = ys) := by
  rw [Go.Lib.strOfNums_toList, Go.Lib.strOfNums_toList]
  by_cases h : xs = ys
  · simp [h]
  · rw [decide_eq_false h, beq_eq_false_iff_ne]
    exact fun e => h (bytesOf_inj hx hy e)
end Go.Proofs.YtcplbkbimpiioaaGreatDoor
