/- Plain laws that more than one seat needs: strings of bytes, rows of numbers that fit a flat type. -/
import Derived.Test.YtbgimajbehodnaaGreatDoorLibZ
import Derived.Lib.Bytes
import Derived.OpenShut
import Derived.Deep.Slices
namespace Go.Proofs.YtbgimajbehodnaaGreatDoor
open Go Go.RowKit
theorem bytesOf_inj : ∀ {xs ys : List Int}, (∀ x ∈ xs, 0 ≤ x ∧ x < 256) → (∀ x ∈ ys, 0 ≤ x ∧ x < 256) → Go.Lib.bytesOf xs = Go.Lib.bytesOf ys → xs = ys
  | [], [], _, _, _ => rfl
  | [], _ :: _, _, _, h => by simp [Go.Lib.bytesOf] at h
  | _ :: _, [], _, _, h => by simp [Go.Lib.bytesOf] at h
  | x :: xs, y :: ys, hx, hy, h => by
    simp only [Go.Lib.bytesOf, List.map_cons, List.cons.injEq] at h
    have a := hx x (by simp)
    have b := hy y (by simp)
    have e : x.toNat = y.toNat := by
      have := congrArg UInt8.toNat h.1
      simp only [UInt8.toNat_ofNat'] at this
      omega
    rw [show x = y by omega, bytesOf_inj (fun z hz => hx z (by simp [hz])) (fun z hz => hy z (by simp [hz])) h.2]
theorem strEq {xs ys : List Int} (hx : ∀ x ∈ xs, 0 ≤ x ∧ x < 256) (hy : ∀ x ∈ ys, 0 ≤ x ∧ x < 256) : ((strOfNums xs).toList == (strOfNums ys).toList) = decide (xs = ys) := by
  rw [Go.Lib.strOfNums_toList, Go.Lib.strOfNums_toList]
  by_cases h : xs = ys
  · simp [h]
  · rw [decide_eq_false h, beq_eq_false_iff_ne]
    exact fun e => h (bytesOf_inj hx hy e)
end Go.Proofs.YtbgimajbehodnaaGreatDoor

namespace Go.Proofs.YtbgimajbehodnaaGreatDoor
open Go Go.RowKit

def fieldAt (P : Program) (t : TypeId) (i : Nat) : Option (TypeId × Nat × Nat) := match P.underlying t with
  | some (.struct fs) => (fs[i]?).map fun f => (f.type, f.offset, P.cellsOf f.type)
  | _ => none

section
variable {H : Type} {enc : TypeId × Value → H} {P : Program} {w : World} {base : Nat} {sp : Nat → Bool} {held : Bool}

end

theorem fits_bytes : ∀ {n : Nat} {cs : List Value}, Fits1 (List.replicate n (some .u8)) cs → ∃ ys : List Int, cs = ints .u8 ys ∧ ys.length = n ∧ ∀ y ∈ ys, 0 ≤ y ∧ y < 256
  | 0, [], _ => ⟨[], rfl, rfl, fun x hx => nomatch hx⟩
  | 0, _ :: _, h => h.elim
  | n + 1, [], h => h.elim
  | n + 1, c :: cs, h => by
    obtain ⟨ys, rfl, h2, h3⟩ := fits_bytes (n := n) (cs := cs) h.2
    match c, h.1 with
    | .int q y, h1 =>
      obtain ⟨rfl, hw⟩ := h1
      refine ⟨y :: ys, rfl, by simp [h2], fun z hz => ?_⟩
      rcases List.mem_cons.1 hz with rfl | hz
      · exact wf_u8 hw
      · exact h3 z hz
end Go.Proofs.YtbgimajbehodnaaGreatDoor

namespace Go.Proofs.YtbgimajbehodnaaGreatDoor
open Go Go.RowKit

theorem run_append_grow_zeros {P : Program} (w : World) (t tn ty e : TypeId) (i : TypeInfo) (z : Value) (k kn : IntKind) (ht : P.underlying t = some (.slice e)) (htn : P.underlying tn = some (.int kn)) (hi : P.info? e = some i) (hz : i.zero = some z)
    (b : Addr) (sLen sCap : Nat) (olds : List Value) (hlo : olds.length = sLen * i.size) (holds : ∀ j v, olds[j]? = some v → w.cell? (b.add j) = some v)
    (n : Nat) (h0 : 0 < n) (hs : 0 < i.size) (hg : sCap < sLen + n) (h63 : ((sLen + n : Nat) : Int) ≤ 9223372036854775807) (h48 : n * i.bytes ≤ 281474976710656) (hfit : Builtin.nextslicecap (sLen + n) sCap * i.bytes ≤ 281474976710656) :
    (Builtin.append_ #[t, tn] ty #[.slice (some b) sLen sCap, .int k n]).run P w =
      .ok (.slice (some ⟨w.heap.size, 0, none⟩) (sLen + n) (grownCap w (sLen + n) sCap e))
        (w.drew.alloc (.cells (olds.toArray ++ Builtin.zeroCells z.cells n ++ Builtin.zeroCells z.cells (grownCap w (sLen + n) sCap e - (sLen + n))) e)) := by
  have hn : ¬ (sLen + n ≤ sCap) := by omega
  have h63' : ¬ (9223372036854775807 < ((sLen : Int) + (n : Int))) := by omega
  have h48' : ¬ (281474976710656 < Builtin.nextslicecap (sLen + n) sCap * i.bytes) := by omega
  have hw : IntKind.i64.wrap (n : Int) = n := by rw [IntKind.wrap_i64]; omega
  have h48i : ¬ (281474976710656 < (n : Int) * (i.bytes : Int)) := by
    rw [← Int.natCast_mul]
    omega
  have hneg : ¬ ((n : Int) < 0) := by omega
  have hns : ¬ (n * i.size = 0) := Nat.mul_ne_zero (by omega) (by omega)
  have hfo := run_firstCells_some (P := P) w.drew i.size sLen b sLen sCap olds hlo (by simpa using holds)
  simp [Builtin.append_, run_underlying ht, run_underlying htn, sizeOf, typeInfo, zeroValue, hi, hz, asInt, asIntOf, hw, hn, hneg, hns, h63', h48', h48i, Question.forced, hfo, newRow, grownCap]

section
variable {c : Cx} {env : Env} {ds : List Deferred} {H F : List Res} {dst : Option Tmp} {ty : TypeId} {pos : String} {af : Array Edge} {g : Option (Nat × Bool)}

end
end Go.Proofs.YtbgimajbehodnaaGreatDoor
