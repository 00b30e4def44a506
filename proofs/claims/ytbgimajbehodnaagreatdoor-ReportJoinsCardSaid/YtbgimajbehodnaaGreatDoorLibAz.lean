/- Append of make (zeros) onto nil, of elements of any size. General lemmas of this claim's own, about no program in particular. -/
import Derived.Test.YtbgimajbehodnaaGreatDoorLibI
namespace Go.Proofs.YtbgimajbehodnaaGreatDoor
open Go Go.RowKit
theorem run_append_nil_zerosN {P : Program} (w : World) (t tn ty e : TypeId) (i : TypeInfo) (z : Value) (k kn : IntKind) (ht : P.underlying t = some (.slice e)) (htn : P.underlying tn = some (.int kn)) (hi : P.info? e = some i) (hz : i.zero = some z)
    (n : Nat) (h0 : 0 < n) (hs : 0 < i.size) (h63 : (n : Int) ≤ 9223372036854775807) (h48 : n * i.bytes ≤ 281474976710656) (hfit : Builtin.nextslicecap n 0 * i.bytes ≤ 281474976710656) :
    (Builtin.append_ #[t, tn] ty #[.slice none 0 0, .int k n]).run P w =
      .ok (.slice (some ⟨w.heap.size, 0, none⟩) n (grownCap w n 0 e))
        (w.drew.alloc (.cells (Builtin.zeroCells z.cells n ++ Builtin.zeroCells z.cells (grownCap w n 0 e - n)) e)) := by
  have h63' : ¬ (9223372036854775807 < (n : Int)) := by omega
  have h48' : ¬ (281474976710656 < Builtin.nextslicecap n 0 * i.bytes) := by omega
  have h48i : ¬ (281474976710656 < (n : Int) * (i.bytes : Int)) := by
    rw [← Int.natCast_mul]
    omega
  have hw : IntKind.i64.wrap (n : Int) = n := by rw [IntKind.wrap_i64]; omega
  have hneg : ¬ ((n : Int) < 0) := by omega
  have hns : ¬ (n * i.size = 0) := Nat.mul_ne_zero (by omega) (by omega)
  have hs0 : ¬ i.size = 0 := by omega
  have hn0 : ¬ n = 0 := by omega
  simp [Builtin.append_, run_underlying ht, run_underlying htn, sizeOf, typeInfo, zeroValue, hi, hz, asInt, asIntOf, hw, hneg, hns, hs0, hn0, h63', h48', h48i, Question.forced, Builtin.firstCells, loadCells, loadCellsFrom, newRow, grownCap]
section
variable {c : Cx} {env : Env} {ds : List Deferred} {H F : List Res} {dst : Option Tmp} {ty : TypeId} {pos : String} {af : Array Edge} {g : Option (Nat × Bool)}
/-- append of so many zeros onto nil -/
theorem To.appendZ0N {s x : Operand} {t tn e : TypeId} {kn : IntKind} {z : Value} {size bytes : Nat} (hT : SlT c.P t e z size bytes) (htn : c.P.underlying tn = some (.int kn)) {m : Nat} {k : IntKind} (hs : ev env s = some (.slice none 0 0)) (hx : ev env x = some (.int k (m : Nat)))
    (h0m : 0 < m) {zs : List Value} (hz : (Builtin.zeroCells z.cells m).toList = zs) (h63 : m ≤ maxLen) (hb : m * bytes ≤ 140737488355328) :
    To c env ds H ⟨dst, .call { callee := .builtin .append, args := #[s, x], argTypes := #[t, tn] }, ty, pos, af, g⟩ (fun p : { p : Nat × Nat // m ≤ p.2 } => .slice (some ⟨p.1.1, 0, none⟩) m p.1.2) (fun p => ownR (.slice (some ⟨p.1.1, 0, none⟩) m p.1.2) e size m zs :: H) := fun a w ha hw => by
  subst hz
  obtain ⟨ht, ⟨i, hi, hz, rfl, rfl⟩, hzs, hsz⟩ := hT
  have hsmall : m ≤ 9223372036854775807 := by simp only [maxLen] at h63; omega
  have hfit := growslice_fits (need := 0 + m) (old := 0) (bytes := i.bytes) (by omega) (by simpa using hb)
  have hge := grownCap_ge w m 0 e
  have hcm : grownCap w m 0 e ≤ maxLen := grownCap_le_maxLen w m 0 e h63
  have hr := run_append_nil_zerosN (P := c.P) w t tn ty e i z k kn ht htn hi hz m h0m hsz (by omega) (by omega) (by simpa using hfit)
  refine ⟨⟨(w.heap.size, grownCap w m 0 e), hge⟩, w.drew.alloc (.cells (Builtin.zeroCells z.cells m ++ Builtin.zeroCells z.cells (grownCap w m 0 e - m)) e), ?_, ?_⟩
  · simp only [execOp, resolve, invoke, builtin, Sem.run_bind, Sem.run_pure, Result.andThen_ok, List.map_toArray, List.map_cons, List.map_nil, ha.ev hs, ha.ev hx, hr]
  · have h1 := ((hw.drew).addNil e i.size)
    have hsown : Sown (w.drew.alloc (.cells (Builtin.zeroCells z.cells m ++ Builtin.zeroCells z.cells (grownCap w m 0 e - m)) e)) e i.size (.slice (some ⟨w.heap.size, 0, none⟩) m (grownCap w m 0 e)) m (Builtin.zeroCells z.cells m).toList := by
      refine ⟨by rw [Array.length_toList, size_zeroCells, hzs], .inr ⟨w.heap.size, 0, _, _, rfl, heap_alloc_new w.drew _, hge, hcm, ?_, ?_⟩⟩
      · simp only [Array.size_append, size_zeroCells, hzs, ← Nat.add_mul, Nat.zero_add]
        apply Nat.le_of_eq
        congr 1
        omega
      · intro j u hj
        simp only [Nat.zero_add]
        rw [Array.getElem?_append_left (by have := (List.getElem?_eq_some_iff.1 hj).1; simpa using this)]
        simpa using hj
    exact h1.turn .head (Chg.alloc _ _ _) hsown (fun k hk => .inr (by cases hk; exact Nat.le_refl _))
end
end Go.Proofs.YtbgimajbehodnaaGreatDoor
