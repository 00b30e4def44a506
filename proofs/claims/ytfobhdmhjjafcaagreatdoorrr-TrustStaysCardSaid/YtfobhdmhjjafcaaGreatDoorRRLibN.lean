/- Append of make (zeros) behind a slice that is full; a field of a struct value. -/
import Derived.Test.YtfobhdmhjjafcaaGreatDoorRRLibO
namespace Go.Proofs.YtfobhdmhjjafcaaGreatDoorRR
open Go Go.RowKit

theorem run_append_grow_zeros {P : Program} (w : World) (t tn ty e : TypeId) (i : TypeInfo) (z : Value) (k kn : IntKind) (ht : P.underlying t = some (.slice e)) (htn : P.underlying tn = some (.int kn)) (hi : P.info? e = some i) (hz : i.zero = some z)
    (b : Addr) (sLen sCap : Nat) (olds : List Value) (hlo : olds.length = sLen * i.size) (holds : ∀ j v, olds[j]? = some v → w.cell? (b.add j) = some v)
    (n : Nat) (h0 : 0 < n) (hs : 0 < i.size) (hg : sCap < sLen + n) (h63 : ((sLen + n : Nat) : Int) ≤ 9223372036854775807) (h48 : n * i.bytes ≤ 281474976710656) (hfit : Builtin.nextslicecap (sLen + n) sCap * i.bytes ≤ 281474976710656) :
    (Builtin.append_ #[t, tn] ty #[.slice (some b) sLen sCap, .int k n]).run P w =
      .ok (.slice (some ⟨w.heap.size, 0, none⟩) (sLen + n) (grownCap w (sLen + n) sCap e))
        (w.drew.alloc (.cells (olds.toArray ++ Builtin.zeroCells z.cells n ++ Builtin.zeroCells z.cells (grownCap w (sLen + n) sCap e - (sLen + n))) e)) := by
  have hn : ¬ (sLen + n ≤ sCap) := by omega
  have h63' : ¬ (9223372036854775807 < ((sLen : Int) + (n : Int))) := by omega
  have h48' : ¬ (281474976710656 < Builtin.nextslicecap (sLen + n) sCap * i.bytes) := by omega
  have hw : IntKind.i64.wrap (n : Int) = n := by rw [IntKind.wrap_i64]; omega
  have h48i : ¬ (281474976710656 < (n : Int) * (i.bytes : Int)) := by
    rw [← Int.natCast_mul]
    omega
  have hneg : ¬ ((n : Int) < 0) := by omega
  have hns : ¬ (n * i.size = 0) := Nat.mul_ne_zero (by omega) (by omega)
  have hfo := run_firstCells_some (P := P) w.drew i.size sLen b sLen sCap olds hlo (by simpa using holds)
  simp [Builtin.append_, run_underlying ht, run_underlying htn, sizeOf, typeInfo, zeroValue, hi, hz, asInt, asIntOf, hw, hn, hneg, hns, h63', h48', h48i, Question.forced, hfo, newRow, grownCap]

section
variable {c : Cx} {env : Env} {ds : List Deferred} {H F : List Res} {dst : Option Tmp} {ty : TypeId} {pos : String} {af : Array Edge} {g : Option (Nat × Bool)}

theorem To.appendZ {s x : Operand} {t tn e : TypeId} {kn : IntKind} {z : Value} {size bytes : Nat} (hT : SlT c.P t e z size bytes) (htn : c.P.underlying tn = some (.int kn)) {ao : Option Addr} {n cap m : Nat} {k : IntKind} {xs : List Value} (hs : ev env s = some (.slice ao n cap)) (hx : ev env x = some (.int k (m : Nat)))
    (tk : Take1 H (ownR (.slice ao n cap) e size n xs) F) (h0 : 0 < n) (h0m : 0 < m) (hg : cap < n + m) {N : Nat} (hN : n + m = N) {zs : List Value} (hz : xs ++ (Builtin.zeroCells z.cells m).toList = zs) (h63 : N ≤ maxLen) (hb : N * bytes ≤ 140737488355328) :
    To c env ds H ⟨dst, .call { callee := .builtin .append, args := #[s, x], argTypes := #[t, tn] }, ty, pos, af, g⟩ (fun p : { p : Option Addr × Nat // N ≤ p.2 } => .slice p.1.1 N p.1.2) (fun p => ownR (.slice p.1.1 N p.1.2) e size N zs :: F) := fun a w ha hw => by
  subst hN hz
  obtain ⟨ht, ⟨i, hi, hz, rfl, rfl⟩, hzs, hsz⟩ := hT
  have hown : Sown w e i.size (.slice ao n cap) n xs := hw.get tk
  have hl := hown.1
  rcases hown.2 with ⟨he, rfl⟩ | ⟨b, o, cap', cur, he, hgb, hnc, hcm2, hfit, hcur⟩
  · omega
  cases he
  have holds : ∀ j u, xs[j]? = some u → w.cell? ((⟨b, o, none⟩ : Addr).add j) = some u := fun j u hj => by
    rw [Addr.add_lit, cell_of_row w b (o + j) cur e (0, 0) hgb]; exact hcur j u hj
  have hsmall : n + m ≤ 9223372036854775807 := by simp only [maxLen] at h63; omega
  have hm : m * i.bytes ≤ 281474976710656 := by rw [Nat.add_mul] at hb; omega
  have hr := run_append_grow_zeros (P := c.P) w t tn ty e i z k kn ht htn hi hz ⟨b, o, none⟩ n cap xs hl holds m h0m hsz (by omega) (by omega) hm (growslice_fits (by omega) hb)
  have hge := grownCap_ge w (n + m) cap e
  have hcm : grownCap w (n + m) cap e ≤ maxLen := grownCap_le_maxLen w (n + m) cap e h63
  refine ⟨⟨(some ⟨w.heap.size, 0, none⟩, grownCap w (n + m) cap e), hge⟩, w.drew.alloc (.cells (xs.toArray ++ Builtin.zeroCells z.cells m ++ Builtin.zeroCells z.cells (grownCap w (n + m) cap e - (n + m))) e), ?_, hw.turn tk ((Chg.drew _ w).trans (Chg.alloc _ _ _)) ⟨?_, .inr ⟨w.heap.size, 0, _, _, rfl, heap_alloc_new w.drew _, hge, hcm, ?_, ?_⟩⟩ (fun k hk => .inr ?_)⟩
  · simp only [execOp, resolve, invoke, builtin, Sem.run_bind, Sem.run_pure, Result.andThen_ok, List.map_toArray, List.map_cons, List.map_nil, ha.ev hs, ha.ev hx, hr]
  · rw [List.length_append, hl, Array.length_toList, size_zeroCells, hzs, Nat.add_mul]
  · simp only [Array.size_append, List.size_toArray, size_zeroCells, hzs, hl, ← Nat.add_mul, Nat.zero_add]
    apply Nat.le_of_eq
    congr 1
    omega
  · intro j u hj
    simp only [Nat.zero_add]
    rw [Array.getElem?_append_left (by simp only [Array.size_append, List.size_toArray]; have := (List.getElem?_eq_some_iff.1 hj).1; simpa using this)]
    rw [← Array.getElem?_toList]
    simpa using hj
  · cases hk; simp

theorem Yl.convG {src dstT : TypeId} {x : Operand} {u v : Value} (hx : ev env x = some u) (h : ∀ w, (convert src dstT u).run c.P w = .ok v w) : Yl c env ds H ⟨dst, .convert src dstT x, ty, pos, af, g⟩ v := fun a w ha _ => by
  simp [execOp, ha.ev hx, h w]
theorem Yl.convId {src dstT : TypeId} {x : Operand} {u : Value} (hx : ev env x = some u) (h : ∀ w, (convert src dstT u).run c.P w = .ok u w) : Yl c env ds H ⟨dst, .convert src dstT x, ty, pos, af, g⟩ u := Yl.convG hx h
theorem Yl.fieldG {t : TypeId} {x : Operand} {f : Nat} {u v : Value} (hx : ev env x = some u) (h : ∀ w, (Instr.field t u f).run c.P w = .ok v w) : Yl c env ds H ⟨dst, .field t x f, ty, pos, af, g⟩ v := fun a w ha _ => by
  simp [execOp, ha.ev hx, h w]
end
end Go.Proofs.YtfobhdmhjjafcaaGreatDoorRR
