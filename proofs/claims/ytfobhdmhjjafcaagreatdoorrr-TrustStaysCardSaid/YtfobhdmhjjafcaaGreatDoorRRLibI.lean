/- cap; an element of an array that is a value; append of make (zeros) onto nil: rules. -/
import Derived.Test.YtfobhdmhjjafcaaGreatDoorRRLibN
import Derived.Test.YtfobhdmhjjafcaaGreatDoorRRLibQ
namespace Go.Proofs.YtfobhdmhjjafcaaGreatDoorRR
open Go Go.RowKit

theorem run_append_nil_zeros {P : Program} (w : World) (t tn ty e : TypeId) (i : TypeInfo) (z : Value) (k kn : IntKind) (ht : P.underlying t = some (.slice e)) (htn : P.underlying tn = some (.int kn)) (hi : P.info? e = some i) (hz : i.zero = some z)
    (n : Nat) (h0 : 0 < n) (hs : i.size = 1) (h63 : (n : Int) ≤ 9223372036854775807) (h48 : n * i.bytes ≤ 281474976710656) (hfit : Builtin.nextslicecap n 0 * i.bytes ≤ 281474976710656) :
    (Builtin.append_ #[t, tn] ty #[.slice none 0 0, .int k n]).run P w =
      .ok (.slice (some ⟨w.heap.size, 0, none⟩) n (grownCap w n 0 e))
        (w.drew.alloc (.cells (Builtin.zeroCells z.cells n ++ Builtin.zeroCells z.cells (grownCap w n 0 e - n)) e)) := by
  have h63' : ¬ (9223372036854775807 < (n : Int)) := by omega
  have h48' : ¬ (281474976710656 < Builtin.nextslicecap n 0 * i.bytes) := by omega
  have h48i : ¬ (281474976710656 < (n : Int) * (i.bytes : Int)) := by
    rw [← Int.natCast_mul]
    omega
  have hw : IntKind.i64.wrap (n : Int) = n := by rw [IntKind.wrap_i64]; omega
  have hneg : ¬ ((n : Int) < 0) := by omega
  have hns : ¬ (n * i.size = 0) := Nat.mul_ne_zero (by omega) (by omega)
  have hn0 : ¬ n = 0 := by omega
  simp [Builtin.append_, run_underlying ht, run_underlying htn, sizeOf, typeInfo, zeroValue, hi, hz, asInt, asIntOf, hw, hneg, hs, hn0, h63', h48', h48i, Question.forced, Builtin.firstCells, loadCells, loadCellsFrom, newRow, grownCap]

section
variable {c : Cx} {env : Env} {ds : List Deferred} {H F : List Res} {dst : Option Tmp} {ty : TypeId} {pos : String} {af : Array Edge} {g : Option (Nat × Bool)}

theorem Yl.cap {t e : TypeId} {x : Operand} {ao : Option Addr} {n cap : Nat} (hu : c.P.underlying t = some (.slice e)) (hx : ev env x = some (.slice ao n cap)) : Yl c env ds H ⟨dst, .call { callee := .builtin .cap, args := #[x], argTypes := #[t] }, ty, pos, af, g⟩ (.int .i64 (cap : Int)) := fun a w ha _ => by
  simp [execOp, resolve, invoke, builtin, Builtin.cap_, ha.ev hx, run_underlying hu, goInt]

theorem Yl.idx {t e : TypeId} {x i : Operand} {k : IntKind} {z : Int} {j n : Nat} {cs : List Value} {v : Value} (hu : c.P.underlying t = some (.array n e)) (hsz : (c.P.info? e).map (·.size) = some 1) (ho : isOne c.P e = true) (hx : ev env x = some (.agg cs.toArray)) (hi : ev env i = some (.int k z)) (hz : z = (j : Int)) (hj : j < n) (hv : cs[j]? = some v) :
    Yl c env ds H ⟨dst, .index t x i, ty, pos, af, g⟩ v := fun a w ha _ => by
  subst hz
  have hagg : (isAgg e).run c.P w = .ok false w := by
    unfold isOne at ho
    cases hu : c.P.underlying e with
    | none => rw [hu] at ho; cases ho
    | some d =>
      rw [hu] at ho
      unfold isAgg
      rw [Sem.run_bind, run_underlying hu w]
      cases d <;> simp_all
  have hs : (sizeOf e).run c.P w = .ok 1 w := by
    cases hq : c.P.info? e with
    | none => rw [hq] at hsz; cases hsz
    | some q =>
      rw [hq] at hsz
      simp at hsz
      simp [sizeOf, typeInfo, hq, hsz]
  have hjz : (0 : Int) ≤ (j : Int) ∧ (j : Int) < (n : Int) := ⟨by omega, by omega⟩
  simp [execOp, Instr.index, asIntOf, ha.ev hx, ha.ev hi, run_underlying hu, hjz, hs, part, hagg, hv]
  intro h; omega

/-- the first cells of an array, as a slice -/
theorem Yl.sliceArrH {t e : TypeId} {x y : Operand} {n size b o h : Nat} {k : IntKind} (hu : c.P.underlying t = some (.array n e)) (hsz : (c.P.info? e).map (·.size) = some size) (h0 : n ≠ 0) (hx : ev env x = some (.pointer (some ⟨b, o, none⟩))) (hy : ev env y = some (.int k (h : Int))) (hh : h ≤ n) :
    Yl c env ds H ⟨dst, .slice t x none (some y) none, ty, pos, af, g⟩ (.slice (some ⟨b, o, none⟩) h n) := fun a w ha _ => by
  cases hi : c.P.info? e with
  | none => simp [hi] at hsz
  | some i =>
    have hh2 : (h : Int) ≤ (n : Int) := by omega
    simp [execOp, ha.ev hx, ha.ev hy, Instr.sliceAt, run_underlying hu, Instr.sureAddr, Instr.sliceBounds, Instr.sliceBound, asIntOf, sizeOf, typeInfo, hi, h0, hh, hh2, Addr.add]

/-- append of so many zeros onto nil -/
theorem To.appendZ0 {s x : Operand} {t tn e : TypeId} {kn : IntKind} {z : Value} {bytes : Nat} (hT : SlT c.P t e z 1 bytes) (htn : c.P.underlying tn = some (.int kn)) {m : Nat} {k : IntKind} (hs : ev env s = some (.slice none 0 0)) (hx : ev env x = some (.int k (m : Nat)))
    (h0m : 0 < m) {zs : List Value} (hz : (Builtin.zeroCells z.cells m).toList = zs) (h63 : m ≤ maxLen) (hb : m * bytes ≤ 140737488355328) :
    To c env ds H ⟨dst, .call { callee := .builtin .append, args := #[s, x], argTypes := #[t, tn] }, ty, pos, af, g⟩ (fun p : { p : Nat × Nat // m ≤ p.2 } => .slice (some ⟨p.1.1, 0, none⟩) m p.1.2) (fun p => ownR (.slice (some ⟨p.1.1, 0, none⟩) m p.1.2) e 1 m zs :: H) := fun a w ha hw => by
  subst hz
  obtain ⟨ht, ⟨i, hi, hz, hsz1, rfl⟩, hzs, hsz⟩ := hT
  have hsmall : m ≤ 9223372036854775807 := by simp only [maxLen] at h63; omega
  have hfit := growslice_fits (need := 0 + m) (old := 0) (bytes := i.bytes) (by omega) (by simpa using hb)
  have hge := grownCap_ge w m 0 e
  have hcm : grownCap w m 0 e ≤ maxLen := grownCap_le_maxLen w m 0 e h63
  have hr := run_append_nil_zeros (P := c.P) w t tn ty e i z k kn ht htn hi hz m h0m hsz1 (by omega) (by omega) (by simpa using hfit)
  refine ⟨⟨(w.heap.size, grownCap w m 0 e), hge⟩, w.drew.alloc (.cells (Builtin.zeroCells z.cells m ++ Builtin.zeroCells z.cells (grownCap w m 0 e - m)) e), ?_, ?_⟩
  · simp only [execOp, resolve, invoke, builtin, Sem.run_bind, Sem.run_pure, Result.andThen_ok, List.map_toArray, List.map_cons, List.map_nil, ha.ev hs, ha.ev hx, hr]
  · have h1 := ((hw.drew).addNil e 1)
    have hsown : Sown (w.drew.alloc (.cells (Builtin.zeroCells z.cells m ++ Builtin.zeroCells z.cells (grownCap w m 0 e - m)) e)) e 1 (.slice (some ⟨w.heap.size, 0, none⟩) m (grownCap w m 0 e)) m (Builtin.zeroCells z.cells m).toList := by
      refine ⟨by rw [Array.length_toList, size_zeroCells, hzs], .inr ⟨w.heap.size, 0, _, _, rfl, heap_alloc_new w.drew _, hge, hcm, ?_, ?_⟩⟩
      · simp only [Array.size_append, size_zeroCells, hzs, Nat.zero_add]; omega
      · intro j u hj
        simp only [Nat.zero_add]
        rw [Array.getElem?_append_left (by have := (List.getElem?_eq_some_iff.1 hj).1; simpa using this)]
        simpa using hj
    exact h1.turn .head (Chg.alloc _ _ _) hsown (fun k hk => .inr (by cases hk; exact Nat.le_refl _))
end
section
variable {c : Cx} {ops : Array Oper} {Hs : List Res} {Q : SQ} {fuel : Nat} {listed : Array Bool} {env : Env} {ds : List Deferred} {H : List Res}
theorem WD.four (i j l m : Nat) (hr : Region.ready .any ops listed = [i, j, l, m]) (h1 : WO c ops Hs Q fuel listed env ds H i) (h2 : WO c ops Hs Q fuel listed env ds H j) (h3 : WO c ops Hs Q fuel listed env ds H l) (h4 : WO c ops Hs Q fuel listed env ds H m) : WD c ops Hs Q (fuel + 1) listed env ds H :=
  WD.all [i, j, l, m] hr (by simp) fun k hk => by
    simp at hk
    rcases hk with rfl | rfl | rfl | rfl
    · exact h1
    · exact h2
    · exact h3
    · exact h4
end
section
variable {c : Cx} {Q : SQ} {env : Env} {ds : List Deferred} {H : List Res}
/-- Ways that meet; of the temporaries only those named are known from there on. -/
theorem WC.midX {x y : Code} {α : Type} (new : α → Env) (R : α → List Res) (ok : α → Prop) (h : WC c x (thenS (fun env' ds' H' => ds' = ds ∧ ∃ z, ok z ∧ Sub (new z) env' ∧ ∃ F, TakeL H' (R z) F) Q) env ds H) (k : ∀ z, ok z → WC c y Q (new z) ds (R z)) : WC c (.seq x y) Q env ds H :=
  WC.seq (h.mono (by
    intro e env' ds' H' hq
    cases e with
    | normal =>
      obtain ⟨rfl, z, hz, h1, F, ht⟩ := hq
      exact WC.weaken h1 ht (k z hz)
    | _ => exact hq))
end
end Go.Proofs.YtfobhdmhjjafcaaGreatDoorRR
