/- cap; an element of an array that is a value; append of make (zeros) onto nil: rules. -/
import Derived.Test.YtcplbkbimpiioaaGreatDoorLibN
import Derived.Test.YtcplbkbimpiioaaGreatDoorLibQ
namespace Go.Proofs.YtcplbkbimpiioaaGreatDoor
open Go Go.RowKit

section
variable {c : Cx} {env : Env} {ds : List Deferred} {H F : List Res} {dst : Option Tmp} {ty : TypeId} {pos : String} {af : Array Edge} {g : Option (Nat × Bool)}

theorem Yl.cap {t e : TypeId} {x : Operand} {ao : Option Addr} {n cap : Nat} (hu : c.P.underlying t = some (.slice e)) (hx : ev env x = some (.slice ao n cap)) : Yl c env ds H ⟨dst, .call { callee := .builtin .cap, args := #[x], argTypes := #[t] }, ty, pos, af, g⟩ (.int .i64 (cap : Int)) := fun a w ha _ => by
  simp [execOp, resolve, invoke, builtin, Builtin.cap_, ha.ev hx, run_underlying hu, goInt]

theorem Yl.idx {t e : TypeId} {x i : Operand} {k : IntKind} {z : Int} {j n : Nat} {cs : List Value} {v : Value} (hu : c.P.underlying t = some (.array n e)) (hsz : (c.P.info? e).map (·.size) = some 1) (ho : isOne c.P e = true) (hx : ev env x = some (.agg cs.toArray)) (hi : ev env i = some (.int k z)) (hz : z = (j : Int)) (hj : j < n) (hv : cs[j]? = some v) :
    Yl c env ds H ⟨dst, .index t x i, ty, pos, af, g⟩ v := fun a w ha _ => by
  subst hz
  have hagg : (isAgg e).run c.P w = .ok false w := by
    unfold isOne at ho
    cases hu : c.P.underlying e with
    | none => rw [hu] at ho; cases ho
    | some d =>
      rw [hu] at ho
      unfold isAgg
      rw [Sem.run_bind, run_underlying hu w]
      cases d <;> simp_all
  have hs : (sizeOf e).run c.P w = .ok 1 w := by
    cases hq : c.P.info? e with
    | none => rw [hq] at hsz; cases hsz
    | some q =>
      rw [hq] at hsz
      simp at hsz
      simp [sizeOf, typeInfo, hq, hsz]
  have hjz : (0 : Int) ≤ (j : Int) ∧ (j : Int) < (n : Int) := ⟨by omega, by omega⟩
  simp [execOp, Instr.index, asIntOf, ha.ev hx, ha.ev hi, run_underlying hu, hjz, hs, part, hagg, hv]
  intro h; omega

end
section
variable {c : Cx} {ops : Array Oper} {Hs : List Res} {Q : SQ} {fuel : Nat} {listed : Array Bool} {env : Env} {ds : List Deferred} {H : List Res}
theorem WD.four (i j l m : Nat) (hr : Region.ready .any ops listed = [i, j, l, m]) (h1 : WO c ops Hs Q fuel listed env ds H i) (h2 : WO c ops Hs Q fuel listed env ds H j) (h3 : WO c ops Hs Q fuel listed env ds H l) (h4 : WO c ops Hs Q fuel listed env ds H m) : WD c ops Hs Q (fuel + 1) listed env ds H :=
  WD.all [i, j, l, m] hr (by simp) fun k hk => by
    simp at hk
    rcases hk with rfl | rfl | rfl | rfl
    · exact h1
    · exact h2
    · exact h3
    · exact h4
end
section
variable {c : Cx} {Q : SQ} {env : Env} {ds : List Deferred} {H : List Res}
/-- Ways that meet; of the temporaries only those named are known from there on. -/
theorem WC.midX {x y : Code} {α : Type} (new : α → Env) (R : α → List Res) (ok : α → Prop) (h : WC c x (thenS (fun env' ds' H' => ds' = ds ∧ ∃ z, ok z ∧ Sub (new z) env' ∧ ∃ F, TakeL H' (R z) F) Q) env ds H) (k : ∀ z, ok z → WC c y Q (new z) ds (R z)) : WC c (.seq x y) Q env ds H :=
  WC.seq (h.mono (by
    intro e env' ds' H' hq
    cases e with
    | normal =>
      obtain ⟨rfl, z, hz, h1, F, ht⟩ := hq
      exact WC.weaken h1 ht (k z hz)
    | _ => exact hq))
end
end Go.Proofs.YtcplbkbimpiioaaGreatDoor
