/- Fields of an element of a row: general lemmas of this claim's own, about no program in particular. -/
import Derived.Test.YtbgimajbehodnaaGreatDoorLibR
import Derived.Test.YtbgimajbehodnaaGreatDoorLibQ
namespace Go.Proofs.YtbgimajbehodnaaGreatDoor
open Go Go.RowKit
section
variable {c : Cx} {env : Env} {ds : List Deferred} {H : List Res} {dst : Option Tmp} {ty : TypeId} {pos : String} {af : Array Edge} {g : Option (Nat × Bool)}
theorem VT.cell {P : Program} {e : TypeId} {s : Nat} {α : Type} {G : α → Prop} {val : α → Value} (h : VT P e s G val) {xs : List α} (hx : ∀ x ∈ xs, G x) {j : Nat} {x : α} (hj : xs[j]? = some x) {k : Nat} {y : Value} (hk : (val x).cells.toList[k]? = some y) : (vcs val xs)[j * s + k]? = some y := by
  have hl := h.len (hx x (List.mem_of_getElem? hj))
  have hks : k < s := by rw [← hl]; exact (List.getElem?_eq_some_iff.1 hk).1
  rw [← h.at hx hj, List.getElem?_take_of_lt hks, List.getElem?_drop] at hk
  exact hk
theorem VT.room {P : Program} {e : TypeId} {s : Nat} {α : Type} {G : α → Prop} {val : α → Value} (h : VT P e s G val) {xs : List α} (hx : ∀ x ∈ xs, G x) {j : Nat} {x : α} (hj : xs[j]? = some x) : j * s + s ≤ (vcs val xs).length := by
  rw [h.size hx]
  have hjl := (List.getElem?_eq_some_iff.1 hj).1
  have := Nat.mul_le_mul_right s (show j + 1 ≤ xs.length by omega)
  rw [Nat.succ_mul] at this
  exact this
theorem Yl.fieldE {t e : TypeId} {x : Operand} {f off j n s : Nat} {v : Value} {α : Type} {G : α → Prop} {val : α → Value} {xs : List α} {u : α} (h : fieldOff c.P t f = some off) (hx : ev env x = some (elemP v j s)) (hv : VT c.P e s G val) (hG : ∀ x ∈ xs, G x) (hr : Reads c H v s n (vcs val xs)) (hj : xs[j]? = some u) : Yl c env ds H ⟨dst, .fieldAddr t x f, ty, pos, af, g⟩ (elemO v (j * s + off)) :=
  Yl.fieldV (k := j * s) h hx hr (by have := hv.room hG hj; have := hv.pos; omega)
theorem Yl.loadF {t e : TypeId} {x : Operand} {off j n s : Nat} {v y : Value} {α : Type} {G : α → Prop} {val : α → Value} {xs : List α} {u : α} (ho : isOne c.P t = true) (hx : ev env x = some (elemO v (j * s + off))) (hv : VT c.P e s G val) (hG : ∀ x ∈ xs, G x) (hr : Reads c H v s n (vcs val xs)) (hj : xs[j]? = some u) (hk : (val u).cells.toList[off]? = some y) : Yl c env ds H ⟨dst, .load t x, ty, pos, af, g⟩ y :=
  Yl.loadO ho hx hr (hv.cell hG hj hk)
end
end Go.Proofs.YtbgimajbehodnaaGreatDoor
