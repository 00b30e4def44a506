/- Parts of a row's elements; calls that only read; frozen rows; two results in memory: rules. -/
import Derived.Test.YtbgimajbehodnaaGreatDoorLibQ
namespace Go.Proofs.YtbgimajbehodnaaGreatDoor
open Go Go.RowKit

/-- A place in a row, so many cells on. -/
def elemO (v : Value) (k : Nat) : Value :=
  match v with
  | .slice (some a) _ _ => .pointer (some (a.add k))
  | _ => undef
section
variable {c : Cx} {Q : SQ} {env : Env} {ds : List Deferred} {H F A : List Res} {ops : Array Oper} {rest : List Oper} {d : Nat} {op : Op} {dst : Option Tmp} {ty : TypeId} {pos : String} {af : Array Edge} {g : Option (Nat × Bool)}

theorem Yl.fieldV {t : TypeId} {x : Operand} {f off k n s : Nat} {v : Value} {cs : List Value} (h : fieldOff c.P t f = some off) (hx : ev env x = some (elemO v k)) (hr : Reads c H v s n cs) (hne : 0 < cs.length) : Yl c env ds H ⟨dst, .fieldAddr t x f, ty, pos, af, g⟩ (elemO v (k + off)) := fun a w ha hw => by
  have r := hr w hw
  rcases r.2 with ⟨rfl, rfl⟩ | ⟨ad, cap, rfl, h1, h2, h3⟩
  · have := r.1; omega
  · have hs := (h3 0 cs[0] (List.getElem?_eq_getElem hne)).1
    obtain ⟨b, o, sp⟩ := ad
    cases hs
    simp [execOp, ha.ev hx, elemO, Addr.add_lit, run_fieldAt_of h, Nat.add_assoc]
theorem Yl.loadO {t : TypeId} {x : Operand} {v u : Value} {k n s : Nat} {cs : List Value} (ho : isOne c.P t = true) (hx : ev env x = some (elemO v k)) (hr : Reads c H v s n cs) (hk : cs[k]? = some u) : Yl c env ds H ⟨dst, .load t x, ty, pos, af, g⟩ u := fun a w ha hw => by
  have r := hr w hw
  rcases r.2 with ⟨rfl, rfl⟩ | ⟨ad, cap, rfl, h1, h2, h3⟩
  · have := r.1
    simp at this
    subst this
    simp at hk
  · obtain ⟨hs, hc⟩ := h3 k u hk
    obtain ⟨b, o, sp⟩ := ad
    cases hs
    simp [execOp, ha.ev hx, elemO, Addr.add_lit, run_loadAt_one ho hc]
theorem OK.roOne {w0 : World} {S : Pm} {H F : List Res} {w : World} {r : Res} (h : OK w0 S H w) (t : Take1 H r F) : OK w0 S (roR r :: F) w :=
  h.turnG (r' := roR r) t (Chg.refl _ _) (show r.ok w from h.get t) (fun k hk => hk.elim) (fun k hk => .inl hk)
end

end Go.Proofs.YtbgimajbehodnaaGreatDoor
