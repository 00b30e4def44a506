/- Texts joined by +: a rule (of trust/XTruF). -/
import Derived.Test.YtbgimajbehodnaaGreatDoorLibI
import Derived.Test.YtbgimajbehodnaaGreatDoorLibSt
namespace Go.Proofs.YtbgimajbehodnaaGreatDoor
open Go Go.RowKit
section
variable {c : Cx} {env : Env} {ds : List Deferred} {H : List Res} {dst : Option Tmp} {ty : TypeId} {pos : String} {af : Array Edge} {g : Option (Nat × Bool)}
theorem Yl.sAdd {t t2 : TypeId} {x y : Operand} {xs ys : List Int} (hl : xs.length + ys.length ≤ 9223372036854775807) (hx : ev env x = some (.string (strOfNums xs))) (hy : ev env y = some (.string (strOfNums ys))) : Yl c env ds H ⟨dst, .binOp .add t x y t2, ty, pos, af, g⟩ (.string (strOfNums (xs ++ ys))) := fun a w ha _ => by
  have e : strOfNums xs ++ strOfNums ys = strOfNums (xs ++ ys) := by
    apply ByteArray.ext
    simp [strOfNums]
  have hm : ¬ (((strOfNums xs).size + (strOfNums ys).size : Nat) : Int) > IntKind.i64.max := by
    rw [strOfNums_size, strOfNums_size]
    show ¬ ((xs.length + ys.length : Nat) : Int) > 9223372036854775807
    omega
  simp only [execOp, ha.ev hx, ha.ev hy, eqGuard, binOp, Op.stringOp, hm, e]
  simp [e]
end
end Go.Proofs.YtbgimajbehodnaaGreatDoor
