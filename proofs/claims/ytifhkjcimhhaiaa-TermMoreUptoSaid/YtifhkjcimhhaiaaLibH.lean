/- Owned rows shifted in themselves: copy and append within a row, rows made longer into their spare cells, rows grown while the old one lives on; calls of the library that the model answers at once: rules. -/
import Derived.Test.YtifhkjcimhhaiaaLibI
import Derived.Test.YtifhkjcimhhaiaaLibK
import Derived.Lib.Overlaps
namespace Go.Proofs.Ytifhkjcimhhaiaa
open Go Go.RowKit

section
variable {c : Cx} {Q : SQ} {env : Env} {ds : List Deferred} {H F A : List Res} {ops : Array Oper} {rest : List Oper} {d : Nat} {op : Op} {dst : Option Tmp} {ty : TypeId} {pos : String} {af : Array Edge} {g : Option (Nat × Bool)}

theorem OK.apart {w0 : World} {S : Pm} {w : World} {r s : Res} (hw : OK w0 S H w) (t : TakeL H [r, s] F) : ∀ k, r.wr k → s.fp k → False := by
  have h := (hw.perm t.perm).dis
  exact fun k a b => ((List.pairwise_cons.1 h).1 s (by simp)).1 k a b
/-- A call that the model answers at once. -/
theorem Yl.callExt {f : Operand} {xs : List Operand} {ts : Array TypeId} {fid : FuncId} {vs : List Value} {v : Value}
    (hf : ev env f = some (.func (.func fid) #[] #[])) (hx : evs env xs = some vs) (h : ∀ w, OK c.w0 c.S H w → (callFunc fid vs.toArray).run c.P w = .ok (.value v) w) :
    Yl c env ds H ⟨dst, .call { callee := .value f, args := xs.toArray, argTypes := ts }, ty, pos, af, g⟩ v := fun a w ha hw => by
  simp only [execOp, resolve, Deferred.ofValue, ha.ev hf, invoke, Sem.run_bind, Sem.run_pure, Result.andThen_ok, List.map_toArray, ha.evs hx, Array.empty_append, List.append_toArray, Array.append_empty]
  exact h w hw
end

end Go.Proofs.Ytifhkjcimhhaiaa
