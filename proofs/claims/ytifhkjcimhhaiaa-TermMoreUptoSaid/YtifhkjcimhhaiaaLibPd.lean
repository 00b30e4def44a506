/- Predicates of many arguments, handed over. General lemmas of this claim's own, about no program in particular. -/
import Derived.Test.YtifhkjcimhhaiaaLibQ
namespace Go.Proofs.Ytifhkjcimhhaiaa
open Go Go.RowKit
variable {c : Cx} {H A F : List Res}
/-- A function value that tells p of each good thing (told by values), and changes nothing, whatever becomes of what may be written. -/
structure PredN (P : Program) (w : World) (T : Pm) (f : FuncId) (cap : List Value) {α : Type} (G : α → Prop) (vals : α → List Value) (p : α → Bool) : Prop where
  en : ∀ args w, (callFunc f args).run P w = .ok (.enter f args) w
  gives : ∀ w', Chg T.wr w w' → ∀ x, G x → Fn P f (vals x ++ cap) [] w' (fun _ : Unit => True) (fun _ => .bool (p x)) (fun _ => [])
theorem PredN.now {w : World} {f : FuncId} {cap : List Value} {α : Type} {G : α → Prop} {vals : α → List Value} {p : α → Bool} (h : PredN c.P c.w0 c.S f cap G vals p) (hw : OK c.w0 c.S H w) {x : α} (hx : G x) : Fn c.P f (vals x ++ cap) [] w (fun _ : Unit => True) (fun _ => .bool (p x)) (fun _ => []) := h.gives w hw.chg x hx
end Go.Proofs.Ytifhkjcimhhaiaa
