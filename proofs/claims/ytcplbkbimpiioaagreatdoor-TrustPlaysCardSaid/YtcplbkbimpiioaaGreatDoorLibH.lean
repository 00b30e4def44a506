/- Owned rows shifted in themselves: copy and append within a row, rows made longer into their spare cells, rows grown while the old one lives on; calls of the library that the model answers at once: rules. -/
import Derived.Test.YtcplbkbimpiioaaGreatDoorLibI
import Derived.Test.YtcplbkbimpiioaaGreatDoorLibK
import Derived.Lib.Overlaps
namespace Go.Proofs.YtcplbkbimpiioaaGreatDoor
open Go Go.RowKit

theorem sub0 {ao : Option Addr} {n h cap s : Nat} : subS (.slice ao n cap) 0 h cap s = .slice ao h cap := by
  unfold subS
  cases ao with
  | none => simp
  | some a => simp [Addr.add]

section
variable {c : Cx} {Q : SQ} {env : Env} {ds : List Deferred} {H F A : List Res} {ops : Array Oper} {rest : List Oper} {d : Nat} {op : Op} {dst : Option Tmp} {ty : TypeId} {pos : String} {af : Array Edge} {g : Option (Nat × Bool)}

theorem WL.viewX {l : List Oper} {α : Type} {φ : α → Prop} {H' : α → List Res} (h : ∀ w, OK c.w0 c.S H w → ∃ x, φ x ∧ OK c.w0 c.S (H' x) w) (k : ∀ x, φ x → WL c ops Q l env ds (H' x)) : WL c ops Q l env ds H :=
  ⟨fun a w ha hw => by obtain ⟨x, hx, h2⟩ := h w hw; exact (k x hx).run a w ha h2⟩
theorem WC.viewX {l : Code} {α : Type} {φ : α → Prop} {H' : α → List Res} (h : ∀ w, OK c.w0 c.S H w → ∃ x, φ x ∧ OK c.w0 c.S (H' x) w) (k : ∀ x, φ x → WC c l Q env ds (H' x)) : WC c l Q env ds H :=
  ⟨fun a w ha hw => by obtain ⟨x, hx, h2⟩ := h w hw; exact (k x hx).run a w ha h2⟩
theorem OK.apart {w0 : World} {S : Pm} {w : World} {r s : Res} (hw : OK w0 S H w) (t : TakeL H [r, s] F) : ∀ k, r.wr k → s.fp k → False := by
  have h := (hw.perm t.perm).dis
  exact fun k a b => ((List.pairwise_cons.1 h).1 s (by simp)).1 k a b
/-- A call that the model answers at once. -/
theorem Yl.callExt {f : Operand} {xs : List Operand} {ts : Array TypeId} {fid : FuncId} {vs : List Value} {v : Value}
    (hf : ev env f = some (.func (.func fid) #[] #[])) (hx : evs env xs = some vs) (h : ∀ w, OK c.w0 c.S H w → (callFunc fid vs.toArray).run c.P w = .ok (.value v) w) :
    Yl c env ds H ⟨dst, .call { callee := .value f, args := xs.toArray, argTypes := ts }, ty, pos, af, g⟩ v := fun a w ha hw => by
  simp only [execOp, resolve, Deferred.ofValue, ha.ev hf, invoke, Sem.run_bind, Sem.run_pure, Result.andThen_ok, List.map_toArray, ha.evs hx, Array.empty_append, List.append_toArray, Array.append_empty]
  exact h w hw
theorem Yl.loadNRo {t : TypeId} {x : Operand} {b o n : Nat} {T : TypeId} {cs cs' : List Value} (ho : aggB c.P t n = true) (hx : ev env x = some (.pointer (some ⟨b, o, none⟩))) (tk : Take1 H (roR (blkR b T cs)) F) (hl : Nat.ble (o + n) cs.length = true) (he : (cs.drop o).take n = cs') : Yl c env ds H ⟨dst, .load t x, ty, pos, af, g⟩ (.agg cs'.toArray) := fun a w ha hw => by
  replace hl : o + n ≤ cs.length := Nat.le_of_ble_eq_true hl
  have hb : w.heap[b]? = some (.cells cs.toArray T (0, 0)) := hw.get tk
  subst he
  have := run_loadAt_agg (P := c.P) (cs := (cs.drop o).take n) ho (by simp; omega) (b := b) (o := o) (w := w) (fun j v hj => by
    rw [cell_of_row w b (o + j) _ T (0, 0) hb]
    rw [List.getElem?_take] at hj
    split at hj
    · rw [List.getElem?_drop] at hj; simpa using hj
    · cases hj)
  simp [execOp, ha.ev hx, this]
/-- s[l:h:m]. -/
theorem Yl.slice3L {t e : TypeId} {x y z q : Operand} {size n cap : Nat} {ao : Option Addr} {l h m : Nat} {k k' k2 : IntKind} (hu : c.P.underlying t = some (.slice e)) (hsz : (c.P.info? e).map (·.size) = some size)
    (hx : ev env x = some (.slice ao n cap)) (hq : ev env q = some (.int k2 (l : Int))) (hy : ev env y = some (.int k (h : Int))) (hz : ev env z = some (.int k' (m : Int)))
    (h0 : l ≤ h) (h1 : h ≤ m) (h2 : m ≤ cap) : Yl c env ds H ⟨dst, .slice t x (some q) (some y) (some z), ty, pos, af, g⟩ (subS (.slice ao n cap) l h m size) := fun a w ha _ => by
  cases hi' : c.P.info? e with
  | none => simp [hi'] at hsz
  | some i =>
    have hs : i.size = size := by simpa [hi'] using hsz
    simp [execOp, ha.ev hx, ha.ev hy, ha.ev hz, ha.ev hq, Instr.sliceAt, Instr.slice, run_underlying hu, Instr.sliceBounds, Instr.sliceBound, asIntOf, sizeOf, typeInfo, hi', hs, subS, h0, h1, h2]
end

end Go.Proofs.YtcplbkbimpiioaaGreatDoor
