/- Two results, both in memory, each one cell. -/
import Derived.Test.YtbgimajbehodnaaGreatDoorLibQ
namespace Go.Proofs.YtbgimajbehodnaaGreatDoor
open Go Go.RowKit
theorem retVV {c : Cx} {fn : Func} {R : Ending → World → Prop} {e : Exit} {env : Env} {H F F2 : List Res} {t T b u U b2 : Nat} {T' T2 : TypeId} {cs cs2 : List Value} {v x : Value} (he : e = .normal ∨ e = .ret) (hr : fn.results = #[.cell t T, .cell u U]) (ha : isOne c.P T = true) (ho : isOne c.P U = true)
    (hv : Env.get env t = some (.pointer (some ⟨b, 0, none⟩))) (hx : Env.get env u = some (.pointer (some ⟨b2, 0, none⟩))) (tk : Take1 H (blkR b T' (v :: cs)) F) (tk2 : Take1 H (blkR b2 T2 (x :: cs2)) F2) (h : ∀ w, OK c.w0 c.S H w → R (.returned (.tuple #[v, x])) w) : retS c fn R e env [] H := by
  refine retG he (fun tmps w ht hw => ?_) h
  have h1 : (loadVar T ⟨b, 0, none⟩).run c.P w = .ok v w := by
    have := run_loadAt_one (P := c.P) ha (a := ⟨b, 0, none⟩) (v := v) (w := w) (by simpa using hw.cells tk 0 v rfl)
    simpa [Instr.loadAt, Instr.sureAddr] using this
  have h2 : (loadVar U ⟨b2, 0, none⟩).run c.P w = .ok x w := by
    have := run_loadAt_one (P := c.P) ho (a := ⟨b2, 0, none⟩) (v := x) (w := w) (by simpa using hw.cells tk2 0 x rfl)
    simpa [Instr.loadAt, Instr.sureAddr] using this
  simp [results, hr, ht t _ hv, ht u _ hx, asAddr, h1, h2]
end Go.Proofs.YtbgimajbehodnaaGreatDoor

namespace Go.Proofs.YtbgimajbehodnaaGreatDoor
open Go Go.RowKit
section
variable {c : Cx} {env : Env} {ds : List Deferred} {H : List Res} {dst : Option Tmp} {ty : TypeId} {pos : String} {af : Array Edge} {g : Option (Nat × Bool)}
theorem VT.cell {P : Program} {e : TypeId} {s : Nat} {α : Type} {G : α → Prop} {val : α → Value} (h : VT P e s G val) {xs : List α} (hx : ∀ x ∈ xs, G x) {j : Nat} {x : α} (hj : xs[j]? = some x) {k : Nat} {y : Value} (hk : (val x).cells.toList[k]? = some y) : (vcs val xs)[j * s + k]? = some y := by
  have hl := h.len (hx x (List.mem_of_getElem? hj))
  have hks : k < s := by rw [← hl]; exact (List.getElem?_eq_some_iff.1 hk).1
  rw [← h.at hx hj, List.getElem?_take_of_lt hks, List.getElem?_drop] at hk
  exact hk
theorem VT.room {P : Program} {e : TypeId} {s : Nat} {α : Type} {G : α → Prop} {val : α → Value} (h : VT P e s G val) {xs : List α} (hx : ∀ x ∈ xs, G x) {j : Nat} {x : α} (hj : xs[j]? = some x) : j * s + s ≤ (vcs val xs).length := by
  rw [h.size hx]
  have hjl := (List.getElem?_eq_some_iff.1 hj).1
  have := Nat.mul_le_mul_right s (show j + 1 ≤ xs.length by omega)
  rw [Nat.succ_mul] at this
  exact this
theorem Yl.fieldE {t e : TypeId} {x : Operand} {f off j n s : Nat} {v : Value} {α : Type} {G : α → Prop} {val : α → Value} {xs : List α} {u : α} (h : fieldOff c.P t f = some off) (hx : ev env x = some (elemP v j s)) (hv : VT c.P e s G val) (hG : ∀ x ∈ xs, G x) (hr : Reads c H v s n (vcs val xs)) (hj : xs[j]? = some u) : Yl c env ds H ⟨dst, .fieldAddr t x f, ty, pos, af, g⟩ (elemO v (j * s + off)) :=
  Yl.fieldV (k := j * s) h hx hr (by have := hv.room hG hj; have := hv.pos; omega)
theorem Yl.loadF {t e : TypeId} {x : Operand} {off j n s : Nat} {v y : Value} {α : Type} {G : α → Prop} {val : α → Value} {xs : List α} {u : α} (ho : isOne c.P t = true) (hx : ev env x = some (elemO v (j * s + off))) (hv : VT c.P e s G val) (hG : ∀ x ∈ xs, G x) (hr : Reads c H v s n (vcs val xs)) (hj : xs[j]? = some u) (hk : (val u).cells.toList[off]? = some y) : Yl c env ds H ⟨dst, .load t x, ty, pos, af, g⟩ y :=
  Yl.loadO ho hx hr (hv.cell hG hj hk)
end
end Go.Proofs.YtbgimajbehodnaaGreatDoor
