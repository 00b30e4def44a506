/- Two results, both in memory, each one cell. -/
import Derived.Test.YtbgimajbehodnaaGreatDoorLibR
namespace Go.Proofs.YtbgimajbehodnaaGreatDoor
open Go Go.RowKit
theorem retVV {c : Cx} {fn : Func} {R : Ending → World → Prop} {e : Exit} {env : Env} {H F F2 : List Res} {t T b u U b2 : Nat} {T' T2 : TypeId} {cs cs2 : List Value} {v x : Value} (he : e = .normal ∨ e = .ret) (hr : fn.results = #[.cell t T, .cell u U]) (ha : isOne c.P T = true) (ho : isOne c.P U = true)
    (hv : Env.get env t = some (.pointer (some ⟨b, 0, none⟩))) (hx : Env.get env u = some (.pointer (some ⟨b2, 0, none⟩))) (tk : Take1 H (blkR b T' (v :: cs)) F) (tk2 : Take1 H (blkR b2 T2 (x :: cs2)) F2) (h : ∀ w, OK c.w0 c.S H w → R (.returned (.tuple #[v, x])) w) : retS c fn R e env [] H := by
  refine retG he (fun tmps w ht hw => ?_) h
  have h1 : (loadVar T ⟨b, 0, none⟩).run c.P w = .ok v w := by
    have := run_loadAt_one (P := c.P) ha (a := ⟨b, 0, none⟩) (v := v) (w := w) (by simpa using hw.cells tk 0 v rfl)
    simpa [Instr.loadAt, Instr.sureAddr] using this
  have h2 : (loadVar U ⟨b2, 0, none⟩).run c.P w = .ok x w := by
    have := run_loadAt_one (P := c.P) ho (a := ⟨b2, 0, none⟩) (v := x) (w := w) (by simpa using hw.cells tk2 0 x rfl)
    simpa [Instr.loadAt, Instr.sureAddr] using this
  simp [results, hr, ht t _ hv, ht u _ hx, asAddr, h1, h2]
end Go.Proofs.YtbgimajbehodnaaGreatDoor
