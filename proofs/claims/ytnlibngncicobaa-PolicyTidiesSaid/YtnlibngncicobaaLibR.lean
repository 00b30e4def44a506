/- Parts of a row's elements; calls that only read; frozen rows; two results in memory: rules. -/
import Derived.Test.YtnlibngncicobaaLibQ
namespace Go.Proofs.Ytnlibngncicobaa
open Go Go.RowKit

section
variable {c : Cx} {Q : SQ} {env : Env} {ds : List Deferred} {H F A : List Res} {ops : Array Oper} {rest : List Oper} {d : Nat} {op : Op} {dst : Option Tmp} {ty : TypeId} {pos : String} {af : Array Edge} {g : Option (Nat × Bool)}

theorem OK.roOne {w0 : World} {S : Pm} {H F : List Res} {w : World} {r : Res} (h : OK w0 S H w) (t : Take1 H r F) : OK w0 S (roR r :: F) w :=
  h.turnG (r' := roR r) t (Chg.refl _ _) (show r.ok w from h.get t) (fun k hk => hk.elim) (fun k hk => .inl hk)
end

/-- Two results, in memory both: one of many cells, one of one. -/
theorem retCV {c : Cx} {fn : Func} {R : Ending → World → Prop} {e : Exit} {env : Env} {H F F2 : List Res} {t T n b u U b2 : Nat} {T' T2 : TypeId} {cs cs2 : List Value} {x : Value} (he : e = .normal ∨ e = .ret) (hr : fn.results = #[.cell t T, .cell u U]) (ha : aggB c.P T n = true) (ho : isOne c.P U = true)
    (hv : Env.get env t = some (.pointer (some ⟨b, 0, none⟩))) (hx : Env.get env u = some (.pointer (some ⟨b2, 0, none⟩))) (tk : Take1 H (blkR b T' cs) F) (tk2 : Take1 H (blkR b2 T2 (x :: cs2)) F2) (hl : cs.length = n) (h : ∀ w, OK c.w0 c.S H w → R (.returned (.tuple #[.agg cs.toArray, x])) w) : retS c fn R e env [] H := by
  refine retG he (fun tmps w ht hw => ?_) h
  have h1 := run_loadVar_agg (P := c.P) ha hl (hw.cells tk)
  have h2 : (loadVar U ⟨b2, 0, none⟩).run c.P w = .ok x w := by
    have := run_loadAt_one (P := c.P) ho (a := ⟨b2, 0, none⟩) (v := x) (w := w) (by simpa using hw.cells tk2 0 x rfl)
    simpa [Instr.loadAt, Instr.sureAddr] using this
  simp [results, hr, ht t _ hv, ht u _ hx, asAddr, h1, h2]
end Go.Proofs.Ytnlibngncicobaa
