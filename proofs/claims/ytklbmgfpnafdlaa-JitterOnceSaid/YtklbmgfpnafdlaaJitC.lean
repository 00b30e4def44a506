/- Buffers as resources. -/
import Derived.Test.YtklbmgfpnafdlaaJitA
namespace Go.Proofs.Ytklbmgfpnafdlaa
open Go Go.RowKit
theorem en64 : ∀ args w, (callFunc 64 args).run Try.prog w = .ok (.enter 64 args) w := enters Try.func64 (by kernel_rfl) rfl
def vI (v : Value) : Value := v
def jb (T : TypeId) (b m : Nat) (B : Jb) : List Res := [blkR b T (B.cells m), mapR (Value.int .u64) vI m B.m]
theorem U6.wf {x : Int} (h : U6 x) : (Lit.int .u64 x).wf = true := by
  rw [Lit.wf_int_iff]
  have e1 : IntKind.u64.min = 0 := by decide
  have e2 : IntKind.u64.max = 18446744073709551615 := by decide
  have h1 := h.1
  have h2 := h.2
  rw [e1, e2]
  omega
theorem keyU : KeyT Try.prog 22 U6 (Value.int .u64) :=
  have k := KeyT.int (P := Try.prog) (k := 22) (q := .u64) un22
  ⟨k.keyed, fun x hx => k.key x hx.wf, fun x y hx hy => k.inj x y hx.wf hy.wf⟩
theorem mapI (o : Option Value) : o.map vI = o := by cases o <;> rfl
theorem due_split {B : Jb} (ctr : Int) (h : U6 B.s) : (0 < wr (ctr - B.fi) * B.s / 18446744073709551616) = (18446744073709551616 ≤ wr (ctr - B.fi) * B.s) := by
  have : 0 ≤ wr (ctr - B.fi) * B.s := Int.mul_nonneg (wr_u _).1 h.1
  apply propext
  omega
theorem nilM {B : Jb} : decide ((B.m.length : Int) = 0) = B.m.isEmpty := by cases B.m <;> simp; omega
end Go.Proofs.Ytklbmgfpnafdlaa
