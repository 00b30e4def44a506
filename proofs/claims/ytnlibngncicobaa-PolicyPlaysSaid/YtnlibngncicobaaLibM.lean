/- Struct arguments whose fields are flat, or slices: opened field by field. -/
import Derived.Test.YtnlibngncicobaaLibO
import Derived.Test.YtnlibngncicobaaLibZ
import Derived.OpenShut
import Derived.Deep.Slices
namespace Go.Proofs.Ytnlibngncicobaa
open Go Go.RowKit

def fieldAt (P : Program) (t : TypeId) (i : Nat) : Option (TypeId × Nat × Nat) := match P.underlying t with
  | some (.struct fs) => (fs[i]?).map fun f => (f.type, f.offset, P.cellsOf f.type)
  | _ => none

section
variable {H : Type} {enc : TypeId × Value → H} {P : Program} {w : World} {base : Nat} {sp : Nat → Bool} {held : Bool}

end

theorem wf_u16 {n : Int} (h : (Lit.int .u16 n).wf = true) : 0 ≤ n ∧ n < 65536 := by
  rw [Lit.wf_int_iff] at h; have e1 : IntKind.u16.min = 0 := by decide
  have e2 : IntKind.u16.max = 65535 := by decide
  rw [e1, e2] at h; omega
end Go.Proofs.Ytnlibngncicobaa
