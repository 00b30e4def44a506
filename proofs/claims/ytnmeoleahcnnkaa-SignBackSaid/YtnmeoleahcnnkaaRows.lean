/-
  No cell of these rows narrows 'for every input' (looked for: loops, veiled, ifaces, maps, wideKeys, modest, calm, conditions, laid).
  DERIVED. THE GIVEN ROWS OF THIS SEAT. 4 by the template 'for every input the law returns true; each argument reads behind the call as it read before'; 0 by the template 'total and deterministic' (their statements: YtnmeoleahcnnkaaTotals.lean).
  GIVEN WITH THE SEED: the statements are not yours to turn. If you find one false, say at which input.
  Laid BY PROGRAM, IN A SANDBOX (cutbox-rows.mjs): the forced cells as the released guide's own fill.sh prints them over the translation ad41f49d34a23d77… (all of the seat's roots in one cut). By AI agents, Wed Nov 11 2026. No macro, syntax, notation, axiom, sorry.
-/
import Derived.Test.YtnmeoleahcnnkaaChecked
import GoSem.Claim
import GoSem.ClaimJoined
import GoSem.ClaimMapViews
import Derived.JoinedTies
import Derived.KernelRfl
namespace Go.Proofs.Ytnmeoleahcnnkaa
/- THE CELL 'sum', in the pinned program and in every row, IS THE sha256 OF THE DUMP (.gsa) THAT YtnmeoleahcnnkaaProg.lean LOADS. Nothing in Lean hashes anything: it is a label: what it is worth is what the hold of that sum in a sandbox is worth. -/
noncomputable def Try.pinned : Pinned := { name := "ytnmeoleahcnnkaa", sum := "ad41f49d34a23d775600a77d850f63a55d6441fe9ebe94899bdc01690209c727", checked := Try.checked }
namespace Rows
def none {H : Type} : Left H := { results := [], args := [] }

/-- 'hailerlaw09.SignKnown': WHATEVER THE INPUT: true; the input reads as it did. -/
def signKnownSpec : ChangeSpec := { name := "signKnown", fn := fun _ => fun
  | [] => { results := [.lit (.bool true)], args := [] }
  | _ => none }
def signKnownRow : OpenClaim := { program := "ytnmeoleahcnnkaa", sum := "ad41f49d34a23d775600a77d850f63a55d6441fe9ebe94899bdc01690209c727", func := "hailer/hailerlaw09.SignKnown", spec := "signKnown", unfollowed := true, recurses := true, apart := false }
def SignKnownSaid : Prop := signKnownRow.holds Try.pinned (OpenSpec.ofChange signKnownSpec)

/-- ITS FALSE NEIGHBOUR: 'it returns false'. Refute it at one input. -/
def signKnownWrong : ChangeSpec := { name := "signKnown", fn := fun _ => fun
  | [] => { results := [.lit (.bool false)], args := [] }
  | _ => none }
def SignKnownWrongFalsely : Prop := signKnownRow.holds Try.pinned (OpenSpec.ofChange signKnownWrong)

/-- 'hailerlaw09.SignPuts': WHATEVER THE INPUT: true; the input reads as it did. -/
def signPutsSpec : ChangeSpec := { name := "signPuts", fn := fun _ => fun
  | [d] => { results := [.lit (.bool true)], args := [d] }
  | _ => none }
def signPutsRow : OpenClaim := { program := "ytnmeoleahcnnkaa", sum := "ad41f49d34a23d775600a77d850f63a55d6441fe9ebe94899bdc01690209c727", func := "hailer/hailerlaw09.SignPuts", spec := "signPuts", unfollowed := true, recurses := true, apart := false }
def SignPutsSaid : Prop := signPutsRow.holds Try.pinned (OpenSpec.ofChange signPutsSpec)

/-- ITS FALSE NEIGHBOUR: 'it returns false'. Refute it at one input. -/
def signPutsWrong : ChangeSpec := { name := "signPuts", fn := fun _ => fun
  | [d] => { results := [.lit (.bool false)], args := [d] }
  | _ => none }
def SignPutsWrongFalsely : Prop := signPutsRow.holds Try.pinned (OpenSpec.ofChange signPutsWrong)

/-- 'hailerlaw09.SignTakes': WHATEVER THE INPUT: true; the input reads as it did. -/
def signTakesSpec : ChangeSpec := { name := "signTakes", fn := fun _ => fun
  | [d] => { results := [.lit (.bool true)], args := [d] }
  | _ => none }
def signTakesRow : OpenClaim := { program := "ytnmeoleahcnnkaa", sum := "ad41f49d34a23d775600a77d850f63a55d6441fe9ebe94899bdc01690209c727", func := "hailer/hailerlaw09.SignTakes", spec := "signTakes", unfollowed := true, recurses := true, apart := false }
def SignTakesSaid : Prop := signTakesRow.holds Try.pinned (OpenSpec.ofChange signTakesSpec)

/-- ITS FALSE NEIGHBOUR: 'it returns false'. Refute it at one input. -/
def signTakesWrong : ChangeSpec := { name := "signTakes", fn := fun _ => fun
  | [d] => { results := [.lit (.bool false)], args := [d] }
  | _ => none }
def SignTakesWrongFalsely : Prop := signTakesRow.holds Try.pinned (OpenSpec.ofChange signTakesWrong)

/-- 'hailerlaw09.SignBack': WHATEVER THE INPUT: true; the input reads as it did. -/
def signBackSpec : ChangeSpec := { name := "signBack", fn := fun _ => fun
  | [d1, d2, d3] => { results := [.lit (.bool true)], args := [d1, d2, d3] }
  | _ => none }
def signBackRow : OpenClaim := { program := "ytnmeoleahcnnkaa", sum := "ad41f49d34a23d775600a77d850f63a55d6441fe9ebe94899bdc01690209c727", func := "hailer/hailerlaw09.SignBack", spec := "signBack", unfollowed := true, recurses := true, apart := false }
def SignBackSaid : Prop := signBackRow.holds Try.pinned (OpenSpec.ofChange signBackSpec)

/-- ITS FALSE NEIGHBOUR: 'it returns false'. Refute it at one input. -/
def signBackWrong : ChangeSpec := { name := "signBack", fn := fun _ => fun
  | [d1, d2, d3] => { results := [.lit (.bool false)], args := [d1, d2, d3] }
  | _ => none }
def SignBackWrongFalsely : Prop := signBackRow.holds Try.pinned (OpenSpec.ofChange signBackWrong)

/- THE SECOND FORM. 'bulk': how many values and letters a reading holds, each counted each time it is reached (what is shared counts as often as it is met; a slice's spare places count too). A statement '..UptoSaid' is the law's where the arguments, and the package variables that the reading takes, are together of bulk at most 1048576: NARROWER than '..Said'. Prove '..Said' where nothing that the law and all that it calls make is longer than what came in: it says more and counts as full. Else prove '..UptoSaid'. A law counts once. -/
mutual
def uptoBulk {H : Type} : DataW H → Nat
  | .lit (.string bytes) => bytes.length + 1
  | .lit _ => 1
  | .nil => 1
  | .ptr d => uptoBulk d + 1
  | .slice elems spare => uptoBulkAll elems + uptoBulkAll spare + 1
  | .agg parts => uptoBulkAll parts + 1
  | .iface _ d => uptoBulk d + 1
  | .map entries => uptoBulkEntries entries + 1
  | .held _ => 1
def uptoBulkAll {H : Type} : List (DataW H) → Nat
  | [] => 0
  | d :: r => uptoBulk d + uptoBulkAll r
def uptoBulkEntries {H : Type} : List (Lit × DataW H) → Nat
  | [] => 0
  | x :: r => uptoBulkEntry x + uptoBulkEntries r
def uptoBulkEntry {H : Type} : Lit × DataW H → Nat
  | (.string bytes, d) => bytes.length + uptoBulk d + 1
  | (_, d) => uptoBulk d + 1
 end
def uptoSmall : (H : Type) → List (DataW H) → Bool := fun _ ds => decide (uptoBulkAll ds ≤ 1048576)
def OpenSpec.upto (s : _root_.Go.ChangeSpec) : _root_.Go.OpenSpec := { _root_.Go.OpenSpec.ofChange s with cond := some uptoSmall }

/-- 'hailerlaw09.SignKnown', WHERE WHAT IT READS IS OF BULK AT MOST 1048576: true; the input reads as it did. -/
def signKnownUptoRow : OpenClaim := { program := "ytnmeoleahcnnkaa", sum := "ad41f49d34a23d775600a77d850f63a55d6441fe9ebe94899bdc01690209c727", func := "hailer/hailerlaw09.SignKnown", spec := "signKnown", unfollowed := true, recurses := true, apart := false, narrowed := true }
def SignKnownUptoSaid : Prop := signKnownUptoRow.holds Try.pinned (OpenSpec.upto signKnownSpec)

/-- 'hailerlaw09.SignPuts', WHERE WHAT IT READS IS OF BULK AT MOST 1048576: true; the input reads as it did. -/
def signPutsUptoRow : OpenClaim := { program := "ytnmeoleahcnnkaa", sum := "ad41f49d34a23d775600a77d850f63a55d6441fe9ebe94899bdc01690209c727", func := "hailer/hailerlaw09.SignPuts", spec := "signPuts", unfollowed := true, recurses := true, apart := false, narrowed := true }
def SignPutsUptoSaid : Prop := signPutsUptoRow.holds Try.pinned (OpenSpec.upto signPutsSpec)

/-- 'hailerlaw09.SignTakes', WHERE WHAT IT READS IS OF BULK AT MOST 1048576: true; the input reads as it did. -/
def signTakesUptoRow : OpenClaim := { program := "ytnmeoleahcnnkaa", sum := "ad41f49d34a23d775600a77d850f63a55d6441fe9ebe94899bdc01690209c727", func := "hailer/hailerlaw09.SignTakes", spec := "signTakes", unfollowed := true, recurses := true, apart := false, narrowed := true }
def SignTakesUptoSaid : Prop := signTakesUptoRow.holds Try.pinned (OpenSpec.upto signTakesSpec)

/-- 'hailerlaw09.SignBack', WHERE WHAT IT READS IS OF BULK AT MOST 1048576: true; the input reads as it did. -/
def signBackUptoRow : OpenClaim := { program := "ytnmeoleahcnnkaa", sum := "ad41f49d34a23d775600a77d850f63a55d6441fe9ebe94899bdc01690209c727", func := "hailer/hailerlaw09.SignBack", spec := "signBack", unfollowed := true, recurses := true, apart := false, narrowed := true }
def SignBackUptoSaid : Prop := signBackUptoRow.holds Try.pinned (OpenSpec.upto signBackSpec)

end Rows
end Go.Proofs.Ytnmeoleahcnnkaa
