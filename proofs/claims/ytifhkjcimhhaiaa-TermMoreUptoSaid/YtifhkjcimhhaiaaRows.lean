/-
  No cell of these rows narrows 'for every input' (looked for: loops, veiled, ifaces, maps, wideKeys, modest, calm, conditions, laid).
  DERIVED. THE GIVEN ROWS OF THIS SEAT. 3 by the template 'for every input the law returns true; each argument reads behind the call as it read before'; 0 by the template 'total and deterministic' (their statements: YtifhkjcimhhaiaaTotals.lean).
  GIVEN WITH THE SEED: the statements are not yours to turn. If you find one false, say at which input.
  Laid BY PROGRAM, IN A SANDBOX (cutbox-rows.mjs): the forced cells as the released guide's own fill.sh prints them over the translation 2a12a73f77859231… (all of the seat's roots in one cut). By AI agents, Wed Nov 11 2026. No macro, syntax, notation, axiom, sorry.
-/
import Derived.Test.YtifhkjcimhhaiaaChecked
import GoSem.Claim
import GoSem.ClaimJoined
import GoSem.ClaimMapViews
import Derived.JoinedTies
import Derived.KernelRfl
namespace Go.Proofs.Ytifhkjcimhhaiaa
/- THE CELL 'sum', in the pinned program and in every row, IS THE sha256 OF THE DUMP (.gsa) THAT YtifhkjcimhhaiaaProg.lean LOADS. Nothing in Lean hashes anything: it is a label: what it is worth is what the hold of that sum in a sandbox is worth. -/
noncomputable def Try.pinned : Pinned := { name := "ytifhkjcimhhaiaa", sum := "2a12a73f77859231c03056efa036310416422f0545d881ec4fc0ba2119e3876c", checked := Try.checked }
namespace Rows
def none {H : Type} : Left H := { results := [], args := [] }

/-- 'hailerlaw21.TermBuilds': WHATEVER THE INPUT: true; the input reads as it did. -/
def termBuildsSpec : ChangeSpec := { name := "termBuilds", fn := fun _ => fun
  | [d] => { results := [.lit (.bool true)], args := [d] }
  | _ => none }
def termBuildsRow : OpenClaim := { program := "ytifhkjcimhhaiaa", sum := "2a12a73f77859231c03056efa036310416422f0545d881ec4fc0ba2119e3876c", func := "hailer/hailerlaw21.TermBuilds", spec := "termBuilds", inPlace := ["internal/abi.NoEscape"], unfollowed := true, recurses := true, plainKeys := false, apart := false }
def TermBuildsSaid : Prop := termBuildsRow.holds Try.pinned (OpenSpec.ofChange termBuildsSpec)

/-- ITS FALSE NEIGHBOUR: 'it returns false'. Refute it at one input. -/
def termBuildsWrong : ChangeSpec := { name := "termBuilds", fn := fun _ => fun
  | [d] => { results := [.lit (.bool false)], args := [d] }
  | _ => none }
def TermBuildsWrongFalsely : Prop := termBuildsRow.holds Try.pinned (OpenSpec.ofChange termBuildsWrong)

/-- 'hailerlaw21.TermMore': WHATEVER THE INPUT: true; the input reads as it did. -/
def termMoreSpec : ChangeSpec := { name := "termMore", fn := fun _ => fun
  | [d1, d2, d3] => { results := [.lit (.bool true)], args := [d1, d2, d3] }
  | _ => none }
def termMoreRow : OpenClaim := { program := "ytifhkjcimhhaiaa", sum := "2a12a73f77859231c03056efa036310416422f0545d881ec4fc0ba2119e3876c", func := "hailer/hailerlaw21.TermMore", spec := "termMore", inPlace := ["internal/abi.NoEscape"], unfollowed := true, recurses := true, plainKeys := false, apart := false }
def TermMoreSaid : Prop := termMoreRow.holds Try.pinned (OpenSpec.ofChange termMoreSpec)

/-- ITS FALSE NEIGHBOUR: 'it returns false'. Refute it at one input. -/
def termMoreWrong : ChangeSpec := { name := "termMore", fn := fun _ => fun
  | [d1, d2, d3] => { results := [.lit (.bool false)], args := [d1, d2, d3] }
  | _ => none }
def TermMoreWrongFalsely : Prop := termMoreRow.holds Try.pinned (OpenSpec.ofChange termMoreWrong)

/-- 'hailerlaw21.TermCloses': WHATEVER THE INPUT: true; the input reads as it did. -/
def termClosesSpec : ChangeSpec := { name := "termCloses", fn := fun _ => fun
  | [d1, d2] => { results := [.lit (.bool true)], args := [d1, d2] }
  | _ => none }
def termClosesRow : OpenClaim := { program := "ytifhkjcimhhaiaa", sum := "2a12a73f77859231c03056efa036310416422f0545d881ec4fc0ba2119e3876c", func := "hailer/hailerlaw21.TermCloses", spec := "termCloses", inPlace := ["internal/abi.NoEscape"], unfollowed := true, recurses := true, plainKeys := false, apart := false }
def TermClosesSaid : Prop := termClosesRow.holds Try.pinned (OpenSpec.ofChange termClosesSpec)

/-- ITS FALSE NEIGHBOUR: 'it returns false'. Refute it at one input. -/
def termClosesWrong : ChangeSpec := { name := "termCloses", fn := fun _ => fun
  | [d1, d2] => { results := [.lit (.bool false)], args := [d1, d2] }
  | _ => none }
def TermClosesWrongFalsely : Prop := termClosesRow.holds Try.pinned (OpenSpec.ofChange termClosesWrong)

/- THE SECOND FORM. 'bulk': how many values and letters a reading holds, each counted each time it is reached (what is shared counts as often as it is met; a slice's spare places count too). A statement '..UptoSaid' is the law's where the arguments, and the package variables that the reading takes, are together of bulk at most 1048576: NARROWER than '..Said'. Prove '..Said' where nothing that the law and all that it calls make is longer than what came in: it says more and counts as full. Else prove '..UptoSaid'. A law counts once. -/
mutual
def uptoBulk {H : Type} : DataW H → Nat
  | .lit (.string bytes) => bytes.length + 1
  | .lit _ => 1
  | .nil => 1
  | .ptr d => uptoBulk d + 1
  | .slice elems spare => uptoBulkAll elems + uptoBulkAll spare + 1
  | .agg parts => uptoBulkAll parts + 1
  | .iface _ d => uptoBulk d + 1
  | .map entries => uptoBulkEntries entries + 1
  | .held _ => 1
def uptoBulkAll {H : Type} : List (DataW H) → Nat
  | [] => 0
  | d :: r => uptoBulk d + uptoBulkAll r
def uptoBulkEntries {H : Type} : List (Lit × DataW H) → Nat
  | [] => 0
  | x :: r => uptoBulkEntry x + uptoBulkEntries r
def uptoBulkEntry {H : Type} : Lit × DataW H → Nat
  | (.string bytes, d) => bytes.length + uptoBulk d + 1
  | (_, d) => uptoBulk d + 1
 end
def uptoSmall : (H : Type) → List (DataW H) → Bool := fun _ ds => decide (uptoBulkAll ds ≤ 1048576)
def OpenSpec.upto (s : _root_.Go.ChangeSpec) : _root_.Go.OpenSpec := { _root_.Go.OpenSpec.ofChange s with cond := some uptoSmall }

/-- 'hailerlaw21.TermBuilds', WHERE WHAT IT READS IS OF BULK AT MOST 1048576: true; the input reads as it did. -/
def termBuildsUptoRow : OpenClaim := { program := "ytifhkjcimhhaiaa", sum := "2a12a73f77859231c03056efa036310416422f0545d881ec4fc0ba2119e3876c", func := "hailer/hailerlaw21.TermBuilds", spec := "termBuilds", inPlace := ["internal/abi.NoEscape"], unfollowed := true, recurses := true, plainKeys := false, apart := false, narrowed := true }
def TermBuildsUptoSaid : Prop := termBuildsUptoRow.holds Try.pinned (OpenSpec.upto termBuildsSpec)

/-- 'hailerlaw21.TermMore', WHERE WHAT IT READS IS OF BULK AT MOST 1048576: true; the input reads as it did. -/
def termMoreUptoRow : OpenClaim := { program := "ytifhkjcimhhaiaa", sum := "2a12a73f77859231c03056efa036310416422f0545d881ec4fc0ba2119e3876c", func := "hailer/hailerlaw21.TermMore", spec := "termMore", inPlace := ["internal/abi.NoEscape"], unfollowed := true, recurses := true, plainKeys := false, apart := false, narrowed := true }
def TermMoreUptoSaid : Prop := termMoreUptoRow.holds Try.pinned (OpenSpec.upto termMoreSpec)

/-- 'hailerlaw21.TermCloses', WHERE WHAT IT READS IS OF BULK AT MOST 1048576: true; the input reads as it did. -/
def termClosesUptoRow : OpenClaim := { program := "ytifhkjcimhhaiaa", sum := "2a12a73f77859231c03056efa036310416422f0545d881ec4fc0ba2119e3876c", func := "hailer/hailerlaw21.TermCloses", spec := "termCloses", inPlace := ["internal/abi.NoEscape"], unfollowed := true, recurses := true, plainKeys := false, apart := false, narrowed := true }
def TermClosesUptoSaid : Prop := termClosesUptoRow.holds Try.pinned (OpenSpec.upto termClosesSpec)

end Rows
end Go.Proofs.Ytifhkjcimhhaiaa
