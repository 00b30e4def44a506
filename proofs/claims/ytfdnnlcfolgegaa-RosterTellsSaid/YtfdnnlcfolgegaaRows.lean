/-
  No cell of these rows narrows 'for every input' (looked for: loops, veiled, ifaces, maps, wideKeys, modest, calm, conditions, laid).
  DERIVED. THE GIVEN ROWS OF THIS SEAT. 3 by the template 'for every input the law returns true; each argument reads behind the call as it read before'; 0 by the template 'total and deterministic' (their statements: YtfdnnlcfolgegaaTotals.lean).
  GIVEN WITH THE SEED: the statements are not yours to turn. If you find one false, say at which input.
  Laid BY PROGRAM, IN A SANDBOX (cutbox-rows.mjs): the forced cells as the released guide's own fill.sh prints them over the translation 1a485cb37521e75d… (all of the seat's roots in one cut). By AI agents, Wed Nov 11 2026. No macro, syntax, notation, axiom, sorry.
-/
import Derived.Test.YtfdnnlcfolgegaaChecked
import GoSem.Claim
import GoSem.ClaimJoined
import GoSem.ClaimMapViews
import Derived.JoinedTies
import Derived.KernelRfl
namespace Go.Proofs.Ytfdnnlcfolgegaa
/- THE CELL 'sum', in the pinned program and in every row, IS THE sha256 OF THE DUMP (.gsa) THAT YtfdnnlcfolgegaaProg.lean LOADS. Nothing in Lean hashes anything: it is a label: what it is worth is what the hold of that sum in a sandbox is worth. -/
noncomputable def Try.pinned : Pinned := { name := "ytfdnnlcfolgegaa", sum := "1a485cb37521e75d36ba81f796056719d08d73b0a13896d5a859fed9240e0e2e", checked := Try.checked }
namespace Rows
def none {H : Type} : Left H := { results := [], args := [] }

/-- 'hailerlaw23.RosterChanges': WHATEVER THE INPUT: true; the input reads as it did. -/
def rosterChangesSpec : ChangeSpec := { name := "rosterChanges", fn := fun _ => fun
  | [d1, d2] => { results := [.lit (.bool true)], args := [d1, d2] }
  | _ => none }
def rosterChangesRow : OpenClaim := { program := "ytfdnnlcfolgegaa", sum := "1a485cb37521e75d36ba81f796056719d08d73b0a13896d5a859fed9240e0e2e", func := "hailer/hailerlaw23.RosterChanges", spec := "rosterChanges", inPlace := ["slices.overlaps[hailer/api.Dev]"], unfollowed := true, recurses := true, plainKeys := false, apart := false }
def RosterChangesSaid : Prop := rosterChangesRow.holds Try.pinned (OpenSpec.ofChange rosterChangesSpec)

/-- ITS FALSE NEIGHBOUR: 'it returns false'. Refute it at one input. -/
def rosterChangesWrong : ChangeSpec := { name := "rosterChanges", fn := fun _ => fun
  | [d1, d2] => { results := [.lit (.bool false)], args := [d1, d2] }
  | _ => none }
def RosterChangesWrongFalsely : Prop := rosterChangesRow.holds Try.pinned (OpenSpec.ofChange rosterChangesWrong)

/-- 'hailerlaw23.RosterSets': WHATEVER THE INPUT: true; the input reads as it did. -/
def rosterSetsSpec : ChangeSpec := { name := "rosterSets", fn := fun _ => fun
  | [d1, d2, d3] => { results := [.lit (.bool true)], args := [d1, d2, d3] }
  | _ => none }
def rosterSetsRow : OpenClaim := { program := "ytfdnnlcfolgegaa", sum := "1a485cb37521e75d36ba81f796056719d08d73b0a13896d5a859fed9240e0e2e", func := "hailer/hailerlaw23.RosterSets", spec := "rosterSets", inPlace := ["slices.overlaps[hailer/api.Dev]"], unfollowed := true, recurses := true, plainKeys := false, apart := false }
def RosterSetsSaid : Prop := rosterSetsRow.holds Try.pinned (OpenSpec.ofChange rosterSetsSpec)

/-- ITS FALSE NEIGHBOUR: 'it returns false'. Refute it at one input. -/
def rosterSetsWrong : ChangeSpec := { name := "rosterSets", fn := fun _ => fun
  | [d1, d2, d3] => { results := [.lit (.bool false)], args := [d1, d2, d3] }
  | _ => none }
def RosterSetsWrongFalsely : Prop := rosterSetsRow.holds Try.pinned (OpenSpec.ofChange rosterSetsWrong)

/-- 'hailerlaw23.RosterTells': WHATEVER THE INPUT: true; the input reads as it did. -/
def rosterTellsSpec : ChangeSpec := { name := "rosterTells", fn := fun _ => fun
  | [d1, d2, d3] => { results := [.lit (.bool true)], args := [d1, d2, d3] }
  | _ => none }
def rosterTellsRow : OpenClaim := { program := "ytfdnnlcfolgegaa", sum := "1a485cb37521e75d36ba81f796056719d08d73b0a13896d5a859fed9240e0e2e", func := "hailer/hailerlaw23.RosterTells", spec := "rosterTells", inPlace := ["slices.overlaps[hailer/api.Dev]"], unfollowed := true, recurses := true, plainKeys := false, apart := false }
def RosterTellsSaid : Prop := rosterTellsRow.holds Try.pinned (OpenSpec.ofChange rosterTellsSpec)

/-- ITS FALSE NEIGHBOUR: 'it returns false'. Refute it at one input. -/
def rosterTellsWrong : ChangeSpec := { name := "rosterTells", fn := fun _ => fun
  | [d1, d2, d3] => { results := [.lit (.bool false)], args := [d1, d2, d3] }
  | _ => none }
def RosterTellsWrongFalsely : Prop := rosterTellsRow.holds Try.pinned (OpenSpec.ofChange rosterTellsWrong)

/- THE SECOND FORM. 'bulk': how many values and letters a reading holds, each counted each time it is reached (what is shared counts as often as it is met; a slice's spare places count too). A statement '..UptoSaid' is the law's where the arguments, and the package variables that the reading takes, are together of bulk at most 1048576: NARROWER than '..Said'. Prove '..Said' where nothing that the law and all that it calls make is longer than what came in: it says more and counts as full. Else prove '..UptoSaid'. A law counts once. -/
mutual
def uptoBulk {H : Type} : DataW H → Nat
  | .lit (.string bytes) => bytes.length + 1
  | .lit _ => 1
  | .nil => 1
  | .ptr d => uptoBulk d + 1
  | .slice elems spare => uptoBulkAll elems + uptoBulkAll spare + 1
  | .agg parts => uptoBulkAll parts + 1
  | .iface _ d => uptoBulk d + 1
  | .map entries => uptoBulkEntries entries + 1
  | .held _ => 1
def uptoBulkAll {H : Type} : List (DataW H) → Nat
  | [] => 0
  | d :: r => uptoBulk d + uptoBulkAll r
def uptoBulkEntries {H : Type} : List (Lit × DataW H) → Nat
  | [] => 0
  | x :: r => uptoBulkEntry x + uptoBulkEntries r
def uptoBulkEntry {H : Type} : Lit × DataW H → Nat
  | (.string bytes, d) => bytes.length + uptoBulk d + 1
  | (_, d) => uptoBulk d + 1
 end
def uptoSmall : (H : Type) → List (DataW H) → Bool := fun _ ds => decide (uptoBulkAll ds ≤ 1048576)
def OpenSpec.upto (s : _root_.Go.ChangeSpec) : _root_.Go.OpenSpec := { _root_.Go.OpenSpec.ofChange s with cond := some uptoSmall }

/-- 'hailerlaw23.RosterChanges', WHERE WHAT IT READS IS OF BULK AT MOST 1048576: true; the input reads as it did. -/
def rosterChangesUptoRow : OpenClaim := { program := "ytfdnnlcfolgegaa", sum := "1a485cb37521e75d36ba81f796056719d08d73b0a13896d5a859fed9240e0e2e", func := "hailer/hailerlaw23.RosterChanges", spec := "rosterChanges", inPlace := ["slices.overlaps[hailer/api.Dev]"], unfollowed := true, recurses := true, plainKeys := false, apart := false, narrowed := true }
def RosterChangesUptoSaid : Prop := rosterChangesUptoRow.holds Try.pinned (OpenSpec.upto rosterChangesSpec)

/-- 'hailerlaw23.RosterSets', WHERE WHAT IT READS IS OF BULK AT MOST 1048576: true; the input reads as it did. -/
def rosterSetsUptoRow : OpenClaim := { program := "ytfdnnlcfolgegaa", sum := "1a485cb37521e75d36ba81f796056719d08d73b0a13896d5a859fed9240e0e2e", func := "hailer/hailerlaw23.RosterSets", spec := "rosterSets", inPlace := ["slices.overlaps[hailer/api.Dev]"], unfollowed := true, recurses := true, plainKeys := false, apart := false, narrowed := true }
def RosterSetsUptoSaid : Prop := rosterSetsUptoRow.holds Try.pinned (OpenSpec.upto rosterSetsSpec)

/-- 'hailerlaw23.RosterTells', WHERE WHAT IT READS IS OF BULK AT MOST 1048576: true; the input reads as it did. -/
def rosterTellsUptoRow : OpenClaim := { program := "ytfdnnlcfolgegaa", sum := "1a485cb37521e75d36ba81f796056719d08d73b0a13896d5a859fed9240e0e2e", func := "hailer/hailerlaw23.RosterTells", spec := "rosterTells", inPlace := ["slices.overlaps[hailer/api.Dev]"], unfollowed := true, recurses := true, plainKeys := false, apart := false, narrowed := true }
def RosterTellsUptoSaid : Prop := rosterTellsUptoRow.holds Try.pinned (OpenSpec.upto rosterTellsSpec)

end Rows
end Go.Proofs.Ytfdnnlcfolgegaa
