/-
  No cell of these rows narrows 'for every input' (looked for: loops, veiled, ifaces, maps, wideKeys, modest, calm, conditions, laid).
  DERIVED. THE GIVEN ROWS OF THIS SEAT. 3 by the template 'for every input the law returns true; each argument reads behind the call as it read before'; 0 by the template 'total and deterministic' (their statements: YtmcdbjbkkejbbaaTotals.lean).
  GIVEN WITH THE SEED: the statements are not yours to turn. If you find one false, say at which input.
  Laid BY PROGRAM, IN A SANDBOX (cutbox-rows.mjs): the forced cells as the released guide's own fill.sh prints them over the translation 9dfb3e9af7a0d416… (all of the seat's roots in one cut). By AI agents, Wed Nov 11 2026. No macro, syntax, notation, axiom, sorry.
-/
import Derived.Test.YtmcdbjbkkejbbaaChecked
import GoSem.Claim
import GoSem.ClaimJoined
import GoSem.ClaimMapViews
import Derived.JoinedTies
import Derived.KernelRfl
namespace Go.Proofs.Ytmcdbjbkkejbbaa
/- THE CELL 'sum', in the pinned program and in every row, IS THE sha256 OF THE DUMP (.gsa) THAT YtmcdbjbkkejbbaaProg.lean LOADS. Nothing in Lean hashes anything: it is a label: what it is worth is what the hold of that sum in a sandbox is worth. -/
noncomputable def Try.pinned : Pinned := { name := "ytmcdbjbkkejbbaa", sum := "9dfb3e9af7a0d416c7db9959a007574e7656cbecba8b5b11cdaffc800b038871", checked := Try.checked }
namespace Rows
def none {H : Type} : Left H := { results := [], args := [] }

/-- 'hailerlaw36.MergeTakes': WHATEVER THE INPUT: true; the input reads as it did. -/
def mergeTakesSpec : ChangeSpec := { name := "mergeTakes", fn := fun _ => fun
  | [d] => { results := [.lit (.bool true)], args := [d] }
  | _ => none }
def mergeTakesRow : OpenClaim := { program := "ytmcdbjbkkejbbaa", sum := "9dfb3e9af7a0d416c7db9959a007574e7656cbecba8b5b11cdaffc800b038871", func := "hailer/hailerlaw36.MergeTakes", spec := "mergeTakes", inPlace := ["internal/bytealg.Compare", "slices.overlaps[hailer/api.Record]"], unfollowed := true, recurses := true, apart := false }
def MergeTakesSaid : Prop := mergeTakesRow.holds Try.pinned (OpenSpec.ofChange mergeTakesSpec)

/-- ITS FALSE NEIGHBOUR: 'it returns false'. Refute it at one input. -/
def mergeTakesWrong : ChangeSpec := { name := "mergeTakes", fn := fun _ => fun
  | [d] => { results := [.lit (.bool false)], args := [d] }
  | _ => none }
def MergeTakesWrongFalsely : Prop := mergeTakesRow.holds Try.pinned (OpenSpec.ofChange mergeTakesWrong)

/-- 'hailerlaw36.MergeViews': WHATEVER THE INPUT: true; the input reads as it did. -/
def mergeViewsSpec : ChangeSpec := { name := "mergeViews", fn := fun _ => fun
  | [d] => { results := [.lit (.bool true)], args := [d] }
  | _ => none }
def mergeViewsRow : OpenClaim := { program := "ytmcdbjbkkejbbaa", sum := "9dfb3e9af7a0d416c7db9959a007574e7656cbecba8b5b11cdaffc800b038871", func := "hailer/hailerlaw36.MergeViews", spec := "mergeViews", inPlace := ["internal/bytealg.Compare", "slices.overlaps[hailer/api.Record]"], unfollowed := true, recurses := true, apart := false }
def MergeViewsSaid : Prop := mergeViewsRow.holds Try.pinned (OpenSpec.ofChange mergeViewsSpec)

/-- ITS FALSE NEIGHBOUR: 'it returns false'. Refute it at one input. -/
def mergeViewsWrong : ChangeSpec := { name := "mergeViews", fn := fun _ => fun
  | [d] => { results := [.lit (.bool false)], args := [d] }
  | _ => none }
def MergeViewsWrongFalsely : Prop := mergeViewsRow.holds Try.pinned (OpenSpec.ofChange mergeViewsWrong)

/-- 'hailerlaw36.MergeAny': WHATEVER THE INPUT: true; the input reads as it did. -/
def mergeAnySpec : ChangeSpec := { name := "mergeAny", fn := fun _ => fun
  | [d1, d2, d3] => { results := [.lit (.bool true)], args := [d1, d2, d3] }
  | _ => none }
def mergeAnyRow : OpenClaim := { program := "ytmcdbjbkkejbbaa", sum := "9dfb3e9af7a0d416c7db9959a007574e7656cbecba8b5b11cdaffc800b038871", func := "hailer/hailerlaw36.MergeAny", spec := "mergeAny", inPlace := ["internal/bytealg.Compare", "slices.overlaps[hailer/api.Record]"], unfollowed := true, recurses := true, apart := false }
def MergeAnySaid : Prop := mergeAnyRow.holds Try.pinned (OpenSpec.ofChange mergeAnySpec)

/-- ITS FALSE NEIGHBOUR: 'it returns false'. Refute it at one input. -/
def mergeAnyWrong : ChangeSpec := { name := "mergeAny", fn := fun _ => fun
  | [d1, d2, d3] => { results := [.lit (.bool false)], args := [d1, d2, d3] }
  | _ => none }
def MergeAnyWrongFalsely : Prop := mergeAnyRow.holds Try.pinned (OpenSpec.ofChange mergeAnyWrong)

/- THE SECOND FORM. 'bulk': how many values and letters a reading holds, each counted each time it is reached (what is shared counts as often as it is met; a slice's spare places count too). A statement '..UptoSaid' is the law's where the arguments, and the package variables that the reading takes, are together of bulk at most 1048576: NARROWER than '..Said'. Prove '..Said' where nothing that the law and all that it calls make is longer than what came in: it says more and counts as full. Else prove '..UptoSaid'. A law counts once. -/
mutual
def uptoBulk {H : Type} : DataW H → Nat
  | .lit (.string bytes) => bytes.length + 1
  | .lit _ => 1
  | .nil => 1
  | .ptr d => uptoBulk d + 1
  | .slice elems spare => uptoBulkAll elems + uptoBulkAll spare + 1
  | .agg parts => uptoBulkAll parts + 1
  | .iface _ d => uptoBulk d + 1
  | .map entries => uptoBulkEntries entries + 1
  | .held _ => 1
def uptoBulkAll {H : Type} : List (DataW H) → Nat
  | [] => 0
  | d :: r => uptoBulk d + uptoBulkAll r
def uptoBulkEntries {H : Type} : List (Lit × DataW H) → Nat
  | [] => 0
  | x :: r => uptoBulkEntry x + uptoBulkEntries r
def uptoBulkEntry {H : Type} : Lit × DataW H → Nat
  | (.string bytes, d) => bytes.length + uptoBulk d + 1
  | (_, d) => uptoBulk d + 1
 end
def uptoSmall : (H : Type) → List (DataW H) → Bool := fun _ ds => decide (uptoBulkAll ds ≤ 1048576)
def OpenSpec.upto (s : _root_.Go.ChangeSpec) : _root_.Go.OpenSpec := { _root_.Go.OpenSpec.ofChange s with cond := some uptoSmall }

/-- 'hailerlaw36.MergeTakes', WHERE WHAT IT READS IS OF BULK AT MOST 1048576: true; the input reads as it did. -/
def mergeTakesUptoRow : OpenClaim := { program := "ytmcdbjbkkejbbaa", sum := "9dfb3e9af7a0d416c7db9959a007574e7656cbecba8b5b11cdaffc800b038871", func := "hailer/hailerlaw36.MergeTakes", spec := "mergeTakes", inPlace := ["internal/bytealg.Compare", "slices.overlaps[hailer/api.Record]"], unfollowed := true, recurses := true, apart := false, narrowed := true }
def MergeTakesUptoSaid : Prop := mergeTakesUptoRow.holds Try.pinned (OpenSpec.upto mergeTakesSpec)

/-- 'hailerlaw36.MergeViews', WHERE WHAT IT READS IS OF BULK AT MOST 1048576: true; the input reads as it did. -/
def mergeViewsUptoRow : OpenClaim := { program := "ytmcdbjbkkejbbaa", sum := "9dfb3e9af7a0d416c7db9959a007574e7656cbecba8b5b11cdaffc800b038871", func := "hailer/hailerlaw36.MergeViews", spec := "mergeViews", inPlace := ["internal/bytealg.Compare", "slices.overlaps[hailer/api.Record]"], unfollowed := true, recurses := true, apart := false, narrowed := true }
def MergeViewsUptoSaid : Prop := mergeViewsUptoRow.holds Try.pinned (OpenSpec.upto mergeViewsSpec)

/-- 'hailerlaw36.MergeAny', WHERE WHAT IT READS IS OF BULK AT MOST 1048576: true; the input reads as it did. -/
def mergeAnyUptoRow : OpenClaim := { program := "ytmcdbjbkkejbbaa", sum := "9dfb3e9af7a0d416c7db9959a007574e7656cbecba8b5b11cdaffc800b038871", func := "hailer/hailerlaw36.MergeAny", spec := "mergeAny", inPlace := ["internal/bytealg.Compare", "slices.overlaps[hailer/api.Record]"], unfollowed := true, recurses := true, apart := false, narrowed := true }
def MergeAnyUptoSaid : Prop := mergeAnyUptoRow.holds Try.pinned (OpenSpec.upto mergeAnySpec)

end Rows
end Go.Proofs.Ytmcdbjbkkejbbaa
