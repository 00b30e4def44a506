/-
  No cell of these rows narrows 'for every input' (looked for: loops, veiled, ifaces, maps, wideKeys, modest, calm, conditions, laid).
  DERIVED. THE GIVEN ROWS OF THIS SEAT. 5 by the template 'for every input the law returns true; each argument reads behind the call as it read before'; 0 by the template 'total and deterministic' (their statements: YtnlibngncicobaaTotals.lean).
  GIVEN WITH THE SEED: the statements are not yours to turn. If you find one false, say at which input.
  Laid BY PROGRAM, IN A SANDBOX (cutbox-rows.mjs): the forced cells as the released guide's own fill.sh prints them over the translation 848bfdc2295cf42f… (all of the seat's roots in one cut). By AI agents, Wed Nov 11 2026. No macro, syntax, notation, axiom, sorry.
-/
import Derived.Test.YtnlibngncicobaaChecked
import GoSem.Claim
import GoSem.ClaimJoined
import GoSem.ClaimMapViews
import Derived.JoinedTies
import Derived.KernelRfl
namespace Go.Proofs.Ytnlibngncicobaa
/- THE CELL 'sum', in the pinned program and in every row, IS THE sha256 OF THE DUMP (.gsa) THAT YtnlibngncicobaaProg.lean LOADS. Nothing in Lean hashes anything: it is a label: what it is worth is what the hold of that sum in a sandbox is worth. -/
noncomputable def Try.pinned : Pinned := { name := "ytnlibngncicobaa", sum := "848bfdc2295cf42f97bf3863ca96554bb4fac95ae7b08160c17c4a3438d5f0af", checked := Try.checked }
namespace Rows
def none {H : Type} : Left H := { results := [], args := [] }

/-- 'hailerlaw38.PolicyFits': WHATEVER THE INPUT: true; the input reads as it did. -/
def policyFitsSpec : ChangeSpec := { name := "policyFits", fn := fun _ => fun
  | [d1, d2, d3] => { results := [.lit (.bool true)], args := [d1, d2, d3] }
  | _ => none }
def policyFitsRow : OpenClaim := { program := "ytnlibngncicobaa", sum := "848bfdc2295cf42f97bf3863ca96554bb4fac95ae7b08160c17c4a3438d5f0af", func := "hailer/hailerlaw38.PolicyFits", spec := "policyFits", inPlace := ["slices.overlaps[hailer/policy.Rule]"], unfollowed := true, recurses := true, apart := false }
def PolicyFitsSaid : Prop := policyFitsRow.holds Try.pinned (OpenSpec.ofChange policyFitsSpec)

/-- ITS FALSE NEIGHBOUR: 'it returns false'. Refute it at one input. -/
def policyFitsWrong : ChangeSpec := { name := "policyFits", fn := fun _ => fun
  | [d1, d2, d3] => { results := [.lit (.bool false)], args := [d1, d2, d3] }
  | _ => none }
def PolicyFitsWrongFalsely : Prop := policyFitsRow.holds Try.pinned (OpenSpec.ofChange policyFitsWrong)

/-- 'hailerlaw38.PolicyPlays': WHATEVER THE INPUT: true; the input reads as it did. -/
def policyPlaysSpec : ChangeSpec := { name := "policyPlays", fn := fun _ => fun
  | [d1, d2] => { results := [.lit (.bool true)], args := [d1, d2] }
  | _ => none }
def policyPlaysRow : OpenClaim := { program := "ytnlibngncicobaa", sum := "848bfdc2295cf42f97bf3863ca96554bb4fac95ae7b08160c17c4a3438d5f0af", func := "hailer/hailerlaw38.PolicyPlays", spec := "policyPlays", inPlace := ["slices.overlaps[hailer/policy.Rule]"], unfollowed := true, recurses := true, apart := false }
def PolicyPlaysSaid : Prop := policyPlaysRow.holds Try.pinned (OpenSpec.ofChange policyPlaysSpec)

/-- ITS FALSE NEIGHBOUR: 'it returns false'. Refute it at one input. -/
def policyPlaysWrong : ChangeSpec := { name := "policyPlays", fn := fun _ => fun
  | [d1, d2] => { results := [.lit (.bool false)], args := [d1, d2] }
  | _ => none }
def PolicyPlaysWrongFalsely : Prop := policyPlaysRow.holds Try.pinned (OpenSpec.ofChange policyPlaysWrong)

/-- 'hailerlaw38.PolicyLoads': WHATEVER THE INPUT: true; the input reads as it did. -/
def policyLoadsSpec : ChangeSpec := { name := "policyLoads", fn := fun _ => fun
  | [d] => { results := [.lit (.bool true)], args := [d] }
  | _ => none }
def policyLoadsRow : OpenClaim := { program := "ytnlibngncicobaa", sum := "848bfdc2295cf42f97bf3863ca96554bb4fac95ae7b08160c17c4a3438d5f0af", func := "hailer/hailerlaw38.PolicyLoads", spec := "policyLoads", inPlace := ["slices.overlaps[hailer/policy.Rule]"], unfollowed := true, recurses := true, apart := false }
def PolicyLoadsSaid : Prop := policyLoadsRow.holds Try.pinned (OpenSpec.ofChange policyLoadsSpec)

/-- ITS FALSE NEIGHBOUR: 'it returns false'. Refute it at one input. -/
def policyLoadsWrong : ChangeSpec := { name := "policyLoads", fn := fun _ => fun
  | [d] => { results := [.lit (.bool false)], args := [d] }
  | _ => none }
def PolicyLoadsWrongFalsely : Prop := policyLoadsRow.holds Try.pinned (OpenSpec.ofChange policyLoadsWrong)

/-- 'hailerlaw38.PolicyTidies': WHATEVER THE INPUT: true; the input reads as it did. -/
def policyTidiesSpec : ChangeSpec := { name := "policyTidies", fn := fun _ => fun
  | [d1, d2, d3, d4, d5] => { results := [.lit (.bool true)], args := [d1, d2, d3, d4, d5] }
  | _ => none }
def policyTidiesRow : OpenClaim := { program := "ytnlibngncicobaa", sum := "848bfdc2295cf42f97bf3863ca96554bb4fac95ae7b08160c17c4a3438d5f0af", func := "hailer/hailerlaw38.PolicyTidies", spec := "policyTidies", inPlace := ["slices.overlaps[hailer/policy.Rule]"], unfollowed := true, recurses := true, apart := false }
def PolicyTidiesSaid : Prop := policyTidiesRow.holds Try.pinned (OpenSpec.ofChange policyTidiesSpec)

/-- ITS FALSE NEIGHBOUR: 'it returns false'. Refute it at one input. -/
def policyTidiesWrong : ChangeSpec := { name := "policyTidies", fn := fun _ => fun
  | [d1, d2, d3, d4, d5] => { results := [.lit (.bool false)], args := [d1, d2, d3, d4, d5] }
  | _ => none }
def PolicyTidiesWrongFalsely : Prop := policyTidiesRow.holds Try.pinned (OpenSpec.ofChange policyTidiesWrong)

/-- 'hailerlaw38.PolicyApart': WHATEVER THE INPUT: true; the input reads as it did. -/
def policyApartSpec : ChangeSpec := { name := "policyApart", fn := fun _ => fun
  | [d1, d2, d3, d4] => { results := [.lit (.bool true)], args := [d1, d2, d3, d4] }
  | _ => none }
def policyApartRow : OpenClaim := { program := "ytnlibngncicobaa", sum := "848bfdc2295cf42f97bf3863ca96554bb4fac95ae7b08160c17c4a3438d5f0af", func := "hailer/hailerlaw38.PolicyApart", spec := "policyApart", inPlace := ["slices.overlaps[hailer/policy.Rule]"], unfollowed := true, recurses := true, apart := false }
def PolicyApartSaid : Prop := policyApartRow.holds Try.pinned (OpenSpec.ofChange policyApartSpec)

/-- ITS FALSE NEIGHBOUR: 'it returns false'. Refute it at one input. -/
def policyApartWrong : ChangeSpec := { name := "policyApart", fn := fun _ => fun
  | [d1, d2, d3, d4] => { results := [.lit (.bool false)], args := [d1, d2, d3, d4] }
  | _ => none }
def PolicyApartWrongFalsely : Prop := policyApartRow.holds Try.pinned (OpenSpec.ofChange policyApartWrong)

/- THE SECOND FORM. 'bulk': how many values and letters a reading holds, each counted each time it is reached (what is shared counts as often as it is met; a slice's spare places count too). A statement '..UptoSaid' is the law's where the arguments, and the package variables that the reading takes, are together of bulk at most 1048576: NARROWER than '..Said'. Prove '..Said' where nothing that the law and all that it calls make is longer than what came in: it says more and counts as full. Else prove '..UptoSaid'. A law counts once. -/
mutual
def uptoBulk {H : Type} : DataW H → Nat
  | .lit (.string bytes) => bytes.length + 1
  | .lit _ => 1
  | .nil => 1
  | .ptr d => uptoBulk d + 1
  | .slice elems spare => uptoBulkAll elems + uptoBulkAll spare + 1
  | .agg parts => uptoBulkAll parts + 1
  | .iface _ d => uptoBulk d + 1
  | .map entries => uptoBulkEntries entries + 1
  | .held _ => 1
def uptoBulkAll {H : Type} : List (DataW H) → Nat
  | [] => 0
  | d :: r => uptoBulk d + uptoBulkAll r
def uptoBulkEntries {H : Type} : List (Lit × DataW H) → Nat
  | [] => 0
  | x :: r => uptoBulkEntry x + uptoBulkEntries r
def uptoBulkEntry {H : Type} : Lit × DataW H → Nat
  | (.string bytes, d) => bytes.length + uptoBulk d + 1
  | (_, d) => uptoBulk d + 1
 end
def uptoSmall : (H : Type) → List (DataW H) → Bool := fun _ ds => decide (uptoBulkAll ds ≤ 1048576)
def OpenSpec.upto (s : _root_.Go.ChangeSpec) : _root_.Go.OpenSpec := { _root_.Go.OpenSpec.ofChange s with cond := some uptoSmall }

/-- 'hailerlaw38.PolicyFits', WHERE WHAT IT READS IS OF BULK AT MOST 1048576: true; the input reads as it did. -/
def policyFitsUptoRow : OpenClaim := { program := "ytnlibngncicobaa", sum := "848bfdc2295cf42f97bf3863ca96554bb4fac95ae7b08160c17c4a3438d5f0af", func := "hailer/hailerlaw38.PolicyFits", spec := "policyFits", inPlace := ["slices.overlaps[hailer/policy.Rule]"], unfollowed := true, recurses := true, apart := false, narrowed := true }
def PolicyFitsUptoSaid : Prop := policyFitsUptoRow.holds Try.pinned (OpenSpec.upto policyFitsSpec)

/-- 'hailerlaw38.PolicyPlays', WHERE WHAT IT READS IS OF BULK AT MOST 1048576: true; the input reads as it did. -/
def policyPlaysUptoRow : OpenClaim := { program := "ytnlibngncicobaa", sum := "848bfdc2295cf42f97bf3863ca96554bb4fac95ae7b08160c17c4a3438d5f0af", func := "hailer/hailerlaw38.PolicyPlays", spec := "policyPlays", inPlace := ["slices.overlaps[hailer/policy.Rule]"], unfollowed := true, recurses := true, apart := false, narrowed := true }
def PolicyPlaysUptoSaid : Prop := policyPlaysUptoRow.holds Try.pinned (OpenSpec.upto policyPlaysSpec)

/-- 'hailerlaw38.PolicyLoads', WHERE WHAT IT READS IS OF BULK AT MOST 1048576: true; the input reads as it did. -/
def policyLoadsUptoRow : OpenClaim := { program := "ytnlibngncicobaa", sum := "848bfdc2295cf42f97bf3863ca96554bb4fac95ae7b08160c17c4a3438d5f0af", func := "hailer/hailerlaw38.PolicyLoads", spec := "policyLoads", inPlace := ["slices.overlaps[hailer/policy.Rule]"], unfollowed := true, recurses := true, apart := false, narrowed := true }
def PolicyLoadsUptoSaid : Prop := policyLoadsUptoRow.holds Try.pinned (OpenSpec.upto policyLoadsSpec)

/-- 'hailerlaw38.PolicyTidies', WHERE WHAT IT READS IS OF BULK AT MOST 1048576: true; the input reads as it did. -/
def policyTidiesUptoRow : OpenClaim := { program := "ytnlibngncicobaa", sum := "848bfdc2295cf42f97bf3863ca96554bb4fac95ae7b08160c17c4a3438d5f0af", func := "hailer/hailerlaw38.PolicyTidies", spec := "policyTidies", inPlace := ["slices.overlaps[hailer/policy.Rule]"], unfollowed := true, recurses := true, apart := false, narrowed := true }
def PolicyTidiesUptoSaid : Prop := policyTidiesUptoRow.holds Try.pinned (OpenSpec.upto policyTidiesSpec)

/-- 'hailerlaw38.PolicyApart', WHERE WHAT IT READS IS OF BULK AT MOST 1048576: true; the input reads as it did. -/
def policyApartUptoRow : OpenClaim := { program := "ytnlibngncicobaa", sum := "848bfdc2295cf42f97bf3863ca96554bb4fac95ae7b08160c17c4a3438d5f0af", func := "hailer/hailerlaw38.PolicyApart", spec := "policyApart", inPlace := ["slices.overlaps[hailer/policy.Rule]"], unfollowed := true, recurses := true, apart := false, narrowed := true }
def PolicyApartUptoSaid : Prop := policyApartUptoRow.holds Try.pinned (OpenSpec.upto policyApartSpec)

end Rows
end Go.Proofs.Ytnlibngncicobaa
