/-
  No cell of these rows narrows 'for every input' (looked for: loops, veiled, ifaces, maps, wideKeys, modest, calm, conditions, laid).
  DERIVED. THE GIVEN ROWS OF THIS SEAT. 5 by the template 'for every input the law returns true; each argument reads behind the call as it read before'; 0 by the template 'total and deterministic' (their statements: YtpjgmiemamcdhaaTotals.lean).
  GIVEN WITH THE SEED: the statements are not yours to turn. If you find one false, say at which input.
  Laid BY PROGRAM, IN A SANDBOX (cutbox-rows.mjs): the forced cells as the released guide's own fill.sh prints them over the translation 7ef7335c2f94fe8d… (all of the seat's roots in one cut). By AI agents, Wed Nov 11 2026. No macro, syntax, notation, axiom, sorry.
-/
import Derived.Test.YtpjgmiemamcdhaaChecked
import GoSem.Claim
import GoSem.ClaimJoined
import GoSem.ClaimMapViews
import Derived.JoinedTies
import Derived.KernelRfl
namespace Go.Proofs.Ytpjgmiemamcdhaa
/- THE CELL 'sum', in the pinned program and in every row, IS THE sha256 OF THE DUMP (.gsa) THAT YtpjgmiemamcdhaaProg.lean LOADS. Nothing in Lean hashes anything: it is a label: what it is worth is what the hold of that sum in a sandbox is worth. -/
noncomputable def Try.pinned : Pinned := { name := "ytpjgmiemamcdhaa", sum := "7ef7335c2f94fe8d10b625dac7c0ca763ebec10739981480c03207592ec6cf3c", checked := Try.checked }
namespace Rows
def none {H : Type} : Left H := { results := [], args := [] }

/-- 'hailerlaw25.LogBounds': WHATEVER THE INPUT: true; the input reads as it did. -/
def logBoundsSpec : ChangeSpec := { name := "logBounds", fn := fun _ => fun
  | [d1, d2, d3, d4] => { results := [.lit (.bool true)], args := [d1, d2, d3, d4] }
  | _ => none }
def logBoundsRow : OpenClaim := { program := "ytpjgmiemamcdhaa", sum := "7ef7335c2f94fe8d10b625dac7c0ca763ebec10739981480c03207592ec6cf3c", func := "hailer/hailerlaw25.LogBounds", spec := "logBounds", unfollowed := true, recurses := true, plainKeys := false, apart := false }
def LogBoundsSaid : Prop := logBoundsRow.holds Try.pinned (OpenSpec.ofChange logBoundsSpec)

/-- ITS FALSE NEIGHBOUR: 'it returns false'. Refute it at one input. -/
def logBoundsWrong : ChangeSpec := { name := "logBounds", fn := fun _ => fun
  | [d1, d2, d3, d4] => { results := [.lit (.bool false)], args := [d1, d2, d3, d4] }
  | _ => none }
def LogBoundsWrongFalsely : Prop := logBoundsRow.holds Try.pinned (OpenSpec.ofChange logBoundsWrong)

/-- 'hailerlaw25.LogPlays': WHATEVER THE INPUT: true; the input reads as it did. -/
def logPlaysSpec : ChangeSpec := { name := "logPlays", fn := fun _ => fun
  | [d1, d2, d3, d4, d5] => { results := [.lit (.bool true)], args := [d1, d2, d3, d4, d5] }
  | _ => none }
def logPlaysRow : OpenClaim := { program := "ytpjgmiemamcdhaa", sum := "7ef7335c2f94fe8d10b625dac7c0ca763ebec10739981480c03207592ec6cf3c", func := "hailer/hailerlaw25.LogPlays", spec := "logPlays", unfollowed := true, recurses := true, plainKeys := false, apart := false }
def LogPlaysSaid : Prop := logPlaysRow.holds Try.pinned (OpenSpec.ofChange logPlaysSpec)

/-- ITS FALSE NEIGHBOUR: 'it returns false'. Refute it at one input. -/
def logPlaysWrong : ChangeSpec := { name := "logPlays", fn := fun _ => fun
  | [d1, d2, d3, d4, d5] => { results := [.lit (.bool false)], args := [d1, d2, d3, d4, d5] }
  | _ => none }
def LogPlaysWrongFalsely : Prop := logPlaysRow.holds Try.pinned (OpenSpec.ofChange logPlaysWrong)

/-- 'hailerlaw25.LogLoads': WHATEVER THE INPUT: true; the input reads as it did. -/
def logLoadsSpec : ChangeSpec := { name := "logLoads", fn := fun _ => fun
  | [d] => { results := [.lit (.bool true)], args := [d] }
  | _ => none }
def logLoadsRow : OpenClaim := { program := "ytpjgmiemamcdhaa", sum := "7ef7335c2f94fe8d10b625dac7c0ca763ebec10739981480c03207592ec6cf3c", func := "hailer/hailerlaw25.LogLoads", spec := "logLoads", unfollowed := true, recurses := true, plainKeys := false, apart := false }
def LogLoadsSaid : Prop := logLoadsRow.holds Try.pinned (OpenSpec.ofChange logLoadsSpec)

/-- ITS FALSE NEIGHBOUR: 'it returns false'. Refute it at one input. -/
def logLoadsWrong : ChangeSpec := { name := "logLoads", fn := fun _ => fun
  | [d] => { results := [.lit (.bool false)], args := [d] }
  | _ => none }
def LogLoadsWrongFalsely : Prop := logLoadsRow.holds Try.pinned (OpenSpec.ofChange logLoadsWrong)

/-- 'hailerlaw25.LogLast': WHATEVER THE INPUT: true; the input reads as it did. -/
def logLastSpec : ChangeSpec := { name := "logLast", fn := fun _ => fun
  | [d] => { results := [.lit (.bool true)], args := [d] }
  | _ => none }
def logLastRow : OpenClaim := { program := "ytpjgmiemamcdhaa", sum := "7ef7335c2f94fe8d10b625dac7c0ca763ebec10739981480c03207592ec6cf3c", func := "hailer/hailerlaw25.LogLast", spec := "logLast", unfollowed := true, recurses := true, plainKeys := false, apart := false }
def LogLastSaid : Prop := logLastRow.holds Try.pinned (OpenSpec.ofChange logLastSpec)

/-- ITS FALSE NEIGHBOUR: 'it returns false'. Refute it at one input. -/
def logLastWrong : ChangeSpec := { name := "logLast", fn := fun _ => fun
  | [d] => { results := [.lit (.bool false)], args := [d] }
  | _ => none }
def LogLastWrongFalsely : Prop := logLastRow.holds Try.pinned (OpenSpec.ofChange logLastWrong)

/-- 'hailerlaw25.LogKnown': WHATEVER THE INPUT: true; the input reads as it did. -/
def logKnownSpec : ChangeSpec := { name := "logKnown", fn := fun _ => fun
  | [] => { results := [.lit (.bool true)], args := [] }
  | _ => none }
def logKnownRow : OpenClaim := { program := "ytpjgmiemamcdhaa", sum := "7ef7335c2f94fe8d10b625dac7c0ca763ebec10739981480c03207592ec6cf3c", func := "hailer/hailerlaw25.LogKnown", spec := "logKnown", unfollowed := true, recurses := true, plainKeys := false, apart := false }
def LogKnownSaid : Prop := logKnownRow.holds Try.pinned (OpenSpec.ofChange logKnownSpec)

/-- ITS FALSE NEIGHBOUR: 'it returns false'. Refute it at one input. -/
def logKnownWrong : ChangeSpec := { name := "logKnown", fn := fun _ => fun
  | [] => { results := [.lit (.bool false)], args := [] }
  | _ => none }
def LogKnownWrongFalsely : Prop := logKnownRow.holds Try.pinned (OpenSpec.ofChange logKnownWrong)

/- THE SECOND FORM. 'bulk': how many values and letters a reading holds, each counted each time it is reached (what is shared counts as often as it is met; a slice's spare places count too). A statement '..UptoSaid' is the law's where the arguments, and the package variables that the reading takes, are together of bulk at most 1048576: NARROWER than '..Said'. Prove '..Said' where nothing that the law and all that it calls make is longer than what came in: it says more and counts as full. Else prove '..UptoSaid'. A law counts once. -/
mutual
def uptoBulk {H : Type} : DataW H → Nat
  | .lit (.string bytes) => bytes.length + 1
  | .lit _ => 1
  | .nil => 1
  | .ptr d => uptoBulk d + 1
  | .slice elems spare => uptoBulkAll elems + uptoBulkAll spare + 1
  | .agg parts => uptoBulkAll parts + 1
  | .iface _ d => uptoBulk d + 1
  | .map entries => uptoBulkEntries entries + 1
  | .held _ => 1
def uptoBulkAll {H : Type} : List (DataW H) → Nat
  | [] => 0
  | d :: r => uptoBulk d + uptoBulkAll r
def uptoBulkEntries {H : Type} : List (Lit × DataW H) → Nat
  | [] => 0
  | x :: r => uptoBulkEntry x + uptoBulkEntries r
def uptoBulkEntry {H : Type} : Lit × DataW H → Nat
  | (.string bytes, d) => bytes.length + uptoBulk d + 1
  | (_, d) => uptoBulk d + 1
 end
def uptoSmall : (H : Type) → List (DataW H) → Bool := fun _ ds => decide (uptoBulkAll ds ≤ 1048576)
def OpenSpec.upto (s : _root_.Go.ChangeSpec) : _root_.Go.OpenSpec := { _root_.Go.OpenSpec.ofChange s with cond := some uptoSmall }

/-- 'hailerlaw25.LogBounds', WHERE WHAT IT READS IS OF BULK AT MOST 1048576: true; the input reads as it did. -/
def logBoundsUptoRow : OpenClaim := { program := "ytpjgmiemamcdhaa", sum := "7ef7335c2f94fe8d10b625dac7c0ca763ebec10739981480c03207592ec6cf3c", func := "hailer/hailerlaw25.LogBounds", spec := "logBounds", unfollowed := true, recurses := true, plainKeys := false, apart := false, narrowed := true }
def LogBoundsUptoSaid : Prop := logBoundsUptoRow.holds Try.pinned (OpenSpec.upto logBoundsSpec)

/-- 'hailerlaw25.LogPlays', WHERE WHAT IT READS IS OF BULK AT MOST 1048576: true; the input reads as it did. -/
def logPlaysUptoRow : OpenClaim := { program := "ytpjgmiemamcdhaa", sum := "7ef7335c2f94fe8d10b625dac7c0ca763ebec10739981480c03207592ec6cf3c", func := "hailer/hailerlaw25.LogPlays", spec := "logPlays", unfollowed := true, recurses := true, plainKeys := false, apart := false, narrowed := true }
def LogPlaysUptoSaid : Prop := logPlaysUptoRow.holds Try.pinned (OpenSpec.upto logPlaysSpec)

/-- 'hailerlaw25.LogLoads', WHERE WHAT IT READS IS OF BULK AT MOST 1048576: true; the input reads as it did. -/
def logLoadsUptoRow : OpenClaim := { program := "ytpjgmiemamcdhaa", sum := "7ef7335c2f94fe8d10b625dac7c0ca763ebec10739981480c03207592ec6cf3c", func := "hailer/hailerlaw25.LogLoads", spec := "logLoads", unfollowed := true, recurses := true, plainKeys := false, apart := false, narrowed := true }
def LogLoadsUptoSaid : Prop := logLoadsUptoRow.holds Try.pinned (OpenSpec.upto logLoadsSpec)

/-- 'hailerlaw25.LogLast', WHERE WHAT IT READS IS OF BULK AT MOST 1048576: true; the input reads as it did. -/
def logLastUptoRow : OpenClaim := { program := "ytpjgmiemamcdhaa", sum := "7ef7335c2f94fe8d10b625dac7c0ca763ebec10739981480c03207592ec6cf3c", func := "hailer/hailerlaw25.LogLast", spec := "logLast", unfollowed := true, recurses := true, plainKeys := false, apart := false, narrowed := true }
def LogLastUptoSaid : Prop := logLastUptoRow.holds Try.pinned (OpenSpec.upto logLastSpec)

/-- 'hailerlaw25.LogKnown', WHERE WHAT IT READS IS OF BULK AT MOST 1048576: true; the input reads as it did. -/
def logKnownUptoRow : OpenClaim := { program := "ytpjgmiemamcdhaa", sum := "7ef7335c2f94fe8d10b625dac7c0ca763ebec10739981480c03207592ec6cf3c", func := "hailer/hailerlaw25.LogKnown", spec := "logKnown", unfollowed := true, recurses := true, plainKeys := false, apart := false, narrowed := true }
def LogKnownUptoSaid : Prop := logKnownUptoRow.holds Try.pinned (OpenSpec.upto logKnownSpec)

end Rows
end Go.Proofs.Ytpjgmiemamcdhaa
