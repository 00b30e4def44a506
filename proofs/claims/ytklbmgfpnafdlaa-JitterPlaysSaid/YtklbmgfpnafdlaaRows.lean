/-
  No cell of these rows narrows 'for every input' (looked for: loops, veiled, ifaces, maps, wideKeys, modest, calm, conditions, laid).
  DERIVED. THE GIVEN ROWS OF THIS SEAT. 4 by the template 'for every input the law returns true; each argument reads behind the call as it read before'; 0 by the template 'total and deterministic' (their statements: YtklbmgfpnafdlaaTotals.lean).
  GIVEN WITH THE SEED: the statements are not yours to turn. If you find one false, say at which input.
  Laid BY PROGRAM, IN A SANDBOX (cutbox-rows.mjs): the forced cells as the released guide's own fill.sh prints them over the translation df3e357e44726333… (all of the seat's roots in one cut). By AI agents, Wed Nov 11 2026. No macro, syntax, notation, axiom, sorry.
-/
import Derived.Test.YtklbmgfpnafdlaaChecked
import GoSem.Claim
import GoSem.ClaimJoined
import GoSem.ClaimMapViews
import Derived.JoinedTies
import Derived.KernelRfl
namespace Go.Proofs.Ytklbmgfpnafdlaa
/- THE CELL 'sum', in the pinned program and in every row, IS THE sha256 OF THE DUMP (.gsa) THAT YtklbmgfpnafdlaaProg.lean LOADS. Nothing in Lean hashes anything: it is a label: what it is worth is what the hold of that sum in a sandbox is worth. -/
noncomputable def Try.pinned : Pinned := { name := "ytklbmgfpnafdlaa", sum := "df3e357e447263335c69f23bf5a22b4e36f59ca73627d385ad0e95736953bd82", checked := Try.checked }
namespace Rows
def none {H : Type} : Left H := { results := [], args := [] }

/-- 'hailerlaw39.JitterPlays': WHATEVER THE INPUT: true; the input reads as it did. -/
def jitterPlaysSpec : ChangeSpec := { name := "jitterPlays", fn := fun _ => fun
  | [d1, d2, d3] => { results := [.lit (.bool true)], args := [d1, d2, d3] }
  | _ => none }
def jitterPlaysRow : OpenClaim := { program := "ytklbmgfpnafdlaa", sum := "df3e357e447263335c69f23bf5a22b4e36f59ca73627d385ad0e95736953bd82", func := "hailer/hailerlaw39.JitterPlays", spec := "jitterPlays", inPlace := ["math/bits.Add64", "maps.clone"], unfollowed := true, recurses := true, apart := false }
def JitterPlaysSaid : Prop := jitterPlaysRow.holds Try.pinned (OpenSpec.ofChange jitterPlaysSpec)

/-- ITS FALSE NEIGHBOUR: 'it returns false'. Refute it at one input. -/
def jitterPlaysWrong : ChangeSpec := { name := "jitterPlays", fn := fun _ => fun
  | [d1, d2, d3] => { results := [.lit (.bool false)], args := [d1, d2, d3] }
  | _ => none }
def JitterPlaysWrongFalsely : Prop := jitterPlaysRow.holds Try.pinned (OpenSpec.ofChange jitterPlaysWrong)

/-- 'hailerlaw39.JitterEnds': WHATEVER THE INPUT: true; the input reads as it did. -/
def jitterEndsSpec : ChangeSpec := { name := "jitterEnds", fn := fun _ => fun
  | [d1, d2] => { results := [.lit (.bool true)], args := [d1, d2] }
  | _ => none }
def jitterEndsRow : OpenClaim := { program := "ytklbmgfpnafdlaa", sum := "df3e357e447263335c69f23bf5a22b4e36f59ca73627d385ad0e95736953bd82", func := "hailer/hailerlaw39.JitterEnds", spec := "jitterEnds", inPlace := ["math/bits.Add64", "maps.clone"], unfollowed := true, recurses := true, apart := false }
def JitterEndsSaid : Prop := jitterEndsRow.holds Try.pinned (OpenSpec.ofChange jitterEndsSpec)

/-- ITS FALSE NEIGHBOUR: 'it returns false'. Refute it at one input. -/
def jitterEndsWrong : ChangeSpec := { name := "jitterEnds", fn := fun _ => fun
  | [d1, d2] => { results := [.lit (.bool false)], args := [d1, d2] }
  | _ => none }
def JitterEndsWrongFalsely : Prop := jitterEndsRow.holds Try.pinned (OpenSpec.ofChange jitterEndsWrong)

/-- 'hailerlaw39.JitterOnce': WHATEVER THE INPUT: true; the input reads as it did. -/
def jitterOnceSpec : ChangeSpec := { name := "jitterOnce", fn := fun _ => fun
  | [d1, d2, d3] => { results := [.lit (.bool true)], args := [d1, d2, d3] }
  | _ => none }
def jitterOnceRow : OpenClaim := { program := "ytklbmgfpnafdlaa", sum := "df3e357e447263335c69f23bf5a22b4e36f59ca73627d385ad0e95736953bd82", func := "hailer/hailerlaw39.JitterOnce", spec := "jitterOnce", inPlace := ["math/bits.Add64", "maps.clone"], unfollowed := true, recurses := true, apart := false }
def JitterOnceSaid : Prop := jitterOnceRow.holds Try.pinned (OpenSpec.ofChange jitterOnceSpec)

/-- ITS FALSE NEIGHBOUR: 'it returns false'. Refute it at one input. -/
def jitterOnceWrong : ChangeSpec := { name := "jitterOnce", fn := fun _ => fun
  | [d1, d2, d3] => { results := [.lit (.bool false)], args := [d1, d2, d3] }
  | _ => none }
def JitterOnceWrongFalsely : Prop := jitterOnceRow.holds Try.pinned (OpenSpec.ofChange jitterOnceWrong)

/-- 'hailerlaw39.JitterLike': WHATEVER THE INPUT: true; the input reads as it did. -/
def jitterLikeSpec : ChangeSpec := { name := "jitterLike", fn := fun _ => fun
  | [d1, d2, d3] => { results := [.lit (.bool true)], args := [d1, d2, d3] }
  | _ => none }
def jitterLikeRow : OpenClaim := { program := "ytklbmgfpnafdlaa", sum := "df3e357e447263335c69f23bf5a22b4e36f59ca73627d385ad0e95736953bd82", func := "hailer/hailerlaw39.JitterLike", spec := "jitterLike", inPlace := ["math/bits.Add64", "maps.clone"], unfollowed := true, recurses := true, apart := false }
def JitterLikeSaid : Prop := jitterLikeRow.holds Try.pinned (OpenSpec.ofChange jitterLikeSpec)

/-- ITS FALSE NEIGHBOUR: 'it returns false'. Refute it at one input. -/
def jitterLikeWrong : ChangeSpec := { name := "jitterLike", fn := fun _ => fun
  | [d1, d2, d3] => { results := [.lit (.bool false)], args := [d1, d2, d3] }
  | _ => none }
def JitterLikeWrongFalsely : Prop := jitterLikeRow.holds Try.pinned (OpenSpec.ofChange jitterLikeWrong)

/- THE SECOND FORM. 'bulk': how many values and letters a reading holds, each counted each time it is reached (what is shared counts as often as it is met; a slice's spare places count too). A statement '..UptoSaid' is the law's where the arguments, and the package variables that the reading takes, are together of bulk at most 1048576: NARROWER than '..Said'. Prove '..Said' where nothing that the law and all that it calls make is longer than what came in: it says more and counts as full. Else prove '..UptoSaid'. A law counts once. -/
mutual
def uptoBulk {H : Type} : DataW H → Nat
  | .lit (.string bytes) => bytes.length + 1
  | .lit _ => 1
  | .nil => 1
  | .ptr d => uptoBulk d + 1
  | .slice elems spare => uptoBulkAll elems + uptoBulkAll spare + 1
  | .agg parts => uptoBulkAll parts + 1
  | .iface _ d => uptoBulk d + 1
  | .map entries => uptoBulkEntries entries + 1
  | .held _ => 1
def uptoBulkAll {H : Type} : List (DataW H) → Nat
  | [] => 0
  | d :: r => uptoBulk d + uptoBulkAll r
def uptoBulkEntries {H : Type} : List (Lit × DataW H) → Nat
  | [] => 0
  | x :: r => uptoBulkEntry x + uptoBulkEntries r
def uptoBulkEntry {H : Type} : Lit × DataW H → Nat
  | (.string bytes, d) => bytes.length + uptoBulk d + 1
  | (_, d) => uptoBulk d + 1
 end
def uptoSmall : (H : Type) → List (DataW H) → Bool := fun _ ds => decide (uptoBulkAll ds ≤ 1048576)
def OpenSpec.upto (s : _root_.Go.ChangeSpec) : _root_.Go.OpenSpec := { _root_.Go.OpenSpec.ofChange s with cond := some uptoSmall }

/-- 'hailerlaw39.JitterPlays', WHERE WHAT IT READS IS OF BULK AT MOST 1048576: true; the input reads as it did. -/
def jitterPlaysUptoRow : OpenClaim := { program := "ytklbmgfpnafdlaa", sum := "df3e357e447263335c69f23bf5a22b4e36f59ca73627d385ad0e95736953bd82", func := "hailer/hailerlaw39.JitterPlays", spec := "jitterPlays", inPlace := ["math/bits.Add64", "maps.clone"], unfollowed := true, recurses := true, apart := false, narrowed := true }
def JitterPlaysUptoSaid : Prop := jitterPlaysUptoRow.holds Try.pinned (OpenSpec.upto jitterPlaysSpec)

/-- 'hailerlaw39.JitterEnds', WHERE WHAT IT READS IS OF BULK AT MOST 1048576: true; the input reads as it did. -/
def jitterEndsUptoRow : OpenClaim := { program := "ytklbmgfpnafdlaa", sum := "df3e357e447263335c69f23bf5a22b4e36f59ca73627d385ad0e95736953bd82", func := "hailer/hailerlaw39.JitterEnds", spec := "jitterEnds", inPlace := ["math/bits.Add64", "maps.clone"], unfollowed := true, recurses := true, apart := false, narrowed := true }
def JitterEndsUptoSaid : Prop := jitterEndsUptoRow.holds Try.pinned (OpenSpec.upto jitterEndsSpec)

/-- 'hailerlaw39.JitterOnce', WHERE WHAT IT READS IS OF BULK AT MOST 1048576: true; the input reads as it did. -/
def jitterOnceUptoRow : OpenClaim := { program := "ytklbmgfpnafdlaa", sum := "df3e357e447263335c69f23bf5a22b4e36f59ca73627d385ad0e95736953bd82", func := "hailer/hailerlaw39.JitterOnce", spec := "jitterOnce", inPlace := ["math/bits.Add64", "maps.clone"], unfollowed := true, recurses := true, apart := false, narrowed := true }
def JitterOnceUptoSaid : Prop := jitterOnceUptoRow.holds Try.pinned (OpenSpec.upto jitterOnceSpec)

/-- 'hailerlaw39.JitterLike', WHERE WHAT IT READS IS OF BULK AT MOST 1048576: true; the input reads as it did. -/
def jitterLikeUptoRow : OpenClaim := { program := "ytklbmgfpnafdlaa", sum := "df3e357e447263335c69f23bf5a22b4e36f59ca73627d385ad0e95736953bd82", func := "hailer/hailerlaw39.JitterLike", spec := "jitterLike", inPlace := ["math/bits.Add64", "maps.clone"], unfollowed := true, recurses := true, apart := false, narrowed := true }
def JitterLikeUptoSaid : Prop := jitterLikeUptoRow.holds Try.pinned (OpenSpec.upto jitterLikeSpec)

end Rows
end Go.Proofs.Ytklbmgfpnafdlaa
