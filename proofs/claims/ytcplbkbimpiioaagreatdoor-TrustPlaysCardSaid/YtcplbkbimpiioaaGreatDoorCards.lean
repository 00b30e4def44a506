/-
  DERIVED. GIVEN WITH THE SEED: THE CARDS: each row of YtcplbkbimpiioaaGreatDoorRows.lean that lists a variable, with what it lists TIED to the program's text (the seventh form; the later family's looks); each row that meets fmt, with fmt's text TOLD by the authors' own Lean function (tested against real Go, not proved from fmt's source: count such statements apart). THE CARD IS WHAT COUNTS. Prove the row's statement (the work); the ties are given (YtcplbkbimpiioaaGreatDoorTie.lean); close each card by the builder's one call (the guide's Derived/Test/ToyasCard.lean, 'card_holds'). Laid BY PROGRAM, IN A SANDBOX (cutbox-door.mjs). By AI agents, Wed Nov 11 2026. No macro, syntax, notation, axiom, sorry.
-/
import Derived.Test.YtcplbkbimpiioaaGreatDoorRows
import GoSem.ClaimSeven
namespace Go.Proofs.YtcplbkbimpiioaaGreatDoor
namespace Rows

/-- THE TIED CARD OF 'hailerlaw37.TrustPlays'. -/
def trustPlaysCard : Claim7 := { stood := { row := trustPlaysRow, standIns := [], harness := (true, "e7b0a8c357416d0b9103cbe66ed7294153d121454c181e964f77dc52f8e9801d"), looks := false }, kinds := [], alts := [], laidByText := true, laidKinds := [.data, .pinned], laidTests := true, laidLooks := .later }
def TrustPlaysCardSaid : Prop := Claim7.holds Tryz.pinned (.plain (OpenSpec.ofChange trustPlaysSpec)) trustPlaysCard

/-- THE SECOND FORM's CARD OF 'hailerlaw37.TrustPlays'. -/
def trustPlaysUptoCard : Claim7 := { stood := { row := trustPlaysUptoRow, standIns := [], harness := (true, "e7b0a8c357416d0b9103cbe66ed7294153d121454c181e964f77dc52f8e9801d"), looks := false }, kinds := [], alts := [], laidByText := true, laidKinds := [.data, .pinned], laidTests := true, laidLooks := .later }
def TrustPlaysUptoCardSaid : Prop := Claim7.holds Tryz.pinned (.plain (OpenSpec.upto trustPlaysSpec)) trustPlaysUptoCard
end Rows
end Go.Proofs.YtcplbkbimpiioaaGreatDoor
