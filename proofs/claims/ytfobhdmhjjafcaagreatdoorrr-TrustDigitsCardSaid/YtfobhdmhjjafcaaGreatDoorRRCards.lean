/-
  DERIVED. GIVEN WITH THE SEED: THE CARDS: each row of YtfobhdmhjjafcaaGreatDoorRRRows.lean that lists a variable, with what it lists TIED to the program's text (the seventh form; the later family's looks); each row that meets fmt, with fmt's text TOLD by the authors' own Lean function (tested against real Go, not proved from fmt's source: count such statements apart). THE CARD IS WHAT COUNTS. Prove the row's statement (the work); the ties are given (YtfobhdmhjjafcaaGreatDoorRRTie.lean); close each card by the builder's one call (the guide's Derived/Test/ToyasCard.lean, 'card_holds'). Laid BY PROGRAM, IN A SANDBOX (cutbox-door.mjs). By AI agents, Wed Nov 11 2026. No macro, syntax, notation, axiom, sorry.
-/
import Derived.Test.YtfobhdmhjjafcaaGreatDoorRRRows
import GoSem.ClaimSeven
namespace Go.Proofs.YtfobhdmhjjafcaaGreatDoorRR
namespace Rows

/-- THE TIED CARD OF 'hailerlaw37.TrustDigits'. -/
def trustDigitsCard : Claim7 := { stood := { row := trustDigitsRow, standIns := [], harness := (true, "a15060bfd8eb063ec4eeb771ae442520dfaf5ad941c1169d2684657388e3ffb8"), looks := false }, kinds := [], alts := [], laidByText := true, laidKinds := [.data, .pinned], laidTests := true, laidLooks := .later }
def TrustDigitsCardSaid : Prop := Claim7.holds Tryz.pinned (.plain (OpenSpec.ofChange trustDigitsSpec)) trustDigitsCard

/-- THE TIED CARD OF 'hailerlaw37.TrustMeets'. -/
def trustMeetsCard : Claim7 := { stood := { row := trustMeetsRow, standIns := [], harness := (true, "a15060bfd8eb063ec4eeb771ae442520dfaf5ad941c1169d2684657388e3ffb8"), looks := false }, kinds := [], alts := [], laidByText := true, laidKinds := [.data, .pinned], laidTests := true, laidLooks := .later }
def TrustMeetsCardSaid : Prop := Claim7.holds Tryz.pinned (.plain (OpenSpec.ofChange trustMeetsSpec)) trustMeetsCard

/-- THE TIED CARD OF 'hailerlaw37.TrustStays'. -/
def trustStaysCard : Claim7 := { stood := { row := trustStaysRow, standIns := [], harness := (true, "a15060bfd8eb063ec4eeb771ae442520dfaf5ad941c1169d2684657388e3ffb8"), looks := false }, kinds := [], alts := [], laidByText := true, laidKinds := [.data, .pinned], laidTests := true, laidLooks := .later }
def TrustStaysCardSaid : Prop := Claim7.holds Tryz.pinned (.plain (OpenSpec.ofChange trustStaysSpec)) trustStaysCard

/-- THE SECOND FORM's CARD OF 'hailerlaw37.TrustDigits'. -/
def trustDigitsUptoCard : Claim7 := { stood := { row := trustDigitsUptoRow, standIns := [], harness := (true, "a15060bfd8eb063ec4eeb771ae442520dfaf5ad941c1169d2684657388e3ffb8"), looks := false }, kinds := [], alts := [], laidByText := true, laidKinds := [.data, .pinned], laidTests := true, laidLooks := .later }
def TrustDigitsUptoCardSaid : Prop := Claim7.holds Tryz.pinned (.plain (OpenSpec.upto trustDigitsSpec)) trustDigitsUptoCard

/-- THE SECOND FORM's CARD OF 'hailerlaw37.TrustMeets'. -/
def trustMeetsUptoCard : Claim7 := { stood := { row := trustMeetsUptoRow, standIns := [], harness := (true, "a15060bfd8eb063ec4eeb771ae442520dfaf5ad941c1169d2684657388e3ffb8"), looks := false }, kinds := [], alts := [], laidByText := true, laidKinds := [.data, .pinned], laidTests := true, laidLooks := .later }
def TrustMeetsUptoCardSaid : Prop := Claim7.holds Tryz.pinned (.plain (OpenSpec.upto trustMeetsSpec)) trustMeetsUptoCard

/-- THE SECOND FORM's CARD OF 'hailerlaw37.TrustStays'. -/
def trustStaysUptoCard : Claim7 := { stood := { row := trustStaysUptoRow, standIns := [], harness := (true, "a15060bfd8eb063ec4eeb771ae442520dfaf5ad941c1169d2684657388e3ffb8"), looks := false }, kinds := [], alts := [], laidByText := true, laidKinds := [.data, .pinned], laidTests := true, laidLooks := .later }
def TrustStaysUptoCardSaid : Prop := Claim7.holds Tryz.pinned (.plain (OpenSpec.upto trustStaysSpec)) trustStaysUptoCard
end Rows
end Go.Proofs.YtfobhdmhjjafcaaGreatDoorRR
