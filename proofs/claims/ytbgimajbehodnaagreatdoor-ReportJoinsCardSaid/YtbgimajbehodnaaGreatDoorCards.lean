/-
  DERIVED. GIVEN WITH THE SEED: THE CARDS: each row of YtbgimajbehodnaaGreatDoorRows.lean that lists a variable, with what it lists TIED to the program's text (the seventh form; the later family's looks); each row that meets fmt, with fmt's text TOLD by the authors' own Lean function (tested against real Go, not proved from fmt's source: count such statements apart). THE CARD IS WHAT COUNTS. Prove the row's statement (the work); the ties are given (YtbgimajbehodnaaGreatDoorTie.lean); close each card by the builder's one call (the guide's Derived/Test/ToyasCard.lean, 'card_holds'). Laid BY PROGRAM, IN A SANDBOX (cutbox-door.mjs). By AI agents, Wed Nov 11 2026. No macro, syntax, notation, axiom, sorry.
-/
import Derived.Test.YtbgimajbehodnaaGreatDoorRows
import GoSem.ClaimSeven
namespace Go.Proofs.YtbgimajbehodnaaGreatDoor
namespace Rows

/-- THE TIED CARD OF 'hailerlaw40.ReportTop'. -/
def reportTopCard : Claim7 := { stood := { row := reportTopRow, standIns := [], harness := (true, "d9aa1fbc4bc7b73974e0eb5293efd5d5b127631abebb7d67ce35f8fc7ce3bf46"), looks := true }, kinds := [], alts := [], laidByText := true, laidKinds := [.data, .data, .data, .data, .sentinel, .sentinel, .pinned], laidTests := true, laidLooks := .later }
def ReportTopCardSaid : Prop := Claim7.holds Tryz.pinned (.plain (OpenSpec.ofChange reportTopSpec)) reportTopCard

/-- THE TIED CARD OF 'hailerlaw40.ReportJoins'. -/
def reportJoinsCard : Claim7 := { stood := { row := reportJoinsRow, standIns := [], harness := (true, "d9aa1fbc4bc7b73974e0eb5293efd5d5b127631abebb7d67ce35f8fc7ce3bf46"), looks := true }, kinds := [], alts := [], laidByText := true, laidKinds := [.data, .data, .data, .data, .sentinel, .sentinel, .pinned], laidTests := true, laidLooks := .later }
def ReportJoinsCardSaid : Prop := Claim7.holds Tryz.pinned (.plain (OpenSpec.ofChange reportJoinsSpec)) reportJoinsCard

/-- THE TIED CARD OF 'hailerlaw40.ReportRows'. -/
def reportRowsCard : Claim7 := { stood := { row := reportRowsRow, standIns := [], harness := (true, "d9aa1fbc4bc7b73974e0eb5293efd5d5b127631abebb7d67ce35f8fc7ce3bf46"), looks := true }, kinds := [], alts := [], laidByText := true, laidKinds := [.data, .data, .data, .data, .sentinel, .sentinel, .pinned], laidTests := true, laidLooks := .later }
def ReportRowsCardSaid : Prop := Claim7.holds Tryz.pinned (.plain (OpenSpec.ofChange reportRowsSpec)) reportRowsCard

/-- THE TIED CARD OF 'hailerlaw40.ReportSums'. -/
def reportSumsCard : Claim7 := { stood := { row := reportSumsRow, standIns := [], harness := (true, "d9aa1fbc4bc7b73974e0eb5293efd5d5b127631abebb7d67ce35f8fc7ce3bf46"), looks := true }, kinds := [], alts := [], laidByText := true, laidKinds := [.data, .data, .data, .data, .sentinel, .sentinel, .pinned], laidTests := true, laidLooks := .later }
def ReportSumsCardSaid : Prop := Claim7.holds Tryz.pinned (.plain (OpenSpec.ofChange reportSumsSpec)) reportSumsCard

/-- THE TIED CARD OF 'hailerlaw40.ReportTables'. -/
def reportTablesCard : Claim7 := { stood := { row := reportTablesRow, standIns := [], harness := (true, "d9aa1fbc4bc7b73974e0eb5293efd5d5b127631abebb7d67ce35f8fc7ce3bf46"), looks := true }, kinds := [], alts := [], laidByText := true, laidKinds := [.data, .data, .data, .data, .sentinel, .sentinel, .pinned], laidTests := true, laidLooks := .later }
def ReportTablesCardSaid : Prop := Claim7.holds Tryz.pinned (.plain (OpenSpec.ofChange reportTablesSpec)) reportTablesCard

/-- THE SECOND FORM's CARD OF 'hailerlaw40.ReportTop'. -/
def reportTopUptoCard : Claim7 := { stood := { row := reportTopUptoRow, standIns := [], harness := (true, "d9aa1fbc4bc7b73974e0eb5293efd5d5b127631abebb7d67ce35f8fc7ce3bf46"), looks := true }, kinds := [], alts := [], laidByText := true, laidKinds := [.data, .data, .data, .data, .sentinel, .sentinel, .pinned], laidTests := true, laidLooks := .later }
def ReportTopUptoCardSaid : Prop := Claim7.holds Tryz.pinned (.plain (OpenSpec.upto reportTopSpec)) reportTopUptoCard

/-- THE SECOND FORM's CARD OF 'hailerlaw40.ReportJoins'. -/
def reportJoinsUptoCard : Claim7 := { stood := { row := reportJoinsUptoRow, standIns := [], harness := (true, "d9aa1fbc4bc7b73974e0eb5293efd5d5b127631abebb7d67ce35f8fc7ce3bf46"), looks := true }, kinds := [], alts := [], laidByText := true, laidKinds := [.data, .data, .data, .data, .sentinel, .sentinel, .pinned], laidTests := true, laidLooks := .later }
def ReportJoinsUptoCardSaid : Prop := Claim7.holds Tryz.pinned (.plain (OpenSpec.upto reportJoinsSpec)) reportJoinsUptoCard

/-- THE SECOND FORM's CARD OF 'hailerlaw40.ReportRows'. -/
def reportRowsUptoCard : Claim7 := { stood := { row := reportRowsUptoRow, standIns := [], harness := (true, "d9aa1fbc4bc7b73974e0eb5293efd5d5b127631abebb7d67ce35f8fc7ce3bf46"), looks := true }, kinds := [], alts := [], laidByText := true, laidKinds := [.data, .data, .data, .data, .sentinel, .sentinel, .pinned], laidTests := true, laidLooks := .later }
def ReportRowsUptoCardSaid : Prop := Claim7.holds Tryz.pinned (.plain (OpenSpec.upto reportRowsSpec)) reportRowsUptoCard

/-- THE SECOND FORM's CARD OF 'hailerlaw40.ReportSums'. -/
def reportSumsUptoCard : Claim7 := { stood := { row := reportSumsUptoRow, standIns := [], harness := (true, "d9aa1fbc4bc7b73974e0eb5293efd5d5b127631abebb7d67ce35f8fc7ce3bf46"), looks := true }, kinds := [], alts := [], laidByText := true, laidKinds := [.data, .data, .data, .data, .sentinel, .sentinel, .pinned], laidTests := true, laidLooks := .later }
def ReportSumsUptoCardSaid : Prop := Claim7.holds Tryz.pinned (.plain (OpenSpec.upto reportSumsSpec)) reportSumsUptoCard

/-- THE SECOND FORM's CARD OF 'hailerlaw40.ReportTables'. -/
def reportTablesUptoCard : Claim7 := { stood := { row := reportTablesUptoRow, standIns := [], harness := (true, "d9aa1fbc4bc7b73974e0eb5293efd5d5b127631abebb7d67ce35f8fc7ce3bf46"), looks := true }, kinds := [], alts := [], laidByText := true, laidKinds := [.data, .data, .data, .data, .sentinel, .sentinel, .pinned], laidTests := true, laidLooks := .later }
def ReportTablesUptoCardSaid : Prop := Claim7.holds Tryz.pinned (.plain (OpenSpec.upto reportTablesSpec)) reportTablesUptoCard
end Rows
end Go.Proofs.YtbgimajbehodnaaGreatDoor
