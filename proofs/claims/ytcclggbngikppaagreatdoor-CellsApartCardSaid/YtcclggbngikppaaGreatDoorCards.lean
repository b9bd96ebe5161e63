/-
  DERIVED. GIVEN WITH THE SEED: THE CARDS: each row of YtcclggbngikppaaGreatDoorRows.lean that lists a variable, with what it lists TIED to the program's text (the seventh form; the later family's looks); each row that meets fmt, with fmt's text TOLD by the authors' own Lean function (tested against real Go, not proved from fmt's source: count such statements apart). THE CARD IS WHAT COUNTS. Prove the row's statement (the work); the ties are given (YtcclggbngikppaaGreatDoorTie.lean); close each card by the builder's one call (the guide's Derived/Test/ToyasCard.lean, 'card_holds'). Laid BY PROGRAM, IN A SANDBOX (cutbox-door.mjs). By AI agents, Wed Nov 11 2026. No macro, syntax, notation, axiom, sorry.
-/
import Derived.Test.YtcclggbngikppaaGreatDoorRows
import GoSem.ClaimSeven
namespace Go.Proofs.YtcclggbngikppaaGreatDoor
namespace Rows

/-- THE TIED CARD OF 'arbourlaw09.CellsOne'. -/
def cellsOneCard : Claim7 := { stood := { row := cellsOneRow, standIns := [], harness := (true, "6e5473e3ec2064ea41d5eacc3c049d0b74cbe6469bd09789126d277a359c9f66"), looks := false }, kinds := [], alts := [], laidByText := true, laidKinds := [.data, .data, .data], laidTests := true, laidLooks := .later }
def CellsOneCardSaid : Prop := Claim7.holds Tryz.pinned (.plain (OpenSpec.ofChange cellsOneSpec)) cellsOneCard

/-- THE TIED CARD OF 'arbourlaw09.CellsSamples'. -/
def cellsSamplesCard : Claim7 := { stood := { row := cellsSamplesRow, standIns := [], harness := (true, "6e5473e3ec2064ea41d5eacc3c049d0b74cbe6469bd09789126d277a359c9f66"), looks := false }, kinds := [], alts := [], laidByText := true, laidKinds := [.data, .data, .data], laidTests := true, laidLooks := .later }
def CellsSamplesCardSaid : Prop := Claim7.holds Tryz.pinned (.plain (OpenSpec.ofChange cellsSamplesSpec)) cellsSamplesCard

/-- THE TIED CARD OF 'arbourlaw09.CellsGrid'. -/
def cellsGridCard : Claim7 := { stood := { row := cellsGridRow, standIns := [], harness := (true, "6e5473e3ec2064ea41d5eacc3c049d0b74cbe6469bd09789126d277a359c9f66"), looks := false }, kinds := [], alts := [], laidByText := true, laidKinds := [.data, .data, .data], laidTests := true, laidLooks := .later }
def CellsGridCardSaid : Prop := Claim7.holds Tryz.pinned (.plain (OpenSpec.ofChange cellsGridSpec)) cellsGridCard

/-- THE TIED CARD OF 'arbourlaw09.CellsMore'. -/
def cellsMoreCard : Claim7 := { stood := { row := cellsMoreRow, standIns := [], harness := (true, "6e5473e3ec2064ea41d5eacc3c049d0b74cbe6469bd09789126d277a359c9f66"), looks := false }, kinds := [], alts := [], laidByText := true, laidKinds := [.data, .data, .data], laidTests := true, laidLooks := .later }
def CellsMoreCardSaid : Prop := Claim7.holds Tryz.pinned (.plain (OpenSpec.ofChange cellsMoreSpec)) cellsMoreCard

/-- THE TIED CARD OF 'arbourlaw09.CellsCut'. -/
def cellsCutCard : Claim7 := { stood := { row := cellsCutRow, standIns := [], harness := (true, "6e5473e3ec2064ea41d5eacc3c049d0b74cbe6469bd09789126d277a359c9f66"), looks := false }, kinds := [], alts := [], laidByText := true, laidKinds := [.data, .data, .data], laidTests := true, laidLooks := .later }
def CellsCutCardSaid : Prop := Claim7.holds Tryz.pinned (.plain (OpenSpec.ofChange cellsCutSpec)) cellsCutCard

/-- THE TIED CARD OF 'arbourlaw09.CellsEvents'. -/
def cellsEventsCard : Claim7 := { stood := { row := cellsEventsRow, standIns := [], harness := (true, "6e5473e3ec2064ea41d5eacc3c049d0b74cbe6469bd09789126d277a359c9f66"), looks := false }, kinds := [], alts := [], laidByText := true, laidKinds := [.data, .data, .data], laidTests := true, laidLooks := .later }
def CellsEventsCardSaid : Prop := Claim7.holds Tryz.pinned (.plain (OpenSpec.ofChange cellsEventsSpec)) cellsEventsCard

/-- THE TIED CARD OF 'arbourlaw09.CellsApart'. -/
def cellsApartCard : Claim7 := { stood := { row := cellsApartRow, standIns := [], harness := (true, "6e5473e3ec2064ea41d5eacc3c049d0b74cbe6469bd09789126d277a359c9f66"), looks := false }, kinds := [], alts := [], laidByText := true, laidKinds := [.data, .data, .data], laidTests := true, laidLooks := .later }
def CellsApartCardSaid : Prop := Claim7.holds Tryz.pinned (.plain (OpenSpec.ofChange cellsApartSpec)) cellsApartCard

/-- THE SECOND FORM's CARD OF 'arbourlaw09.CellsOne'. -/
def cellsOneUptoCard : Claim7 := { stood := { row := cellsOneUptoRow, standIns := [], harness := (true, "6e5473e3ec2064ea41d5eacc3c049d0b74cbe6469bd09789126d277a359c9f66"), looks := false }, kinds := [], alts := [], laidByText := true, laidKinds := [.data, .data, .data], laidTests := true, laidLooks := .later }
def CellsOneUptoCardSaid : Prop := Claim7.holds Tryz.pinned (.plain (OpenSpec.upto cellsOneSpec)) cellsOneUptoCard

/-- THE SECOND FORM's CARD OF 'arbourlaw09.CellsSamples'. -/
def cellsSamplesUptoCard : Claim7 := { stood := { row := cellsSamplesUptoRow, standIns := [], harness := (true, "6e5473e3ec2064ea41d5eacc3c049d0b74cbe6469bd09789126d277a359c9f66"), looks := false }, kinds := [], alts := [], laidByText := true, laidKinds := [.data, .data, .data], laidTests := true, laidLooks := .later }
def CellsSamplesUptoCardSaid : Prop := Claim7.holds Tryz.pinned (.plain (OpenSpec.upto cellsSamplesSpec)) cellsSamplesUptoCard

/-- THE SECOND FORM's CARD OF 'arbourlaw09.CellsGrid'. -/
def cellsGridUptoCard : Claim7 := { stood := { row := cellsGridUptoRow, standIns := [], harness := (true, "6e5473e3ec2064ea41d5eacc3c049d0b74cbe6469bd09789126d277a359c9f66"), looks := false }, kinds := [], alts := [], laidByText := true, laidKinds := [.data, .data, .data], laidTests := true, laidLooks := .later }
def CellsGridUptoCardSaid : Prop := Claim7.holds Tryz.pinned (.plain (OpenSpec.upto cellsGridSpec)) cellsGridUptoCard

/-- THE SECOND FORM's CARD OF 'arbourlaw09.CellsMore'. -/
def cellsMoreUptoCard : Claim7 := { stood := { row := cellsMoreUptoRow, standIns := [], harness := (true, "6e5473e3ec2064ea41d5eacc3c049d0b74cbe6469bd09789126d277a359c9f66"), looks := false }, kinds := [], alts := [], laidByText := true, laidKinds := [.data, .data, .data], laidTests := true, laidLooks := .later }
def CellsMoreUptoCardSaid : Prop := Claim7.holds Tryz.pinned (.plain (OpenSpec.upto cellsMoreSpec)) cellsMoreUptoCard

/-- THE SECOND FORM's CARD OF 'arbourlaw09.CellsCut'. -/
def cellsCutUptoCard : Claim7 := { stood := { row := cellsCutUptoRow, standIns := [], harness := (true, "6e5473e3ec2064ea41d5eacc3c049d0b74cbe6469bd09789126d277a359c9f66"), looks := false }, kinds := [], alts := [], laidByText := true, laidKinds := [.data, .data, .data], laidTests := true, laidLooks := .later }
def CellsCutUptoCardSaid : Prop := Claim7.holds Tryz.pinned (.plain (OpenSpec.upto cellsCutSpec)) cellsCutUptoCard

/-- THE SECOND FORM's CARD OF 'arbourlaw09.CellsEvents'. -/
def cellsEventsUptoCard : Claim7 := { stood := { row := cellsEventsUptoRow, standIns := [], harness := (true, "6e5473e3ec2064ea41d5eacc3c049d0b74cbe6469bd09789126d277a359c9f66"), looks := false }, kinds := [], alts := [], laidByText := true, laidKinds := [.data, .data, .data], laidTests := true, laidLooks := .later }
def CellsEventsUptoCardSaid : Prop := Claim7.holds Tryz.pinned (.plain (OpenSpec.upto cellsEventsSpec)) cellsEventsUptoCard

/-- THE SECOND FORM's CARD OF 'arbourlaw09.CellsApart'. -/
def cellsApartUptoCard : Claim7 := { stood := { row := cellsApartUptoRow, standIns := [], harness := (true, "6e5473e3ec2064ea41d5eacc3c049d0b74cbe6469bd09789126d277a359c9f66"), looks := false }, kinds := [], alts := [], laidByText := true, laidKinds := [.data, .data, .data], laidTests := true, laidLooks := .later }
def CellsApartUptoCardSaid : Prop := Claim7.holds Tryz.pinned (.plain (OpenSpec.upto cellsApartSpec)) cellsApartUptoCard
end Rows
end Go.Proofs.YtcclggbngikppaaGreatDoor
