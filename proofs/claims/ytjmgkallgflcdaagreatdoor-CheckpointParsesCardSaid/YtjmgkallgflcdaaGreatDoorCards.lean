/-
  DERIVED. GIVEN WITH THE SEED: THE CARDS: each row of YtjmgkallgflcdaaGreatDoorRows.lean that lists a variable, with what it lists TIED to the program's text (the seventh form; the later family's looks); each row that meets fmt, with fmt's text TOLD by the authors' own Lean function (tested against real Go, not proved from fmt's source: count such statements apart). THE CARD IS WHAT COUNTS. Prove the row's statement (the work); the ties are given (YtjmgkallgflcdaaGreatDoorTie.lean); close each card by the builder's one call (the guide's Derived/Test/ToyasCard.lean, 'card_holds'). Laid BY PROGRAM, IN A SANDBOX (cutbox-door.mjs). By AI agents, Wed Nov 11 2026. No macro, syntax, notation, axiom, sorry.
-/
import Derived.Test.YtjmgkallgflcdaaGreatDoorRows
import GoSem.ClaimSeven
namespace Go.Proofs.YtjmgkallgflcdaaGreatDoor
namespace Rows

/-- THE TIED CARD OF 'cartularylaw21.CheckpointFormats'. -/
def checkpointFormatsCard : Claim7 := { stood := { row := checkpointFormatsRow, standIns := [], harness := (true, "520b7553234857c162562e57226de487df9fbba2eaffa21c32ced4d00121fd71"), looks := true }, kinds := [], alts := [], laidByText := true, laidKinds := [.data, .data, .data, .data, .handle, .sentinel, .sentinel, .sentinel, .sentinel, .sentinel, .sentinel, .sentinel, .sentinel, .sentinel, .sentinel, .sentinel, .sentinel, .sentinel, .sentinel, .sentinel, .sentinel, .data, .pinned], laidTests := true, laidLooks := .later }
def CheckpointFormatsCardSaid : Prop := Claim7.holds Tryz.pinned (.plain (OpenSpec.ofChange checkpointFormatsSpec)) checkpointFormatsCard

/-- THE TIED CARD OF 'cartularylaw21.CheckpointParses'. -/
def checkpointParsesCard : Claim7 := { stood := { row := checkpointParsesRow, standIns := [], harness := (true, "520b7553234857c162562e57226de487df9fbba2eaffa21c32ced4d00121fd71"), looks := true }, kinds := [], alts := [], laidByText := true, laidKinds := [.data, .data, .data, .data, .handle, .sentinel, .sentinel, .sentinel, .sentinel, .sentinel, .sentinel, .sentinel, .sentinel, .sentinel, .sentinel, .sentinel, .sentinel, .sentinel, .sentinel, .sentinel, .sentinel, .data, .pinned], laidTests := true, laidLooks := .later }
def CheckpointParsesCardSaid : Prop := Claim7.holds Tryz.pinned (.plain (OpenSpec.ofChange checkpointParsesSpec)) checkpointParsesCard

/-- THE TIED CARD OF 'cartularylaw03.TextLines'. -/
def textLinesCard : Claim7 := { stood := { row := textLinesRow, standIns := [], harness := (true, "520b7553234857c162562e57226de487df9fbba2eaffa21c32ced4d00121fd71"), looks := true }, kinds := [], alts := [], laidByText := true, laidKinds := [.data, .data, .data, .data, .handle, .sentinel, .sentinel, .sentinel, .sentinel, .sentinel, .sentinel, .sentinel, .sentinel, .sentinel, .sentinel, .sentinel, .sentinel, .sentinel, .sentinel, .sentinel, .sentinel, .data, .pinned], laidTests := true, laidLooks := .later }
def TextLinesCardSaid : Prop := Claim7.holds Tryz.pinned (.plain (OpenSpec.ofChange textLinesSpec)) textLinesCard

/-- THE SECOND FORM's CARD OF 'cartularylaw21.CheckpointFormats'. -/
def checkpointFormatsUptoCard : Claim7 := { stood := { row := checkpointFormatsUptoRow, standIns := [], harness := (true, "520b7553234857c162562e57226de487df9fbba2eaffa21c32ced4d00121fd71"), looks := true }, kinds := [], alts := [], laidByText := true, laidKinds := [.data, .data, .data, .data, .handle, .sentinel, .sentinel, .sentinel, .sentinel, .sentinel, .sentinel, .sentinel, .sentinel, .sentinel, .sentinel, .sentinel, .sentinel, .sentinel, .sentinel, .sentinel, .sentinel, .data, .pinned], laidTests := true, laidLooks := .later }
def CheckpointFormatsUptoCardSaid : Prop := Claim7.holds Tryz.pinned (.plain (OpenSpec.upto checkpointFormatsSpec)) checkpointFormatsUptoCard

/-- THE SECOND FORM's CARD OF 'cartularylaw21.CheckpointParses'. -/
def checkpointParsesUptoCard : Claim7 := { stood := { row := checkpointParsesUptoRow, standIns := [], harness := (true, "520b7553234857c162562e57226de487df9fbba2eaffa21c32ced4d00121fd71"), looks := true }, kinds := [], alts := [], laidByText := true, laidKinds := [.data, .data, .data, .data, .handle, .sentinel, .sentinel, .sentinel, .sentinel, .sentinel, .sentinel, .sentinel, .sentinel, .sentinel, .sentinel, .sentinel, .sentinel, .sentinel, .sentinel, .sentinel, .sentinel, .data, .pinned], laidTests := true, laidLooks := .later }
def CheckpointParsesUptoCardSaid : Prop := Claim7.holds Tryz.pinned (.plain (OpenSpec.upto checkpointParsesSpec)) checkpointParsesUptoCard

/-- THE SECOND FORM's CARD OF 'cartularylaw03.TextLines'. -/
def textLinesUptoCard : Claim7 := { stood := { row := textLinesUptoRow, standIns := [], harness := (true, "520b7553234857c162562e57226de487df9fbba2eaffa21c32ced4d00121fd71"), looks := true }, kinds := [], alts := [], laidByText := true, laidKinds := [.data, .data, .data, .data, .handle, .sentinel, .sentinel, .sentinel, .sentinel, .sentinel, .sentinel, .sentinel, .sentinel, .sentinel, .sentinel, .sentinel, .sentinel, .sentinel, .sentinel, .sentinel, .sentinel, .data, .pinned], laidTests := true, laidLooks := .later }
def TextLinesUptoCardSaid : Prop := Claim7.holds Tryz.pinned (.plain (OpenSpec.upto textLinesSpec)) textLinesUptoCard
end Rows
end Go.Proofs.YtjmgkallgflcdaaGreatDoor
