/-
  DERIVED. GIVEN WITH THE SEED: THE CARDS: each row of YtlahdjdbbfjadaaGreatDoorRows.lean that lists a variable, with what it lists TIED to the program's text (the seventh form; the later family's looks); each row that meets fmt, with fmt's text TOLD by the authors' own Lean function (tested against real Go, not proved from fmt's source: count such statements apart). THE CARD IS WHAT COUNTS. Prove the row's statement (the work); the ties are given (YtlahdjdbbfjadaaGreatDoorTie.lean); close each card by the builder's one call (the guide's Derived/Test/ToyasCard.lean, 'card_holds'). Laid BY PROGRAM, IN A SANDBOX (cutbox-door.mjs). By AI agents, Wed Nov 11 2026. No macro, syntax, notation, axiom, sorry.
-/
import Derived.Test.YtlahdjdbbfjadaaGreatDoorRows
import GoSem.ClaimSeven
namespace Go.Proofs.YtlahdjdbbfjadaaGreatDoor
namespace Rows

/-- THE TIED CARD OF 'cartularylaw11.TileBytes'. -/
def tileBytesCard : Claim7 := { stood := { row := tileBytesRow, standIns := [], harness := (true, "3455549d48f316dcdf2f160f457580d931c23da0852926c8b12c669a74ac94f8"), looks := true }, kinds := [], alts := [], laidByText := true, laidKinds := [.data, .data, .data, .data, .handle, .sentinel, .sentinel, .sentinel, .sentinel, .sentinel, .sentinel, .sentinel, .sentinel, .sentinel, .sentinel, .sentinel, .sentinel, .sentinel, .sentinel, .sentinel, .sentinel, .pinned], laidTests := true, laidLooks := .later }
def TileBytesCardSaid : Prop := Claim7.holds Tryz.pinned (.plain (OpenSpec.ofChange tileBytesSpec)) tileBytesCard

/-- THE TIED CARD OF 'cartularylaw11.TileAlls'. -/
def tileAllsCard : Claim7 := { stood := { row := tileAllsRow, standIns := [], harness := (true, "3455549d48f316dcdf2f160f457580d931c23da0852926c8b12c669a74ac94f8"), looks := true }, kinds := [], alts := [], laidByText := true, laidKinds := [.data, .data, .data, .data, .handle, .sentinel, .sentinel, .sentinel, .sentinel, .sentinel, .sentinel, .sentinel, .sentinel, .sentinel, .sentinel, .sentinel, .sentinel, .sentinel, .sentinel, .sentinel, .sentinel, .pinned], laidTests := true, laidLooks := .later }
def TileAllsCardSaid : Prop := Claim7.holds Tryz.pinned (.plain (OpenSpec.ofChange tileAllsSpec)) tileAllsCard

/-- THE TIED CARD OF 'cartularylaw11.TileHashes'. -/
def tileHashesCard : Claim7 := { stood := { row := tileHashesRow, standIns := [], harness := (true, "3455549d48f316dcdf2f160f457580d931c23da0852926c8b12c669a74ac94f8"), looks := true }, kinds := [], alts := [], laidByText := true, laidKinds := [.data, .data, .data, .data, .handle, .sentinel, .sentinel, .sentinel, .sentinel, .sentinel, .sentinel, .sentinel, .sentinel, .sentinel, .sentinel, .sentinel, .sentinel, .sentinel, .sentinel, .sentinel, .sentinel, .data, .pinned], laidTests := true, laidLooks := .later }
def TileHashesCardSaid : Prop := Claim7.holds Tryz.pinned (.plain (OpenSpec.ofChange tileHashesSpec)) tileHashesCard

/-- THE TIED CARD OF 'cartularylaw11.TileHalves'. -/
def tileHalvesCard : Claim7 := { stood := { row := tileHalvesRow, standIns := [], harness := (true, "3455549d48f316dcdf2f160f457580d931c23da0852926c8b12c669a74ac94f8"), looks := true }, kinds := [], alts := [], laidByText := true, laidKinds := [.data, .data, .data, .data, .handle, .sentinel, .sentinel, .sentinel, .sentinel, .sentinel, .sentinel, .sentinel, .sentinel, .sentinel, .sentinel, .sentinel, .sentinel, .sentinel, .sentinel, .sentinel, .sentinel, .data, .pinned], laidTests := true, laidLooks := .later }
def TileHalvesCardSaid : Prop := Claim7.holds Tryz.pinned (.plain (OpenSpec.ofChange tileHalvesSpec)) tileHalvesCard

/-- THE SECOND FORM's CARD OF 'cartularylaw11.TileBytes'. -/
def tileBytesUptoCard : Claim7 := { stood := { row := tileBytesUptoRow, standIns := [], harness := (true, "3455549d48f316dcdf2f160f457580d931c23da0852926c8b12c669a74ac94f8"), looks := true }, kinds := [], alts := [], laidByText := true, laidKinds := [.data, .data, .data, .data, .handle, .sentinel, .sentinel, .sentinel, .sentinel, .sentinel, .sentinel, .sentinel, .sentinel, .sentinel, .sentinel, .sentinel, .sentinel, .sentinel, .sentinel, .sentinel, .sentinel, .pinned], laidTests := true, laidLooks := .later }
def TileBytesUptoCardSaid : Prop := Claim7.holds Tryz.pinned (.plain (OpenSpec.upto tileBytesSpec)) tileBytesUptoCard

/-- THE SECOND FORM's CARD OF 'cartularylaw11.TileAlls'. -/
def tileAllsUptoCard : Claim7 := { stood := { row := tileAllsUptoRow, standIns := [], harness := (true, "3455549d48f316dcdf2f160f457580d931c23da0852926c8b12c669a74ac94f8"), looks := true }, kinds := [], alts := [], laidByText := true, laidKinds := [.data, .data, .data, .data, .handle, .sentinel, .sentinel, .sentinel, .sentinel, .sentinel, .sentinel, .sentinel, .sentinel, .sentinel, .sentinel, .sentinel, .sentinel, .sentinel, .sentinel, .sentinel, .sentinel, .pinned], laidTests := true, laidLooks := .later }
def TileAllsUptoCardSaid : Prop := Claim7.holds Tryz.pinned (.plain (OpenSpec.upto tileAllsSpec)) tileAllsUptoCard

/-- THE SECOND FORM's CARD OF 'cartularylaw11.TileHashes'. -/
def tileHashesUptoCard : Claim7 := { stood := { row := tileHashesUptoRow, standIns := [], harness := (true, "3455549d48f316dcdf2f160f457580d931c23da0852926c8b12c669a74ac94f8"), looks := true }, kinds := [], alts := [], laidByText := true, laidKinds := [.data, .data, .data, .data, .handle, .sentinel, .sentinel, .sentinel, .sentinel, .sentinel, .sentinel, .sentinel, .sentinel, .sentinel, .sentinel, .sentinel, .sentinel, .sentinel, .sentinel, .sentinel, .sentinel, .data, .pinned], laidTests := true, laidLooks := .later }
def TileHashesUptoCardSaid : Prop := Claim7.holds Tryz.pinned (.plain (OpenSpec.upto tileHashesSpec)) tileHashesUptoCard

/-- THE SECOND FORM's CARD OF 'cartularylaw11.TileHalves'. -/
def tileHalvesUptoCard : Claim7 := { stood := { row := tileHalvesUptoRow, standIns := [], harness := (true, "3455549d48f316dcdf2f160f457580d931c23da0852926c8b12c669a74ac94f8"), looks := true }, kinds := [], alts := [], laidByText := true, laidKinds := [.data, .data, .data, .data, .handle, .sentinel, .sentinel, .sentinel, .sentinel, .sentinel, .sentinel, .sentinel, .sentinel, .sentinel, .sentinel, .sentinel, .sentinel, .sentinel, .sentinel, .sentinel, .sentinel, .data, .pinned], laidTests := true, laidLooks := .later }
def TileHalvesUptoCardSaid : Prop := Claim7.holds Tryz.pinned (.plain (OpenSpec.upto tileHalvesSpec)) tileHalvesUptoCard
end Rows
end Go.Proofs.YtlahdjdbbfjadaaGreatDoor
