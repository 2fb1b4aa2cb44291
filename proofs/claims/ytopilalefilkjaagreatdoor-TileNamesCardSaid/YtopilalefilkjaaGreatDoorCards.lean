/-
  DERIVED. GIVEN WITH THE SEED: THE CARDS: each row of YtopilalefilkjaaGreatDoorRows.lean that lists a variable, with what it lists TIED to the program's text (the seventh form; the later family's looks); each row that meets fmt, with fmt's text TOLD by the authors' own Lean function (tested against real Go, not proved from fmt's source: count such statements apart). THE CARD IS WHAT COUNTS. Prove the row's statement (the work); the ties are given (YtopilalefilkjaaGreatDoorTie.lean); close each card by the builder's one call (the guide's Derived/Test/ToyasCard.lean, 'card_holds'). Laid BY PROGRAM, IN A SANDBOX (cutbox-door.mjs). By AI agents, Wed Nov 11 2026. No macro, syntax, notation, axiom, sorry.
-/
import Derived.Test.YtopilalefilkjaaGreatDoorRows
import GoSem.ClaimSeven
namespace Go.Proofs.YtopilalefilkjaaGreatDoor
namespace Rows

/-- THE TIED CARD OF 'cartularylaw11.TilePaths'. -/
def tilePathsCard : Claim7 := { stood := { row := tilePathsRow, standIns := [], harness := (true, "def6d7644aa352640498492e31d0f67d585efbf999cf3fe0918593224e14d243"), looks := true }, kinds := [], alts := [], laidByText := true, laidKinds := [.data, .data, .data, .data, .handle, .sentinel, .sentinel, .sentinel, .sentinel, .sentinel, .sentinel, .sentinel, .sentinel, .sentinel, .sentinel, .sentinel, .sentinel, .sentinel, .sentinel, .sentinel, .sentinel, .pinned], laidTests := true, laidLooks := .later }
def TilePathsCardSaid : Prop := Claim7.holds Tryz.pinned (.plain (OpenSpec.ofChange tilePathsSpec)) tilePathsCard

/-- THE TIED CARD OF 'cartularylaw11.TileBack'. -/
def tileBackCard : Claim7 := { stood := { row := tileBackRow, standIns := [], harness := (true, "def6d7644aa352640498492e31d0f67d585efbf999cf3fe0918593224e14d243"), looks := true }, kinds := [], alts := [], laidByText := true, laidKinds := [.data, .data, .data, .data, .handle, .sentinel, .sentinel, .sentinel, .sentinel, .sentinel, .sentinel, .sentinel, .sentinel, .sentinel, .sentinel, .sentinel, .sentinel, .sentinel, .sentinel, .sentinel, .sentinel, .pinned], laidTests := true, laidLooks := .later }
def TileBackCardSaid : Prop := Claim7.holds Tryz.pinned (.plain (OpenSpec.ofChange tileBackSpec)) tileBackCard

/-- THE TIED CARD OF 'cartularylaw11.TileCounts'. -/
def tileCountsCard : Claim7 := { stood := { row := tileCountsRow, standIns := [], harness := (true, "def6d7644aa352640498492e31d0f67d585efbf999cf3fe0918593224e14d243"), looks := true }, kinds := [], alts := [], laidByText := true, laidKinds := [.data, .data, .data, .data, .handle, .sentinel, .sentinel, .sentinel, .sentinel, .sentinel, .sentinel, .sentinel, .sentinel, .sentinel, .sentinel, .sentinel, .sentinel, .sentinel, .sentinel, .sentinel, .sentinel, .pinned], laidTests := true, laidLooks := .later }
def TileCountsCardSaid : Prop := Claim7.holds Tryz.pinned (.plain (OpenSpec.ofChange tileCountsSpec)) tileCountsCard

/-- THE TIED CARD OF 'cartularylaw11.TileBytes'. -/
def tileBytesCard : Claim7 := { stood := { row := tileBytesRow, standIns := [], harness := (true, "def6d7644aa352640498492e31d0f67d585efbf999cf3fe0918593224e14d243"), looks := true }, kinds := [], alts := [], laidByText := true, laidKinds := [.data, .data, .data, .data, .handle, .sentinel, .sentinel, .sentinel, .sentinel, .sentinel, .sentinel, .sentinel, .sentinel, .sentinel, .sentinel, .sentinel, .sentinel, .sentinel, .sentinel, .sentinel, .sentinel, .pinned], laidTests := true, laidLooks := .later }
def TileBytesCardSaid : Prop := Claim7.holds Tryz.pinned (.plain (OpenSpec.ofChange tileBytesSpec)) tileBytesCard

/-- THE TIED CARD OF 'cartularylaw11.TileAlls'. -/
def tileAllsCard : Claim7 := { stood := { row := tileAllsRow, standIns := [], harness := (true, "def6d7644aa352640498492e31d0f67d585efbf999cf3fe0918593224e14d243"), looks := true }, kinds := [], alts := [], laidByText := true, laidKinds := [.data, .data, .data, .data, .handle, .sentinel, .sentinel, .sentinel, .sentinel, .sentinel, .sentinel, .sentinel, .sentinel, .sentinel, .sentinel, .sentinel, .sentinel, .sentinel, .sentinel, .sentinel, .sentinel, .pinned], laidTests := true, laidLooks := .later }
def TileAllsCardSaid : Prop := Claim7.holds Tryz.pinned (.plain (OpenSpec.ofChange tileAllsSpec)) tileAllsCard

/-- THE TIED CARD OF 'cartularylaw11.TileHashes'. -/
def tileHashesCard : Claim7 := { stood := { row := tileHashesRow, standIns := [], harness := (true, "def6d7644aa352640498492e31d0f67d585efbf999cf3fe0918593224e14d243"), looks := true }, kinds := [], alts := [], laidByText := true, laidKinds := [.data, .data, .data, .data, .handle, .sentinel, .sentinel, .sentinel, .sentinel, .sentinel, .sentinel, .sentinel, .sentinel, .sentinel, .sentinel, .sentinel, .sentinel, .sentinel, .sentinel, .sentinel, .sentinel, .data, .pinned], laidTests := true, laidLooks := .later }
def TileHashesCardSaid : Prop := Claim7.holds Tryz.pinned (.plain (OpenSpec.ofChange tileHashesSpec)) tileHashesCard

/-- THE TIED CARD OF 'cartularylaw11.TileHalves'. -/
def tileHalvesCard : Claim7 := { stood := { row := tileHalvesRow, standIns := [], harness := (true, "def6d7644aa352640498492e31d0f67d585efbf999cf3fe0918593224e14d243"), looks := true }, kinds := [], alts := [], laidByText := true, laidKinds := [.data, .data, .data, .data, .handle, .sentinel, .sentinel, .sentinel, .sentinel, .sentinel, .sentinel, .sentinel, .sentinel, .sentinel, .sentinel, .sentinel, .sentinel, .sentinel, .sentinel, .sentinel, .sentinel, .data, .pinned], laidTests := true, laidLooks := .later }
def TileHalvesCardSaid : Prop := Claim7.holds Tryz.pinned (.plain (OpenSpec.ofChange tileHalvesSpec)) tileHalvesCard

/-- THE TIED CARD OF 'cartularylaw11.TileNames'. -/
def tileNamesCard : Claim7 := { stood := { row := tileNamesRow, standIns := [], harness := (true, "def6d7644aa352640498492e31d0f67d585efbf999cf3fe0918593224e14d243"), looks := true }, kinds := [], alts := [], laidByText := true, laidKinds := [.data, .data, .data, .data, .handle, .sentinel, .sentinel, .sentinel, .sentinel, .sentinel, .sentinel, .sentinel, .sentinel, .sentinel, .sentinel, .sentinel, .sentinel, .sentinel, .sentinel, .sentinel, .sentinel, .data, .pinned], laidTests := true, laidLooks := .later }
def TileNamesCardSaid : Prop := Claim7.holds Tryz.pinned (.plain (OpenSpec.ofChange tileNamesSpec)) tileNamesCard

/-- THE SECOND FORM's CARD OF 'cartularylaw11.TilePaths'. -/
def tilePathsUptoCard : Claim7 := { stood := { row := tilePathsUptoRow, standIns := [], harness := (true, "def6d7644aa352640498492e31d0f67d585efbf999cf3fe0918593224e14d243"), looks := true }, kinds := [], alts := [], laidByText := true, laidKinds := [.data, .data, .data, .data, .handle, .sentinel, .sentinel, .sentinel, .sentinel, .sentinel, .sentinel, .sentinel, .sentinel, .sentinel, .sentinel, .sentinel, .sentinel, .sentinel, .sentinel, .sentinel, .sentinel, .pinned], laidTests := true, laidLooks := .later }
def TilePathsUptoCardSaid : Prop := Claim7.holds Tryz.pinned (.plain (OpenSpec.upto tilePathsSpec)) tilePathsUptoCard

/-- THE SECOND FORM's CARD OF 'cartularylaw11.TileBack'. -/
def tileBackUptoCard : Claim7 := { stood := { row := tileBackUptoRow, standIns := [], harness := (true, "def6d7644aa352640498492e31d0f67d585efbf999cf3fe0918593224e14d243"), looks := true }, kinds := [], alts := [], laidByText := true, laidKinds := [.data, .data, .data, .data, .handle, .sentinel, .sentinel, .sentinel, .sentinel, .sentinel, .sentinel, .sentinel, .sentinel, .sentinel, .sentinel, .sentinel, .sentinel, .sentinel, .sentinel, .sentinel, .sentinel, .pinned], laidTests := true, laidLooks := .later }
def TileBackUptoCardSaid : Prop := Claim7.holds Tryz.pinned (.plain (OpenSpec.upto tileBackSpec)) tileBackUptoCard

/-- THE SECOND FORM's CARD OF 'cartularylaw11.TileCounts'. -/
def tileCountsUptoCard : Claim7 := { stood := { row := tileCountsUptoRow, standIns := [], harness := (true, "def6d7644aa352640498492e31d0f67d585efbf999cf3fe0918593224e14d243"), looks := true }, kinds := [], alts := [], laidByText := true, laidKinds := [.data, .data, .data, .data, .handle, .sentinel, .sentinel, .sentinel, .sentinel, .sentinel, .sentinel, .sentinel, .sentinel, .sentinel, .sentinel, .sentinel, .sentinel, .sentinel, .sentinel, .sentinel, .sentinel, .pinned], laidTests := true, laidLooks := .later }
def TileCountsUptoCardSaid : Prop := Claim7.holds Tryz.pinned (.plain (OpenSpec.upto tileCountsSpec)) tileCountsUptoCard

/-- THE SECOND FORM's CARD OF 'cartularylaw11.TileBytes'. -/
def tileBytesUptoCard : Claim7 := { stood := { row := tileBytesUptoRow, standIns := [], harness := (true, "def6d7644aa352640498492e31d0f67d585efbf999cf3fe0918593224e14d243"), looks := true }, kinds := [], alts := [], laidByText := true, laidKinds := [.data, .data, .data, .data, .handle, .sentinel, .sentinel, .sentinel, .sentinel, .sentinel, .sentinel, .sentinel, .sentinel, .sentinel, .sentinel, .sentinel, .sentinel, .sentinel, .sentinel, .sentinel, .sentinel, .pinned], laidTests := true, laidLooks := .later }
def TileBytesUptoCardSaid : Prop := Claim7.holds Tryz.pinned (.plain (OpenSpec.upto tileBytesSpec)) tileBytesUptoCard

/-- THE SECOND FORM's CARD OF 'cartularylaw11.TileAlls'. -/
def tileAllsUptoCard : Claim7 := { stood := { row := tileAllsUptoRow, standIns := [], harness := (true, "def6d7644aa352640498492e31d0f67d585efbf999cf3fe0918593224e14d243"), looks := true }, kinds := [], alts := [], laidByText := true, laidKinds := [.data, .data, .data, .data, .handle, .sentinel, .sentinel, .sentinel, .sentinel, .sentinel, .sentinel, .sentinel, .sentinel, .sentinel, .sentinel, .sentinel, .sentinel, .sentinel, .sentinel, .sentinel, .sentinel, .pinned], laidTests := true, laidLooks := .later }
def TileAllsUptoCardSaid : Prop := Claim7.holds Tryz.pinned (.plain (OpenSpec.upto tileAllsSpec)) tileAllsUptoCard

/-- THE SECOND FORM's CARD OF 'cartularylaw11.TileHashes'. -/
def tileHashesUptoCard : Claim7 := { stood := { row := tileHashesUptoRow, standIns := [], harness := (true, "def6d7644aa352640498492e31d0f67d585efbf999cf3fe0918593224e14d243"), looks := true }, kinds := [], alts := [], laidByText := true, laidKinds := [.data, .data, .data, .data, .handle, .sentinel, .sentinel, .sentinel, .sentinel, .sentinel, .sentinel, .sentinel, .sentinel, .sentinel, .sentinel, .sentinel, .sentinel, .sentinel, .sentinel, .sentinel, .sentinel, .data, .pinned], laidTests := true, laidLooks := .later }
def TileHashesUptoCardSaid : Prop := Claim7.holds Tryz.pinned (.plain (OpenSpec.upto tileHashesSpec)) tileHashesUptoCard

/-- THE SECOND FORM's CARD OF 'cartularylaw11.TileHalves'. -/
def tileHalvesUptoCard : Claim7 := { stood := { row := tileHalvesUptoRow, standIns := [], harness := (true, "def6d7644aa352640498492e31d0f67d585efbf999cf3fe0918593224e14d243"), looks := true }, kinds := [], alts := [], laidByText := true, laidKinds := [.data, .data, .data, .data, .handle, .sentinel, .sentinel, .sentinel, .sentinel, .sentinel, .sentinel, .sentinel, .sentinel, .sentinel, .sentinel, .sentinel, .sentinel, .sentinel, .sentinel, .sentinel, .sentinel, .data, .pinned], laidTests := true, laidLooks := .later }
def TileHalvesUptoCardSaid : Prop := Claim7.holds Tryz.pinned (.plain (OpenSpec.upto tileHalvesSpec)) tileHalvesUptoCard

/-- THE SECOND FORM's CARD OF 'cartularylaw11.TileNames'. -/
def tileNamesUptoCard : Claim7 := { stood := { row := tileNamesUptoRow, standIns := [], harness := (true, "def6d7644aa352640498492e31d0f67d585efbf999cf3fe0918593224e14d243"), looks := true }, kinds := [], alts := [], laidByText := true, laidKinds := [.data, .data, .data, .data, .handle, .sentinel, .sentinel, .sentinel, .sentinel, .sentinel, .sentinel, .sentinel, .sentinel, .sentinel, .sentinel, .sentinel, .sentinel, .sentinel, .sentinel, .sentinel, .sentinel, .data, .pinned], laidTests := true, laidLooks := .later }
def TileNamesUptoCardSaid : Prop := Claim7.holds Tryz.pinned (.plain (OpenSpec.upto tileNamesSpec)) tileNamesUptoCard
end Rows
end Go.Proofs.YtopilalefilkjaaGreatDoor
