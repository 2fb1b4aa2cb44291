/-
  DERIVED. GIVEN WITH THE SEED: THE CARDS: each row of YtmnaepkgfaillaaGreatDoorRows.lean that lists a variable, with what it lists TIED to the program's text (the seventh form; the later family's looks); each row that meets fmt, with fmt's text TOLD by the authors' own Lean function (tested against real Go, not proved from fmt's source: count such statements apart). THE CARD IS WHAT COUNTS. Prove the row's statement (the work); the ties are given (YtmnaepkgfaillaaGreatDoorTie.lean); close each card by the builder's one call (the guide's Derived/Test/ToyasCard.lean, 'card_holds'). Laid BY PROGRAM, IN A SANDBOX (cutbox-door.mjs). By AI agents, Wed Nov 11 2026. No macro, syntax, notation, axiom, sorry.
-/
import Derived.Test.YtmnaepkgfaillaaGreatDoorRows
import GoSem.ClaimSeven
namespace Go.Proofs.YtmnaepkgfaillaaGreatDoor
namespace Rows

/-- THE TIED CARD OF 'cartularylaw11.TileOfs'. -/
def tileOfsCard : Claim7 := { stood := { row := tileOfsRow, standIns := [], harness := (true, "fa4957c56b63ee37c4d752b9c9a4bef76c5d062d99f358f856971ce08a55cb98"), looks := true }, kinds := [], alts := [], laidByText := true, laidKinds := [.data, .data, .data, .data, .handle, .sentinel, .sentinel, .sentinel, .sentinel, .sentinel, .sentinel, .sentinel, .sentinel, .sentinel, .sentinel, .sentinel, .sentinel, .sentinel, .sentinel, .sentinel, .sentinel, .pinned], laidTests := true, laidLooks := .later }
def TileOfsCardSaid : Prop := Claim7.holds Tryz.pinned (.plain (OpenSpec.ofChange tileOfsSpec)) tileOfsCard

/-- THE TIED CARD OF 'cartularylaw11.TileIns'. -/
def tileInsCard : Claim7 := { stood := { row := tileInsRow, standIns := [], harness := (true, "fa4957c56b63ee37c4d752b9c9a4bef76c5d062d99f358f856971ce08a55cb98"), looks := true }, kinds := [], alts := [], laidByText := true, laidKinds := [.data, .data, .data, .data, .handle, .sentinel, .sentinel, .sentinel, .sentinel, .sentinel, .sentinel, .sentinel, .sentinel, .sentinel, .sentinel, .sentinel, .sentinel, .sentinel, .sentinel, .sentinel, .sentinel, .pinned], laidTests := true, laidLooks := .later }
def TileInsCardSaid : Prop := Claim7.holds Tryz.pinned (.plain (OpenSpec.ofChange tileInsSpec)) tileInsCard

/-- THE TIED CARD OF 'cartularylaw11.TilePaths'. -/
def tilePathsCard : Claim7 := { stood := { row := tilePathsRow, standIns := [], harness := (true, "fa4957c56b63ee37c4d752b9c9a4bef76c5d062d99f358f856971ce08a55cb98"), looks := true }, kinds := [], alts := [], laidByText := true, laidKinds := [.data, .data, .data, .data, .handle, .sentinel, .sentinel, .sentinel, .sentinel, .sentinel, .sentinel, .sentinel, .sentinel, .sentinel, .sentinel, .sentinel, .sentinel, .sentinel, .sentinel, .sentinel, .sentinel, .pinned], laidTests := true, laidLooks := .later }
def TilePathsCardSaid : Prop := Claim7.holds Tryz.pinned (.plain (OpenSpec.ofChange tilePathsSpec)) tilePathsCard

/-- THE TIED CARD OF 'cartularylaw11.TileCovers'. -/
def tileCoversCard : Claim7 := { stood := { row := tileCoversRow, standIns := [], harness := (true, "fa4957c56b63ee37c4d752b9c9a4bef76c5d062d99f358f856971ce08a55cb98"), looks := true }, kinds := [], alts := [], laidByText := true, laidKinds := [.data, .data, .data, .data, .handle, .sentinel, .sentinel, .sentinel, .sentinel, .sentinel, .sentinel, .sentinel, .sentinel, .sentinel, .sentinel, .sentinel, .sentinel, .sentinel, .sentinel, .sentinel, .sentinel, .pinned], laidTests := true, laidLooks := .later }
def TileCoversCardSaid : Prop := Claim7.holds Tryz.pinned (.plain (OpenSpec.ofChange tileCoversSpec)) tileCoversCard

/-- THE TIED CARD OF 'cartularylaw11.TileCounts'. -/
def tileCountsCard : Claim7 := { stood := { row := tileCountsRow, standIns := [], harness := (true, "fa4957c56b63ee37c4d752b9c9a4bef76c5d062d99f358f856971ce08a55cb98"), looks := true }, kinds := [], alts := [], laidByText := true, laidKinds := [.data, .data, .data, .data, .handle, .sentinel, .sentinel, .sentinel, .sentinel, .sentinel, .sentinel, .sentinel, .sentinel, .sentinel, .sentinel, .sentinel, .sentinel, .sentinel, .sentinel, .sentinel, .sentinel, .pinned], laidTests := true, laidLooks := .later }
def TileCountsCardSaid : Prop := Claim7.holds Tryz.pinned (.plain (OpenSpec.ofChange tileCountsSpec)) tileCountsCard

/-- THE SECOND FORM's CARD OF 'cartularylaw11.TileOfs'. -/
def tileOfsUptoCard : Claim7 := { stood := { row := tileOfsUptoRow, standIns := [], harness := (true, "fa4957c56b63ee37c4d752b9c9a4bef76c5d062d99f358f856971ce08a55cb98"), looks := true }, kinds := [], alts := [], laidByText := true, laidKinds := [.data, .data, .data, .data, .handle, .sentinel, .sentinel, .sentinel, .sentinel, .sentinel, .sentinel, .sentinel, .sentinel, .sentinel, .sentinel, .sentinel, .sentinel, .sentinel, .sentinel, .sentinel, .sentinel, .pinned], laidTests := true, laidLooks := .later }
def TileOfsUptoCardSaid : Prop := Claim7.holds Tryz.pinned (.plain (OpenSpec.upto tileOfsSpec)) tileOfsUptoCard

/-- THE SECOND FORM's CARD OF 'cartularylaw11.TileIns'. -/
def tileInsUptoCard : Claim7 := { stood := { row := tileInsUptoRow, standIns := [], harness := (true, "fa4957c56b63ee37c4d752b9c9a4bef76c5d062d99f358f856971ce08a55cb98"), looks := true }, kinds := [], alts := [], laidByText := true, laidKinds := [.data, .data, .data, .data, .handle, .sentinel, .sentinel, .sentinel, .sentinel, .sentinel, .sentinel, .sentinel, .sentinel, .sentinel, .sentinel, .sentinel, .sentinel, .sentinel, .sentinel, .sentinel, .sentinel, .pinned], laidTests := true, laidLooks := .later }
def TileInsUptoCardSaid : Prop := Claim7.holds Tryz.pinned (.plain (OpenSpec.upto tileInsSpec)) tileInsUptoCard

/-- THE SECOND FORM's CARD OF 'cartularylaw11.TilePaths'. -/
def tilePathsUptoCard : Claim7 := { stood := { row := tilePathsUptoRow, standIns := [], harness := (true, "fa4957c56b63ee37c4d752b9c9a4bef76c5d062d99f358f856971ce08a55cb98"), looks := true }, kinds := [], alts := [], laidByText := true, laidKinds := [.data, .data, .data, .data, .handle, .sentinel, .sentinel, .sentinel, .sentinel, .sentinel, .sentinel, .sentinel, .sentinel, .sentinel, .sentinel, .sentinel, .sentinel, .sentinel, .sentinel, .sentinel, .sentinel, .pinned], laidTests := true, laidLooks := .later }
def TilePathsUptoCardSaid : Prop := Claim7.holds Tryz.pinned (.plain (OpenSpec.upto tilePathsSpec)) tilePathsUptoCard

/-- THE SECOND FORM's CARD OF 'cartularylaw11.TileCovers'. -/
def tileCoversUptoCard : Claim7 := { stood := { row := tileCoversUptoRow, standIns := [], harness := (true, "fa4957c56b63ee37c4d752b9c9a4bef76c5d062d99f358f856971ce08a55cb98"), looks := true }, kinds := [], alts := [], laidByText := true, laidKinds := [.data, .data, .data, .data, .handle, .sentinel, .sentinel, .sentinel, .sentinel, .sentinel, .sentinel, .sentinel, .sentinel, .sentinel, .sentinel, .sentinel, .sentinel, .sentinel, .sentinel, .sentinel, .sentinel, .pinned], laidTests := true, laidLooks := .later }
def TileCoversUptoCardSaid : Prop := Claim7.holds Tryz.pinned (.plain (OpenSpec.upto tileCoversSpec)) tileCoversUptoCard

/-- THE SECOND FORM's CARD OF 'cartularylaw11.TileCounts'. -/
def tileCountsUptoCard : Claim7 := { stood := { row := tileCountsUptoRow, standIns := [], harness := (true, "fa4957c56b63ee37c4d752b9c9a4bef76c5d062d99f358f856971ce08a55cb98"), looks := true }, kinds := [], alts := [], laidByText := true, laidKinds := [.data, .data, .data, .data, .handle, .sentinel, .sentinel, .sentinel, .sentinel, .sentinel, .sentinel, .sentinel, .sentinel, .sentinel, .sentinel, .sentinel, .sentinel, .sentinel, .sentinel, .sentinel, .sentinel, .pinned], laidTests := true, laidLooks := .later }
def TileCountsUptoCardSaid : Prop := Claim7.holds Tryz.pinned (.plain (OpenSpec.upto tileCountsSpec)) tileCountsUptoCard
end Rows
end Go.Proofs.YtmnaepkgfaillaaGreatDoor
