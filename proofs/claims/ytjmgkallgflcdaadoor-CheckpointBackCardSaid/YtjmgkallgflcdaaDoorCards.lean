/-
  DERIVED. GIVEN WITH THE SEED: THE CARDS: each row of YtjmgkallgflcdaaDoorRows.lean that lists a variable, with what it lists TIED to the program's text (the seventh form; the later family's looks); each row that meets fmt, with fmt's text TOLD by the authors' own Lean function (tested against real Go, not proved from fmt's source: count such statements apart). THE CARD IS WHAT COUNTS. Prove the row's statement (the work); the ties are given (YtjmgkallgflcdaaDoorTie.lean); close each card by the builder's one call (the guide's Derived/Test/ToyasCard.lean, 'card_holds'). Laid BY PROGRAM, IN A SANDBOX (cutbox-door.mjs). By AI agents, Wed Nov 11 2026. No macro, syntax, notation, axiom, sorry.
-/
import Derived.Test.YtjmgkallgflcdaaDoorRows
import GoSem.ClaimSeven
namespace Go.Proofs.YtjmgkallgflcdaaDoor
namespace Rows

/-- THE TIED CARD OF 'cartularylaw21.CheckpointBack'. -/
def checkpointBackCard : Claim7 := { stood := { row := checkpointBackRow, standIns := [], harness := (true, "d80827655abc34322452f2697c2a3aa882403c9e0bd359f7989797cd71e8ece2"), looks := true }, kinds := [], alts := [], laidByText := true, laidKinds := [.data, .data, .data, .data, .handle, .sentinel, .sentinel, .sentinel, .sentinel, .sentinel, .sentinel, .sentinel, .sentinel, .sentinel, .sentinel, .sentinel, .sentinel, .sentinel, .sentinel, .sentinel, .sentinel, .data, .pinned], laidTests := true, laidLooks := .later }
def CheckpointBackCardSaid : Prop := Claim7.holds Tryd.pinned (.plain (OpenSpec.ofChange checkpointBackSpec)) checkpointBackCard

/-- THE TIED CARD OF 'cartularylaw21.CheckpointWrong'. -/
def checkpointWrongCard : Claim7 := { stood := { row := checkpointWrongRow, standIns := [], harness := (true, "d80827655abc34322452f2697c2a3aa882403c9e0bd359f7989797cd71e8ece2"), looks := true }, kinds := [], alts := [], laidByText := true, laidKinds := [.data, .data, .data, .data, .handle, .sentinel, .sentinel, .sentinel, .sentinel, .sentinel, .sentinel, .sentinel, .sentinel, .sentinel, .sentinel, .sentinel, .sentinel, .sentinel, .sentinel, .sentinel, .sentinel, .data, .pinned], laidTests := true, laidLooks := .later }
def CheckpointWrongCardSaid : Prop := Claim7.holds Tryd.pinned (.plain (OpenSpec.ofChange checkpointWrongSpec)) checkpointWrongCard

/-- THE SECOND FORM's CARD OF 'cartularylaw21.CheckpointBack'. -/
def checkpointBackUptoCard : Claim7 := { stood := { row := checkpointBackUptoRow, standIns := [], harness := (true, "d80827655abc34322452f2697c2a3aa882403c9e0bd359f7989797cd71e8ece2"), looks := true }, kinds := [], alts := [], laidByText := true, laidKinds := [.data, .data, .data, .data, .handle, .sentinel, .sentinel, .sentinel, .sentinel, .sentinel, .sentinel, .sentinel, .sentinel, .sentinel, .sentinel, .sentinel, .sentinel, .sentinel, .sentinel, .sentinel, .sentinel, .data, .pinned], laidTests := true, laidLooks := .later }
def CheckpointBackUptoCardSaid : Prop := Claim7.holds Tryd.pinned (.plain (OpenSpec.upto checkpointBackSpec)) checkpointBackUptoCard

/-- THE SECOND FORM's CARD OF 'cartularylaw21.CheckpointWrong'. -/
def checkpointWrongUptoCard : Claim7 := { stood := { row := checkpointWrongUptoRow, standIns := [], harness := (true, "d80827655abc34322452f2697c2a3aa882403c9e0bd359f7989797cd71e8ece2"), looks := true }, kinds := [], alts := [], laidByText := true, laidKinds := [.data, .data, .data, .data, .handle, .sentinel, .sentinel, .sentinel, .sentinel, .sentinel, .sentinel, .sentinel, .sentinel, .sentinel, .sentinel, .sentinel, .sentinel, .sentinel, .sentinel, .sentinel, .sentinel, .data, .pinned], laidTests := true, laidLooks := .later }
def CheckpointWrongUptoCardSaid : Prop := Claim7.holds Tryd.pinned (.plain (OpenSpec.upto checkpointWrongSpec)) checkpointWrongUptoCard
end Rows
end Go.Proofs.YtjmgkallgflcdaaDoor
