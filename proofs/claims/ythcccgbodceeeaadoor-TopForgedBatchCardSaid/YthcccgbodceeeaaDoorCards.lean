/-
  DERIVED. GIVEN WITH THE SEED: THE CARDS: each row of YthcccgbodceeeaaDoorRows.lean that lists a variable, with what it lists TIED to the program's text (the seventh form; the later family's looks); each row that meets fmt, with fmt's text TOLD by the authors' own Lean function (tested against real Go, not proved from fmt's source: count such statements apart). THE CARD IS WHAT COUNTS. Prove the row's statement (the work); the ties are given (YthcccgbodceeeaaDoorTie.lean); close each card by the builder's one call (the guide's Derived/Test/ToyasCard.lean, 'card_holds'). Laid BY PROGRAM, IN A SANDBOX (cutbox-door.mjs). By AI agents, Wed Nov 11 2026. No macro, syntax, notation, axiom, sorry.
-/
import Derived.Test.YthcccgbodceeeaaDoorRows
import GoSem.ClaimSeven
namespace Go.Proofs.YthcccgbodceeeaaDoor
namespace Rows

/-- THE TIED CARD OF 'cartularytop.TopForgedBatch'. -/
def topForgedBatchCard : Claim7 := { stood := { row := topForgedBatchRow, standIns := [], harness := (true, "b682d5586470728c48931cb3f41505bd1fc1e278795375899fa7067729007671"), looks := true }, kinds := [], alts := [], laidByText := true, laidKinds := [.sentinel, .sentinel, .sentinel, .sentinel, .sentinel, .data], laidTests := true, laidLooks := .later }
def TopForgedBatchCardSaid : Prop := Claim7.holds Tryd.pinned (.plain (OpenSpec.ofChange topForgedBatchSpec)) topForgedBatchCard

/-- THE SECOND FORM's CARD OF 'cartularytop.TopForgedBatch'. -/
def topForgedBatchUptoCard : Claim7 := { stood := { row := topForgedBatchUptoRow, standIns := [], harness := (true, "b682d5586470728c48931cb3f41505bd1fc1e278795375899fa7067729007671"), looks := true }, kinds := [], alts := [], laidByText := true, laidKinds := [.sentinel, .sentinel, .sentinel, .sentinel, .sentinel, .data], laidTests := true, laidLooks := .later }
def TopForgedBatchUptoCardSaid : Prop := Claim7.holds Tryd.pinned (.plain (OpenSpec.upto topForgedBatchSpec)) topForgedBatchUptoCard
end Rows
end Go.Proofs.YthcccgbodceeeaaDoor
