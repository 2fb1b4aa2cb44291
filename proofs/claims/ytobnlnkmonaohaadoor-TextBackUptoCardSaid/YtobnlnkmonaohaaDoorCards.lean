/-
  DERIVED. GIVEN WITH THE SEED: THE CARDS: each row of YtobnlnkmonaohaaDoorRows.lean that lists a variable, with what it lists TIED to the program's text (the seventh form; the later family's looks); each row that meets fmt, with fmt's text TOLD by the authors' own Lean function (tested against real Go, not proved from fmt's source: count such statements apart). THE CARD IS WHAT COUNTS. Prove the row's statement (the work); the ties are given (YtobnlnkmonaohaaDoorTie.lean); close each card by the builder's one call (the guide's Derived/Test/ToyasCard.lean, 'card_holds'). Laid BY PROGRAM, IN A SANDBOX (cutbox-door.mjs). By AI agents, Wed Nov 11 2026. No macro, syntax, notation, axiom, sorry.
-/
import Derived.Test.YtobnlnkmonaohaaDoorRows
import GoSem.ClaimSeven
namespace Go.Proofs.YtobnlnkmonaohaaDoor
namespace Rows

/-- THE TIED CARD OF 'cartularylaw03.TextLetters'. -/
def textLettersCard : Claim7 := { stood := { row := textLettersRow, standIns := [], harness := (true, "86b0d81a18a727682e03483d56ee5e4b3b662e5361eff41efd6c046b0a90dd8a"), looks := true }, kinds := [], alts := [], laidByText := true, laidKinds := [.data, .handle, .sentinel, .sentinel, .sentinel, .sentinel, .sentinel, .sentinel, .sentinel, .sentinel, .sentinel, .sentinel, .sentinel, .sentinel, .sentinel, .sentinel, .sentinel, .sentinel, .data, .pinned], laidTests := true, laidLooks := .later }
def TextLettersCardSaid : Prop := Claim7.holds Tryd.pinned (.plain (OpenSpec.ofChange textLettersSpec)) textLettersCard

/-- THE TIED CARD OF 'cartularylaw03.TextNames'. -/
def textNamesCard : Claim7 := { stood := { row := textNamesRow, standIns := [], harness := (true, "86b0d81a18a727682e03483d56ee5e4b3b662e5361eff41efd6c046b0a90dd8a"), looks := true }, kinds := [], alts := [], laidByText := true, laidKinds := [.data, .handle, .sentinel, .sentinel, .sentinel, .sentinel, .sentinel, .sentinel, .sentinel, .sentinel, .sentinel, .sentinel, .sentinel, .sentinel, .sentinel, .sentinel, .sentinel, .sentinel, .data, .pinned], laidTests := true, laidLooks := .later }
def TextNamesCardSaid : Prop := Claim7.holds Tryd.pinned (.plain (OpenSpec.ofChange textNamesSpec)) textNamesCard

/-- THE TIED CARD OF 'cartularylaw03.TextRows'. -/
def textRowsCard : Claim7 := { stood := { row := textRowsRow, standIns := [], harness := (true, "86b0d81a18a727682e03483d56ee5e4b3b662e5361eff41efd6c046b0a90dd8a"), looks := true }, kinds := [], alts := [], laidByText := true, laidKinds := [.data, .handle, .sentinel, .sentinel, .sentinel, .sentinel, .sentinel, .sentinel, .sentinel, .sentinel, .sentinel, .sentinel, .sentinel, .sentinel, .sentinel, .sentinel, .sentinel, .sentinel, .data, .pinned], laidTests := true, laidLooks := .later }
def TextRowsCardSaid : Prop := Claim7.holds Tryd.pinned (.plain (OpenSpec.ofChange textRowsSpec)) textRowsCard

/-- THE TIED CARD OF 'cartularylaw03.TextSeen'. -/
def textSeenCard : Claim7 := { stood := { row := textSeenRow, standIns := [], harness := (true, "86b0d81a18a727682e03483d56ee5e4b3b662e5361eff41efd6c046b0a90dd8a"), looks := true }, kinds := [], alts := [], laidByText := true, laidKinds := [.data, .handle, .sentinel, .sentinel, .sentinel, .sentinel, .sentinel, .sentinel, .sentinel, .sentinel, .sentinel, .sentinel, .sentinel, .sentinel, .sentinel, .sentinel, .sentinel, .sentinel, .data, .pinned], laidTests := true, laidLooks := .later }
def TextSeenCardSaid : Prop := Claim7.holds Tryd.pinned (.plain (OpenSpec.ofChange textSeenSpec)) textSeenCard

/-- THE TIED CARD OF 'cartularylaw03.TextWrong'. -/
def textWrongCard : Claim7 := { stood := { row := textWrongRow, standIns := [], harness := (true, "86b0d81a18a727682e03483d56ee5e4b3b662e5361eff41efd6c046b0a90dd8a"), looks := true }, kinds := [], alts := [], laidByText := true, laidKinds := [.data, .handle, .sentinel, .sentinel, .sentinel, .sentinel, .sentinel, .sentinel, .sentinel, .sentinel, .sentinel, .sentinel, .sentinel, .sentinel, .sentinel, .sentinel, .sentinel, .sentinel, .data, .pinned], laidTests := true, laidLooks := .later }
def TextWrongCardSaid : Prop := Claim7.holds Tryd.pinned (.plain (OpenSpec.ofChange textWrongSpec)) textWrongCard

/-- THE TIED CARD OF 'cartularylaw03.TextDigits'. -/
def textDigitsCard : Claim7 := { stood := { row := textDigitsRow, standIns := [], harness := (true, "86b0d81a18a727682e03483d56ee5e4b3b662e5361eff41efd6c046b0a90dd8a"), looks := true }, kinds := [], alts := [], laidByText := true, laidKinds := [.data, .handle, .sentinel, .sentinel, .sentinel, .sentinel, .sentinel, .sentinel, .sentinel, .sentinel, .sentinel, .sentinel, .sentinel, .sentinel, .sentinel, .sentinel, .sentinel, .sentinel, .data, .pinned], laidTests := true, laidLooks := .later }
def TextDigitsCardSaid : Prop := Claim7.holds Tryd.pinned (.plain (OpenSpec.ofChange textDigitsSpec)) textDigitsCard

/-- THE TIED CARD OF 'cartularylaw21.CheckpointBack'. -/
def checkpointBackCard : Claim7 := { stood := { row := checkpointBackRow, standIns := [], harness := (true, "86b0d81a18a727682e03483d56ee5e4b3b662e5361eff41efd6c046b0a90dd8a"), looks := true }, kinds := [], alts := [], laidByText := true, laidKinds := [.data, .data, .data, .data, .handle, .sentinel, .sentinel, .sentinel, .sentinel, .sentinel, .sentinel, .sentinel, .sentinel, .sentinel, .sentinel, .sentinel, .sentinel, .sentinel, .sentinel, .sentinel, .sentinel, .data, .pinned], laidTests := true, laidLooks := .later }
def CheckpointBackCardSaid : Prop := Claim7.holds Tryd.pinned (.plain (OpenSpec.ofChange checkpointBackSpec)) checkpointBackCard

/-- THE TIED CARD OF 'cartularylaw21.CheckpointWrong'. -/
def checkpointWrongCard : Claim7 := { stood := { row := checkpointWrongRow, standIns := [], harness := (true, "86b0d81a18a727682e03483d56ee5e4b3b662e5361eff41efd6c046b0a90dd8a"), looks := true }, kinds := [], alts := [], laidByText := true, laidKinds := [.data, .data, .data, .data, .handle, .sentinel, .sentinel, .sentinel, .sentinel, .sentinel, .sentinel, .sentinel, .sentinel, .sentinel, .sentinel, .sentinel, .sentinel, .sentinel, .sentinel, .sentinel, .sentinel, .data, .pinned], laidTests := true, laidLooks := .later }
def CheckpointWrongCardSaid : Prop := Claim7.holds Tryd.pinned (.plain (OpenSpec.ofChange checkpointWrongSpec)) checkpointWrongCard

/-- THE TIED CARD OF 'cartularylaw03.TextNumbers'. -/
def textNumbersCard : Claim7 := { stood := { row := textNumbersRow, standIns := [], harness := (true, "86b0d81a18a727682e03483d56ee5e4b3b662e5361eff41efd6c046b0a90dd8a"), looks := true }, kinds := [], alts := [], laidByText := true, laidKinds := [.data, .data, .data, .data, .handle, .sentinel, .sentinel, .sentinel, .sentinel, .sentinel, .sentinel, .sentinel, .sentinel, .sentinel, .sentinel, .sentinel, .sentinel, .sentinel, .sentinel, .sentinel, .sentinel, .data, .pinned], laidTests := true, laidLooks := .later }
def TextNumbersCardSaid : Prop := Claim7.holds Tryd.pinned (.plain (OpenSpec.ofChange textNumbersSpec)) textNumbersCard

/-- THE TIED CARD OF 'cartularylaw03.TextBack'. -/
def textBackCard : Claim7 := { stood := { row := textBackRow, standIns := [], harness := (true, "86b0d81a18a727682e03483d56ee5e4b3b662e5361eff41efd6c046b0a90dd8a"), looks := true }, kinds := [], alts := [], laidByText := true, laidKinds := [.data, .data, .data, .data, .handle, .sentinel, .sentinel, .sentinel, .sentinel, .sentinel, .sentinel, .sentinel, .sentinel, .sentinel, .sentinel, .sentinel, .sentinel, .sentinel, .sentinel, .sentinel, .sentinel, .data, .pinned], laidTests := true, laidLooks := .later }
def TextBackCardSaid : Prop := Claim7.holds Tryd.pinned (.plain (OpenSpec.ofChange textBackSpec)) textBackCard

/-- THE SECOND FORM's CARD OF 'cartularylaw03.TextLetters'. -/
def textLettersUptoCard : Claim7 := { stood := { row := textLettersUptoRow, standIns := [], harness := (true, "86b0d81a18a727682e03483d56ee5e4b3b662e5361eff41efd6c046b0a90dd8a"), looks := true }, kinds := [], alts := [], laidByText := true, laidKinds := [.data, .handle, .sentinel, .sentinel, .sentinel, .sentinel, .sentinel, .sentinel, .sentinel, .sentinel, .sentinel, .sentinel, .sentinel, .sentinel, .sentinel, .sentinel, .sentinel, .sentinel, .data, .pinned], laidTests := true, laidLooks := .later }
def TextLettersUptoCardSaid : Prop := Claim7.holds Tryd.pinned (.plain (OpenSpec.upto textLettersSpec)) textLettersUptoCard

/-- THE SECOND FORM's CARD OF 'cartularylaw03.TextNames'. -/
def textNamesUptoCard : Claim7 := { stood := { row := textNamesUptoRow, standIns := [], harness := (true, "86b0d81a18a727682e03483d56ee5e4b3b662e5361eff41efd6c046b0a90dd8a"), looks := true }, kinds := [], alts := [], laidByText := true, laidKinds := [.data, .handle, .sentinel, .sentinel, .sentinel, .sentinel, .sentinel, .sentinel, .sentinel, .sentinel, .sentinel, .sentinel, .sentinel, .sentinel, .sentinel, .sentinel, .sentinel, .sentinel, .data, .pinned], laidTests := true, laidLooks := .later }
def TextNamesUptoCardSaid : Prop := Claim7.holds Tryd.pinned (.plain (OpenSpec.upto textNamesSpec)) textNamesUptoCard

/-- THE SECOND FORM's CARD OF 'cartularylaw03.TextRows'. -/
def textRowsUptoCard : Claim7 := { stood := { row := textRowsUptoRow, standIns := [], harness := (true, "86b0d81a18a727682e03483d56ee5e4b3b662e5361eff41efd6c046b0a90dd8a"), looks := true }, kinds := [], alts := [], laidByText := true, laidKinds := [.data, .handle, .sentinel, .sentinel, .sentinel, .sentinel, .sentinel, .sentinel, .sentinel, .sentinel, .sentinel, .sentinel, .sentinel, .sentinel, .sentinel, .sentinel, .sentinel, .sentinel, .data, .pinned], laidTests := true, laidLooks := .later }
def TextRowsUptoCardSaid : Prop := Claim7.holds Tryd.pinned (.plain (OpenSpec.upto textRowsSpec)) textRowsUptoCard

/-- THE SECOND FORM's CARD OF 'cartularylaw03.TextSeen'. -/
def textSeenUptoCard : Claim7 := { stood := { row := textSeenUptoRow, standIns := [], harness := (true, "86b0d81a18a727682e03483d56ee5e4b3b662e5361eff41efd6c046b0a90dd8a"), looks := true }, kinds := [], alts := [], laidByText := true, laidKinds := [.data, .handle, .sentinel, .sentinel, .sentinel, .sentinel, .sentinel, .sentinel, .sentinel, .sentinel, .sentinel, .sentinel, .sentinel, .sentinel, .sentinel, .sentinel, .sentinel, .sentinel, .data, .pinned], laidTests := true, laidLooks := .later }
def TextSeenUptoCardSaid : Prop := Claim7.holds Tryd.pinned (.plain (OpenSpec.upto textSeenSpec)) textSeenUptoCard

/-- THE SECOND FORM's CARD OF 'cartularylaw03.TextWrong'. -/
def textWrongUptoCard : Claim7 := { stood := { row := textWrongUptoRow, standIns := [], harness := (true, "86b0d81a18a727682e03483d56ee5e4b3b662e5361eff41efd6c046b0a90dd8a"), looks := true }, kinds := [], alts := [], laidByText := true, laidKinds := [.data, .handle, .sentinel, .sentinel, .sentinel, .sentinel, .sentinel, .sentinel, .sentinel, .sentinel, .sentinel, .sentinel, .sentinel, .sentinel, .sentinel, .sentinel, .sentinel, .sentinel, .data, .pinned], laidTests := true, laidLooks := .later }
def TextWrongUptoCardSaid : Prop := Claim7.holds Tryd.pinned (.plain (OpenSpec.upto textWrongSpec)) textWrongUptoCard

/-- THE SECOND FORM's CARD OF 'cartularylaw03.TextDigits'. -/
def textDigitsUptoCard : Claim7 := { stood := { row := textDigitsUptoRow, standIns := [], harness := (true, "86b0d81a18a727682e03483d56ee5e4b3b662e5361eff41efd6c046b0a90dd8a"), looks := true }, kinds := [], alts := [], laidByText := true, laidKinds := [.data, .handle, .sentinel, .sentinel, .sentinel, .sentinel, .sentinel, .sentinel, .sentinel, .sentinel, .sentinel, .sentinel, .sentinel, .sentinel, .sentinel, .sentinel, .sentinel, .sentinel, .data, .pinned], laidTests := true, laidLooks := .later }
def TextDigitsUptoCardSaid : Prop := Claim7.holds Tryd.pinned (.plain (OpenSpec.upto textDigitsSpec)) textDigitsUptoCard

/-- THE SECOND FORM's CARD OF 'cartularylaw21.CheckpointBack'. -/
def checkpointBackUptoCard : Claim7 := { stood := { row := checkpointBackUptoRow, standIns := [], harness := (true, "86b0d81a18a727682e03483d56ee5e4b3b662e5361eff41efd6c046b0a90dd8a"), looks := true }, kinds := [], alts := [], laidByText := true, laidKinds := [.data, .data, .data, .data, .handle, .sentinel, .sentinel, .sentinel, .sentinel, .sentinel, .sentinel, .sentinel, .sentinel, .sentinel, .sentinel, .sentinel, .sentinel, .sentinel, .sentinel, .sentinel, .sentinel, .data, .pinned], laidTests := true, laidLooks := .later }
def CheckpointBackUptoCardSaid : Prop := Claim7.holds Tryd.pinned (.plain (OpenSpec.upto checkpointBackSpec)) checkpointBackUptoCard

/-- THE SECOND FORM's CARD OF 'cartularylaw21.CheckpointWrong'. -/
def checkpointWrongUptoCard : Claim7 := { stood := { row := checkpointWrongUptoRow, standIns := [], harness := (true, "86b0d81a18a727682e03483d56ee5e4b3b662e5361eff41efd6c046b0a90dd8a"), looks := true }, kinds := [], alts := [], laidByText := true, laidKinds := [.data, .data, .data, .data, .handle, .sentinel, .sentinel, .sentinel, .sentinel, .sentinel, .sentinel, .sentinel, .sentinel, .sentinel, .sentinel, .sentinel, .sentinel, .sentinel, .sentinel, .sentinel, .sentinel, .data, .pinned], laidTests := true, laidLooks := .later }
def CheckpointWrongUptoCardSaid : Prop := Claim7.holds Tryd.pinned (.plain (OpenSpec.upto checkpointWrongSpec)) checkpointWrongUptoCard

/-- THE SECOND FORM's CARD OF 'cartularylaw03.TextNumbers'. -/
def textNumbersUptoCard : Claim7 := { stood := { row := textNumbersUptoRow, standIns := [], harness := (true, "86b0d81a18a727682e03483d56ee5e4b3b662e5361eff41efd6c046b0a90dd8a"), looks := true }, kinds := [], alts := [], laidByText := true, laidKinds := [.data, .data, .data, .data, .handle, .sentinel, .sentinel, .sentinel, .sentinel, .sentinel, .sentinel, .sentinel, .sentinel, .sentinel, .sentinel, .sentinel, .sentinel, .sentinel, .sentinel, .sentinel, .sentinel, .data, .pinned], laidTests := true, laidLooks := .later }
def TextNumbersUptoCardSaid : Prop := Claim7.holds Tryd.pinned (.plain (OpenSpec.upto textNumbersSpec)) textNumbersUptoCard

/-- THE SECOND FORM's CARD OF 'cartularylaw03.TextBack'. -/
def textBackUptoCard : Claim7 := { stood := { row := textBackUptoRow, standIns := [], harness := (true, "86b0d81a18a727682e03483d56ee5e4b3b662e5361eff41efd6c046b0a90dd8a"), looks := true }, kinds := [], alts := [], laidByText := true, laidKinds := [.data, .data, .data, .data, .handle, .sentinel, .sentinel, .sentinel, .sentinel, .sentinel, .sentinel, .sentinel, .sentinel, .sentinel, .sentinel, .sentinel, .sentinel, .sentinel, .sentinel, .sentinel, .sentinel, .data, .pinned], laidTests := true, laidLooks := .later }
def TextBackUptoCardSaid : Prop := Claim7.holds Tryd.pinned (.plain (OpenSpec.upto textBackSpec)) textBackUptoCard
end Rows
end Go.Proofs.YtobnlnkmonaohaaDoor
