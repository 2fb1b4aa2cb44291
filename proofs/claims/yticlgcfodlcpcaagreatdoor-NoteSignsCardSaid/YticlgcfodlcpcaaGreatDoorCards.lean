/-
  DERIVED. GIVEN WITH THE SEED: THE CARDS: each row of YticlgcfodlcpcaaGreatDoorRows.lean that lists a variable, with what it lists TIED to the program's text (the seventh form; the later family's looks); each row that meets fmt, with fmt's text TOLD by the authors' own Lean function (tested against real Go, not proved from fmt's source: count such statements apart). THE CARD IS WHAT COUNTS. Prove the row's statement (the work); the ties are given (YticlgcfodlcpcaaGreatDoorTie.lean); close each card by the builder's one call (the guide's Derived/Test/ToyasCard.lean, 'card_holds'). Laid BY PROGRAM, IN A SANDBOX (cutbox-door.mjs). By AI agents, Wed Nov 11 2026. No macro, syntax, notation, axiom, sorry.
-/
import Derived.Test.YticlgcfodlcpcaaGreatDoorRows
import GoSem.ClaimSeven
namespace Go.Proofs.YticlgcfodlcpcaaGreatDoor
namespace Rows

/-- THE TIED CARD OF 'cartularylaw24.NoteSigns'. -/
def noteSignsCard : Claim7 := { stood := { row := noteSignsRow, standIns := [], harness := (true, "3a67dd1f46bc1d5449e57ebdbe84e347619866e6b71adf88693a20764b9ddac1"), looks := true }, kinds := [], alts := [], laidByText := true, laidKinds := [.data, .handle, .sentinel, .sentinel, .sentinel, .sentinel, .sentinel, .sentinel, .sentinel, .sentinel, .sentinel, .sentinel, .sentinel, .sentinel, .sentinel, .sentinel, .sentinel, .sentinel, .data, .data, .pinned], laidTests := true, laidLooks := .later }
def NoteSignsCardSaid : Prop := Claim7.holds Tryz.pinned (.plain (OpenSpec.ofChange noteSignsSpec)) noteSignsCard

/-- THE TIED CARD OF 'cartularylaw24.NoteBack'. -/
def noteBackCard : Claim7 := { stood := { row := noteBackRow, standIns := [], harness := (true, "3a67dd1f46bc1d5449e57ebdbe84e347619866e6b71adf88693a20764b9ddac1"), looks := true }, kinds := [], alts := [], laidByText := true, laidKinds := [.data, .handle, .sentinel, .sentinel, .sentinel, .sentinel, .sentinel, .sentinel, .sentinel, .sentinel, .sentinel, .sentinel, .sentinel, .sentinel, .sentinel, .sentinel, .sentinel, .sentinel, .data, .data, .pinned], laidTests := true, laidLooks := .later }
def NoteBackCardSaid : Prop := Claim7.holds Tryz.pinned (.plain (OpenSpec.ofChange noteBackSpec)) noteBackCard

/-- THE TIED CARD OF 'cartularylaw24.NoteTakes'. -/
def noteTakesCard : Claim7 := { stood := { row := noteTakesRow, standIns := [], harness := (true, "3a67dd1f46bc1d5449e57ebdbe84e347619866e6b71adf88693a20764b9ddac1"), looks := true }, kinds := [], alts := [], laidByText := true, laidKinds := [.data, .handle, .sentinel, .sentinel, .sentinel, .sentinel, .sentinel, .sentinel, .sentinel, .sentinel, .sentinel, .sentinel, .sentinel, .sentinel, .sentinel, .sentinel, .sentinel, .sentinel, .data, .data, .pinned], laidTests := true, laidLooks := .later }
def NoteTakesCardSaid : Prop := Claim7.holds Tryz.pinned (.plain (OpenSpec.ofChange noteTakesSpec)) noteTakesCard

/-- THE TIED CARD OF 'cartularylaw24.NoteKnows'. -/
def noteKnowsCard : Claim7 := { stood := { row := noteKnowsRow, standIns := [], harness := (true, "3a67dd1f46bc1d5449e57ebdbe84e347619866e6b71adf88693a20764b9ddac1"), looks := true }, kinds := [], alts := [], laidByText := true, laidKinds := [.data, .handle, .sentinel, .sentinel, .sentinel, .sentinel, .sentinel, .sentinel, .sentinel, .sentinel, .sentinel, .sentinel, .sentinel, .sentinel, .sentinel, .sentinel, .sentinel, .sentinel, .data, .data, .pinned], laidTests := true, laidLooks := .later }
def NoteKnowsCardSaid : Prop := Claim7.holds Tryz.pinned (.plain (OpenSpec.ofChange noteKnowsSpec)) noteKnowsCard

/-- THE SECOND FORM's CARD OF 'cartularylaw24.NoteSigns'. -/
def noteSignsUptoCard : Claim7 := { stood := { row := noteSignsUptoRow, standIns := [], harness := (true, "3a67dd1f46bc1d5449e57ebdbe84e347619866e6b71adf88693a20764b9ddac1"), looks := true }, kinds := [], alts := [], laidByText := true, laidKinds := [.data, .handle, .sentinel, .sentinel, .sentinel, .sentinel, .sentinel, .sentinel, .sentinel, .sentinel, .sentinel, .sentinel, .sentinel, .sentinel, .sentinel, .sentinel, .sentinel, .sentinel, .data, .data, .pinned], laidTests := true, laidLooks := .later }
def NoteSignsUptoCardSaid : Prop := Claim7.holds Tryz.pinned (.plain (OpenSpec.upto noteSignsSpec)) noteSignsUptoCard

/-- THE SECOND FORM's CARD OF 'cartularylaw24.NoteBack'. -/
def noteBackUptoCard : Claim7 := { stood := { row := noteBackUptoRow, standIns := [], harness := (true, "3a67dd1f46bc1d5449e57ebdbe84e347619866e6b71adf88693a20764b9ddac1"), looks := true }, kinds := [], alts := [], laidByText := true, laidKinds := [.data, .handle, .sentinel, .sentinel, .sentinel, .sentinel, .sentinel, .sentinel, .sentinel, .sentinel, .sentinel, .sentinel, .sentinel, .sentinel, .sentinel, .sentinel, .sentinel, .sentinel, .data, .data, .pinned], laidTests := true, laidLooks := .later }
def NoteBackUptoCardSaid : Prop := Claim7.holds Tryz.pinned (.plain (OpenSpec.upto noteBackSpec)) noteBackUptoCard

/-- THE SECOND FORM's CARD OF 'cartularylaw24.NoteTakes'. -/
def noteTakesUptoCard : Claim7 := { stood := { row := noteTakesUptoRow, standIns := [], harness := (true, "3a67dd1f46bc1d5449e57ebdbe84e347619866e6b71adf88693a20764b9ddac1"), looks := true }, kinds := [], alts := [], laidByText := true, laidKinds := [.data, .handle, .sentinel, .sentinel, .sentinel, .sentinel, .sentinel, .sentinel, .sentinel, .sentinel, .sentinel, .sentinel, .sentinel, .sentinel, .sentinel, .sentinel, .sentinel, .sentinel, .data, .data, .pinned], laidTests := true, laidLooks := .later }
def NoteTakesUptoCardSaid : Prop := Claim7.holds Tryz.pinned (.plain (OpenSpec.upto noteTakesSpec)) noteTakesUptoCard

/-- THE SECOND FORM's CARD OF 'cartularylaw24.NoteKnows'. -/
def noteKnowsUptoCard : Claim7 := { stood := { row := noteKnowsUptoRow, standIns := [], harness := (true, "3a67dd1f46bc1d5449e57ebdbe84e347619866e6b71adf88693a20764b9ddac1"), looks := true }, kinds := [], alts := [], laidByText := true, laidKinds := [.data, .handle, .sentinel, .sentinel, .sentinel, .sentinel, .sentinel, .sentinel, .sentinel, .sentinel, .sentinel, .sentinel, .sentinel, .sentinel, .sentinel, .sentinel, .sentinel, .sentinel, .data, .data, .pinned], laidTests := true, laidLooks := .later }
def NoteKnowsUptoCardSaid : Prop := Claim7.holds Tryz.pinned (.plain (OpenSpec.upto noteKnowsSpec)) noteKnowsUptoCard
end Rows
end Go.Proofs.YticlgcfodlcpcaaGreatDoor
