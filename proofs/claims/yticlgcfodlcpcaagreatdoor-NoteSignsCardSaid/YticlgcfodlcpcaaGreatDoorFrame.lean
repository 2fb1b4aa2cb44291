/- The witness' world of the rows that list twenty variables: every listed variable holds its datum. -/
import Derived.Test.YticlgcfodlcpcaaGreatDoorLaid
import Derived.Test.YticlgcfodlcpcaaGreatDoorCards
import Derived.Test.YticlgcfodlcpcaaGreatDoorTie
import Derived.ProofKit
import Derived.Deep.DeepHandedRow
import Derived.Deep.DeepWitnessRowRef
import Derived.Lay
import Derived.SevenTiedAt
namespace Go.Proofs.YticlgcfodlcpcaaGreatDoor
open Go.ChangeShapes Go.WideShapes Go.ChangeAt Go.RowKit
theorem own:ownKnob Tryz.prog.godebug = none:=by kernel_rfl
noncomputable def w00 (os:Os):World:=
 { World.holding Tryz.prog os ⟨#[],#[],[]⟩ with heap:=(World.holding Tryz.prog os ⟨#[],#[],[]⟩).heap.modify 19 fun
   | .cells _ t frozen=>.cells #[.iface 185 (.agg #[.pointer (some ⟨22,34,none⟩)])] t frozen
   | o=>o }
end Go.Proofs.YticlgcfodlcpcaaGreatDoor
