/-
  The claim NoteTakes.
-/
import Derived.Test.YticlgcfodlcpcaaGreatDoorNTakes
import Derived.Test.YticlgcfodlcpcaaGreatDoorNoteTakesFrame
namespace Go.Proofs.YticlgcfodlcpcaaGreatDoor
open Go.RowKit

theorem noteTakes_card : Rows.NoteTakesCardSaid := NoteTakesFrame.card fun S s0 s1 w h0 h1 hF => by
  have l0 : s0.data.toList.length = s0.size := Array.length_toList
  have l1 : s1.data.toList.length = s1.size := Array.length_toList
  exact takes_any S s0.data.toList s1.data.toList (by omega) (by omega) w hF
end Go.Proofs.YticlgcfodlcpcaaGreatDoor
