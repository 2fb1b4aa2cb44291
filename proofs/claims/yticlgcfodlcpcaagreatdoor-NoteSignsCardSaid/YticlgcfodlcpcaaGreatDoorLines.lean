/- text.Lines by its contract: the lines of a text. -/
import Derived.Test.YticlgcfodlcpcaaGreatDoorDec
import Derived.Lib.SplitLaws
namespace Go.Proofs.YticlgcfodlcpcaaGreatDoor
open Go.RowKit
end Go.Proofs.YticlgcfodlcpcaaGreatDoor
