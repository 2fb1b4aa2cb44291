/-
  PROVED: cartularylaw11.TileBack returns true, for every argument whose bulk is small (the second form of the tied card of its row): Parse of Path is the tile, Path of what Parse answers the name, Decode of Encode the hashes, Encode of Decode the bytes. Conditions: those of the row.
-/
import Derived.Test.YtopilalefilkjaaGreatDoorTileBackW
import Derived.Test.YtopilalefilkjaaGreatDoorTileBackFrame
namespace Go.Proofs.YtopilalefilkjaaGreatDoor
open Go.RowKit

theorem tileBack_card : Rows.TileBackUptoCardSaid := TileBackFrame.card tileBack_run
#print axioms tileBack_card
end Go.Proofs.YtopilalefilkjaaGreatDoor
