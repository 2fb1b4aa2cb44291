/-
  PROVED: cartularylaw03.TextNames returns true, whatever the text (the tied card of its row). Conditions: those of the row: the text takes at most the bytes that the form allows; the listed package-level variables hold what the program lays.
-/
import Derived.Test.YtobnlnkmonaohaaDoorRefClear
import Derived.Test.YtobnlnkmonaohaaDoorNamesFrame
namespace Go.Proofs.YtobnlnkmonaohaaDoor
theorem textNames_walk : TextNamesFrame.Walk := fun S s w hs hB => names_at S s w hs hB _ _ rfl rfl
theorem textNames_card : Rows.TextNamesCardSaid := TextNamesFrame.card textNames_walk
end Go.Proofs.YtobnlnkmonaohaaDoor
