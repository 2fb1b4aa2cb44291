/-
  The card of TopForgedBatch.
-/
import Derived.Test.YthcccgbodceeeaaDoorFFrame
import Derived.Test.YthcccgbodceeeaaDoorFMain
namespace Go.Proofs.YthcccgbodceeeaaDoor
open Go.RowKit

theorem topForgedBatch_walk : TopForgedBatchFrame.Walk := fun S v w ha hF => by
  obtain ⟨lv, sv, pv, B, Z, ss, fs, pr, rfl, h1, h2, h3, h4, h5, h6, h7⟩ := ha
  exact main_any S lv sv pv ss fs pr B Z w hF h1 h2 h3 h4 h5 h6 h7
theorem topForgedBatch_card : Rows.TopForgedBatchCardSaid := TopForgedBatchFrame.card topForgedBatch_walk
end Go.Proofs.YthcccgbodceeeaaDoor
