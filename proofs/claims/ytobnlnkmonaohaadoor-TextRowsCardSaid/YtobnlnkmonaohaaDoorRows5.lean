/-
  PROVED: cartularylaw03.TextRows returns true, whatever the two texts (the tied card of its row). Conditions: those of the row: each text takes at most the bytes that the form allows; the listed package-level variables hold what the program lays.
-/
import Derived.Test.YtobnlnkmonaohaaDoorRows4
import Derived.Test.YtobnlnkmonaohaaDoorRowsFrame
namespace Go.Proofs.YtobnlnkmonaohaaDoor
theorem textRows_walk : TextRowsFrame.Walk := by
  intro S s t w hs ht hB
  by_cases hbig : 1048576 < s.size + t.size
  · exact rows_far S s t w hs ht hbig hB
  · have hn : s.size + t.size ≤ 1048576 := by omega
    by_cases h1 : okL t.data.toList
    · by_cases h2 : okL s.data.toList
      · exact rows_ok S s t w hn h2 h1 hB
      · by_cases h0 : t.size = 0
        · exact rows_bad1 S s t w hn h2 h0 hB
        · exact rows_bad3 S s t w hn h2 h1 h0 hB
    · by_cases h2 : okL s.data.toList
      · exact rows_bad2 S s t w hn h1 hB h2
      · exact rows_bad4 S s t w hn h1 h2 hB
theorem textRows_card : Rows.TextRowsCardSaid := TextRowsFrame.card textRows_walk
end Go.Proofs.YtobnlnkmonaohaaDoor
