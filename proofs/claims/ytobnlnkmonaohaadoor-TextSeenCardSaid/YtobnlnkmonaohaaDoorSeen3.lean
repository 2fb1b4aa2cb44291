/-
  PROVED: cartularylaw03.TextSeen returns true, whatever the two texts (the tied card of its row). Conditions: those of the row: each text takes at most the bytes that the form allows; the listed package-level variables hold what the program lays.
-/
import Derived.Test.YtobnlnkmonaohaaDoorSeen2
import Derived.Test.YtobnlnkmonaohaaDoorSeenFrame
namespace Go.Proofs.YtobnlnkmonaohaaDoor
theorem textSeen_walk : TextSeenFrame.Walk := by
  intro S s t w hs ht hB
  cases hx : nameOf s.data.toList with
  | false =>
    by_cases hl : 4096 < s.size
    · cases hy : nameOf t.data.toList with
      | true => exact seen_ff_true_long S s t w hs ht hB hx hy hl
      | false => exact seen_ff_false_long S s t w hs ht hB hx hy hl
    · cases hy : nameOf t.data.toList with
      | true => exact seen_ff_true_short S s t w hs ht hB hx hy (by omega)
      | false => exact seen_ff_false_short S s t w hs ht hB hx hy (by omega)
  | true =>
    cases hy : nameOf t.data.toList with
    | true =>
      by_cases hl : s.size + t.size ≤ 64
      · exact seen_tt_near S s t w hs ht hB hx hy hl
      · exact seen_tt_far S s t w hs ht hB hx hy (by omega)
    | false =>
      by_cases hl : t.size = 0
      · exact seen_tt_empty S s t w hs ht hB hx hy hl
      · exact seen_tt_some S s t w hs ht hB hx hy hl
theorem textSeen_card : Rows.TextSeenCardSaid := TextSeenFrame.card textSeen_walk
end Go.Proofs.YtobnlnkmonaohaaDoor
