/-
  cartularyref03: FromDecimal and Decimal by contracts (printed by wip/genrefdec.py).
-/
import Derived.Test.YtopilalefilkjaaGreatDoorNumP
import Derived.Test.YtopilalefilkjaaGreatDoorRefFH
namespace Go.Proofs.YtopilalefilkjaaGreatDoor
open Go.RowKit

/-- What a reference's reading of a number says. -/
def toldN (x : Nat × Nat × Option Int) : Value := .tuple #[.int .u64 (x.1 : Int), .agg #[.int .i64 (x.2.1 : Int), .int .i64 (fz x.2.1 x.2.2)]]
theorem refRun_cons (c : UInt8) (r : List UInt8) (i n : Nat) : refRun i n (c :: r) = if idx10 c < 0 ∨ (0 < i ∧ n = 0) ∨ 1844674407370955161 < n ∨ (n = 1844674407370955161 ∧ 5 < idx10 c) then .error i else refRun (i + 1) (n * 10 + (idx10 c).toNat) r := rfl
def RDRel (s : ByteArray) (vn vi : Value) : Prop :=
  ∃ k N : Nat, k ≤ s.size ∧ N ≤ 18446744073709551615 ∧ vi = .int .i64 k ∧ vn = .int .u64 N ∧ refRun 0 0 s.data.toList = refRun k N (s.data.toList.drop k)

end Go.Proofs.YtopilalefilkjaaGreatDoor
