/-
  cartularyref03: Base64 by its contract (printed by wip/genrefb64.py).
-/
import Derived.Test.YtopilalefilkjaaGreatDoorRefF64
namespace Go.Proofs.YtopilalefilkjaaGreatDoor
open Go.RowKit

theorem b64_3 (a b c : UInt8) (r : List UInt8) : b64 (a :: b :: c :: r) = [L64 (n3 a b c / 262144), L64 (n3 a b c / 4096 % 64)] ++ [L64 (n3 a b c / 64 % 64)] ++ [L64 (n3 a b c % 64)] ++ b64 r := by
  have h := n3_lt a b c
  have e : b64 (a :: b :: c :: r) = L64 (n3 a b c / 262144 % 64) :: L64 (n3 a b c / 4096 % 64) :: L64 (n3 a b c / 64 % 64) :: L64 (n3 a b c % 64) :: b64 r := rfl
  rw [e, show n3 a b c / 262144 % 64 = n3 a b c / 262144 by omega]
  rfl
theorem b64_2 (a b : UInt8) : b64 [a, b] = [L64 (n3 a b 0 / 262144), L64 (n3 a b 0 / 4096 % 64)] ++ [L64 (n3 a b 0 / 64 % 64)] ++ [61] := by
  have ha := UInt8.toNat_lt a
  have hb := UInt8.toNat_lt b
  have h0 : (0 : UInt8).toNat = 0 := rfl
  unfold b64 n3
  rw [h0, show (a.toNat * 65536 + b.toNat * 256 + 0) / 262144 = a.toNat / 4 by omega, show (a.toNat * 65536 + b.toNat * 256 + 0) / 4096 % 64 = a.toNat % 4 * 16 + b.toNat / 16 by omega, show (a.toNat * 65536 + b.toNat * 256 + 0) / 64 % 64 = b.toNat % 16 * 4 by omega]
  rfl
theorem b64_1 (a : UInt8) : b64 [a] = [L64 (n3 a 0 0 / 262144), L64 (n3 a 0 0 / 4096 % 64)] ++ [61] ++ [61] := by
  have ha := UInt8.toNat_lt a
  have h0 : (0 : UInt8).toNat = 0 := rfl
  unfold b64 n3
  rw [h0, show (a.toNat * 65536 + 0 * 256 + 0) / 262144 = a.toNat / 4 by omega, show (a.toNat * 65536 + 0 * 256 + 0) / 4096 % 64 = a.toNat % 4 * 16 by omega]
  rfl
theorem news_at (W : World) (H : Nat) (hW : W.heap.size = H) (l : List UInt8) : ∀ j u, (Lib.byteCells l)[j]? = some u → (W.alloc (.cells (Lib.byteCells l).toArray 5)).cell? ((⟨H, 0, none⟩ : Addr).add j) = some u := fun j u hj => by
  rw [← hW]
  exact (heap_news W _ l j).trans hj
def RB64Rel (s : ByteArray) (w : World) (vo vi : Value) (wr : World) : Prop :=
  ∃ (k : Nat) (out : List UInt8), k ≤ s.size + 2 ∧ vi = .int .i64 k ∧ wr.ownsRow w.heap.size 5 1 vo out.length (Lib.byteCells out) ∧ Below w.heap.size w wr ∧ out ++ b64 (s.data.toList.drop k) = b64 s.data.toList

end Go.Proofs.YtopilalefilkjaaGreatDoor
