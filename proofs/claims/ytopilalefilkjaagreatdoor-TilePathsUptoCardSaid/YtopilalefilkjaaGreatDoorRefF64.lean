/-
  cartularyref03: FromBase64 by its contract (printed by wip/genreff64.py).
-/
import Derived.Test.YtopilalefilkjaaGreatDoorRefW
import Derived.Test.YtopilalefilkjaaGreatDoorRefFH
namespace Go.Proofs.YtopilalefilkjaaGreatDoor
open Go.RowKit

theorem w64_cases {n k : Nat} {l : List UInt8} (hn : k + l.length = n) (h : w64 n k l = -1) : l = [] ∨ ∃ a b c d r A B, l = a :: b :: c :: d :: r ∧ w64 n (k + 4) r = -1 ∧ idx64 a = ((A : Nat) : Int) ∧ A < 64 ∧ a ≠ 61 ∧ idx64 b = ((B : Nat) : Int) ∧ B < 64 ∧ b ≠ 61 ∧
    ((c = 61 ∧ d = 61) ∨ ∃ C, idx64 c = ((C : Nat) : Int) ∧ C < 64 ∧ c ≠ 61 ∧ (d = 61 ∨ ∃ D, idx64 d = ((D : Nat) : Int) ∧ D < 64 ∧ d ≠ 61)) := by
  match l with
  | [] => exact .inl rfl
  | [a] => rw [wl1] at h; split at h <;> omega
  | [a, b] => rw [wl2] at h; split at h <;> omega
  | [a, b, c] => rw [wl3] at h; split at h <;> omega
  | a :: b :: c :: d :: r =>
    rw [w64_4] at h
    split at h
    · omega
    · rename_i hg
      split at h
      · omega
      · obtain ⟨g0, g1, g2, g3⟩ := group_ok a b c d hg
        obtain ⟨a0, a1⟩ := badG_01 (by omega) g0
        obtain ⟨b0, b1⟩ := badG_01 (by omega) g1
        have ha := idx64_bd a
        have hb := idx64_bd b
        have hc := idx64_bd c
        have hd := idx64_bd d
        refine .inr ⟨a, b, c, d, r, (idx64 a).toNat, (idx64 b).toNat, rfl, h, by omega, by omega, a1, by omega, by omega, b1, ?_⟩
        rcases badG_2 g2 with ⟨rfl, _⟩ | ⟨c0, c1⟩
        · rcases badG_3 g3 with ⟨rfl, _⟩ | ⟨_, _, h'⟩
          · exact .inl ⟨rfl, rfl⟩
          · exact absurd rfl h'
        · refine .inr ⟨(idx64 c).toNat, by omega, by omega, c1, ?_⟩
          rcases badG_3 g3 with ⟨rfl, _⟩ | ⟨d0, d1, _⟩
          · exact .inl rfl
          · exact .inr ⟨(idx64 d).toNat, by omega, by omega, d1⟩
def RF64Rel (s : ByteArray) (w : World) (vo vi : Value) (wr : World) : Prop :=
  ∃ (k : Nat) (out : List UInt8), k ≤ s.size ∧ vi = .int .i64 k ∧ out.length ≤ k ∧ wr.ownsRow (fW w).heap.size 5 1 vo out.length (Lib.byteCells out) ∧ Below (fW w).heap.size (fW w) wr ∧
    w64 s.size k (s.data.toList.drop k) = -1 ∧ out ++ dec64 (s.data.toList.drop k) = dec64 s.data.toList

end Go.Proofs.YtopilalefilkjaaGreatDoor
