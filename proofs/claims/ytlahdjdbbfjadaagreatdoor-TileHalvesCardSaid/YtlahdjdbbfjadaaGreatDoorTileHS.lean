/-
  tile.Hash: refused, or a whole subtree.
-/
import Derived.Test.YtlahdjdbbfjadaaGreatDoorTileHN
import Derived.Test.YtlahdjdbbfjadaaGreatDoorTileH
namespace Go.Proofs.YtlahdjdbbfjadaaGreatDoor
open Go.RowKit

theorem and_nat (c : Nat) (h : c ≤ 256) (h1 : 1 ≤ c) (hb : bits .and .i64 (c : Int) ((c : Int) - 1) = 0) : c &&& (c - 1) = 0 := by
  have : ∀ c : Fin 257, 1 ≤ c.val → bits .and .i64 (c.val : Int) ((c.val : Int) - 1) = 0 → c.val &&& (c.val - 1) = 0 := by decide +kernel
  exact this ⟨c, by omega⟩ h1 hb
theorem hash_split (n : Nat) (a c : Int) : (256 < (n : Int) ∨ c < 1 ∨ 256 < c ∨ bits .and .i64 c (c - 1) ≠ 0 ∨ a < 0 ∨ a % c ≠ 0 ∨ (n : Int) - c < a) ∨
    ∃ k at' : Nat, k ≤ 8 ∧ c = ((2 ^ k : Nat) : Int) ∧ a = (at' : Int) ∧ at' % 2 ^ k = 0 ∧ at' + 2 ^ k ≤ n ∧ n ≤ 256 := by
  by_cases hb : (256 < (n : Int) ∨ c < 1 ∨ 256 < c ∨ bits .and .i64 c (c - 1) ≠ 0 ∨ a < 0 ∨ a % c ≠ 0 ∨ (n : Int) - c < a)
  · exact .inl hb
  · right
    simp only [not_or, Decidable.not_not] at hb
    obtain ⟨h1, h2, h3, h4, h5, h6, h7⟩ := hb
    obtain ⟨c', rfl⟩ := Int.eq_ofNat_of_zero_le (show 0 ≤ c by omega)
    obtain ⟨a', rfl⟩ := Int.eq_ofNat_of_zero_le (show 0 ≤ a by omega)
    obtain ⟨k, hk, rfl⟩ := (pow_count c' (by omega) (by omega)).1 (and_nat c' (by omega) (by omega) h4)
    exact ⟨k, a', hk, rfl, rfl, by omega, by omega, by omega⟩
end Go.Proofs.YtlahdjdbbfjadaaGreatDoor
