/-
  The answers of readings, as a reference tells them.
-/
import Derived.Test.YtjmgkallgflcdaaGreatDoorRefFH
namespace Go.Proofs.YtjmgkallgflcdaaGreatDoor
open Go.RowKit

/-- A reading's answer in its form. -/
def okAns (c : Nat) (p : Option Int) : Prop := (c = 0 ∧ p = none) ∨ (c ≠ 0 ∧ p = none) ∨ (c ≠ 0 ∧ ∃ i, p = some i ∧ i ≠ -1)
theorem sameB_fz {c : Nat} {p : Option Int} (h : okAns c p) : sameB c p (c : Int) (fz c p) = true := by
  rcases h with ⟨rfl, rfl⟩ | ⟨hc, rfl⟩ | ⟨hc, i, rfl, hi⟩
  · simp [sameB, fz, isAtB]
  · simp [sameB, fz, hc, isB]
  · simp [sameB, fz, hc, isAtB, hi]
end Go.Proofs.YtjmgkallgflcdaaGreatDoor
