/-
  Trees of hashes, plainly: a tree is folded level by level.
-/
import Derived.Test.YtlahdjdbbfjadaaGreatDoorHashes
namespace Go.Proofs.YtlahdjdbbfjadaaGreatDoor

/-- The first so many nodes over pairs of hashes. -/
def lvl (N : List UInt8 → List UInt8 → List UInt8) (l : List UInt8) : Nat → List UInt8
  | 0 => []
  | m + 1 => lvl N l m ++ N (hashAt l (2 * m)) (hashAt l (2 * m + 1))
/-- The whole tree over 2 ^ k hashes. -/
def treeL (N : List UInt8 → List UInt8 → List UInt8) : Nat → List UInt8 → List UInt8
  | 0, l => hashAt l 0
  | k + 1, l => N (treeL N k (l.take (32 * 2 ^ k))) (treeL N k (l.drop (32 * 2 ^ k)))
theorem lvl_len {N : List UInt8 → List UInt8 → List UInt8} (hN : ∀ a b, (N a b).length = 32) (l : List UInt8) : ∀ m, (lvl N l m).length = 32 * m
  | 0 => rfl
  | m + 1 => by rw [lvl, List.length_append, lvl_len hN l m, hN]; omega
theorem hashAt_drop (l : List UInt8) (a i : Nat) : hashAt (l.drop (32 * a)) i = hashAt l (a + i) := by
  unfold hashAt
  rw [List.drop_drop, ← Nat.mul_add]
theorem hashAt_take (l : List UInt8) (a i : Nat) (h : i < a) : hashAt (l.take (32 * a)) i = hashAt l i := by
  unfold hashAt
  rw [List.drop_take, List.take_take, Nat.min_eq_left (by omega)]
theorem lvl_app (N : List UInt8 → List UInt8 → List UInt8) (l : List UInt8) (a : Nat) : ∀ b, lvl N l (a + b) = lvl N l a ++ lvl N (l.drop (32 * (2 * a))) b
  | 0 => by simp [lvl]
  | b + 1 => by
    rw [← Nat.add_assoc, lvl, lvl, lvl_app N l a b, hashAt_drop, hashAt_drop, List.append_assoc, Nat.mul_add, Nat.add_assoc]
theorem lvl_take (N : List UInt8 → List UInt8 → List UInt8) (l : List UInt8) (a : Nat) : ∀ b, b ≤ a → lvl N (l.take (32 * (2 * a))) b = lvl N l b
  | 0, _ => rfl
  | b + 1, h => by rw [lvl, lvl, lvl_take N l a b (by omega), hashAt_take _ _ _ (by omega), hashAt_take _ _ _ (by omega)]
theorem treeL_len {N : List UInt8 → List UInt8 → List UInt8} (hN : ∀ a b, (N a b).length = 32) : ∀ (k : Nat) (l : List UInt8), 32 ≤ l.length → (treeL N k l).length = 32
  | 0, l, h => by unfold treeL hashAt; rw [Nat.mul_zero, List.drop_zero, List.length_take]; omega
  | k + 1, l, h => by rw [treeL, hN]
theorem tree_lvl {N : List UInt8 → List UInt8 → List UInt8} (hN : ∀ a b, (N a b).length = 32) : ∀ (k : Nat) (l : List UInt8), l.length = 32 * 2 ^ (k + 1) → treeL N (k + 1) l = treeL N k (lvl N l (2 ^ k))
  | 0, l, h => by
    have e0 : hashAt (l.take 32) 0 = hashAt l 0 := hashAt_take l 1 0 (by omega)
    have e1 : hashAt (l.drop 32) 0 = hashAt l 1 := hashAt_drop l 1 0
    have e2 : (N (hashAt l 0) (hashAt l 1)).take 32 = N (hashAt l 0) (hashAt l 1) := List.take_of_length_le (by rw [hN]; exact Nat.le_refl _)
    show N (hashAt (l.take 32) 0) (hashAt (l.drop 32) 0) = (N (hashAt l 0) (hashAt l 1)).take 32
    rw [e0, e1, e2]
  | k + 1, l, h => by
    have h2 : (2 : Nat) ^ (k + 1) = 2 * 2 ^ k := by rw [Nat.pow_succ]; omega
    have h4 : (2 : Nat) ^ (k + 1 + 1) = 4 * 2 ^ k := by rw [Nat.pow_succ, Nat.pow_succ]; omega
    have a1 := tree_lvl hN k (l.take (32 * 2 ^ (k + 1))) (by rw [List.length_take, h, h2, h4]; omega)
    have a2 := tree_lvl hN k (l.drop (32 * 2 ^ (k + 1))) (by rw [List.length_drop, h, h2, h4]; omega)
    rw [treeL, a1, a2, treeL]
    have e : lvl N l (2 ^ (k + 1)) = lvl N l (2 ^ k) ++ lvl N (l.drop (32 * (2 * 2 ^ k))) (2 ^ k) := by rw [← lvl_app, h2]; congr 1; omega
    have hl := lvl_len hN l (2 ^ k)
    have t1 : (lvl N l (2 ^ k) ++ lvl N (l.drop (32 * (2 * 2 ^ k))) (2 ^ k)).take (32 * 2 ^ k) = lvl N l (2 ^ k) := List.take_left' hl
    have t2 : (lvl N l (2 ^ k) ++ lvl N (l.drop (32 * (2 * 2 ^ k))) (2 ^ k)).drop (32 * 2 ^ k) = lvl N (l.drop (32 * (2 * 2 ^ k))) (2 ^ k) := List.drop_left' hl
    rw [e, t1, t2, h2, lvl_take N l (2 ^ k) _ (Nat.le_refl _)]
/-- While a row is folded in place: the first so many are the new ones. -/
def foldAt (N : List UInt8 → List UInt8 → List UInt8) (l : List UInt8) (i : Nat) : List UInt8 := lvl N l i ++ l.drop (32 * i)
theorem foldAt_zero (N : List UInt8 → List UInt8 → List UInt8) (l : List UInt8) : foldAt N l 0 = l := by simp [foldAt, lvl]
theorem foldAt_len {N : List UInt8 → List UInt8 → List UInt8} (hN : ∀ a b, (N a b).length = 32) {l : List UInt8} {n : Nat} (h : l.length = 32 * n) (i : Nat) (hi : i ≤ n) : (foldAt N l i).length = 32 * n := by
  unfold foldAt
  rw [List.length_append, lvl_len hN, List.length_drop, h]
  omega
theorem foldAt_get {N : List UInt8 → List UInt8 → List UInt8} (hN : ∀ a b, (N a b).length = 32) (l : List UInt8) (i j : Nat) (h : i ≤ j) : hashAt (foldAt N l i) j = hashAt l j := by
  unfold foldAt hashAt
  rw [List.drop_append, List.drop_of_length_le (by rw [lvl_len hN]; omega), List.nil_append, lvl_len hN, List.drop_drop]
  congr 2
  omega
theorem foldAt_next {N : List UInt8 → List UInt8 → List UInt8} (hN : ∀ a b, (N a b).length = 32) (l : List UInt8) (i : Nat) :
    (foldAt N l i).take (32 * i) ++ N (hashAt l (2 * i)) (hashAt l (2 * i + 1)) ++ (foldAt N l i).drop (32 * (i + 1)) = foldAt N l (i + 1) := by
  have hl := lvl_len hN l i
  unfold foldAt
  rw [List.take_left' hl, List.drop_append, List.drop_of_length_le (by omega), List.nil_append, hl, List.drop_drop, lvl]
  congr 2
  omega
theorem pow_count (c : Nat) (h1 : 1 ≤ c) (h2 : c ≤ 256) : (c &&& (c - 1) = 0) ↔ ∃ k, k ≤ 8 ∧ c = 2 ^ k := by
  have : ∀ c : Fin 257, 1 ≤ c.val → ((c.val &&& (c.val - 1) = 0) ↔ ∃ k, k ≤ 8 ∧ c.val = 2 ^ k) := by
    have e : ∀ c : Nat, (∃ k, k ≤ 8 ∧ c = 2 ^ k) ↔ c = 1 ∨ c = 2 ∨ c = 4 ∨ c = 8 ∨ c = 16 ∨ c = 32 ∨ c = 64 ∨ c = 128 ∨ c = 256 := by
      intro c
      constructor
      · rintro ⟨k, hk, rfl⟩
        rcases show k = 0 ∨ k = 1 ∨ k = 2 ∨ k = 3 ∨ k = 4 ∨ k = 5 ∨ k = 6 ∨ k = 7 ∨ k = 8 by omega with rfl | rfl | rfl | rfl | rfl | rfl | rfl | rfl | rfl <;> decide
      · rintro (rfl | rfl | rfl | rfl | rfl | rfl | rfl | rfl | rfl)
        · exact ⟨0, by omega, rfl⟩
        · exact ⟨1, by omega, rfl⟩
        · exact ⟨2, by omega, rfl⟩
        · exact ⟨3, by omega, rfl⟩
        · exact ⟨4, by omega, rfl⟩
        · exact ⟨5, by omega, rfl⟩
        · exact ⟨6, by omega, rfl⟩
        · exact ⟨7, by omega, rfl⟩
        · exact ⟨8, by omega, rfl⟩
    simp only [e]
    decide +kernel
  exact this ⟨c, by omega⟩ h1
end Go.Proofs.YtlahdjdbbfjadaaGreatDoor
