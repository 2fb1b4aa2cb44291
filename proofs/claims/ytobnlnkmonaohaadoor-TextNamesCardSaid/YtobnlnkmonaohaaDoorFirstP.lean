/-
  Plain: the first rune of a text, as the reference reckons it, is the model's own (where it is whole).
-/
import Derived.Test.YtobnlnkmonaohaaDoorRefU
import Derived.Test.YtobnlnkmonaohaaDoorSeen
namespace Go.Proofs.YtobnlnkmonaohaaDoor
open Go.RowKit

/-- The first rune and how many bytes it has; (0, 0): none begins there. -/
def firstOf (l : List UInt8) : Nat × Nat := if (Lib.decodeL l).1 = 65533 ∧ (Lib.decodeL l).2 = 1 then (0, 0) else Lib.decodeL l
def fol (n b k : Nat) : Prop := k < n ∧ b / 64 = 2
instance (n b k : Nat) : Decidable (fol n b k) := inferInstanceAs (Decidable (_ ∧ _))
def v3 (b0 b1 b2 : Nat) : Nat := (b0 - 224) * 4096 + (b1 - 128) * 64 + (b2 - 128)
def v4 (b0 b1 b2 b3 : Nat) : Nat := (b0 - 240) * 262144 + (b1 - 128) * 4096 + (b2 - 128) * 64 + (b3 - 128)
def firstN (n b0 b1 b2 b3 : Nat) : Nat × Nat :=
  if b0 < 128 then (b0, 1)
  else if b0 < 194 then (0, 0)
  else if b0 < 224 then (if fol n b1 1 then ((b0 - 192) * 64 + (b1 - 128), 2) else (0, 0))
  else if b0 < 240 then (if fol n b1 1 ∧ fol n b2 2 then (if v3 b0 b1 b2 < 2048 ∨ (55296 ≤ v3 b0 b1 b2 ∧ v3 b0 b1 b2 ≤ 57343) then (0, 0) else (v3 b0 b1 b2, 3)) else (0, 0))
  else if b0 < 245 then (if fol n b1 1 ∧ fol n b2 2 ∧ fol n b3 3 then (if v4 b0 b1 b2 b3 < 65536 ∨ 1114111 < v4 b0 b1 b2 b3 then (0, 0) else (v4 b0 b1 b2 b3, 4)) else (0, 0))
  else (0, 0)
def bad1 (d : Nat × Nat) : Nat × Nat := if d.1 = 65533 ∧ d.2 = 1 then (0, 0) else d
theorem bad1_err : bad1 (65533, 1) = (0, 0) := rfl
theorem bad1_ok (x w : Nat) (h : w ≠ 1) : bad1 (x, w) = (x, w) := by
  unfold bad1; rw [if_neg (fun e => h e.2)]
set_option maxRecDepth 10000 in
theorem firstN_eq (n b0 b1 b2 b3 : Nat) (h0 : b0 < 256) (h1 : b1 < 256) (h2 : b2 < 256) (h3 : b3 < 256) : firstN n b0 b1 b2 b3 = bad1 (Lib.decodeN n b0 b1 b2 b3) := by
  unfold firstN
  by_cases c1 : b0 < 128
  · rw [if_pos c1, Lib.decodeN_ascii _ _ _ _ _ c1]
    unfold bad1
    rw [if_neg (by simp only; omega)]
  · rw [if_neg c1]
    by_cases c2 : b0 < 194
    · rw [if_pos c2, Lib.decodeN_bad _ _ _ _ _ (.inl ⟨by omega, c2⟩), bad1_err]
    · rw [if_neg c2]
      by_cases c3 : b0 < 224
      · rw [if_pos c3]
        unfold Lib.decodeN
        rw [if_neg c1]
        by_cases f : fol n b1 1
        · rw [if_pos f, if_pos ⟨by omega, f⟩, if_pos (by unfold fol at f; omega), bad1_ok _ _ (by omega)]
          unfold fol at f
          congr 1
          omega
        · rw [if_neg f, if_neg (fun e => f e.2), if_neg (show ¬ (b0 / 16 = 14 ∧ (1 < n ∧ b1 / 64 = 2) ∧ (2 < n ∧ b2 / 64 = 2)) by omega), if_neg (show ¬ (b0 / 8 = 30 ∧ (1 < n ∧ b1 / 64 = 2) ∧ (2 < n ∧ b2 / 64 = 2) ∧ (3 < n ∧ b3 / 64 = 2)) by omega), bad1_err]
      · rw [if_neg c3]
        by_cases c4 : b0 < 240
        · rw [if_pos c4]
          unfold Lib.decodeN
          rw [if_neg c1, if_neg (show ¬ (b0 / 32 = 6 ∧ (1 < n ∧ b1 / 64 = 2)) by omega)]
          by_cases f : fol n b1 1 ∧ fol n b2 2
          · rw [if_pos f, if_pos (show b0 / 16 = 14 ∧ (1 < n ∧ b1 / 64 = 2) ∧ (2 < n ∧ b2 / 64 = 2) from ⟨by omega, f.1, f.2⟩)]
            unfold fol at f
            have e : v3 b0 b1 b2 = b0 % 16 * 4096 + b1 % 64 * 64 + b2 % 64 := by unfold v3; omega
            rw [e]
            by_cases g : b0 % 16 * 4096 + b1 % 64 * 64 + b2 % 64 < 2048 ∨ (55296 ≤ b0 % 16 * 4096 + b1 % 64 * 64 + b2 % 64 ∧ b0 % 16 * 4096 + b1 % 64 * 64 + b2 % 64 ≤ 57343)
            · rw [if_pos g, if_neg (by omega), bad1_err]
            · rw [if_neg g, if_pos (by omega), bad1_ok _ _ (by omega)]
          · rw [if_neg f, if_neg (fun e => f ⟨e.2.1, e.2.2⟩), if_neg (show ¬ (b0 / 8 = 30 ∧ (1 < n ∧ b1 / 64 = 2) ∧ (2 < n ∧ b2 / 64 = 2) ∧ (3 < n ∧ b3 / 64 = 2)) by omega), bad1_err]
        · rw [if_neg c4]
          by_cases c5 : b0 < 245
          · rw [if_pos c5]
            unfold Lib.decodeN
            rw [if_neg c1, if_neg (show ¬ (b0 / 32 = 6 ∧ (1 < n ∧ b1 / 64 = 2)) by omega), if_neg (show ¬ (b0 / 16 = 14 ∧ (1 < n ∧ b1 / 64 = 2) ∧ (2 < n ∧ b2 / 64 = 2)) by omega)]
            by_cases f : fol n b1 1 ∧ fol n b2 2 ∧ fol n b3 3
            · rw [if_pos f, if_pos (show b0 / 8 = 30 ∧ (1 < n ∧ b1 / 64 = 2) ∧ (2 < n ∧ b2 / 64 = 2) ∧ (3 < n ∧ b3 / 64 = 2) from ⟨by omega, f.1, f.2.1, f.2.2⟩)]
              unfold fol at f
              have e : v4 b0 b1 b2 b3 = b0 % 8 * 262144 + b1 % 64 * 4096 + b2 % 64 * 64 + b3 % 64 := by unfold v4; omega
              rw [e]
              by_cases g : b0 % 8 * 262144 + b1 % 64 * 4096 + b2 % 64 * 64 + b3 % 64 < 65536 ∨ 1114111 < b0 % 8 * 262144 + b1 % 64 * 4096 + b2 % 64 * 64 + b3 % 64
              · rw [if_pos g, if_neg (by omega), bad1_err]
              · rw [if_neg g, if_pos (by omega), bad1_ok _ _ (by omega)]
            · rw [if_neg f, if_neg (fun e => f ⟨e.2.1, e.2.2.1, e.2.2.2⟩), bad1_err]
          · rw [if_neg c5, Lib.decodeN_bad _ _ _ _ _ (.inr ⟨by omega, h0⟩), bad1_err]
theorem firstOf_N (l : List UInt8) : firstOf l = firstN l.length (l.getD 0 0).toNat (l.getD 1 0).toNat (l.getD 2 0).toNat (l.getD 3 0).toNat := by
  rw [firstN_eq _ _ _ _ _ (UInt8.toNat_lt _) (UInt8.toNat_lt _) (UInt8.toNat_lt _) (UInt8.toNat_lt _), ← Lib.decodeL_N]
  rfl
theorem goodD_first (bad : Int → Bool) (n : Nat) (l : List UInt8) (hne : l ≠ []) : goodD bad (n + 1) l = if (firstOf l).2 = 0 then false else if bad (firstOf l).1 = true then false else goodD bad n (l.drop (firstOf l).2) := by
  have hw := Lib.decodeL_width l
  conv => lhs; unfold goodD
  rw [if_neg hne]
  unfold firstOf
  by_cases h : (Lib.decodeL l).1 = 65533 ∧ (Lib.decodeL l).2 = 1
  · rw [if_pos h, if_pos h, if_pos rfl]
  · rw [if_neg h, if_neg h, if_neg (show ¬ (Lib.decodeL l).2 = 0 by omega)]
end Go.Proofs.YtobnlnkmonaohaaDoor
