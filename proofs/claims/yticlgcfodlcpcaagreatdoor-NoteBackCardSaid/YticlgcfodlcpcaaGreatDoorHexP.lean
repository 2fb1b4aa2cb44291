/-
  Layer 3, plain: what is told by sixteen digits. No program in sight.
-/
import Derived.Test.YticlgcfodlcpcaaGreatDoorF64
namespace Go.Proofs.YticlgcfodlcpcaaGreatDoor
open Go.RowKit

/-- The digits of bytes. -/
def hexL : List UInt8 → List UInt8
  | [] => []
  | c :: r => L16 (c.toNat / 16) :: L16 (c.toNat % 16) :: hexL r
theorem hexL_length : ∀ l : List UInt8, (hexL l).length = 2 * l.length
  | [] => rfl
  | c :: r => by simp only [hexL, List.length_cons, hexL_length r]; omega
theorem hexL_app : ∀ l m : List UInt8, hexL (l ++ m) = hexL l ++ hexL m
  | [], m => rfl
  | c :: l, m => by simp only [List.cons_append, hexL, hexL_app l m]
/-- The number of a digit; -1: it is none. -/
def idx16 (c : UInt8) : Int := Lib.indexByte halvesL c
theorem idx16_bd (c : UInt8) : -1 ≤ idx16 c ∧ idx16 c < 16 := ⟨Lib.indexByte_ge _ _, indexByte_lt halvesL c⟩
/-- FromHex's machine: from place i on, the high half, the bytes so far. -/
def runH : Nat → Nat → List UInt8 → List UInt8 → Except Nat (List UInt8)
  | _, _, out, [] => .ok out
  | i, h, out, c :: r => if idx16 c < 0 then .error i else if i % 2 = 0 then runH (i + 1) (idx16 c).toNat out r else runH (i + 1) h (out ++ [byteN (h * 16 + (idx16 c).toNat)]) r
def endH (n : Nat) : Except Nat (List UInt8) → Except Nat (List UInt8)
  | .error i => .error i
  | .ok out => if n % 2 ≠ 0 then .error n else .ok out
/-- FromHex. -/
def fromHexL (l : List UInt8) : List UInt8 × Nat × Option Int :=
  if 1048576 < l.length then ([], 4, none) else toldAt [] (endH l.length (runH 0 0 [] l))

/-- The first byte that is no digit; -1: all are. -/
def badH : List UInt8 → Int
  | [] => -1
  | c :: r => if idx16 c < 0 then 0 else if badH r = -1 then -1 else badH r + 1
theorem badH_ge : ∀ l : List UInt8, badH l = -1 ∨ 0 ≤ badH l
  | [] => .inl rfl
  | c :: r => by
    unfold badH
    split
    · exact .inr (by omega)
    · rcases badH_ge r with h | h
      · rw [if_pos h]; exact .inl rfl
      · rw [if_neg (by omega)]; exact .inr (by omega)
/-- The bytes of pairs of digits. -/
def decH : List UInt8 → List UInt8
  | a :: b :: r => byteN ((idx16 a).toNat * 16 + (idx16 b).toNat) :: decH r
  | _ => []
def tellH (i : Nat) (out : List UInt8) (w : Int) (d : List UInt8) : Except Nat (List UInt8) := if w = -1 then .ok (out ++ d) else .error (i + w.toNat)
theorem runH_cons (i h : Nat) (out : List UInt8) (c : UInt8) (r : List UInt8) : runH i h out (c :: r) = if idx16 c < 0 then .error i else if i % 2 = 0 then runH (i + 1) (idx16 c).toNat out r else runH (i + 1) h (out ++ [byteN (h * 16 + (idx16 c).toNat)]) r := rfl
theorem runH_ref : ∀ (l : List UInt8) (i h : Nat) (out : List UInt8), i % 2 = 0 → runH i h out l = tellH i out (badH l) (decH l)
  | [], i, h, out, _ => by simp [runH, tellH, badH, decH]
  | [a], i, h, out, hi => by
    rw [runH_cons]
    unfold tellH badH
    by_cases ha : idx16 a < 0
    · rw [if_pos ha, if_pos ha]; rfl
    · rw [if_neg ha, if_neg ha, if_pos hi]
      simp [runH, badH, decH]
  | a :: b :: r, i, h, out, hi => by
    rw [runH_cons]
    by_cases ha : idx16 a < 0
    · rw [if_pos ha]
      unfold tellH badH
      rw [if_pos ha]; rfl
    · rw [if_neg ha, if_pos hi, runH_cons]
      by_cases hb : idx16 b < 0
      · rw [if_pos hb]
        unfold tellH
        have e : badH (a :: b :: r) = 1 := by
          unfold badH; rw [if_neg ha]; unfold badH; rw [if_pos hb]; rfl
        rw [e]; rfl
      · rw [if_neg hb, if_neg (by omega), runH_ref r (i + 1 + 1) _ _ (by omega)]
        have e : badH (a :: b :: r) = if badH r = -1 then -1 else badH r + 1 + 1 := by
          conv => lhs; unfold badH
          rw [if_neg ha]
          conv => lhs; unfold badH
          rw [if_neg hb]
          rcases badH_ge r with h | h
          · rw [if_pos h]; simp [h]
          · rw [if_neg (by omega), if_neg (by omega), if_neg (by omega)]
        rw [e]
        unfold tellH
        rcases badH_ge r with h | h
        · rw [if_pos h, if_pos h, if_pos rfl]
          simp [decH]
        · rw [if_neg (by omega), if_neg (by omega), if_neg (by omega)]
          congr 1
          omega
/-- FromHex, as the reference says it. -/
theorem fromHex_ref (l : List UInt8) : fromHexL l = if 1048576 < l.length then ([], 4, none) else if badH l ≠ -1 then ([], 3, some (badH l)) else if l.length % 2 ≠ 0 then ([], 3, some (l.length : Int)) else (decH l, 0, none) := by
  unfold fromHexL
  split
  · rfl
  · rw [runH_ref l 0 0 [] rfl]
    unfold tellH
    rcases badH_ge l with h | h
    · rw [if_pos h, if_neg (by omega)]
      unfold endH
      simp only [List.nil_append]
      split
      · rfl
      · rfl
    · rw [if_neg (by omega), if_pos (by omega)]
      show ([], 3, some (((0 + (badH l).toNat : Nat) : Int))) = _
      rw [show (((0 + (badH l).toNat : Nat)) : Int) = badH l by omega]
end Go.Proofs.YticlgcfodlcpcaaGreatDoor
