/-
  Layer 21, plain: a checkpoint's text, line by line.
-/
import Derived.Test.YtjmgkallgflcdaaGreatDoorF64
import Derived.Test.YtjmgkallgflcdaaGreatDoorName2
import Derived.Test.YtjmgkallgflcdaaGreatDoorSeen
namespace Go.Proofs.YtjmgkallgflcdaaGreatDoor
open Go.RowKit

/-- Origin, size, root, further lines. -/
abbrev CkSt := List UInt8 × Nat × List UInt8 × List (List UInt8)
def ckStep (k : Nat) (l : List UInt8) (st : CkSt) : Option CkSt :=
  if k = 0 then (if nameOf l = true then some (l, st.2) else none)
  else if k = 1 then (if (fromDec l).2.1 = 0 ∧ (fromDec l).1 ≤ 1048576 then some (st.1, (fromDec l).1, st.2.2) else none)
  else if k = 2 then (if (fromB64 l).2.1 = 0 ∧ (fromB64 l).1.length = 32 then some (st.1, st.2.1, (fromB64 l).1, st.2.2.2) else none)
  else (if l ≠ [] ∧ plainOf l = true ∧ k < 19 then some (st.1, st.2.1, st.2.2.1, st.2.2.2 ++ [l]) else none)
def ckRun : Nat → CkSt → List UInt8 → List UInt8 → Except Nat CkSt
  | k, st, acc, [] => if k < 3 ∨ acc ≠ [] then .error k else .ok st
  | k, st, acc, c :: r => if c = 10 then (match ckStep k acc st with
    | none => .error k
    | some st' => ckRun (k + 1) st' [] r) else ckRun k st (acc ++ [c]) r
def st0 : CkSt := ([], 0, List.replicate 32 0, [])
/-- Parse. -/
def parseCk (l : List UInt8) : CkSt × Nat × Option Int := if 1048576 < l.length then (st0, 4, none) else toldAt st0 (ckRun 0 st0 [] l)
theorem ckRun_skip (k : Nat) (st : CkSt) : ∀ (b m acc : List UInt8), (∀ x ∈ b, x ≠ 10) → ckRun k st acc (b ++ m) = ckRun k st (acc ++ b) m
  | [], m, acc, _ => by simp
  | c :: b, m, acc, h => by
    rw [List.cons_append]
    conv => lhs; unfold ckRun
    rw [if_neg (h c (List.mem_cons_self ..)), ckRun_skip k st b m _ (fun x hx => h x (List.mem_cons_of_mem _ hx)), List.append_assoc]
    rfl
theorem ckRun_line (k : Nat) (st : CkSt) (acc r : List UInt8) : ckRun k st acc (10 :: r) = match ckStep k acc st with
    | none => .error k
    | some st' => ckRun (k + 1) st' [] r := by
  conv => lhs; unfold ckRun
  rw [if_pos rfl]
theorem decodeN_ne10 (n b0 b1 b2 b3 : Nat) (h : 128 ≤ b0) : (Lib.decodeN n b0 b1 b2 b3).1 ≠ 10 := by
  unfold Lib.decodeN
  rw [if_neg (by omega)]
  repeat' split
  all_goals simp only
  all_goals omega
theorem rune_eq (l : List UInt8) (hne : l ≠ []) (h : (Lib.decodeL l).1 = 10) : ∃ m, l = 10 :: m ∧ (Lib.decodeL l).2 = 1 := by
  obtain ⟨c, m, rfl⟩ := List.exists_cons_of_ne_nil hne
  by_cases hc : c.toNat < 128
  · rw [Lib.decodeL_ascii c m hc] at h ⊢
    have : c = 10 := UInt8.toNat_inj.1 (by simpa using h)
    exact ⟨m, by rw [this], rfl⟩
  · rw [Lib.decodeL_N] at h
    exact absurd h (decodeN_ne10 _ _ _ _ _ (by simp; omega))
theorem rune_ne (l : List UInt8) (hne : l ≠ []) (h : (Lib.decodeL l).1 ≠ 10) : ∀ x ∈ l.take (Lib.decodeL l).2, x ≠ 10 := by
  intro x hx e
  subst e
  obtain ⟨j, hj, hg⟩ := List.mem_iff_getElem.1 hx
  rw [List.length_take] at hj
  rw [List.getElem_take] at hg
  have hjl : j < l.length := by omega
  have hgd : l.getD j 0 = 10 := by simp [List.getD, hjl, hg]
  have hcs := Lib.decodeN_conts l.length (l.getD 0 0).toNat (l.getD 1 0).toNat (l.getD 2 0).toNat (l.getD 3 0).toNat
  rw [← Lib.decodeL_N] at hcs
  have h10 : (10 : UInt8).toNat = 10 := rfl
  rcases (show j = 0 ∨ j = 1 ∨ j = 2 ∨ j = 3 by have := hcs.2.2.2; omega) with rfl | rfl | rfl | rfl
  · obtain ⟨c, m, rfl⟩ := List.exists_cons_of_ne_nil hne
    have hc : c = 10 := by simpa using hgd
    subst hc
    rw [Lib.decodeL_ascii 10 m (by decide)] at h
    exact h rfl
  · have := (hcs.1 (by omega)).1
    rw [hgd, h10] at this; omega
  · have := (hcs.2.1 (by omega)).1
    rw [hgd, h10] at this; omega
  · have := (hcs.2.2.1 (by omega)).1
    rw [hgd, h10] at this; omega
theorem ckStep_len {k : Nat} {l : List UInt8} {st st' : CkSt} (h : ckStep k l st = some st') : st'.2.2.2.length ≤ st.2.2.2.length + 1 := by
  unfold ckStep at h
  repeat' split at h
  all_goals cases h
  all_goals simp
theorem ckStep_nil {k : Nat} {l : List UInt8} {st st' : CkSt} (h : ckStep k l st = some st') (hk : k < 3) : st'.2.2.2 = st.2.2.2 := by
  unfold ckStep at h
  repeat' split at h
  all_goals cases h
  all_goals first | rfl | omega
end Go.Proofs.YtjmgkallgflcdaaGreatDoor
