/-
  Layer 3, plain: numbers by ten digits: reading what was told, telling what was read; the reference's way to read.
-/
import Derived.Test.YtlahdjdbbfjadaaGreatDoorDec
import Derived.Lib.ItoaMem
namespace Go.Proofs.YtlahdjdbbfjadaaGreatDoor
open Go.RowKit

def digitsL : List UInt8 := [48, 49, 50, 51, 52, 53, 54, 55, 56, 57]
def idx10 (c : UInt8) : Int := Lib.indexByte digitsL c
theorem idx10_fin : ∀ i : Fin 256, Lib.indexByte digitsL (UInt8.ofNat i.val) = if 48 ≤ i.val ∧ i.val ≤ 57 then (i.val : Int) - 48 else -1 := by decide +kernel
theorem idx10_eq (c : UInt8) : idx10 c = if 48 ≤ c.toNat ∧ c.toNat ≤ 57 then (c.toNat : Int) - 48 else -1 := by
  have := idx10_fin ⟨c.toNat, UInt8.toNat_lt c⟩
  simp only [UInt8.ofNat_toNat] at this
  exact this

/-- FromDecimal, as the reference reads: place, value so far. -/
def refRun : Nat → Nat → List UInt8 → Except Nat Nat
  | _, n, [] => .ok n
  | i, n, c :: r => if idx10 c < 0 ∨ (0 < i ∧ n = 0) ∨ 1844674407370955161 < n ∨ (n = 1844674407370955161 ∧ 5 < idx10 c) then .error i else refRun (i + 1) (n * 10 + (idx10 c).toNat) r
theorem refRun_dec (f : UInt8) : ∀ (l : List UInt8) (i n : Nat), (i = 0 ∧ n = 0 ∧ l.head? = some f) ∨ (i = 1 ∧ (n = 0 ↔ f = 48)) ∨ (2 ≤ i ∧ n ≠ 0) → decRun f i n l = refRun i n l
  | [], _, _, _ => rfl
  | c :: r, i, n, h => by
    have hc := UInt8.toNat_lt c
    have hx := idx10_eq c
    have hf : f = 48 ↔ f.toNat = 48 := ⟨fun e => by rw [e]; rfl, fun e => UInt8.toNat_inj.1 (by simpa using e)⟩
    unfold decRun refRun
    have hiff : (c.toNat < 48 ∨ 57 < c.toNat ∨ (i = 1 ∧ f = 48) ∨ (18446744073709551615 - (c.toNat - 48)) / 10 < n) ↔ (idx10 c < 0 ∨ (0 < i ∧ n = 0) ∨ 1844674407370955161 < n ∨ (n = 1844674407370955161 ∧ 5 < idx10 c)) := by
      rw [hx, hf]
      rw [hf] at h
      by_cases hd : 48 ≤ c.toNat ∧ c.toNat ≤ 57
      · rw [if_pos hd]; omega
      · rw [if_neg hd]; omega
    by_cases hb : c.toNat < 48 ∨ 57 < c.toNat ∨ (i = 1 ∧ f = 48) ∨ (18446744073709551615 - (c.toNat - 48)) / 10 < n
    · rw [if_pos hb, if_pos (hiff.1 hb)]
    · rw [if_neg hb, if_neg (fun e => hb (hiff.2 e))]
      have hd : 48 ≤ c.toNat ∧ c.toNat ≤ 57 := by omega
      rw [if_pos hd] at hx
      have e : 10 * n + (c.toNat - 48) = n * 10 + (idx10 c).toNat := by rw [hx]; omega
      rw [e]
      refine refRun_dec f r (i + 1) _ ?_
      rcases h with ⟨rfl, rfl, hh⟩ | ⟨rfl, hh⟩ | ⟨h1, h2⟩
      · obtain rfl : c = f := by simpa using hh
        refine .inr (.inl ⟨rfl, ?_⟩)
        rw [hf]; omega
      · refine .inr (.inr ⟨by omega, ?_⟩)
        have : ¬ f = 48 := fun e => hb (.inr (.inr (.inl ⟨rfl, e⟩)))
        have : n ≠ 0 := fun e => this (hh.1 e)
        omega
      · exact .inr (.inr ⟨by omega, by omega⟩)
/-- FromDecimal, as the reference says it. -/
theorem fromDec_ref (l : List UInt8) : fromDec l = if 1048576 < l.length then (0, 4, none) else if l = [] then (0, 3, some 0) else toldAt 0 (refRun 0 0 l) := by
  unfold fromDec
  split
  · rfl
  · cases l with
    | nil => rfl
    | cons c r =>
      rw [if_neg (by simp)]
      simp only []
      rw [refRun_dec c (c :: r) 0 0 (.inl ⟨rfl, rfl, rfl⟩)]
theorem decRun_cons (f c : UInt8) (r : List UInt8) (i n : Nat) : decRun f i n (c :: r) = if c.toNat < 48 ∨ 57 < c.toNat ∨ (i = 1 ∧ f = 48) ∨ (18446744073709551615 - (c.toNat - 48)) / 10 < n then .error i else decRun f (i + 1) (10 * n + (c.toNat - 48)) r := rfl
theorem decRun_app (f : UInt8) : ∀ (l m : List UInt8) (i n : Nat), decRun f i n (l ++ m) = match decRun f i n l with
    | .error e => .error e
    | .ok z => decRun f (i + l.length) z m
  | [], m, i, n => by simp [decRun]
  | c :: l, m, i, n => by
    rw [List.cons_append, decRun_cons, decRun_cons]
    split
    · rfl
    · rw [decRun_app f l m, List.length_cons, show i + 1 + l.length = i + (l.length + 1) by omega]
theorem nDigits_20 (u : Nat) (h : u ≤ 18446744073709551615) : Lib.nDigits u ≤ 20 := by
  by_cases h0 : u = 0
  · subst h0; rw [Lib.nDigits_small (by omega)]; omega
  · have := Lib.numDigits_eq u (by omega) (by omega)
    split at this <;> omega
theorem decDigits_ne (u : Nat) : Lib.decDigits u ≠ [] := by
  intro h
  have := Lib.decDigits_length u
  rw [h] at this
  have := Lib.nDigits_pos u
  simp at *
  omega
theorem decDigits_snoc {u : Nat} (h : ¬ u < 10) : Lib.decDigits u = Lib.decDigits (u / 10) ++ [UInt8.ofNat (48 + u % 10)] := by
  rw [Lib.decDigits, dif_neg h]
theorem ofNat48 (d : Nat) (h : d < 10) : (UInt8.ofNat (48 + d)).toNat = 48 + d := by
  rw [UInt8.toNat_ofNat']; omega
theorem head_snoc {l : List UInt8} (h : l ≠ []) (c : UInt8) : (l ++ [c]).head? = l.head? := by
  cases l with
  | nil => exact absurd rfl h
  | cons _ _ => rfl
theorem decDigits_head (u : Nat) (h : 1 ≤ u) : (Lib.decDigits u).head? ≠ some 48 := by
  induction u using Nat.strongRecOn with
  | _ u ih =>
    by_cases h10 : u < 10
    · rw [Lib.decDigits_one h10]
      intro e
      have e2 : UInt8.ofNat (48 + u) = 48 := by simpa using e
      have := ofNat48 u h10
      rw [e2] at this
      have h48 : (48 : UInt8).toNat = 48 := rfl
      omega
    · rw [decDigits_snoc h10, head_snoc (decDigits_ne _)]
      exact ih (u / 10) (by omega) (by omega)
theorem decRun_digits (f : UInt8) (u : Nat) (hu : u ≤ 18446744073709551615) (hf : (Lib.decDigits u).head? = some f) : decRun f 0 0 (Lib.decDigits u) = .ok u := by
  induction u using Nat.strongRecOn with
  | _ u ih =>
    by_cases h10 : u < 10
    · rw [Lib.decDigits_one h10]
      have := ofNat48 u h10
      unfold decRun
      rw [if_neg (by omega), this]
      unfold decRun
      congr 1
      omega
    · have hf' := hf
      rw [decDigits_snoc h10, head_snoc (decDigits_ne _)] at hf'
      rw [decDigits_snoc h10, decRun_app, ih (u / 10) (by omega) (by omega) hf']
      simp only []
      have := ofNat48 (u % 10) (by omega)
      have hne : f ≠ 48 := fun e => decDigits_head (u / 10) (by omega) (by rw [hf', e])
      unfold decRun
      rw [if_neg (by rw [this]; rintro (h | h | h | h) <;> first | omega | exact hne h.2), this]
      unfold decRun
      congr 1
      omega
/-- What is told is read as it was. -/
theorem fromDec_digits (u : Nat) (hu : u ≤ 18446744073709551615) : fromDec (Lib.decDigits u) = (u, 0, none) := by
  have hl : ¬ 1048576 < (Lib.decDigits u).length := by
    rw [Lib.decDigits_length]
    have := nDigits_20 u hu
    omega
  unfold fromDec
  rw [if_neg hl]
  cases h : Lib.decDigits u with
  | nil => exact absurd h (decDigits_ne u)
  | cons f r =>
    simp only []
    rw [← h, decRun_digits f u hu (by rw [h]; rfl)]
    rfl
theorem decRun_back (f : UInt8) : ∀ (k : Nat) (l : List UInt8) (z : Nat), l.length = k → l.head? = some f → decRun f 0 0 l = .ok z → Lib.decDigits z = l
  | 0, l, z, hk, hf, _ => by
    obtain rfl : l = [] := List.eq_nil_of_length_eq_zero hk
    cases hf
  | k + 1, l, z, hk, hf, hr => by
    have hne : l ≠ [] := fun e => by rw [e] at hk; cases hk
    obtain ⟨m, c, rfl⟩ : ∃ m c, l = m ++ [c] := ⟨l.dropLast, l.getLast hne, (List.dropLast_concat_getLast hne).symm⟩
    have hc := UInt8.toNat_lt c
    rw [decRun_app] at hr
    by_cases hm : m = []
    · subst hm
      simp only [decRun, List.length_nil] at hr
      split at hr
      · cases hr
      · rename_i h
        injection hr with hz
        subst hz
        have h10 : 10 * 0 + (c.toNat - 48) < 10 := by omega
        rw [Lib.decDigits_one h10]
        simp only [List.nil_append]
        congr 1
        apply UInt8.toNat_inj.1
        rw [ofNat48 _ h10]
        omega
    · rw [head_snoc hm] at hf
      cases hq : decRun f 0 0 m with
      | error e => rw [hq] at hr; cases hr
      | ok y =>
        have ih := decRun_back f k m y (by simp at hk; exact hk) hf hq
        rw [hq] at hr
        simp only [] at hr
        unfold decRun at hr
        split at hr
        · cases hr
        · rename_i h
          unfold decRun at hr
          injection hr with hz
          have hy : y ≠ 0 := by
            intro e
            subst e
            have e0 : Lib.decDigits 0 = [48] := by rw [Lib.decDigits_one (by omega)]; rfl
            rw [e0] at ih
            subst ih
            exact h (.inr (.inr (.inl ⟨rfl, by simpa using hf.symm⟩)))
          have hd : 48 ≤ c.toNat ∧ c.toNat ≤ 57 := by omega
          rw [← hz, decDigits_snoc (by omega), show (10 * y + (c.toNat - 48)) / 10 = y by omega, ih]
          congr 2
          apply UInt8.toNat_inj.1
          rw [ofNat48 _ (by omega)]
          omega
/-- What is read is told as it was read. -/
theorem fromDec_back (l : List UInt8) (z : Nat) (p : Option Int) (h : fromDec l = (z, 0, p)) : Lib.decDigits z = l := by
  unfold fromDec at h
  split at h
  · cases h
  · cases l with
    | nil => cases h
    | cons f r =>
      simp only [] at h
      cases hq : decRun f 0 0 (f :: r) with
      | error e => rw [hq] at h; cases h
      | ok y =>
        rw [hq] at h
        injection h with h1 h2
        subst h1
        exact decRun_back f _ (f :: r) y rfl rfl hq
theorem decRun_le (f : UInt8) : ∀ (l : List UInt8) (i n z : Nat), n ≤ 18446744073709551615 → decRun f i n l = .ok z → z ≤ 18446744073709551615
  | [], i, n, z, hn, h => by injection h with h; omega
  | c :: r, i, n, z, hn, h => by
    unfold decRun at h
    split at h
    · cases h
    · exact decRun_le f r _ _ z (by omega) h
theorem fromDec_le (l : List UInt8) : (fromDec l).1 ≤ 18446744073709551615 := by
  unfold fromDec
  split
  · exact Nat.zero_le _
  · cases l with
    | nil => exact Nat.zero_le _
    | cons f r =>
      simp only []
      cases hq : decRun f 0 0 (f :: r) with
      | error e => exact Nat.zero_le _
      | ok y => exact decRun_le f _ _ _ y (by omega) hq
/-- It goes wrong at the same place, whatever stands behind. -/
theorem decRun_pre (f : UInt8) : ∀ (l m : List UInt8) (i n e : Nat), decRun f i n l = .error e → ∃ k, e = i + k ∧ k < l.length ∧ decRun f i n (l.take (k + 1) ++ m) = .error e ∧ ∃ z, decRun f i n (l.take k) = .ok z
  | [], m, i, n, e, h => by cases h
  | c :: r, m, i, n, e, h => by
    unfold decRun at h
    split at h
    · rename_i hb
      injection h with h
      refine ⟨0, by omega, by simp, ?_, n, rfl⟩
      simp only [List.take_succ_cons, List.take_zero, List.cons_append]
      unfold decRun
      rw [if_pos hb, h]
    · rename_i hb
      obtain ⟨k, hk, hl, hx, z, hz⟩ := decRun_pre f r m _ _ e h
      refine ⟨k + 1, by omega, by simp; omega, ?_, z, ?_⟩
      · simp only [List.take_succ_cons, List.cons_append]
        unfold decRun
        rw [if_neg hb]
        exact hx
      · simp only [List.take_succ_cons]
        unfold decRun
        rw [if_neg hb]
        exact hz
end Go.Proofs.YtlahdjdbbfjadaaGreatDoor
