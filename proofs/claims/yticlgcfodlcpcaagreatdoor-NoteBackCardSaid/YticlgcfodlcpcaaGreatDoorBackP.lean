/-
  Layer 3, plain: round trips by letters and by digits; where a text goes wrong.
-/
import Derived.Test.YticlgcfodlcpcaaGreatDoorRef64P
import Derived.Test.YticlgcfodlcpcaaGreatDoorHexP
namespace Go.Proofs.YticlgcfodlcpcaaGreatDoor
open Go.RowKit

theorem L64_fin : ∀ i : Fin 64, Lib.indexByte lettersL (L64 i.val) = i.val ∧ L64 i.val ≠ 61 := by decide +kernel
theorem idx_L64 (i : Nat) (h : i < 64) : idx64 (L64 i) = i ∧ L64 i ≠ 61 := L64_fin ⟨i, h⟩
theorem L64_idx_fin : ∀ i : Fin 256, 0 ≤ Lib.indexByte lettersL (UInt8.ofNat i.val) → L64 (Lib.indexByte lettersL (UInt8.ofNat i.val)).toNat = UInt8.ofNat i.val := by decide +kernel
theorem L64_idx (c : UInt8) (h : 0 ≤ idx64 c) : L64 (idx64 c).toNat = c := by
  have := L64_idx_fin ⟨c.toNat, UInt8.toNat_lt c⟩
  simp only [UInt8.ofNat_toNat] at this
  exact this h
theorem L16_fin : ∀ i : Fin 16, Lib.indexByte halvesL (L16 i.val) = i.val := by decide +kernel
theorem idx_L16 (i : Nat) (h : i < 16) : idx16 (L16 i) = i := L16_fin ⟨i, h⟩
theorem L16_idx_fin : ∀ i : Fin 256, 0 ≤ Lib.indexByte halvesL (UInt8.ofNat i.val) → L16 (Lib.indexByte halvesL (UInt8.ofNat i.val)).toNat = UInt8.ofNat i.val := by decide +kernel
theorem L16_idx (c : UInt8) (h : 0 ≤ idx16 c) : L16 (idx16 c).toNat = c := by
  have := L16_idx_fin ⟨c.toNat, UInt8.toNat_lt c⟩
  simp only [UInt8.ofNat_toNat] at this
  exact this h
theorem byteN_nat (x : Nat) : (byteN x).toNat = x % 256 := by
  have := byteN_val x
  omega
theorem byteN_of (a : UInt8) (x : Nat) (h : x % 256 = a.toNat) : byteN x = a := UInt8.toNat_inj.1 (by rw [byteN_nat, h])

/-! ### sixteen digits -/
theorem badH_ok {c : UInt8} {r : List UInt8} (h : ¬ idx16 c < 0) (hr : badH r = -1) : badH (c :: r) = -1 := by
  unfold badH
  rw [if_neg h, if_pos hr]
theorem badH_hex : ∀ l : List UInt8, badH (hexL l) = -1
  | [] => rfl
  | c :: r => by
    have hc := UInt8.toNat_lt c
    have h1 := idx_L16 (c.toNat / 16) (by omega)
    have h2 := idx_L16 (c.toNat % 16) (by omega)
    unfold hexL
    exact badH_ok (by omega) (badH_ok (by omega) (badH_hex r))
theorem decH_hex : ∀ l : List UInt8, decH (hexL l) = l
  | [] => rfl
  | c :: r => by
    have hc := UInt8.toNat_lt c
    have h1 := idx_L16 (c.toNat / 16) (by omega)
    have h2 := idx_L16 (c.toNat % 16) (by omega)
    unfold hexL decH
    rw [decH_hex r, h1, h2]
    congr 1
    exact byteN_of c _ (by simp only [Int.toNat_natCast]; omega)
theorem fromHex_hex (l : List UInt8) (h : 2 * l.length ≤ 1048576) : fromHexL (hexL l) = (l, 0, none) := by
  rw [fromHex_ref, hexL_length, if_neg (by omega), if_neg (by rw [badH_hex]; simp), if_neg (by omega), decH_hex]
theorem hex_dec : ∀ l : List UInt8, badH l = -1 → l.length % 2 = 0 → hexL (decH l) = l
  | [], _, _ => rfl
  | [_], _, h => by simp at h
  | a :: b :: r, h, hl => by
    have ha := idx16_bd a
    have hb := idx16_bd b
    unfold badH at h
    split at h
    · omega
    · rename_i ha0
      split at h
      · rename_i h'
        unfold badH at h'
        split at h'
        · omega
        · rename_i hb0
          split at h'
          · rename_i h''
            unfold decH hexL
            rw [hex_dec r h'' (by simp at hl; omega), byteN_nat]
            have e1 := L16_idx a (by omega)
            have e2 := L16_idx b (by omega)
            rw [show ((idx16 a).toNat * 16 + (idx16 b).toNat) % 256 / 16 = (idx16 a).toNat by omega, show ((idx16 a).toNat * 16 + (idx16 b).toNat) % 256 % 16 = (idx16 b).toNat by omega, e1, e2]
          · have := badH_ge r; omega
      · have := badH_ge (b :: r); omega
theorem fromHex_back (l x : List UInt8) (p : Option Int) (h : fromHexL l = (x, 0, p)) : hexL x = l := by
  rw [fromHex_ref] at h
  split at h
  · cases h
  · split at h
    · cases h
    · rename_i h1
      split at h
      · cases h
      · rename_i h2
        injection h with h _
        rw [← h]
        exact hex_dec l (by simpa using h1) (by omega)

/-! ### sixty-four letters -/
theorem b64_back : ∀ (l : List UInt8) (n i : Nat), w64 n i (b64 l) = -1 ∧ dec64 (b64 l) = l
  | [], _, _ => ⟨rfl, rfl⟩
  | [a], n, i => by
    have ha := UInt8.toNat_lt a
    obtain ⟨e0, n0⟩ := idx_L64 (a.toNat / 4) (by omega)
    obtain ⟨e1, n1⟩ := idx_L64 (a.toNat % 4 * 16) (by omega)
    have hg : groupL [L64 (a.toNat / 4), L64 (a.toNat % 4 * 16), 61, 61] = 4 := by
      rw [gl4, g_let e0 n0 (by omega), g_let e1 n1 (by omega), g_pad2 e1, decide_eq_false (by omega), g_pad33]; rfl
    unfold b64
    refine ⟨?_, ?_⟩
    · rw [w64_4, hg, if_neg (by omega), if_neg (by simp)]
      rfl
    · unfold dec64 num64 n4
      rw [if_pos rfl, e0, e1]
      simp only [Int.toNat_natCast, dec64, List.append_nil]
      congr 1
      exact byteN_of a _ (by omega)
  | [a, b], n, i => by
    have ha := UInt8.toNat_lt a
    have hb := UInt8.toNat_lt b
    obtain ⟨e0, n0⟩ := idx_L64 (a.toNat / 4) (by omega)
    obtain ⟨e1, n1⟩ := idx_L64 (a.toNat % 4 * 16 + b.toNat / 16) (by omega)
    obtain ⟨e2, n2⟩ := idx_L64 (b.toNat % 16 * 4) (by omega)
    have hg : groupL [L64 (a.toNat / 4), L64 (a.toNat % 4 * 16 + b.toNat / 16), L64 (b.toNat % 16 * 4), 61] = 4 := by
      rw [gl4, g_let e0 n0 (by omega), g_let e1 n1 (by omega), g_let e2 n2 (by omega), g_pad3 e2 n2, decide_eq_false (by omega)]; rfl
    unfold b64
    refine ⟨?_, ?_⟩
    · rw [w64_4, hg, if_neg (by omega), if_neg (by simp)]
      rfl
    · unfold dec64 num64 n4
      rw [if_neg n2, if_pos rfl, e0, e1, e2]
      simp only [Int.toNat_natCast, dec64, List.append_nil]
      rw [byteN_of a _ (by omega), byteN_of b _ (by omega)]
  | a :: b :: c :: r, n, i => by
    have hN := n3_lt a b c
    have hd : n3 a b c / 65536 % 256 = a.toNat ∧ n3 a b c / 256 % 256 = b.toNat ∧ n3 a b c % 256 = c.toNat := by
      have := UInt8.toNat_lt a; have := UInt8.toNat_lt b; have := UInt8.toNat_lt c
      unfold n3; omega
    obtain ⟨e0, n0⟩ := idx_L64 (n3 a b c / 262144 % 64) (by omega)
    obtain ⟨e1, n1⟩ := idx_L64 (n3 a b c / 4096 % 64) (by omega)
    obtain ⟨e2, n2⟩ := idx_L64 (n3 a b c / 64 % 64) (by omega)
    obtain ⟨e3, n3'⟩ := idx_L64 (n3 a b c % 64) (by omega)
    have hg : groupL [L64 (n3 a b c / 262144 % 64), L64 (n3 a b c / 4096 % 64), L64 (n3 a b c / 64 % 64), L64 (n3 a b c % 64)] = 4 := by
      rw [gl4, g_let e0 n0 (by omega), g_let e1 n1 (by omega), g_let e2 n2 (by omega), g_let e3 n3' (by rintro ⟨_, h⟩; exact n2 h)]; rfl
    obtain ⟨h1, h2⟩ := b64_back r n (i + 4)
    unfold b64
    refine ⟨?_, ?_⟩
    · rw [w64_4, hg, if_neg (by omega), if_neg (by rintro ⟨h, _⟩; exact n3' h), h1]
    · unfold dec64 num64 n4
      rw [if_neg n2, if_neg n3', e0, e1, e2, e3, h2]
      simp only [Int.toNat_natCast]
      rw [byteN_of a _ (by omega), byteN_of b _ (by omega), byteN_of c _ (by omega)]
      rfl
theorem fromB64_b64 (l : List UInt8) (h : (l.length + 2) / 3 * 4 ≤ 1048576) : fromB64 (b64 l) = (l, 0, none) := by
  obtain ⟨h1, h2⟩ := b64_back l (b64 l).length 0
  rw [fromB64_ref, if_neg (by rw [b64_length]; omega), if_pos h1, h2]
/-- A whole group that can stand, and what it says. -/
theorem group_ok (a b c d : UInt8) (h : ¬ groupL [a, b, c, d] < 4) : badG b c 0 a = false ∧ badG b c 1 b = false ∧ badG b c 2 c = false ∧ badG b c 3 d = false := by
  rw [gl4] at h
  cases h0 : badG b c 0 a <;> cases h1 : badG b c 1 b <;> cases h2 : badG b c 2 c <;> cases h3 : badG b c 3 d <;> simp_all
theorem badG_01 {b c x : UInt8} {k : Nat} (hk : k < 2) (h : badG b c k x = false) : 0 ≤ idx64 x ∧ x ≠ 61 := by
  unfold badG at h
  split at h
  · rw [decide_eq_true hk] at h; cases h
  · rename_i hx
    simp only [Bool.or_eq_false_iff, decide_eq_false_iff_not] at h
    exact ⟨by omega, hx⟩
theorem badG_2 {b c : UInt8} (h : badG b c 2 c = false) : (c = 61 ∧ idx64 b % 16 = 0) ∨ (0 ≤ idx64 c ∧ c ≠ 61) := by
  unfold badG at h
  split at h
  · rename_i hx
    simp at h
    exact .inl ⟨hx, h⟩
  · rename_i hx
    simp only [Bool.or_eq_false_iff, decide_eq_false_iff_not] at h
    exact .inr ⟨by omega, hx⟩
theorem badG_3 {b c d : UInt8} (h : badG b c 3 d = false) : (d = 61 ∧ (c ≠ 61 → idx64 c % 4 = 0)) ∨ (0 ≤ idx64 d ∧ d ≠ 61 ∧ c ≠ 61) := by
  unfold badG at h
  split at h
  · rename_i hx
    simp at h
    exact .inl ⟨hx, h⟩
  · rename_i hx
    simp at h
    exact .inr ⟨by omega, hx, h.2⟩
theorem b64_dec : ∀ (l : List UInt8) (n i : Nat), i + l.length = n → w64 n i l = -1 → b64 (dec64 l) = l
  | [], _, _, _, _ => rfl
  | [a], n, i, _, h => by rw [wl1] at h; split at h <;> omega
  | [a, b], n, i, _, h => by rw [wl2] at h; split at h <;> omega
  | [a, b, c], n, i, _, h => by rw [wl3] at h; split at h <;> omega
  | a :: b :: c :: d :: r, n, i, hn, h => by
    rw [w64_4] at h
    split at h
    · omega
    · rename_i hg
      split at h
      · omega
      · rename_i hr
        obtain ⟨g0, g1, g2, g3⟩ := group_ok a b c d hg
        obtain ⟨a0, a1⟩ := badG_01 (by omega) g0
        obtain ⟨b0, b1⟩ := badG_01 (by omega) g1
        have ha := idx64_bd a
        have hb := idx64_bd b
        have hc := idx64_bd c
        have hd := idx64_bd d
        have la := L64_idx a a0
        have lb := L64_idx b b0
        have ih := b64_dec r n (i + 4) (by simp at hn; omega) h
        unfold dec64 num64 n4
        generalize hA : (idx64 a).toNat = A at *
        generalize hB : (idx64 b).toNat = B at *
        rcases badG_2 g2 with ⟨rfl, hz⟩ | ⟨c0, c1⟩
        · rw [if_pos rfl]
          rcases badG_3 g3 with ⟨rfl, _⟩ | ⟨_, _, h'⟩
          · have hr0 : r = [] := by
              cases r with
              | nil => rfl
              | cons _ _ => exact absurd ⟨rfl, by simp⟩ hr
            subst hr0
            simp only [dec64, List.append_nil]
            unfold b64
            rw [byteN_nat, show (((A * 64 + B) * 64 + 0) * 64 + 0) / 65536 % 256 / 4 = A by omega, show (((A * 64 + B) * 64 + 0) * 64 + 0) / 65536 % 256 % 4 * 16 = B by omega, la, lb]
          · exact absurd rfl h'
        · have lc := L64_idx c c0
          rw [if_neg c1]
          generalize hC : (idx64 c).toNat = C at *
          rcases badG_3 g3 with ⟨rfl, hz⟩ | ⟨d0, d1, _⟩
          · have hz := hz c1
            rw [if_pos rfl]
            have hr0 : r = [] := by
              cases r with
              | nil => rfl
              | cons _ _ => exact absurd ⟨rfl, by simp⟩ hr
            subst hr0
            simp only [dec64, List.append_nil]
            unfold b64
            rw [byteN_nat, byteN_nat, show (((A * 64 + B) * 64 + C) * 64 + 0) / 65536 % 256 / 4 = A by omega, show (((A * 64 + B) * 64 + C) * 64 + 0) / 65536 % 256 % 4 * 16 + (((A * 64 + B) * 64 + C) * 64 + 0) / 256 % 256 % 256 / 16 = B by omega,
              show (((A * 64 + B) * 64 + C) * 64 + 0) / 256 % 256 % 256 % 16 * 4 = C by omega, la, lb, lc]
          · have ld := L64_idx d d0
            rw [if_neg d1]
            generalize hD : (idx64 d).toNat = D at *
            simp only [List.cons_append, List.nil_append]
            unfold b64 n3
            rw [byteN_nat, byteN_nat, byteN_nat, ih]
            generalize hX : ((A * 64 + B) * 64 + C) * 64 + D = X
            rw [show (X / 65536 % 256 * 65536 + X / 256 % 256 % 256 * 256 + X % 256 % 256) = X by omega]
            rw [show X / 262144 % 64 = A by omega, show X / 4096 % 64 = B by omega, show X / 64 % 64 = C by omega, show X % 64 = D by omega, la, lb, lc, ld]
theorem fromB64_back (l x : List UInt8) (p : Option Int) (h : fromB64 l = (x, 0, p)) : b64 x = l := by
  rw [fromB64_ref] at h
  split at h
  · cases h
  · split at h
    · rename_i h1
      injection h with h _
      rw [← h]
      exact b64_dec l l.length 0 (by omega) h1
    · cases h
end Go.Proofs.YticlgcfodlcpcaaGreatDoor
