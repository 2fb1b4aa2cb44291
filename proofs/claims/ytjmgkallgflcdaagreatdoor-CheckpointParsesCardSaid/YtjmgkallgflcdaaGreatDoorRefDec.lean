/-
  cartularyref03: FromDecimal and Decimal by contracts (printed by wip/genrefdec.py).
-/
import Derived.Test.YtjmgkallgflcdaaGreatDoorNumP
import Derived.Test.YtjmgkallgflcdaaGreatDoorRefFH
namespace Go.Proofs.YtjmgkallgflcdaaGreatDoor
open Go.RowKit

theorem num10_any (c : UInt8) (w : World) : Calls Tryz.prog 111 #[.string ⟨#[48, 49, 50, 51, 52, 53, 54, 55, 56, 57]⟩, .int .u8 (c.toNat : Int)] w fun e w' => e = .returned (.int .i64 (idx10 c)) ∧ w = w' :=
  number_any ⟨#[48, 49, 50, 51, 52, 53, 54, 55, 56, 57]⟩ c w (by decide)
/-- What a reference's reading of a number says. -/
def toldN (x : Nat × Nat × Option Int) : Value := .tuple #[.int .u64 (x.1 : Int), .agg #[.int .i64 (x.2.1 : Int), .int .i64 (fz x.2.1 x.2.2)]]
theorem refRun_cons (c : UInt8) (r : List UInt8) (i n : Nat) : refRun i n (c :: r) = if idx10 c < 0 ∨ (0 < i ∧ n = 0) ∨ 1844674407370955161 < n ∨ (n = 1844674407370955161 ∧ 5 < idx10 c) then .error i else refRun (i + 1) (n * 10 + (idx10 c).toNat) r := rfl
def RDRel (s : ByteArray) (vn vi : Value) : Prop :=
  ∃ k N : Nat, k ≤ s.size ∧ N ≤ 18446744073709551615 ∧ vi = .int .i64 k ∧ vn = .int .u64 N ∧ refRun 0 0 s.data.toList = refRun k N (s.data.toList.drop k)

set_option maxHeartbeats 2000000 in
set_option maxRecDepth 100000 in
theorem refFromDec_any (s : ByteArray) (w : World) (hs : s.size ≤ 9223372036854775000) :
    Calls Tryz.prog 40 #[.string s] w fun e w' => e = .returned (toldN (fromDec s.data.toList)) ∧ Below w.heap.size w w' := by
  have hsz := size_list s
  have hans := fromDec_ref s.data.toList
  rw [hsz] at hans
  generalize fromDec s.data.toList = ans at *
  have HA := Lib.hid hans
  have HS := Lib.hid hsz
  clear hsz hans
  by_cases hbig : 1048576 < s.size
  · have HP := Lib.hid fun W => faultPlain_any 4 (by decide) W
    go_enter Tryz.func40, Tryz.ntmps40
    go_wp2_with fail
    refine (HP.out _).mono ?_
    rintro e w1 ⟨rfl, b1⟩
    have hh := (fW_row w).below b1
    obtain ⟨c0, c1, f0, f1⟩ := hh.cells
    have HH := Lib.hid hh
    have hb := end_below (fW_below b1) 4 (-1)
    clear hh
    go_wp2_with fail
    refine ret_told rfl w.heap.size 4 (-1) (.int .u64 0) (fault_set HH.out _ _) rfl rfl rfl ⟨?_, hb⟩
    have e : ans = (0, 4, none) := by rw [HA.out, if_pos hbig]
    rw [e]; rfl
  · go_enter Tryz.func40, Tryz.ntmps40
    go_wp2_with fail
    go_loop [4, 5] (fun vn vi => RDRel s vn vi) (fun _ vi => s.size - (intOf vi).toNat)
    case atStart => exact ⟨0, 0, by omega, by omega, rfl, rfl, rfl⟩
    case round =>
      obtain ⟨k, N, hk, hN, rfl, rfl, hrun⟩ := hrel
      have HR := Lib.hid hrun
      clear hrun
      by_cases hlt : k < s.size
      · obtain ⟨c, hc, hd⟩ := drop_at hlt
        have xk := fun w => run_idx (P := Tryz.prog) Tryz.underlying9 s k c hc (k : Int) rfl .i64 w
        have hc256 := UInt8.toNat_lt c
        have hix := idx10_eq c
        have hrun2 := HR.out
        rw [hd, refRun_cons] at hrun2
        have hne : s.data.toList ≠ [] := fun e => by rw [e] at hd; simp at hd
        have hbadans : (idx10 c < 0 ∨ (0 < k ∧ N = 0) ∨ 1844674407370955161 < N ∨ (N = 1844674407370955161 ∧ 5 < idx10 c)) → ans = (0, 3, some (k : Int)) := fun h => by
          rw [HA.out, if_neg hbig, if_neg hne, hrun2, if_pos h]; rfl
        have HBA := Lib.hid hbadans
        have HR2 := Lib.hid hrun2
        have hnum := num10_any c
        clear hd hc hrun2 hne hbadans
        by_cases hn : idx10 c < 0
        · rw [show idx10 c = -1 by split at hix <;> omega] at hnum
          have HN := Lib.hid hnum
          clear hnum
          have HF := Lib.hid (HBA.out (.inl hn))
          have HP := Lib.hid fun W => faultPlaced_any 3 (k : Int) W
          clear hix
          go_wp2_with fail
          refine (HN.out _).mono ?_
          rintro e w0 ⟨rfl, rfl⟩
          go_wp2_with fail
          refine (HP.out _).mono ?_
          rintro e w1 ⟨rfl, b1⟩
          have hh := (fW_row w).below b1
          obtain ⟨c0, c1, f0, f1⟩ := hh.cells
          have HH := Lib.hid hh
          have hb := end_below (fW_below b1) 3 (k : Int)
          clear hh
          go_wp2_with fail
          refine ret_told rfl w.heap.size 3 (k : Int) (.int .u64 0) (fault_set HH.out _ _) rfl rfl rfl ⟨?_, hb⟩
          rw [HF.out]; rfl
        · obtain ⟨D, hD⟩ : ∃ D : Nat, idx10 c = D := ⟨(idx10 c).toNat, by omega⟩
          have hD9 : D ≤ 9 := by split at hix <;> omega
          rw [hD] at hnum hn
          have HN := Lib.hid hnum
          clear hnum
          by_cases hz : 0 < k ∧ N = 0
          · have q1 : (0 : Int) < (k : Int) := by omega
            have q2 : ((N : Int) == 0) = true := by simp [hz.2]
            have hz' := hz
            clear hz
            have HF := Lib.hid (HBA.out (.inr (.inl hz')))
            have HP := Lib.hid fun W => faultPlaced_any 3 (k : Int) W
            clear hix hz'
            go_wp2_with fail
            refine (HN.out _).mono ?_
            rintro e w0 ⟨rfl, rfl⟩
            go_wp2_with fail
            refine (HP.out _).mono ?_
            rintro e w1 ⟨rfl, b1⟩
            have hh := (fW_row w).below b1
            obtain ⟨c0, c1, f0, f1⟩ := hh.cells
            have HH := Lib.hid hh
            have hb := end_below (fW_below b1) 3 (k : Int)
            clear hh
            go_wp2_with fail
            refine ret_told rfl w.heap.size 3 (k : Int) (.int .u64 0) (fault_set HH.out _ _) rfl rfl rfl ⟨?_, hb⟩
            rw [HF.out]; rfl
          · by_cases hk0 : k = 0
            · have q1 : ¬ (0 : Int) < (k : Int) := by omega
              have hkz : ¬ (0 < k ∧ N = 0) := by omega
              clear hz hk0
              by_cases h1 : 1844674407370955161 < N
              · have q3 : (1844674407370955161 : Int) < (N : Int) := by omega
                have HF := Lib.hid (HBA.out (.inr (.inr (.inl h1))))
                have HP := Lib.hid fun W => faultPlaced_any 3 (k : Int) W
                clear hix hkz
                go_wp2_with fail
                refine (HN.out _).mono ?_
                rintro e w0 ⟨rfl, rfl⟩
                go_wp2_with fail
                refine (HP.out _).mono ?_
                rintro e w1 ⟨rfl, b1⟩
                have hh := (fW_row w).below b1
                obtain ⟨c0, c1, f0, f1⟩ := hh.cells
                have HH := Lib.hid hh
                have hb := end_below (fW_below b1) 3 (k : Int)
                clear hh
                go_wp2_with fail
                refine ret_told rfl w.heap.size 3 (k : Int) (.int .u64 0) (fault_set HH.out _ _) rfl rfl rfl ⟨?_, hb⟩
                rw [HF.out]; rfl
              · have q3 : ¬ (1844674407370955161 : Int) < (N : Int) := by omega
                by_cases h2 : N = 1844674407370955161
                · have q4 : ((N : Int) == 1844674407370955161) = true := by simp; omega
                  by_cases h3 : 5 < D
                  · have hp : idx10 c < 0 ∨ (0 < k ∧ N = 0) ∨ 1844674407370955161 < N ∨ (N = 1844674407370955161 ∧ 5 < idx10 c) := .inr (.inr (.inr ⟨h2, by omega⟩))
                    have HPP := Lib.hid hp
                    clear hp h2
                    have HF := Lib.hid (HBA.out (HPP.out))
                    have HP := Lib.hid fun W => faultPlaced_any 3 (k : Int) W
                    clear hix hkz
                    go_wp2_with fail
                    refine (HN.out _).mono ?_
                    rintro e w0 ⟨rfl, rfl⟩
                    go_wp2_with fail
                    refine (HP.out _).mono ?_
                    rintro e w1 ⟨rfl, b1⟩
                    have hh := (fW_row w).below b1
                    obtain ⟨c0, c1, f0, f1⟩ := hh.cells
                    have HH := Lib.hid hh
                    have hb := end_below (fW_below b1) 3 (k : Int)
                    clear hh
                    go_wp2_with fail
                    refine ret_told rfl w.heap.size 3 (k : Int) (.int .u64 0) (fault_set HH.out _ _) rfl rfl rfl ⟨?_, hb⟩
                    rw [HF.out]; rfl
                  · have hp : ¬ (idx10 c < 0 ∨ (0 < k ∧ N = 0) ∨ 1844674407370955161 < N ∨ (N = 1844674407370955161 ∧ 5 < idx10 c)) := by omega
                    have HPP := Lib.hid hp
                    have hle : N * 10 + D ≤ 18446744073709551615 := by omega
                    clear hp h2
                    have hf : refRun 0 0 s.data.toList = refRun (k + 1) (N * 10 + D) (s.data.toList.drop (k + 1)) := by
                      rw [HR2.out, if_neg (HPP.out), hD, Int.toNat_natCast]
                    have HF := Lib.hid hf
                    clear hix hf hD hkz
                    go_wp2_with fail
                    refine (HN.out _).mono ?_
                    rintro e w0 ⟨rfl, rfl⟩
                    go_wp2_with fail
                    go_round
                    case rel => exact ⟨k + 1, N * 10 + D, by omega, by omega, by go_num, by go_num, HF.out⟩
                    case measure => simp [intOf]; omega
                · have q4 : ((N : Int) == 1844674407370955161) = false := by rw [beq_eq_false_iff_ne]; omega
                  have hp : ¬ (idx10 c < 0 ∨ (0 < k ∧ N = 0) ∨ 1844674407370955161 < N ∨ (N = 1844674407370955161 ∧ 5 < idx10 c)) := by omega
                  have HPP := Lib.hid hp
                  have hle : N * 10 + D ≤ 18446744073709551615 := by omega
                  clear hp
                  have hf : refRun 0 0 s.data.toList = refRun (k + 1) (N * 10 + D) (s.data.toList.drop (k + 1)) := by
                    rw [HR2.out, if_neg (HPP.out), hD, Int.toNat_natCast]
                  have HF := Lib.hid hf
                  clear hix hf hD hkz
                  go_wp2_with fail
                  refine (HN.out _).mono ?_
                  rintro e w0 ⟨rfl, rfl⟩
                  go_wp2_with fail
                  go_round
                  case rel => exact ⟨k + 1, N * 10 + D, by omega, by omega, by go_num, by go_num, HF.out⟩
                  case measure => simp [intOf]; omega
            · have q1 : (0 : Int) < (k : Int) := by omega
              have q2 : ((N : Int) == 0) = false := by rw [beq_eq_false_iff_ne]; omega
              have hkz : ¬ (0 < k ∧ N = 0) := by omega
              clear hz hk0
              by_cases h1 : 1844674407370955161 < N
              · have q3 : (1844674407370955161 : Int) < (N : Int) := by omega
                have HF := Lib.hid (HBA.out (.inr (.inr (.inl h1))))
                have HP := Lib.hid fun W => faultPlaced_any 3 (k : Int) W
                clear hix hkz
                go_wp2_with fail
                refine (HN.out _).mono ?_
                rintro e w0 ⟨rfl, rfl⟩
                go_wp2_with fail
                refine (HP.out _).mono ?_
                rintro e w1 ⟨rfl, b1⟩
                have hh := (fW_row w).below b1
                obtain ⟨c0, c1, f0, f1⟩ := hh.cells
                have HH := Lib.hid hh
                have hb := end_below (fW_below b1) 3 (k : Int)
                clear hh
                go_wp2_with fail
                refine ret_told rfl w.heap.size 3 (k : Int) (.int .u64 0) (fault_set HH.out _ _) rfl rfl rfl ⟨?_, hb⟩
                rw [HF.out]; rfl
              · have q3 : ¬ (1844674407370955161 : Int) < (N : Int) := by omega
                by_cases h2 : N = 1844674407370955161
                · have q4 : ((N : Int) == 1844674407370955161) = true := by simp; omega
                  by_cases h3 : 5 < D
                  · have hp : idx10 c < 0 ∨ (0 < k ∧ N = 0) ∨ 1844674407370955161 < N ∨ (N = 1844674407370955161 ∧ 5 < idx10 c) := .inr (.inr (.inr ⟨h2, by omega⟩))
                    have HPP := Lib.hid hp
                    clear hp h2
                    have HF := Lib.hid (HBA.out (HPP.out))
                    have HP := Lib.hid fun W => faultPlaced_any 3 (k : Int) W
                    clear hix hkz
                    go_wp2_with fail
                    refine (HN.out _).mono ?_
                    rintro e w0 ⟨rfl, rfl⟩
                    go_wp2_with fail
                    refine (HP.out _).mono ?_
                    rintro e w1 ⟨rfl, b1⟩
                    have hh := (fW_row w).below b1
                    obtain ⟨c0, c1, f0, f1⟩ := hh.cells
                    have HH := Lib.hid hh
                    have hb := end_below (fW_below b1) 3 (k : Int)
                    clear hh
                    go_wp2_with fail
                    refine ret_told rfl w.heap.size 3 (k : Int) (.int .u64 0) (fault_set HH.out _ _) rfl rfl rfl ⟨?_, hb⟩
                    rw [HF.out]; rfl
                  · have hp : ¬ (idx10 c < 0 ∨ (0 < k ∧ N = 0) ∨ 1844674407370955161 < N ∨ (N = 1844674407370955161 ∧ 5 < idx10 c)) := by omega
                    have HPP := Lib.hid hp
                    have hle : N * 10 + D ≤ 18446744073709551615 := by omega
                    clear hp h2
                    have hf : refRun 0 0 s.data.toList = refRun (k + 1) (N * 10 + D) (s.data.toList.drop (k + 1)) := by
                      rw [HR2.out, if_neg (HPP.out), hD, Int.toNat_natCast]
                    have HF := Lib.hid hf
                    clear hix hf hD hkz
                    go_wp2_with fail
                    refine (HN.out _).mono ?_
                    rintro e w0 ⟨rfl, rfl⟩
                    go_wp2_with fail
                    go_round
                    case rel => exact ⟨k + 1, N * 10 + D, by omega, by omega, by go_num, by go_num, HF.out⟩
                    case measure => simp [intOf]; omega
                · have q4 : ((N : Int) == 1844674407370955161) = false := by rw [beq_eq_false_iff_ne]; omega
                  have hp : ¬ (idx10 c < 0 ∨ (0 < k ∧ N = 0) ∨ 1844674407370955161 < N ∨ (N = 1844674407370955161 ∧ 5 < idx10 c)) := by omega
                  have HPP := Lib.hid hp
                  have hle : N * 10 + D ≤ 18446744073709551615 := by omega
                  clear hp
                  have hf : refRun 0 0 s.data.toList = refRun (k + 1) (N * 10 + D) (s.data.toList.drop (k + 1)) := by
                    rw [HR2.out, if_neg (HPP.out), hD, Int.toNat_natCast]
                  have HF := Lib.hid hf
                  clear hix hf hD hkz
                  go_wp2_with fail
                  refine (HN.out _).mono ?_
                  rintro e w0 ⟨rfl, rfl⟩
                  go_wp2_with fail
                  go_round
                  case rel => exact ⟨k + 1, N * 10 + D, by omega, by omega, by go_num, by go_num, HF.out⟩
                  case measure => simp [intOf]; omega
      · have hf : refRun 0 0 s.data.toList = .ok N := by
          rw [HR.out, List.drop_eq_nil_of_le (by rw [HS.out]; omega)]; rfl
        have HF := Lib.hid hf
        clear hf
        by_cases h0 : s.size = 0
        · have hl : s.data.toList = [] := List.eq_nil_of_length_eq_zero (by rw [HS.out]; exact h0)
          have hl0 : s.toList = [] := by rw [ByteArray.toList_eq]; exact hl
          have hans : ans = (0, 3, some 0) := by rw [HA.out, if_neg hbig, if_pos hl]
          have HF2 := Lib.hid hans
          have HP := Lib.hid fun W => faultPlaced_any 3 0 W
          clear hl hans
          go_wp2_with fail
          refine (HP.out _).mono ?_
          rintro e w1 ⟨rfl, b1⟩
          have hh := (fW_row w).below b1
          obtain ⟨c0, c1, f0, f1⟩ := hh.cells
          have HH := Lib.hid hh
          have hb := end_below (fW_below b1) 3 0
          clear hh
          go_wp2_with fail
          refine ret_told rfl w.heap.size 3 0 (.int .u64 0) (fault_set HH.out _ _) rfl rfl rfl ⟨?_, hb⟩
          rw [HF2.out]; rfl
        · have hl : s.data.toList ≠ [] := fun e => h0 (by rw [← HS.out, e]; rfl)
          have hne : s.toList.isEmpty = false := by rw [ByteArray.toList_eq]; cases hq : s.data.toList with | nil => exact absurd hq hl | cons _ _ => rfl
          have hne2 : ¬ s.toList = [] := fun e => by rw [e] at hne; cases hne
          have hans : ans = (N, 0, none) := by rw [HA.out, if_neg hbig, if_neg hl, HF.out]; rfl
          have HF2 := Lib.hid hans
          have hb0 : Below w.heap.size w (w.alloc (.cells #[.int .i64 0, .int .i64 0] 36)) := (Below.refl _ _).alloc (Nat.le_refl _) _
          clear hl hans
          go_wp2_with fail
          refine ret_told rfl w.heap.size 0 0 (.int .u64 N) (fW_row w) rfl rfl rfl ⟨?_, hb0⟩
          rw [HF2.out]; rfl
end Go.Proofs.YtjmgkallgflcdaaGreatDoor
