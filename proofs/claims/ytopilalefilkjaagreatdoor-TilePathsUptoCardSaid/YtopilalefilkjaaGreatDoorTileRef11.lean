/-
  cartularyref11: digits, threes, Name, Path by their contracts.
-/
import Derived.Test.YtopilalefilkjaaGreatDoorTileParse
import Derived.Test.YtopilalefilkjaaGreatDoorTileOf
import Derived.Test.YtopilalefilkjaaGreatDoorRefDcm
import Derived.Deep.RegionHeld3
namespace Go.Proofs.YtopilalefilkjaaGreatDoor
open Go.RowKit

def DigRel (s : ByteArray) (vn vi : Value) : Prop := ∃ k N : Nat, k ≤ s.size ∧ N ≤ 18446744073709551615 ∧ vi = .int .i64 (k : Int) ∧ vn = .int .u64 (N : Int) ∧ digV N (s.data.toList.drop k) = digV 0 s.data.toList
set_option maxHeartbeats 2000000 in
set_option maxRecDepth 100000 in
theorem refDigits_any (s : ByteArray) (w : World) (hs : s.size ≤ 9223372036854775000) :
    Calls Tryz.prog 48 #[.string s] w fun e w' => e = .returned (.int .u64 ((digV 0 s.data.toList : Nat) : Int)) ∧ w = w' := by
  have HSZ := Lib.hid (size_list s)
  go_enter Tryz.func48, Tryz.ntmps48
  go_wp2_with fail
  go_loop [3, 4] (fun vn vi => DigRel s vn vi) (fun _ vi => s.size - (intOf vi).toNat)
  case atStart => exact ⟨0, 0, by omega, by omega, rfl, rfl, by rw [List.drop_zero]⟩
  case round =>
    obtain ⟨k, N, hk, hN, rfl, rfl, hd⟩ := hrel
    by_cases hlt : k < s.size
    · obtain ⟨c, hc, hdr⟩ := drop_at hlt
      have xk := fun w => run_idx (P := Tryz.prog) Tryz.underlying9 s k c hc (k : Int) rfl .i64 w
      have hlti : (k : Int) < (s.size : Int) := by omega
      have c256 := UInt8.toNat_lt c
      rw [hdr, digV_cons] at hd
      by_cases g1 : 48 ≤ c.toNat
      · by_cases g2 : c.toNat ≤ 57
        · rw [if_pos ⟨g1, g2⟩] at hd
          have g1i : (48 : Int) ≤ (c.toNat : Int) := by omega
          have g2i : (c.toNat : Int) ≤ 57 := by omega
          have hlt2 : (N * 10 % 18446744073709551616 + (c.toNat - 48)) % 18446744073709551616 ≤ 18446744073709551615 := by omega
          have hv : Value.int .u64 (IntKind.u64.wrap (IntKind.u64.wrap ((N : Int) * 10) + ((c.toNat : Int) - 48))) = .int .u64 (((N * 10 % 18446744073709551616 + (c.toNat - 48)) % 18446744073709551616 : Nat) : Int) := by
            rw [IntKind.wrap_u64, IntKind.wrap_u64]
            congr 1
            omega
          have HD := Lib.hid hd
          have HV := Lib.hid hv
          have HL := Lib.hid hlt2
          clear hc hdr hd hv hlt2 g1 g2
          go_wp2_with fail
          go_round
          case rel => exact ⟨k + 1, _, by omega, HL.out, by go_num, HV.out, HD.out⟩
          case measure => simp [intOf]; omega
        · rw [if_neg (fun h => g2 h.2)] at hd
          have g1i : (48 : Int) ≤ (c.toNat : Int) := by omega
          have g2i : ¬ (c.toNat : Int) ≤ 57 := by omega
          have HD := Lib.hid hd
          clear hc hdr hd g1 g2
          go_wp2_with fail
          go_round
          case rel => exact ⟨k + 1, N, by omega, hN, by go_num, rfl, HD.out⟩
          case measure => simp [intOf]; omega
      · rw [if_neg (fun h => g1 h.1)] at hd
        have g1i : ¬ (48 : Int) ≤ (c.toNat : Int) := by omega
        have HD := Lib.hid hd
        clear hc hdr hd g1
        go_wp2_with fail
        go_round
        case rel => exact ⟨k + 1, N, by omega, hN, by go_num, rfl, HD.out⟩
        case measure => simp [intOf]; omega
    · have hlti : ¬ (k : Int) < (s.size : Int) := by omega
      rw [List.drop_eq_nil_of_le (by rw [HSZ.out]; omega)] at hd
      have hd2 : N = digV 0 s.data.toList := hd
      clear hd
      go_wp2_with fail
      go_ret
      exact ⟨by rw [← hd2]; rfl, rfl⟩

theorem ext_take (s : ByteArray) (k : Nat) : (s.extract 0 k).data.toList = s.data.toList.take k := by simp [List.extract_eq_take_drop]
theorem ext_drop (s : ByteArray) (k : Nat) : (s.extract k s.size).data.toList = s.data.toList.drop k := by
  simp [List.extract_eq_take_drop]
  rw [List.take_of_length_le]
  rw [List.length_drop, size_list]
  exact Nat.le_refl _
def PadRel (d : List UInt8) (v : Value) : Prop := ∃ (k : Nat) (s : ByteArray), v = .string s ∧ s.data.toList = List.replicate k 48 ++ d ∧ k ≤ (3 - d.length % 3) % 3
def Thr2Rel (M : Nat) (full : List UInt8) (vs vo : Value) : Prop := ∃ (m : Nat) (s o : ByteArray), m ≤ M ∧ vs = .string s ∧ vo = .string o ∧ s.size = 3 + 3 * m ∧ o.data.toList ++ thr m s.data.toList = full ∧ o.size ≤ 5 * (M - m)
def strSz : Value → Nat
  | .string s => s.size
  | _ => 0
def strGap (d : Nat) : Value → Nat
  | .string s => d + 3 - s.size
  | _ => 0
set_option maxHeartbeats 2000000 in
set_option maxRecDepth 100000 in
theorem refThrees_any (N : Nat) (hN : N ≤ 18446744073709551615) (w : World) :
    Calls Tryz.prog 115 #[.int .u64 (N : Int)] w fun e w' => e = .returned (.string ⟨(threesL (Lib.decDigits N)).toArray⟩) ∧ Below w.heap.size w w' := by
  have HD := Lib.hid (refDecimal_any N hN)
  have hgl : (⟨(Lib.decDigits N).toArray⟩ : ByteArray).data.toList = Lib.decDigits N := by simp
  have hq1 : 1 ≤ (Lib.decDigits N).length := List.length_pos_iff.2 (decDigits_ne N)
  have hq2 : (Lib.decDigits N).length ≤ 20 := by rw [Lib.decDigits_length]; exact nDigits_20 N hN
  have hP := padZ_len (Lib.decDigits N) (decDigits_ne N)
  generalize (⟨(Lib.decDigits N).toArray⟩ : ByteArray) = g0 at *
  unfold threesL
  have hpad : padZ (Lib.decDigits N) = List.replicate ((3 - (Lib.decDigits N).length % 3) % 3) 48 ++ Lib.decDigits N := rfl
  generalize Lib.decDigits N = d at *
  generalize padZ d = P at *
  have HGL := Lib.hid hgl
  have HPD := Lib.hid hpad
  have HPL := Lib.hid hP
  clear hgl hpad hP
  go_enter Tryz.func115, Tryz.ntmps115
  go_wp2_with fail
  refine (HD.out _).mono ?_
  rintro e w1 ⟨rfl, b1⟩
  have B1 := Lib.hid b1
  clear b1
  go_wp2_with fail
  go_loop [3] (fun v => PadRel d v) (fun v => strGap d.length v)
  case atStart => exact ⟨0, g0, rfl, by rw [HGL.out]; rfl, by omega⟩
  case round =>
    obtain ⟨k, s, rfl, hs, hk⟩ := hrel
    have hsz : s.size = k + d.length := by rw [← size_list, hs]; simp
    by_cases hm : (k + d.length) % 3 = 0
    · have hrem : (s.size : Int) % 3 = 0 := by omega
      have hrem2 : (s.size : Int).tmod 3 = 0 := by rw [Int.tmod_eq_emod_of_nonneg (by omega)]; exact hrem
      have hsP : s.data.toList = P := by
        rw [hs, HPD.out, show k = (3 - d.length % 3) % 3 by omega]
      obtain ⟨M, hM⟩ : ∃ M, s.size = 3 + 3 * M := ⟨s.size / 3 - 1, by omega⟩
      have hM20 : M ≤ 20 := by omega
      have hfull : thr M s.data.toList = thr (P.length / 3 - 1) P := by
        rw [hsP, ← hsP, size_list, hM, hsP, show (3 + 3 * M) / 3 - 1 = M by omega]
      have HF := Lib.hid hfull
      have HM := Lib.hid hM
      clear hs hsP hfull hm
      go_wp2_with fail
      go_loop [3, 4] (fun vs vo => Thr2Rel M (thr (P.length / 3 - 1) P) vs vo) (fun vs _ => strSz vs)
      case atStart => exact ⟨M, s, _, Nat.le_refl _, rfl, rfl, HM.out, HF.out, by rw [Nat.sub_self]; exact Nat.le_refl 0⟩
      case round =>
        obtain ⟨m, s2, o, hmM, rfl, rfl, hs2, hfl, ho⟩ := hrel
        have HFL := Lib.hid hfl
        clear hfl
        cases m with
        | succ m =>
          have g3 : (3 : Int) < (s2.size : Int) := by omega
          have g3b : (3 : Int) ≤ (s2.size : Int) := by omega
          have e1 := ext_take s2 3
          have e2 := ext_drop s2 3
          have z1 : (s2.extract 0 3).size = 3 := by rw [← size_list, e1, List.length_take, size_list]; omega
          have z2 : (s2.extract 3 s2.size).size = 3 + 3 * m := by rw [← size_list, e2, List.length_drop, size_list]; omega
          have hth : thr (m + 1) s2.data.toList = 120 :: ((s2.extract 0 3).data.toList ++ 47 :: thr m (s2.extract 3 s2.size).data.toList) := by rw [e1, e2]; rfl
          have HT := Lib.hid hth
          clear e1 e2 hth
          generalize hx1 : s2.extract 0 3 = x1 at *
          generalize hx2 : s2.extract 3 s2.size = x2 at *
          have ho2 : o.size + 1 + x1.size + 1 ≤ 5 * (M - m) := by omega
          have HS2 := Lib.hid hs2
          have Z2 := Lib.hid z2
          clear hs2 z1 z2
          go_wp2_with fail
          go_round
          case rel =>
            refine ⟨m, _, _, by omega, rfl, rfl, Z2.out, ?_, ?_⟩
            · have h := HFL.out
              rw [HT.out] at h
              rw [ba_app, ba_app, ba_app, ← h]
              simp
            · rw [ByteArray.size_append, ByteArray.size_append, ByteArray.size_append]
              exact ho2
          case measure =>
            have h1 := HS2.out
            have h2 := Z2.out
            show x2.size < s2.size
            omega
        | zero =>
          have g3 : ¬ (3 : Int) < (s2.size : Int) := by omega
          have hfin : (o ++ s2).data.toList = thr (P.length / 3 - 1) P := by rw [ba_app, ← HFL.out]; rfl
          have HFN := Lib.hid hfin
          clear hfin
          go_wp2_with fail
          go_ret
          exact ⟨congrArg Ending.returned (str_val HFN.out), B1.out⟩
    · have hrem : ¬ (s.size : Int) % 3 = 0 := by omega
      have hrem2 : ¬ (s.size : Int).tmod 3 = 0 := by rw [Int.tmod_eq_emod_of_nonneg (by omega)]; exact hrem
      have hs2 : ((⟨#[48]⟩ : ByteArray) ++ s).data.toList = List.replicate (k + 1) 48 ++ d := by
        rw [ba_app, hs, List.replicate_succ]
        rfl
      have hk2 : k + 1 ≤ (3 - d.length % 3) % 3 := by omega
      have hgap : d.length + 3 - (1 + s.size) < d.length + 3 - s.size := by omega
      have HS2 := Lib.hid hs2
      clear hs hs2
      go_wp2_with fail
      go_round
      case rel => exact ⟨k + 1, _, rfl, HS2.out, hk2⟩
      case measure =>
        simp only [strGap, ByteArray.size_append]
        exact hgap
end Go.Proofs.YtopilalefilkjaaGreatDoor
