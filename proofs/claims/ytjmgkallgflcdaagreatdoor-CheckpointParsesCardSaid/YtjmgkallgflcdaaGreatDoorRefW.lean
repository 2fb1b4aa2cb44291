/-
  cartularyref03: group by its contract (printed by wip/gengroup.py). cartularyref03: Wrong64 by its contract.
-/
import Derived.Test.YtjmgkallgflcdaaGreatDoorRefFH
import Derived.Test.YtjmgkallgflcdaaGreatDoorBackP
import Derived.Test.YtjmgkallgflcdaaGreatDoorHex
namespace Go.Proofs.YtjmgkallgflcdaaGreatDoor
open Go.RowKit

def badAt (l : List UInt8) (k : Nat) : Bool := badG (l.getD 1 0) (l.getD 2 0) k (l.getD k 0)
set_option maxRecDepth 10000 in
theorem groupL_at : ∀ (l : List UInt8) (_ : l.length ≤ 4) (k : Nat), k < l.length → (∀ j < k, badAt l j = false) → badAt l k = true → groupL l = k
  | [], _, k, hk, _, _ => by simp at hk
  | [a], _, k, hk, hj, hb => by
    obtain rfl : k = 0 := by simpa using hk
    have hb : badG 0 0 0 a = true := hb
    rw [gl1, hb]; rfl
  | [a, b], _, k, hk, hj, hb => by
    simp only [List.length_cons, List.length_nil] at hk
    rcases (show k = 0 ∨ k = 1 by omega) with rfl | rfl
    · have hb : badG b 0 0 a = true := hb
      rw [gl2, hb]; rfl
    · have h0 : badG b 0 0 a = false := hj 0 (by omega)
      have hb : badG b 0 1 b = true := hb
      rw [gl2, h0, hb]; rfl
  | [a, b, c], _, k, hk, hj, hb => by
    simp only [List.length_cons, List.length_nil] at hk
    rcases (show k = 0 ∨ k = 1 ∨ k = 2 by omega) with rfl | rfl | rfl
    · have hb : badG b c 0 a = true := hb
      rw [gl3, hb]; rfl
    · have h0 : badG b c 0 a = false := hj 0 (by omega)
      have hb : badG b c 1 b = true := hb
      rw [gl3, h0, hb]; rfl
    · have h0 : badG b c 0 a = false := hj 0 (by omega)
      have h1 : badG b c 1 b = false := hj 1 (by omega)
      have hb : badG b c 2 c = true := hb
      rw [gl3, h0, h1, hb]; rfl
  | [a, b, c, d], _, k, hk, hj, hb => by
    simp only [List.length_cons, List.length_nil] at hk
    rcases (show k = 0 ∨ k = 1 ∨ k = 2 ∨ k = 3 by omega) with rfl | rfl | rfl | rfl
    · have hb : badG b c 0 a = true := hb
      rw [gl4, hb]; rfl
    · have h0 : badG b c 0 a = false := hj 0 (by omega)
      have hb : badG b c 1 b = true := hb
      rw [gl4, h0, hb]; rfl
    · have h0 : badG b c 0 a = false := hj 0 (by omega)
      have h1 : badG b c 1 b = false := hj 1 (by omega)
      have hb : badG b c 2 c = true := hb
      rw [gl4, h0, h1, hb]; rfl
    · have h0 : badG b c 0 a = false := hj 0 (by omega)
      have h1 : badG b c 1 b = false := hj 1 (by omega)
      have h2 : badG b c 2 c = false := hj 2 (by omega)
      have hb : badG b c 3 d = true := hb
      rw [gl4, h0, h1, h2, hb]; rfl
  | _ :: _ :: _ :: _ :: _ :: _, h, _, _, _, _ => by simp at h
set_option maxRecDepth 10000 in
theorem groupL_all : ∀ (l : List UInt8) (_ : l.length ≤ 4), (∀ j < l.length, badAt l j = false) → groupL l = l.length
  | [], _, _ => rfl
  | [a], _, hj => by
    have h0 : badG 0 0 0 a = false := hj 0 (by simp)
    rw [gl1, h0]; rfl
  | [a, b], _, hj => by
    have h0 : badG b 0 0 a = false := hj 0 (by simp)
    have h1 : badG b 0 1 b = false := hj 1 (by simp)
    rw [gl2, h0, h1]; rfl
  | [a, b, c], _, hj => by
    have h0 : badG b c 0 a = false := hj 0 (by simp)
    have h1 : badG b c 1 b = false := hj 1 (by simp)
    have h2 : badG b c 2 c = false := hj 2 (by simp)
    rw [gl3, h0, h1, h2]; rfl
  | [a, b, c, d], _, hj => by
    have h0 : badG b c 0 a = false := hj 0 (by simp)
    have h1 : badG b c 1 b = false := hj 1 (by simp)
    have h2 : badG b c 2 c = false := hj 2 (by simp)
    have h3 : badG b c 3 d = false := hj 3 (by simp)
    rw [gl4, h0, h1, h2, h3]; rfl
  | _ :: _ :: _ :: _ :: _ :: _, h, _ => by simp at h
theorem getD_of {l : List UInt8} {k : Nat} {c : UInt8} (h : l[k]? = some c) : l.getD k 0 = c := by simp [List.getD, h]
theorem num_neg (c : UInt8) (h : idx64 c < 0) (w : World) : Calls Tryz.prog 111 #[.string ⟨#[65, 66, 67, 68, 69, 70, 71, 72, 73, 74, 75, 76, 77, 78, 79, 80, 81, 82, 83, 84, 85, 86, 87, 88, 89, 90, 97, 98, 99, 100, 101, 102, 103, 104, 105, 106, 107, 108, 109, 110, 111, 112, 113, 114, 115, 116, 117, 118, 119, 120, 121, 122, 48, 49, 50, 51, 52, 53, 54, 55, 56, 57, 43, 47]⟩, .int .u8 (c.toNat : Int)] w fun e w' => e = .returned (.int .i64 (-1)) ∧ w = w' := by
  have := num64_any c w
  rwa [show idx64 c = -1 by have := idx64_bd c; omega] at this
theorem num_let (c : UInt8) (N : Nat) (h : idx64 c = N) (w : World) : Calls Tryz.prog 111 #[.string ⟨#[65, 66, 67, 68, 69, 70, 71, 72, 73, 74, 75, 76, 77, 78, 79, 80, 81, 82, 83, 84, 85, 86, 87, 88, 89, 90, 97, 98, 99, 100, 101, 102, 103, 104, 105, 106, 107, 108, 109, 110, 111, 112, 113, 114, 115, 116, 117, 118, 119, 120, 121, 122, 48, 49, 50, 51, 52, 53, 54, 55, 56, 57, 43, 47]⟩, .int .u8 (c.toNat : Int)] w fun e w' => e = .returned (.int .i64 (N : Int)) ∧ w = w' := by
  have := num64_any c w
  rwa [h] at this
theorem ne61 {c : UInt8} (h : c ≠ 61) : ((c.toNat : Int) != 61) = true ∧ ((c.toNat : Int) == 61) = false := by
  have : ¬ (c.toNat : Int) = 61 := fun e => h (UInt8.toNat_inj.1 (by simpa using (by omega : c.toNat = 61)))
  exact ⟨by simpa using this, by simpa using this⟩


set_option maxHeartbeats 1000000 in
set_option maxRecDepth 100000 in
theorem group_any (g : ByteArray) (w : World) (hg : g.size ≤ 4) :
    Calls Tryz.prog 155 #[.string g] w fun e w' => e = .returned (.int .i64 (groupL g.data.toList : Int)) ∧ w = w' := by
  have hsz := size_list g
  have HS := Lib.hid hsz
  have HA := Lib.hid (groupL_at g.data.toList (by omega))
  have HE := Lib.hid (groupL_all g.data.toList (by omega))
  clear hsz
  go_enter Tryz.func155, Tryz.ntmps155
  go_wp2_with fail
  go_loop [3] (fun i => ∃ k : Nat, k ≤ g.size ∧ i = .int .i64 k ∧ ∀ j < k, badAt g.data.toList j = false) (fun i => g.size - (intOf i).toNat)
  case atStart => exact ⟨0, by omega, rfl, fun j hj => by omega⟩
  case round =>
    obtain ⟨k, hk, rfl, hj⟩ := hrel
    have HJ := Lib.hid hj
    clear hj
    by_cases hlt : k < g.size
    · obtain ⟨c, hc⟩ : ∃ c, g.data.toList[k]? = some c := ⟨_, List.getElem?_eq_getElem (by rw [size_list]; exact hlt)⟩
      have xk := fun w => run_idx (P := Tryz.prog) Tryz.underlying9 g k c hc (k : Int) rfl .i64 w
      have hc256 := UInt8.toNat_lt c
      have hgc := getD_of hc
      have hl2 : k < g.data.toList.length := by rw [HS.out]; exact hlt
      have HL := Lib.hid hl2
      clear hl2
      have hgo : ∀ b, badAt g.data.toList k = b → b = false → ∀ j < k + 1, badAt g.data.toList j = false := fun b h1 h2 j hj => by
        rcases Nat.lt_or_ge j k with h | h
        · exact HJ.out j h
        · obtain rfl : j = k := by omega
          rw [h1, h2]
      have HGO := Lib.hid hgo
      clear hgo

      rcases (show k = 0 ∨ k = 1 ∨ k = 2 ∨ k = 3 by omega) with rfl | rfl | rfl | rfl
      · have x0 : ∀ w, (Instr.index 9 (.string g) (.int .i64 0)).run Tryz.prog w = .ok (.int .u8 (c.toNat : Int)) w := xk
        clear xk
        rcases kind64 c with ⟨N, hN, _, h61⟩ | rfl | ⟨hN, h61⟩
        · have HN := Lib.hid (num_let c N hN)
          obtain ⟨q1, q2⟩ := ne61 h61
          have HF := Lib.hid (HGO.out _ (by unfold badAt; rw [hgc]; exact g_let hN h61 (by omega)) rfl)
          go_wp2_with ((go_at_call 111; refine (HN.out _).mono ?_; rintro e w' ⟨rfl, rfl⟩))
          go_round
          case rel => exact ⟨0 + 1, by omega, by go_num, HF.out⟩
          case measure => simp [intOf]; omega
        · have q1 : (((61 : UInt8).toNat : Int) != 61) = false := rfl
          have hb := HA.out _ HL.out HJ.out (by unfold badAt; rw [hgc]; exact g_pad01 (by omega))
          have HF := Lib.hid hb
          clear hb
          go_wp2_with (fail)
          go_ret
          exact ⟨ret_int (by rw [HF.out]; rfl), rfl⟩
        · have HN := Lib.hid (num_neg c hN)
          obtain ⟨q1, q2⟩ := ne61 h61
          have hb := HA.out _ HL.out HJ.out (by unfold badAt; rw [hgc]; exact g_non hN h61)
          have HF := Lib.hid hb
          clear hb
          go_wp2_with ((go_at_call 111; refine (HN.out _).mono ?_; rintro e w' ⟨rfl, rfl⟩))
          go_ret
          exact ⟨ret_int (by rw [HF.out]; rfl), rfl⟩
      · have x0 : ∀ w, (Instr.index 9 (.string g) (.int .i64 1)).run Tryz.prog w = .ok (.int .u8 (c.toNat : Int)) w := xk
        clear xk
        rcases kind64 c with ⟨N, hN, _, h61⟩ | rfl | ⟨hN, h61⟩
        · have HN := Lib.hid (num_let c N hN)
          obtain ⟨q1, q2⟩ := ne61 h61
          have HF := Lib.hid (HGO.out _ (by unfold badAt; rw [hgc]; exact g_let hN h61 (by omega)) rfl)
          go_wp2_with ((go_at_call 111; refine (HN.out _).mono ?_; rintro e w' ⟨rfl, rfl⟩))
          go_round
          case rel => exact ⟨1 + 1, by omega, by go_num, HF.out⟩
          case measure => simp [intOf]; omega
        · have q1 : (((61 : UInt8).toNat : Int) != 61) = false := rfl
          have hb := HA.out _ HL.out HJ.out (by unfold badAt; rw [hgc]; exact g_pad01 (by omega))
          have HF := Lib.hid hb
          clear hb
          go_wp2_with (fail)
          go_ret
          exact ⟨ret_int (by rw [HF.out]; rfl), rfl⟩
        · have HN := Lib.hid (num_neg c hN)
          obtain ⟨q1, q2⟩ := ne61 h61
          have hb := HA.out _ HL.out HJ.out (by unfold badAt; rw [hgc]; exact g_non hN h61)
          have HF := Lib.hid hb
          clear hb
          go_wp2_with ((go_at_call 111; refine (HN.out _).mono ?_; rintro e w' ⟨rfl, rfl⟩))
          go_ret
          exact ⟨ret_int (by rw [HF.out]; rfl), rfl⟩
      · have x0 : ∀ w, (Instr.index 9 (.string g) (.int .i64 2)).run Tryz.prog w = .ok (.int .u8 (c.toNat : Int)) w := xk
        clear xk
        obtain ⟨b, hb⟩ : ∃ b, g.data.toList[1]? = some b := ⟨_, List.getElem?_eq_getElem (by rw [size_list]; omega)⟩
        have xb : ∀ w, (Instr.index 9 (.string g) (.int .i64 1)).run Tryz.prog w = .ok (.int .u8 (b.toNat : Int)) w := fun w => run_idx (P := Tryz.prog) Tryz.underlying9 g 1 b hb 1 rfl .i64 w
        have hgb := getD_of hb
        have hb256 := UInt8.toNat_lt b
        have g1 := HJ.out 1 (by omega)
        unfold badAt at g1
        rw [hgb] at g1
        obtain ⟨b0, b1⟩ := badG_01 (by omega) g1
        obtain ⟨B, hB⟩ : ∃ B : Nat, idx64 b = B := ⟨(idx64 b).toNat, by omega⟩
        have HNB := Lib.hid (num_let b B hB)
        clear hb g1 b0 b1
        rcases kind64 c with ⟨N, hN, _, h61⟩ | rfl | ⟨hN, h61⟩
        · have HN := Lib.hid (num_let c N hN)
          obtain ⟨q1, q2⟩ := ne61 h61
          have HF := Lib.hid (HGO.out _ (by unfold badAt; rw [hgb, hgc]; exact g_let hN h61 (by omega)) rfl)
          go_wp2_with ((go_at_call 111; refine (HN.out _).mono ?_; rintro e w' ⟨rfl, rfl⟩))
          go_round
          case rel => exact ⟨2 + 1, by omega, by go_num, HF.out⟩
          case measure => simp [intOf]; omega
        · have q1 : (((61 : UInt8).toNat : Int) != 61) = false := rfl
          by_cases hz : B % 16 = 0
          · have q2 : ((B : Int) % 16 != 0) = false := by simp; omega
            have HF := Lib.hid (HGO.out _ (by unfold badAt; rw [hgb, hgc]; rw [g_pad2 hB, decide_eq_false (by omega)]) rfl)
            go_wp2_with ((go_at_call 111; refine (HNB.out _).mono ?_; rintro e w' ⟨rfl, rfl⟩))
            go_round
            case rel => exact ⟨2 + 1, by omega, by go_num, HF.out⟩
            case measure => simp [intOf]; omega
          · have q2 : ((B : Int) % 16 != 0) = true := by simp; omega
            have hb := HA.out _ HL.out HJ.out (by unfold badAt; rw [hgb, hgc]; rw [g_pad2 hB, decide_eq_true hz])
            have HF := Lib.hid hb
            clear hb
            go_wp2_with ((go_at_call 111; refine (HNB.out _).mono ?_; rintro e w' ⟨rfl, rfl⟩))
            go_ret
            exact ⟨ret_int (by rw [HF.out]; rfl), rfl⟩
        · have HN := Lib.hid (num_neg c hN)
          obtain ⟨q1, q2⟩ := ne61 h61
          have hb := HA.out _ HL.out HJ.out (by unfold badAt; rw [hgb, hgc]; exact g_non hN h61)
          have HF := Lib.hid hb
          clear hb
          go_wp2_with ((go_at_call 111; refine (HN.out _).mono ?_; rintro e w' ⟨rfl, rfl⟩))
          go_ret
          exact ⟨ret_int (by rw [HF.out]; rfl), rfl⟩
      · have x0 : ∀ w, (Instr.index 9 (.string g) (.int .i64 3)).run Tryz.prog w = .ok (.int .u8 (c.toNat : Int)) w := xk
        clear xk
        obtain ⟨b, hb⟩ : ∃ b, g.data.toList[1]? = some b := ⟨_, List.getElem?_eq_getElem (by rw [size_list]; omega)⟩
        have xb : ∀ w, (Instr.index 9 (.string g) (.int .i64 1)).run Tryz.prog w = .ok (.int .u8 (b.toNat : Int)) w := fun w => run_idx (P := Tryz.prog) Tryz.underlying9 g 1 b hb 1 rfl .i64 w
        have hgb := getD_of hb
        have hb256 := UInt8.toNat_lt b
        have g1 := HJ.out 1 (by omega)
        unfold badAt at g1
        rw [hgb] at g1
        obtain ⟨b0, b1⟩ := badG_01 (by omega) g1
        obtain ⟨B, hB⟩ : ∃ B : Nat, idx64 b = B := ⟨(idx64 b).toNat, by omega⟩
        have HNB := Lib.hid (num_let b B hB)
        clear hb g1 b0 b1
        obtain ⟨d, hd⟩ : ∃ d, g.data.toList[2]? = some d := ⟨_, List.getElem?_eq_getElem (by rw [size_list]; omega)⟩
        have xd : ∀ w, (Instr.index 9 (.string g) (.int .i64 2)).run Tryz.prog w = .ok (.int .u8 (d.toNat : Int)) w := fun w => run_idx (P := Tryz.prog) Tryz.underlying9 g 2 d hd 2 rfl .i64 w
        have hgd := getD_of hd
        have hd256 := UInt8.toNat_lt d
        have g2 := HJ.out 2 (by omega)
        unfold badAt at g2
        rw [hgd, hgb] at g2
        have g2 := badG_2 g2
        clear hd
        rcases kind64 c with ⟨N, hN, _, h61⟩ | rfl | ⟨hN, h61⟩
        · have HN := Lib.hid (num_let c N hN)
          obtain ⟨q1, q2⟩ := ne61 h61
          by_cases hd61 : d = 61
          · have q3 : ((d.toNat : Int) == 61) = true := by rw [hd61]; rfl
            have hb := HA.out _ HL.out HJ.out (by unfold badAt; rw [hgb, hgd, hgc]; subst hd61; exact g_let33 h61)
            have HF := Lib.hid hb
            clear hb
            go_wp2_with ((go_at_call 111; refine (HN.out _).mono ?_; rintro e w' ⟨rfl, rfl⟩))
            go_ret
            exact ⟨ret_int (by rw [HF.out]; rfl), rfl⟩
          · obtain ⟨q3, q4⟩ := ne61 hd61
            have HF := Lib.hid (HGO.out _ (by unfold badAt; rw [hgb, hgd, hgc]; exact g_let hN h61 (fun h => hd61 h.2)) rfl)
            go_wp2_with ((go_at_call 111; refine (HN.out _).mono ?_; rintro e w' ⟨rfl, rfl⟩))
            go_round
            case rel => exact ⟨3 + 1, by omega, by go_num, HF.out⟩
            case measure => simp [intOf]; omega
        · have q1 : (((61 : UInt8).toNat : Int) != 61) = false := rfl
          by_cases hd61 : d = 61
          · have q3 : ((d.toNat : Int) != 61) = false := by rw [hd61]; rfl
            have HF := Lib.hid (HGO.out _ (by unfold badAt; rw [hgb, hgd, hgc]; subst hd61; exact g_pad33) rfl)
            go_wp2_with (fail)
            go_round
            case rel => exact ⟨3 + 1, by omega, by go_num, HF.out⟩
            case measure => simp [intOf]; omega
          · obtain ⟨q3, q4⟩ := ne61 hd61
            obtain ⟨D, hD⟩ : ∃ D : Nat, idx64 d = D := ⟨(idx64 d).toNat, by rcases g2 with h | h; exact absurd h.1 hd61; omega⟩
            have HND := Lib.hid (num_let d D hD)
            by_cases hz : D % 4 = 0
            · have q2 : ((D : Int) % 4 != 0) = false := by simp; omega
              have HF := Lib.hid (HGO.out _ (by unfold badAt; rw [hgb, hgd, hgc]; rw [g_pad3 hD hd61, decide_eq_false (by omega)]) rfl)
              go_wp2_with ((go_at_call 111; refine (HND.out _).mono ?_; rintro e w' ⟨rfl, rfl⟩))
              go_round
              case rel => exact ⟨3 + 1, by omega, by go_num, HF.out⟩
              case measure => simp [intOf]; omega
            · have q2 : ((D : Int) % 4 != 0) = true := by simp; omega
              have hb := HA.out _ HL.out HJ.out (by unfold badAt; rw [hgb, hgd, hgc]; rw [g_pad3 hD hd61, decide_eq_true hz])
              have HF := Lib.hid hb
              clear hb
              go_wp2_with ((go_at_call 111; refine (HND.out _).mono ?_; rintro e w' ⟨rfl, rfl⟩))
              go_ret
              exact ⟨ret_int (by rw [HF.out]; rfl), rfl⟩
        · have HN := Lib.hid (num_neg c hN)
          obtain ⟨q1, q2⟩ := ne61 h61
          have hb := HA.out _ HL.out HJ.out (by unfold badAt; rw [hgb, hgd, hgc]; exact g_non hN h61)
          have HF := Lib.hid hb
          clear hb
          go_wp2_with ((go_at_call 111; refine (HN.out _).mono ?_; rintro e w' ⟨rfl, rfl⟩))
          go_ret
          exact ⟨ret_int (by rw [HF.out]; rfl), rfl⟩
    · have hf := HE.out (fun j hj => HJ.out j (by rw [HS.out] at hj; omega))
      have HF := Lib.hid hf
      clear hf
      go_wp2_with fail
      go_ret
      exact ⟨ret_int (by rw [HF.out, HS.out]), rfl⟩
end Go.Proofs.YtjmgkallgflcdaaGreatDoor

namespace Go.Proofs.YtjmgkallgflcdaaGreatDoor
open Go.RowKit

theorem extract_list (s : ByteArray) (a b : Nat) : (s.extract a b).data.toList = (s.data.toList.drop a).take (b - a) := by simp [List.extract_eq_take_drop]
theorem w64_short (n i : Nat) (g : List UInt8) (h0 : g ≠ []) (h : g.length < 4) : w64 n i g = if groupL g < g.length then ((i + groupL g : Nat) : Int) else (n : Int) := by
  match g, h0, h with
  | [a], _, _ => rfl
  | [a, b], _, _ => rfl
  | [a, b, c], _, _ => rfl
  | _ :: _ :: _ :: _ :: _, _, h => simp at h; omega
theorem groupL_le (g : List UInt8) (h : g.length ≤ 4) : groupL g ≤ g.length := by
  match g, h with
  | [], _ => exact Nat.le_refl _
  | [a], _ => rw [gl1]; split <;> simp
  | [a, b], _ => rw [gl2]; repeat' split
                 all_goals simp
  | [a, b, c], _ => rw [gl3]; repeat' split
                    all_goals simp
  | [a, b, c, d], _ => rw [gl4]; repeat' split
                       all_goals simp
  | _ :: _ :: _ :: _ :: _ :: _, h => simp at h
def W64Rel (s : ByteArray) (v : Value) : Prop :=
  ∃ k : Nat, k ≤ s.size ∧ v = .int .i64 k ∧ w64 s.size 0 s.data.toList = w64 s.size k (s.data.toList.drop k)

set_option maxHeartbeats 2000000 in
set_option maxRecDepth 100000 in
theorem wrong64_any (s : ByteArray) (w : World) (hs : s.size ≤ 9223372036854775000) :
    Calls Tryz.prog 112 #[.string s] w fun e w' => e = .returned (.int .i64 (w64 s.size 0 s.data.toList)) ∧ w = w' := by
  have HS := Lib.hid (size_list s)
  go_enter Tryz.func112, Tryz.ntmps112
  go_wp2_with fail
  go_loop [3] (fun i => W64Rel s i) (fun i => s.size - (intOf i).toNat)
  case atStart => exact ⟨0, by omega, rfl, rfl⟩
  case round =>
    obtain ⟨k, hk, rfl, hrun⟩ := hrel
    have HR := Lib.hid hrun
    clear hrun
    by_cases hlt : k < s.size
    · have hTs : (s.extract k s.size).size = s.size - k := by
        have e := size_list (s.extract k s.size)
        rw [Lib.extract_to_end, List.length_drop, size_list] at e
        exact e.symm
      have hTl : (s.extract k s.size).data.toList = s.data.toList.drop k := Lib.extract_to_end s k
      have hlen : (s.data.toList.drop k).length = s.size - k := by rw [List.length_drop, size_list]
      match hd : s.data.toList.drop k with
      | [] => rw [hd] at hlen; simp at hlen; omega
      | a :: b :: c :: d :: r =>
        rw [hd] at hlen hTl
        simp only [List.length_cons] at hlen
        have hdr : s.data.toList.drop (k + 4) = r := by rw [← List.drop_drop, hd]; rfl
        have hw := HR.out
        rw [hd, w64_4] at hw
        have HDR := Lib.hid hdr
        have HW := Lib.hid hw
        have hgl := groupL_le [a, b, c, d] (by simp)
        have hd256 := UInt8.toNat_lt d
        simp only [List.length_cons, List.length_nil] at hgl
        clear hdr hw
        by_cases hr : r = []
        · have hr0 : s.size - k = 4 := by rw [hr] at hlen; simp at hlen; omega
          have hG := group_any (s.extract k s.size) w (by omega)
          rw [hTl, hr] at hG
          have x3 := fun w => run_idx (P := Tryz.prog) Tryz.underlying9 (s.extract k s.size) 3 d (by rw [hTl]; rfl) 3 rfl .i64 w
          have hT4 : (s.extract k s.size).size = 4 := by omega
          by_cases hK : groupL [a, b, c, d] < 4
          · have HG := Lib.hid hG
            have hf : w64 s.size 0 s.data.toList = ((k + groupL [a, b, c, d] : Nat) : Int) := by rw [HW.out, if_pos hK]
            have HF := Lib.hid hf
            clear hf hG hTl hd hr hTs hlen
            generalize groupL [a, b, c, d] = K at *
            go_wp2_with (go_at_call 155; refine HG.out.mono ?_; rintro e w' ⟨rfl, rfl⟩)
            go_ret
            exact ⟨ret_int (by rw [HF.out]; omega), rfl⟩
          · have hK4 : groupL [a, b, c, d] = 4 := by omega
            rw [hK4] at hG
            have HG := Lib.hid hG
            have hf : w64 s.size 0 s.data.toList = w64 s.size (k + 4) (s.data.toList.drop (k + 4)) := by rw [HW.out, if_neg hK, if_neg (by simp [hr]), HDR.out]
            have HF := Lib.hid hf
            clear hf hG hTl hd hr hTs hlen hK hgl
            by_cases h61 : d = 61
            · have q : ((d.toNat : Int) == 61) = true := by rw [h61]; rfl
              clear h61
              go_wp2_with (go_at_call 155; refine HG.out.mono ?_; rintro e w' ⟨rfl, rfl⟩)
              go_round
              case rel => exact ⟨k + 4, by omega, by go_num, HF.out⟩
              case measure => simp [intOf]; omega
            · have q := (ne61 h61).2
              clear h61
              go_wp2_with (go_at_call 155; refine HG.out.mono ?_; rintro e w' ⟨rfl, rfl⟩)
              go_round
              case rel => exact ⟨k + 4, by omega, by go_num, HF.out⟩
              case measure => simp [intOf]; omega
        · have hpos := List.length_pos_iff.2 hr
          have hTgt : 4 < (s.extract k s.size).size := by omega
          have HTL := Lib.hid hTl
          have HRN := Lib.hid hr
          have hk4 : k + 4 < s.size := by omega
          have HGL := Lib.hid hgl
          have e1 : (k : Int) + 4 < (s.size : Int) := by omega
          clear hTl hd hr hlen hgl hTs
          go_wp2_with fail
          generalize hGe : (s.extract k s.size).extract 0 4 = G
          have hGl : G.data.toList = [a, b, c, d] := by rw [← hGe, extract_list, HTL.out]; rfl
          clear hGe
          have hGs : G.size = 4 := by rw [← size_list, hGl]; rfl
          have hG := group_any G w (by omega)
          rw [hGl] at hG
          have x3 := fun w => run_idx (P := Tryz.prog) Tryz.underlying9 G 3 d (by rw [hGl]; rfl) 3 rfl .i64 w
          clear hGl
          by_cases hK : groupL [a, b, c, d] < 4
          · have HG := Lib.hid hG
            have hf : w64 s.size 0 s.data.toList = ((k + groupL [a, b, c, d] : Nat) : Int) := by rw [HW.out, if_pos hK]
            have HF := Lib.hid hf
            clear hf hG
            generalize groupL [a, b, c, d] = K at *
            refine HG.out.mono ?_
            rintro e w' ⟨rfl, rfl⟩
            go_wp2_with fail
            go_ret
            exact ⟨ret_int (by rw [HF.out]; omega), rfl⟩
          · have hK4 : groupL [a, b, c, d] = 4 := by have := HGL.out; omega
            rw [hK4] at hG
            have HG := Lib.hid hG
            by_cases h61 : d = 61
            · have q : ((d.toNat : Int) == 61) = true := by rw [h61]; rfl
              have hf : w64 s.size 0 s.data.toList = ((k + 4 : Nat) : Int) := by rw [HW.out, if_neg hK, if_pos ⟨h61, HRN.out⟩]
              have HF := Lib.hid hf
              clear hf hG hK hK4 h61
              refine HG.out.mono ?_
              rintro e w' ⟨rfl, rfl⟩
              go_wp2_with fail
              go_ret
              exact ⟨ret_int (by rw [HF.out]; omega), rfl⟩
            · have q := (ne61 h61).2
              have hf : w64 s.size 0 s.data.toList = w64 s.size (k + 4) (s.data.toList.drop (k + 4)) := by rw [HW.out, if_neg hK, if_neg (fun h => h61 h.1), HDR.out]
              have HF := Lib.hid hf
              clear hf hG hK hK4 h61
              refine HG.out.mono ?_
              rintro e w' ⟨rfl, rfl⟩
              go_wp2_with fail
              go_round
              case rel => exact ⟨k + 4, by omega, by go_num, HF.out⟩
              case measure => simp [intOf]; omega
      | [a] =>
        rw [hd] at hlen hTl
        simp only [List.length_cons, List.length_nil] at hlen
        have hw := HR.out
        rw [hd, wl1] at hw
        have HW := Lib.hid hw
        have hG := group_any (s.extract k s.size) w (by omega)
        rw [hTl] at hG
        have HG := Lib.hid hG
        have hT4 : (s.extract k s.size).size = 1 := by omega
        by_cases hK : groupL [a] < 1
        · have hf : w64 s.size 0 s.data.toList = ((k + groupL [a] : Nat) : Int) := by rw [HW.out, if_pos hK]
          have HF := Lib.hid hf
          clear hf hG hTl hd hTs hlen hw
          generalize groupL [a] = K at *
          go_wp2_with (go_at_call 155; refine HG.out.mono ?_; rintro e w' ⟨rfl, rfl⟩)
          go_ret
          exact ⟨ret_int (by rw [HF.out]; omega), rfl⟩
        · have hf : w64 s.size 0 s.data.toList = (s.size : Int) := by rw [HW.out, if_neg hK]
          have HF := Lib.hid hf
          clear hf hG hTl hd hTs hlen hw
          generalize groupL [a] = K at *
          go_wp2_with (go_at_call 155; refine HG.out.mono ?_; rintro e w' ⟨rfl, rfl⟩)
          go_ret
          exact ⟨ret_int (by rw [HF.out]), rfl⟩
      | [a, b] =>
        rw [hd] at hlen hTl
        simp only [List.length_cons, List.length_nil] at hlen
        have hw := HR.out
        rw [hd, wl2] at hw
        have HW := Lib.hid hw
        have hG := group_any (s.extract k s.size) w (by omega)
        rw [hTl] at hG
        have HG := Lib.hid hG
        have hT4 : (s.extract k s.size).size = 2 := by omega
        by_cases hK : groupL [a, b] < 2
        · have hf : w64 s.size 0 s.data.toList = ((k + groupL [a, b] : Nat) : Int) := by rw [HW.out, if_pos hK]
          have HF := Lib.hid hf
          clear hf hG hTl hd hTs hlen hw
          generalize groupL [a, b] = K at *
          go_wp2_with (go_at_call 155; refine HG.out.mono ?_; rintro e w' ⟨rfl, rfl⟩)
          go_ret
          exact ⟨ret_int (by rw [HF.out]; omega), rfl⟩
        · have hf : w64 s.size 0 s.data.toList = (s.size : Int) := by rw [HW.out, if_neg hK]
          have HF := Lib.hid hf
          clear hf hG hTl hd hTs hlen hw
          generalize groupL [a, b] = K at *
          go_wp2_with (go_at_call 155; refine HG.out.mono ?_; rintro e w' ⟨rfl, rfl⟩)
          go_ret
          exact ⟨ret_int (by rw [HF.out]), rfl⟩
      | [a, b, c] =>
        rw [hd] at hlen hTl
        simp only [List.length_cons, List.length_nil] at hlen
        have hw := HR.out
        rw [hd, wl3] at hw
        have HW := Lib.hid hw
        have hG := group_any (s.extract k s.size) w (by omega)
        rw [hTl] at hG
        have HG := Lib.hid hG
        have hT4 : (s.extract k s.size).size = 3 := by omega
        by_cases hK : groupL [a, b, c] < 3
        · have hf : w64 s.size 0 s.data.toList = ((k + groupL [a, b, c] : Nat) : Int) := by rw [HW.out, if_pos hK]
          have HF := Lib.hid hf
          clear hf hG hTl hd hTs hlen hw
          generalize groupL [a, b, c] = K at *
          go_wp2_with (go_at_call 155; refine HG.out.mono ?_; rintro e w' ⟨rfl, rfl⟩)
          go_ret
          exact ⟨ret_int (by rw [HF.out]; omega), rfl⟩
        · have hf : w64 s.size 0 s.data.toList = (s.size : Int) := by rw [HW.out, if_neg hK]
          have HF := Lib.hid hf
          clear hf hG hTl hd hTs hlen hw
          generalize groupL [a, b, c] = K at *
          go_wp2_with (go_at_call 155; refine HG.out.mono ?_; rintro e w' ⟨rfl, rfl⟩)
          go_ret
          exact ⟨ret_int (by rw [HF.out]), rfl⟩
    · have hf : w64 s.size 0 s.data.toList = -1 := by
        rw [HR.out, List.drop_eq_nil_of_le (by rw [HS.out]; omega)]; rfl
      have HF := Lib.hid hf
      clear hf
      go_wp2_with fail
      go_ret
      exact ⟨ret_int HF.out.symm, rfl⟩
end Go.Proofs.YtjmgkallgflcdaaGreatDoor
