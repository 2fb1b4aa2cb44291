/-
  cartularyref03: Wrong64 by its contract.
-/
import Derived.Test.YtobnlnkmonaohaaDoorRefG
import Derived.Test.YtobnlnkmonaohaaDoorHex
namespace Go.Proofs.YtobnlnkmonaohaaDoor
open Go.RowKit

theorem extract_list (s : ByteArray) (a b : Nat) : (s.extract a b).data.toList = (s.data.toList.drop a).take (b - a) := by simp [List.extract_eq_take_drop]
theorem w64_short (n i : Nat) (g : List UInt8) (h0 : g ≠ []) (h : g.length < 4) : w64 n i g = if groupL g < g.length then ((i + groupL g : Nat) : Int) else (n : Int) := by
  match g, h0, h with
  | [a], _, _ => rfl
  | [a, b], _, _ => rfl
  | [a, b, c], _, _ => rfl
  | _ :: _ :: _ :: _ :: _, _, h => simp at h; omega
theorem groupL_le (g : List UInt8) (h : g.length ≤ 4) : groupL g ≤ g.length := by
  match g, h with
  | [], _ => exact Nat.le_refl _
  | [a], _ => rw [gl1]; split <;> simp
  | [a, b], _ => rw [gl2]; repeat' split
                 all_goals simp
  | [a, b, c], _ => rw [gl3]; repeat' split
                    all_goals simp
  | [a, b, c, d], _ => rw [gl4]; repeat' split
                       all_goals simp
  | _ :: _ :: _ :: _ :: _ :: _, h => simp at h
def W64Rel (s : ByteArray) (v : Value) : Prop :=
  ∃ k : Nat, k ≤ s.size ∧ v = .int .i64 k ∧ w64 s.size 0 s.data.toList = w64 s.size k (s.data.toList.drop k)

set_option maxHeartbeats 2000000 in
set_option maxRecDepth 100000 in
theorem wrong64_any (s : ByteArray) (w : World) (hs : s.size ≤ 9223372036854775000) :
    Calls Tryd.prog 48 #[.string s] w fun e w' => e = .returned (.int .i64 (w64 s.size 0 s.data.toList)) ∧ w = w' := by
  have HS := Lib.hid (size_list s)
  go_enter Tryd.func48, Tryd.ntmps48
  go_wp2_with fail
  go_loop [3] (fun i => W64Rel s i) (fun i => s.size - (intOf i).toNat)
  case atStart => exact ⟨0, by omega, rfl, rfl⟩
  case round =>
    obtain ⟨k, hk, rfl, hrun⟩ := hrel
    have HR := Lib.hid hrun
    clear hrun
    by_cases hlt : k < s.size
    · have hTs : (s.extract k s.size).size = s.size - k := by
        have e := size_list (s.extract k s.size)
        rw [Lib.extract_to_end, List.length_drop, size_list] at e
        exact e.symm
      have hTl : (s.extract k s.size).data.toList = s.data.toList.drop k := Lib.extract_to_end s k
      have hlen : (s.data.toList.drop k).length = s.size - k := by rw [List.length_drop, size_list]
      match hd : s.data.toList.drop k with
      | [] => rw [hd] at hlen; simp at hlen; omega
      | a :: b :: c :: d :: r =>
        rw [hd] at hlen hTl
        simp only [List.length_cons] at hlen
        have hdr : s.data.toList.drop (k + 4) = r := by rw [← List.drop_drop, hd]; rfl
        have hw := HR.out
        rw [hd, w64_4] at hw
        have HDR := Lib.hid hdr
        have HW := Lib.hid hw
        have hgl := groupL_le [a, b, c, d] (by simp)
        have hd256 := UInt8.toNat_lt d
        simp only [List.length_cons, List.length_nil] at hgl
        clear hdr hw
        by_cases hr : r = []
        · have hr0 : s.size - k = 4 := by rw [hr] at hlen; simp at hlen; omega
          have hG := group_any (s.extract k s.size) w (by omega)
          rw [hTl, hr] at hG
          have x3 := fun w => run_idx (P := Tryd.prog) Tryd.underlying9 (s.extract k s.size) 3 d (by rw [hTl]; rfl) 3 rfl .i64 w
          have hT4 : (s.extract k s.size).size = 4 := by omega
          by_cases hK : groupL [a, b, c, d] < 4
          · have HG := Lib.hid hG
            have hf : w64 s.size 0 s.data.toList = ((k + groupL [a, b, c, d] : Nat) : Int) := by rw [HW.out, if_pos hK]
            have HF := Lib.hid hf
            clear hf hG hTl hd hr hTs hlen
            generalize groupL [a, b, c, d] = K at *
            go_wp2_with (go_at_call 66; refine HG.out.mono ?_; rintro e w' ⟨rfl, rfl⟩)
            go_ret
            exact ⟨ret_int (by rw [HF.out]; omega), rfl⟩
          · have hK4 : groupL [a, b, c, d] = 4 := by omega
            rw [hK4] at hG
            have HG := Lib.hid hG
            have hf : w64 s.size 0 s.data.toList = w64 s.size (k + 4) (s.data.toList.drop (k + 4)) := by rw [HW.out, if_neg hK, if_neg (by simp [hr]), HDR.out]
            have HF := Lib.hid hf
            clear hf hG hTl hd hr hTs hlen hK hgl
            by_cases h61 : d = 61
            · have q : ((d.toNat : Int) == 61) = true := by rw [h61]; rfl
              clear h61
              go_wp2_with (go_at_call 66; refine HG.out.mono ?_; rintro e w' ⟨rfl, rfl⟩)
              go_round
              case rel => exact ⟨k + 4, by omega, by go_num, HF.out⟩
              case measure => simp [intOf]; omega
            · have q := (ne61 h61).2
              clear h61
              go_wp2_with (go_at_call 66; refine HG.out.mono ?_; rintro e w' ⟨rfl, rfl⟩)
              go_round
              case rel => exact ⟨k + 4, by omega, by go_num, HF.out⟩
              case measure => simp [intOf]; omega
        · have hpos := List.length_pos_iff.2 hr
          have hTgt : 4 < (s.extract k s.size).size := by omega
          have HTL := Lib.hid hTl
          have HRN := Lib.hid hr
          have hk4 : k + 4 < s.size := by omega
          have HGL := Lib.hid hgl
          have e1 : (k : Int) + 4 < (s.size : Int) := by omega
          clear hTl hd hr hlen hgl hTs
          go_wp2_with fail
          generalize hGe : (s.extract k s.size).extract 0 4 = G
          have hGl : G.data.toList = [a, b, c, d] := by rw [← hGe, extract_list, HTL.out]; rfl
          clear hGe
          have hGs : G.size = 4 := by rw [← size_list, hGl]; rfl
          have hG := group_any G w (by omega)
          rw [hGl] at hG
          have x3 := fun w => run_idx (P := Tryd.prog) Tryd.underlying9 G 3 d (by rw [hGl]; rfl) 3 rfl .i64 w
          clear hGl
          by_cases hK : groupL [a, b, c, d] < 4
          · have HG := Lib.hid hG
            have hf : w64 s.size 0 s.data.toList = ((k + groupL [a, b, c, d] : Nat) : Int) := by rw [HW.out, if_pos hK]
            have HF := Lib.hid hf
            clear hf hG
            generalize groupL [a, b, c, d] = K at *
            refine HG.out.mono ?_
            rintro e w' ⟨rfl, rfl⟩
            go_wp2_with fail
            go_ret
            exact ⟨ret_int (by rw [HF.out]; omega), rfl⟩
          · have hK4 : groupL [a, b, c, d] = 4 := by have := HGL.out; omega
            rw [hK4] at hG
            have HG := Lib.hid hG
            by_cases h61 : d = 61
            · have q : ((d.toNat : Int) == 61) = true := by rw [h61]; rfl
              have hf : w64 s.size 0 s.data.toList = ((k + 4 : Nat) : Int) := by rw [HW.out, if_neg hK, if_pos ⟨h61, HRN.out⟩]
              have HF := Lib.hid hf
              clear hf hG hK hK4 h61
              refine HG.out.mono ?_
              rintro e w' ⟨rfl, rfl⟩
              go_wp2_with fail
              go_ret
              exact ⟨ret_int (by rw [HF.out]; omega), rfl⟩
            · have q := (ne61 h61).2
              have hf : w64 s.size 0 s.data.toList = w64 s.size (k + 4) (s.data.toList.drop (k + 4)) := by rw [HW.out, if_neg hK, if_neg (fun h => h61 h.1), HDR.out]
              have HF := Lib.hid hf
              clear hf hG hK hK4 h61
              refine HG.out.mono ?_
              rintro e w' ⟨rfl, rfl⟩
              go_wp2_with fail
              go_round
              case rel => exact ⟨k + 4, by omega, by go_num, HF.out⟩
              case measure => simp [intOf]; omega
      | [a] =>
        rw [hd] at hlen hTl
        simp only [List.length_cons, List.length_nil] at hlen
        have hw := HR.out
        rw [hd, wl1] at hw
        have HW := Lib.hid hw
        have hG := group_any (s.extract k s.size) w (by omega)
        rw [hTl] at hG
        have HG := Lib.hid hG
        have hT4 : (s.extract k s.size).size = 1 := by omega
        by_cases hK : groupL [a] < 1
        · have hf : w64 s.size 0 s.data.toList = ((k + groupL [a] : Nat) : Int) := by rw [HW.out, if_pos hK]
          have HF := Lib.hid hf
          clear hf hG hTl hd hTs hlen hw
          generalize groupL [a] = K at *
          go_wp2_with (go_at_call 66; refine HG.out.mono ?_; rintro e w' ⟨rfl, rfl⟩)
          go_ret
          exact ⟨ret_int (by rw [HF.out]; omega), rfl⟩
        · have hf : w64 s.size 0 s.data.toList = (s.size : Int) := by rw [HW.out, if_neg hK]
          have HF := Lib.hid hf
          clear hf hG hTl hd hTs hlen hw
          generalize groupL [a] = K at *
          go_wp2_with (go_at_call 66; refine HG.out.mono ?_; rintro e w' ⟨rfl, rfl⟩)
          go_ret
          exact ⟨ret_int (by rw [HF.out]), rfl⟩
      | [a, b] =>
        rw [hd] at hlen hTl
        simp only [List.length_cons, List.length_nil] at hlen
        have hw := HR.out
        rw [hd, wl2] at hw
        have HW := Lib.hid hw
        have hG := group_any (s.extract k s.size) w (by omega)
        rw [hTl] at hG
        have HG := Lib.hid hG
        have hT4 : (s.extract k s.size).size = 2 := by omega
        by_cases hK : groupL [a, b] < 2
        · have hf : w64 s.size 0 s.data.toList = ((k + groupL [a, b] : Nat) : Int) := by rw [HW.out, if_pos hK]
          have HF := Lib.hid hf
          clear hf hG hTl hd hTs hlen hw
          generalize groupL [a, b] = K at *
          go_wp2_with (go_at_call 66; refine HG.out.mono ?_; rintro e w' ⟨rfl, rfl⟩)
          go_ret
          exact ⟨ret_int (by rw [HF.out]; omega), rfl⟩
        · have hf : w64 s.size 0 s.data.toList = (s.size : Int) := by rw [HW.out, if_neg hK]
          have HF := Lib.hid hf
          clear hf hG hTl hd hTs hlen hw
          generalize groupL [a, b] = K at *
          go_wp2_with (go_at_call 66; refine HG.out.mono ?_; rintro e w' ⟨rfl, rfl⟩)
          go_ret
          exact ⟨ret_int (by rw [HF.out]), rfl⟩
      | [a, b, c] =>
        rw [hd] at hlen hTl
        simp only [List.length_cons, List.length_nil] at hlen
        have hw := HR.out
        rw [hd, wl3] at hw
        have HW := Lib.hid hw
        have hG := group_any (s.extract k s.size) w (by omega)
        rw [hTl] at hG
        have HG := Lib.hid hG
        have hT4 : (s.extract k s.size).size = 3 := by omega
        by_cases hK : groupL [a, b, c] < 3
        · have hf : w64 s.size 0 s.data.toList = ((k + groupL [a, b, c] : Nat) : Int) := by rw [HW.out, if_pos hK]
          have HF := Lib.hid hf
          clear hf hG hTl hd hTs hlen hw
          generalize groupL [a, b, c] = K at *
          go_wp2_with (go_at_call 66; refine HG.out.mono ?_; rintro e w' ⟨rfl, rfl⟩)
          go_ret
          exact ⟨ret_int (by rw [HF.out]; omega), rfl⟩
        · have hf : w64 s.size 0 s.data.toList = (s.size : Int) := by rw [HW.out, if_neg hK]
          have HF := Lib.hid hf
          clear hf hG hTl hd hTs hlen hw
          generalize groupL [a, b, c] = K at *
          go_wp2_with (go_at_call 66; refine HG.out.mono ?_; rintro e w' ⟨rfl, rfl⟩)
          go_ret
          exact ⟨ret_int (by rw [HF.out]), rfl⟩
    · have hf : w64 s.size 0 s.data.toList = -1 := by
        rw [HR.out, List.drop_eq_nil_of_le (by rw [HS.out]; omega)]; rfl
      have HF := Lib.hid hf
      clear hf
      go_wp2_with fail
      go_ret
      exact ⟨ret_int HF.out.symm, rfl⟩
end Go.Proofs.YtobnlnkmonaohaaDoor
