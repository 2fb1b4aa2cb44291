/-
  PROVED: cartularylaw03.TextWrong returns true, whatever the two texts (the tied card of its row). Conditions: those of the row: each text takes at most the bytes that the form allows; the listed package-level variables hold what the program lays.
-/
import Derived.Test.YtobnlnkmonaohaaDoorWrong2
import Derived.Test.YtobnlnkmonaohaaDoorWrongFrame
import Derived.Deep.Cut
namespace Go.Proofs.YtobnlnkmonaohaaDoor
open Go.RowKit

set_option maxHeartbeats 1000000 in
set_option maxRecDepth 100000 in
theorem wrong_big (S : Nat → Addr) (s m : ByteArray) (w : World) (hs : s.size ≤ 140737488351232) (hm : m.size ≤ 140737488351232) (hbig : 60000 < s.size + m.size) (hB : Base S w) :
    Calls Tryd.prog 7 #[.string s, .string m] w fun e w' => e = .returned (.bool true) ∧ Below w.heap.size w w' := by
  have HL := Lib.hid (alive_any S w hB)
  clear hB
  go_enter Tryd.func7, Tryd.ntmps7
  go_wp2_with fail
  refine HL.out.mono ?_
  rintro e w1 ⟨rfl, b1⟩
  go_wp2_with fail
  go_ret
  exact ⟨rfl, b1⟩

set_option maxHeartbeats 4000000 in
set_option maxRecDepth 100000 in
theorem wrong_small (S : Nat → Addr) (s m : ByteArray) (w : World) (hsm : s.size + m.size ≤ 60000) (hB : Base S w) :
    Calls Tryd.prog 7 #[.string s, .string m] w fun e w' => e = .returned (.bool true) ∧ Below w.heap.size w w' := by
  have HB := Lib.hid hB
  have HS := Lib.hid (size_list s)
  have HM := Lib.hid (size_list m)
  have h60 : s.size ≤ 60000 := by omega
  have E1 := Lib.hid (f64_either S s h60)
  have E2 := Lib.hid (fhex_either S s h60)
  have E3 := Lib.hid (fdec_either S s h60)
  clear hB
  go_enter Tryd.func7, Tryd.ntmps7
  go_wp2_with fail
  refine (E1.out _ HB.out).mono ?_
  rintro e w1 ⟨v1, ev1, bb1, rfl, b1, hB1, hev1, hbb1, he1⟩
  obtain ⟨hq1, hr1⟩ := neq_nil ev1 bb1 hev1
  have HB1 := Lib.hid hB1
  have HE1 := Lib.hid he1
  have HV1 := Lib.hid hev1
  have HBB1 := Lib.hid hbb1
  have hbw1 : Below w.heap.size w w1 := b1
  clear hB1 he1 hev1 hbb1 b1
  go_upto_if 32 with fail
  clear hq1 hr1
  go_cut [] from 5 (fun wx => Below w.heap.size w wx ∧ Base S wx)
  case first =>
    rcases HV1.out with ⟨rfl, rfl⟩ | ⟨⟨bf, rfl⟩, rfl⟩
    · go_wp2_with fail
      go_meet
      case rel => exact ⟨hbw1, HB1.out⟩
    · have hne : (fromB64 s.data.toList).2.1 ≠ 0 := by
        rcases HBB1.out with h | h
        · exact absurd h.1 (by simp)
        · exact h.2
      obtain ⟨k, hk, hA, hend, hpre⟩ := wrong64 s.data.toList (by rw [HS.out]; exact h60) hne
      rw [HS.out] at hk hpre
      have he := HE1.out
      rw [hA] at he
      have HEK := Lib.hid he
      have HEND := Lib.hid hend
      have HPRE := Lib.hid hpre
      have hts := take_small s h60 k
      have htp := take_small s h60 (k + 1)
      have HPL := Lib.hid (place_any S s w1 bf k hk HB1.out HEK.out)
      clear hne hA he hend hpre
      go_wp2_with fail
      refine HPL.out.mono ?_
      rintro e y1 ⟨rfl, c1, hy1⟩
      have HY1 := Lib.hid hy1
      have d1 := below_trans hbw1 c1
      clear hy1 c1
      have HEN := Lib.hid (ends64_any S (s.extract 0 k) _ (take_list s k) _ hts HY1.out HEND.out)
      go_wp2_with fail
      refine HEN.out.mono ?_
      rintro e y2 ⟨rfl, c2, hy2⟩
      have HY2 := Lib.hid hy2
      have d2 := below_trans d1 c2
      clear hy2 c2
      by_cases hlt : k < s.size
      · have hsz : (s.extract 0 (k + 1) ++ m).size ≤ 9223372036854775807 := by rw [size_app2]; omega
        have HC3 := Lib.hid (f64_bad S (s.extract 0 (k + 1) ++ m) _ (take_app s m (k + 1)) hsz k (HPRE.out hlt m.data.toList (by rw [HM.out]; omega)) _ HY2.out)
        have ek1 : IntKind.i64.wrap ((k : Int) + 1) = (k : Int) + 1 := by rw [IntKind.wrap_i64]; omega
        go_wp2_with fail
        refine HC3.out.mono ?_
        rintro e y3 ⟨vx, bx, rfl, hex, c3, hy3⟩
        have HY3 := Lib.hid hy3
        have HEX := Lib.hid hex
        have d3 := below_trans d2 c3
        clear hy3 hex c3
        go_wp2_with fail
        refine (isAt_true S _ bx k HY3.out HEX.out).mono ?_
        rintro e y4 ⟨rfl, c4, hy4⟩
        have HY4 := Lib.hid hy4
        have d4 := below_trans d3 c4
        clear hy4 c4
        go_wp2_with fail
        go_meet
        case rel => exact ⟨d4, HY4.out⟩
      · go_wp2_with fail
        go_meet
        case rel => exact ⟨d2, HY2.out⟩
  case rest =>
  obtain ⟨hbc1, hBc1⟩ := hcut
  have HBc1 := Lib.hid hBc1
  clear hBc1 hbw1 HB1 HE1 HV1 HBB1
  rename_i wc1
  go_wp2_with fail
  refine (E2.out _ HBc1.out).mono ?_
  rintro e w2 ⟨v2, ev2, bb2, rfl, b2, hB2, hev2, hbb2, he2⟩
  obtain ⟨hq2, hr2⟩ := neq_nil ev2 bb2 hev2
  have HB2 := Lib.hid hB2
  have HE2 := Lib.hid he2
  have HV2 := Lib.hid hev2
  have HBB2 := Lib.hid hbb2
  have hbw2 : Below w.heap.size w w2 := below_trans hbc1 b2
  clear hB2 he2 hev2 hbb2 b2 hbc1
  go_upto_if 69 with fail
  clear hq2 hr2
  go_cut [] from 5 (fun wx => Below w.heap.size w wx ∧ Base S wx)
  case first =>
    rcases HV2.out with ⟨rfl, rfl⟩ | ⟨⟨bf, rfl⟩, rfl⟩
    · go_wp2_with fail
      go_meet
      case rel => exact ⟨hbw2, HB2.out⟩
    · have hne : (fromHexL s.data.toList).2.1 ≠ 0 := by
        rcases HBB2.out with h | h
        · exact absurd h.1 (by simp)
        · exact h.2
      obtain ⟨k, hk, hA, hend, hpre⟩ := wrongHex s.data.toList (by rw [HS.out]; exact h60) hne
      rw [HS.out] at hk hpre
      have he := HE2.out
      rw [hA] at he
      have HEK := Lib.hid he
      have HEND := Lib.hid hend
      have HPRE := Lib.hid hpre
      have hts := take_small s h60 k
      have htp := take_small s h60 (k + 1)
      have HPL := Lib.hid (place_any S s w2 bf k hk HB2.out HEK.out)
      clear hne hA he hend hpre
      go_wp2_with fail
      refine HPL.out.mono ?_
      rintro e y1 ⟨rfl, c1, hy1⟩
      have HY1 := Lib.hid hy1
      have d1 := below_trans hbw2 c1
      clear hy1 c1
      by_cases hodd : k % 2 = 1
      · have emod : (k : Int).tmod 2 = 1 := by rw [Int.tmod_eq_emod_of_nonneg (by omega)]; omega
        have hl2 : (s.extract 0 k ++ ⟨#[48]⟩).data.toList = evenL (s.data.toList.take k) := by
          have hlen : (s.data.toList.take k).length = k := by rw [List.length_take, HS.out]; omega
          rw [data_app2, take_list]
          unfold evenL
          rw [hlen, if_pos hodd]
        have hsz2 : (s.extract 0 k ++ ⟨#[48]⟩).size ≤ 9223372036854775807 := by rw [size_app2]; show _ + 1 ≤ _; omega
        have HEN := Lib.hid (fhex_good S (s.extract 0 k ++ ⟨#[48]⟩) _ hl2 hsz2 HEND.out _ HY1.out)
        clear hl2 hsz2
        go_wp2_with fail
        refine HEN.out.mono ?_
        rintro e y2 ⟨vy, rfl, c2, hy2⟩
        have HY2 := Lib.hid hy2
        have d2 := below_trans d1 c2
        clear hy2 c2
        by_cases hlt : k < s.size
        · have hsz : (s.extract 0 (k + 1) ++ m).size ≤ 9223372036854775807 := by rw [size_app2]; omega
          have HC3 := Lib.hid (fhex_bad S (s.extract 0 (k + 1) ++ m) _ (take_app s m (k + 1)) hsz k (HPRE.out hlt m.data.toList (by rw [HM.out]; omega)) _ HY2.out)
          have ek1 : IntKind.i64.wrap ((k : Int) + 1) = (k : Int) + 1 := by rw [IntKind.wrap_i64]; omega
          go_wp2_with fail
          refine HC3.out.mono ?_
          rintro e y3 ⟨vx, bx, rfl, hex, c3, hy3⟩
          have HY3 := Lib.hid hy3
          have HEX := Lib.hid hex
          have d3 := below_trans d2 c3
          clear hy3 hex c3
          go_wp2_with fail
          refine (isAt_true S _ bx k HY3.out HEX.out).mono ?_
          rintro e y4 ⟨rfl, c4, hy4⟩
          have HY4 := Lib.hid hy4
          have d4 := below_trans d3 c4
          clear hy4 c4
          go_wp2_with fail
          go_meet
          case rel => exact ⟨d4, HY4.out⟩
        · go_wp2_with fail
          go_meet
          case rel => exact ⟨d2, HY2.out⟩
      · have emod : (k : Int).tmod 2 = 0 := by rw [Int.tmod_eq_emod_of_nonneg (by omega)]; omega
        have hl2 : (s.extract 0 k).data.toList = evenL (s.data.toList.take k) := by
          have hlen : (s.data.toList.take k).length = k := by rw [List.length_take, HS.out]; omega
          rw [take_list]
          unfold evenL
          rw [hlen, if_neg hodd]
        have HEN := Lib.hid (fhex_good S (s.extract 0 k) _ hl2 (by omega) HEND.out _ HY1.out)
        clear hl2
        go_wp2_with fail
        refine HEN.out.mono ?_
        rintro e y2 ⟨vy, rfl, c2, hy2⟩
        have HY2 := Lib.hid hy2
        have d2 := below_trans d1 c2
        clear hy2 c2
        by_cases hlt : k < s.size
        · have hsz : (s.extract 0 (k + 1) ++ m).size ≤ 9223372036854775807 := by rw [size_app2]; omega
          have HC3 := Lib.hid (fhex_bad S (s.extract 0 (k + 1) ++ m) _ (take_app s m (k + 1)) hsz k (HPRE.out hlt m.data.toList (by rw [HM.out]; omega)) _ HY2.out)
          have ek1 : IntKind.i64.wrap ((k : Int) + 1) = (k : Int) + 1 := by rw [IntKind.wrap_i64]; omega
          go_wp2_with fail
          refine HC3.out.mono ?_
          rintro e y3 ⟨vx, bx, rfl, hex, c3, hy3⟩
          have HY3 := Lib.hid hy3
          have HEX := Lib.hid hex
          have d3 := below_trans d2 c3
          clear hy3 hex c3
          go_wp2_with fail
          refine (isAt_true S _ bx k HY3.out HEX.out).mono ?_
          rintro e y4 ⟨rfl, c4, hy4⟩
          have HY4 := Lib.hid hy4
          have d4 := below_trans d3 c4
          clear hy4 c4
          go_wp2_with fail
          go_meet
          case rel => exact ⟨d4, HY4.out⟩
        · go_wp2_with fail
          go_meet
          case rel => exact ⟨d2, HY2.out⟩
  case rest =>
  obtain ⟨hbc2, hBc2⟩ := hcut
  have HBc2 := Lib.hid hBc2
  clear hBc2 hbw2 HB2 HE2 HV2 HBB2
  rename_i wc2
  go_wp2_with fail
  refine (E3.out _ HBc2.out).mono ?_
  rintro e w3 ⟨v3, ev3, bb3, rfl, b3, hB3, hev3, hbb3, he3⟩
  obtain ⟨hq3, hr3⟩ := neq_nil ev3 bb3 hev3
  have HB3 := Lib.hid hB3
  have HE3 := Lib.hid he3
  have HV3 := Lib.hid hev3
  have HBB3 := Lib.hid hbb3
  have hbw3 : Below w.heap.size w w3 := below_trans hbc2 b3
  clear hB3 he3 hev3 hbb3 b3 hbc2
  go_upto_if 114 with fail
  clear hq3 hr3
  go_cut [] from 5 (fun wx => Below w.heap.size w wx ∧ Base S wx)
  case first =>
    rcases HV3.out with ⟨rfl, rfl⟩ | ⟨⟨bf, rfl⟩, rfl⟩
    · go_wp2_with fail
      go_meet
      case rel => exact ⟨hbw3, HB3.out⟩
    · have hne : (fromDec s.data.toList).2.1 ≠ 0 := by
        rcases HBB3.out with h | h
        · exact absurd h.1 (by simp)
        · exact h.2
      obtain ⟨k, hk, hA, hend, hpre⟩ := wrongDec s.data.toList (by rw [HS.out]; exact h60) hne
      rw [HS.out] at hk hpre
      have he := HE3.out
      rw [hA] at he
      have HEK := Lib.hid he
      have HEND := Lib.hid hend
      have HPRE := Lib.hid hpre
      have hts := take_small s h60 k
      have htp := take_small s h60 (k + 1)
      have HPL := Lib.hid (place_any S s w3 bf k hk HB3.out HEK.out)
      clear hne hA he hend hpre
      go_wp2_with fail
      refine HPL.out.mono ?_
      rintro e y1 ⟨rfl, c1, hy1⟩
      have HY1 := Lib.hid hy1
      have d1 := below_trans hbw3 c1
      clear hy1 c1
      by_cases hk0 : 0 < k
      · have HEN := Lib.hid (fdec_good S (s.extract 0 k) _ (take_list s k) (by omega) (HEND.out hk0) _ HY1.out)
        go_wp2_with fail
        refine HEN.out.mono ?_
        rintro e y2 ⟨vy, rfl, c2, hy2⟩
        have HY2 := Lib.hid hy2
        have d2 := below_trans d1 c2
        clear hy2 c2
        by_cases hlt : k < s.size
        · have hsz : (s.extract 0 (k + 1) ++ m).size ≤ 9223372036854775807 := by rw [size_app2]; omega
          have HC3 := Lib.hid (fdec_bad S (s.extract 0 (k + 1) ++ m) _ (take_app s m (k + 1)) hsz k (HPRE.out hlt m.data.toList (by rw [HM.out]; omega)) _ HY2.out)
          have ek1 : IntKind.i64.wrap ((k : Int) + 1) = (k : Int) + 1 := by rw [IntKind.wrap_i64]; omega
          go_wp2_with fail
          refine HC3.out.mono ?_
          rintro e y3 ⟨vx, bx, rfl, hex, c3, hy3⟩
          have HY3 := Lib.hid hy3
          have HEX := Lib.hid hex
          have d3 := below_trans d2 c3
          clear hy3 hex c3
          go_wp2_with fail
          refine (isAt_true S _ bx k HY3.out HEX.out).mono ?_
          rintro e y4 ⟨rfl, c4, hy4⟩
          have HY4 := Lib.hid hy4
          have d4 := below_trans d3 c4
          clear hy4 c4
          go_wp2_with fail
          go_meet
          case rel => exact ⟨d4, HY4.out⟩
        · go_wp2_with fail
          go_meet
          case rel => exact ⟨d2, HY2.out⟩
      · have hk0' : ¬ (0 : Int) < (k : Int) := by omega
        by_cases hlt : k < s.size
        · have hsz : (s.extract 0 (k + 1) ++ m).size ≤ 9223372036854775807 := by rw [size_app2]; omega
          have HC3 := Lib.hid (fdec_bad S (s.extract 0 (k + 1) ++ m) _ (take_app s m (k + 1)) hsz k (HPRE.out hlt m.data.toList (by rw [HM.out]; omega)) _ HY1.out)
          have ek1 : IntKind.i64.wrap ((k : Int) + 1) = (k : Int) + 1 := by rw [IntKind.wrap_i64]; omega
          go_wp2_with fail
          refine HC3.out.mono ?_
          rintro e y3 ⟨vx, bx, rfl, hex, c3, hy3⟩
          have HY3 := Lib.hid hy3
          have HEX := Lib.hid hex
          have d3 := below_trans d1 c3
          clear hy3 hex c3
          go_wp2_with fail
          refine (isAt_true S _ bx k HY3.out HEX.out).mono ?_
          rintro e y4 ⟨rfl, c4, hy4⟩
          have HY4 := Lib.hid hy4
          have d4 := below_trans d3 c4
          clear hy4 c4
          go_wp2_with fail
          go_meet
          case rel => exact ⟨d4, HY4.out⟩
        · go_wp2_with fail
          go_meet
          case rel => exact ⟨d1, HY1.out⟩
  case rest =>
  obtain ⟨hbc3, hBc3⟩ := hcut
  have HBc3 := Lib.hid hBc3
  clear hBc3 hbw3 HB3 HE3 HV3 HBB3
  rename_i wc3
  go_wp2_with fail
  refine (alive_any S _ HBc3.out).mono ?_
  rintro e w9 ⟨rfl, b9⟩
  go_wp2_with fail
  go_ret
  exact ⟨rfl, below_trans hbc3 b9⟩
theorem textWrong_walk : TextWrongFrame.Walk := fun S s m w hs hm hB => by
  by_cases h : 60000 < s.size + m.size
  · exact wrong_big S s m w hs hm h hB
  · exact wrong_small S s m w (by omega) hB
theorem textWrong_card : Rows.TextWrongCardSaid := TextWrongFrame.card textWrong_walk
end Go.Proofs.YtobnlnkmonaohaaDoor
