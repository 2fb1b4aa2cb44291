/-
  cartularyref11.Hash by its contract: refused, or a whole subtree (printed by wip/mk_hash11.py). cartularylaw01: a list of hashes copied, a mark behind it; is it still so: markHash, isHash, TwinHashes, LeftHashes by their contracts. PROVED: cartularylaw11.TileHashes returns true for every list, place and count (the tied card of its row): the whole tree over any hashes of a list, or the error; the list stays. Conditions: those of the row.
-/
import Derived.Test.YtlahdjdbbfjadaaGreatDoorRefTree
import Derived.Test.YtlahdjdbbfjadaaGreatDoorTileHS
import Derived.Test.YtlahdjdbbfjadaaGreatDoorHashD
import Derived.Test.YtlahdjdbbfjadaaGreatDoorHashOpen
import Derived.Test.YtlahdjdbbfjadaaGreatDoorTileLives
import Derived.Test.YtlahdjdbbfjadaaGreatDoorTileHashesFrame
namespace Go.Proofs.YtlahdjdbbfjadaaGreatDoor
open Go.RowKit

def pB (c : Int) (j : Nat) : Bool := (List.range j).any fun i => decide (((2 ^ i : Nat) : Int) = c)
theorem pB_succ (c : Int) (j : Nat) : pB c (j + 1) = (pB c j || decide (((2 ^ j : Nat) : Int) = c)) := by simp [pB, List.range_succ]
theorem pB_true {c : Int} {j : Nat} (h : pB c j = true) : ∃ i, i < j ∧ c = ((2 ^ i : Nat) : Int) := by
  unfold pB at h
  rw [List.any_eq_true] at h
  obtain ⟨i, hi, h⟩ := h
  exact ⟨i, by simpa using hi, (of_decide_eq_true h).symm⟩
theorem pB_pow (k : Nat) (h : k ≤ 8) : pB ((2 ^ k : Nat) : Int) 9 = true := by
  unfold pB
  rw [List.any_eq_true]
  exact ⟨k, by simp; omega, decide_eq_true rfl⟩
theorem faultInfoH : (Tryz.prog.info? 30).map (·.size) = some 2 := by kernel_rfl
theorem faultPlainH (c : Int) (hc : c ≠ 0) (w : World) :
    Calls Tryz.prog 30 #[.int .i64 c] w fun e w' => e = .returned (.agg #[.int .i64 c, .int .i64 (-1)]) ∧ Below w.heap.size w w' := by
  have h1 : (c == 0) = false := by simpa using hc
  clear hc
  go_enter Tryz.func30, Tryz.ntmps30
  go_wp2_with fail
  refine bodyPost_ret (v := .agg #[.int .i64 c, .int .i64 (-1)]) ?_ rfl ⟨rfl, (Below.refl _ _).alloc (Nat.le_refl _) _⟩
  exact results_cell_row rfl _ _ w.heap.size 30 _ (0, 0) _ rfl (heap_alloc_new w _) Tryz.underlying30 rfl faultInfoH
theorem results_rows2H {P : Program} {fn : Func} {u p : Tmp} {ty ty2 : TypeId} (h : fn.results = #[.cell p ty, .cell u ty2]) (tmps : Array Value) (w : World) (g g2 : Nat) (t t2 : TypeId) (cs cs2 : Array Value) (fr fr2 : Nat × Nat) (d d2 : TypeDesc)
    (hp : tmps.getD p undef = .pointer (some ⟨g, 0, none⟩)) (hg : w.heap[g]? = some (.cells cs t fr)) (hp2 : tmps.getD u undef = .pointer (some ⟨g2, 0, none⟩)) (hg2 : w.heap[g2]? = some (.cells cs2 t2 fr2))
    (hu : P.underlying ty = some d) (hd : (match d with | .struct _ | .array _ _ => true | _ => false) = true) (hi : (P.info? ty).map (·.size) = some cs.size)
    (hu2 : P.underlying ty2 = some d2) (hd2 : (match d2 with | .struct _ | .array _ _ => true | _ => false) = true) (hi2 : (P.info? ty2).map (·.size) = some cs2.size) :
    (results fn tmps).run P w = .ok (.tuple #[.agg cs, .agg cs2]) w := by
  have hp' : tmps[p]?.getD undef = .pointer (some ⟨g, 0, none⟩) := by simpa using hp
  have hp2' : tmps[u]?.getD undef = .pointer (some ⟨g2, 0, none⟩) := by simpa using hp2
  simp [results, h, hp', hp2', asAddr, run_loadVar_row w g t ty cs fr d hg hu hd hi, run_loadVar_row w g2 t2 ty2 cs2 fr2 d2 hg2 hu2 hd2 hi2, Result.andThen]
theorem one2 (x y : Int) : (#[.int .i64 x, .int .i64 y] : Array Value).all (·.oneCell') = true := by
  rw [List.all_toArray]
  rfl
/-- Both results are written. -/
theorem two_rows {W : World} {B g : Nat} {Z0 F0 Z1 F1 : Array Value} (w : World) (h0 : W.heap[g]? = some (.cells Z0 70 (0, 0))) (h1 : W.heap[g + 1]? = some (.cells F0 30 (0, 0))) (hb : Below B w W) (hB : B ≤ g) :
    ((W.setRow g Z1).setRow (g + 1) F1).heap[g]? = some (.cells Z1 70 (0, 0)) ∧ ((W.setRow g Z1).setRow (g + 1) F1).heap[g + 1]? = some (.cells F1 30 (0, 0)) ∧ Below B w ((W.setRow g Z1).setRow (g + 1) F1) := by
  have a0 := setRow_heap W g _ Z1 70 (0, 0) h0
  have a1 : (W.setRow g Z1).heap[g + 1]? = some (.cells F0 30 (0, 0)) := (setRow_other W g (g + 1) Z1 (by omega)).trans h1
  exact ⟨(setRow_other _ (g + 1) g F1 (by omega)).trans a0, setRow_heap _ (g + 1) _ F1 30 (0, 0) a1, below_setRow (below_setRow hb hB Z1) (by omega) F1⟩
theorem row_after {W : World} {g : Nat} {F0 Z1 : Array Value} (h1 : W.heap[g + 1]? = some (.cells F0 30 (0, 0))) : (W.setRow g Z1).heap[g + 1]? = some (.cells F0 30 (0, 0)) := (setRow_other W g (g + 1) Z1 (by omega)).trans h1
set_option maxHeartbeats 4000000 in
set_option maxRecDepth 100000 in
theorem rhash_no (ao : Option Addr) (n cap : Nat) (a c : Int) (w : World) (hn : n ≤ 140737488351232) (ha : -9223372036854775808 ≤ a ∧ a ≤ 9223372036854775807) (hc : -9223372036854775808 ≤ c ∧ c ≤ 9223372036854775807)
    (hbad : 256 < (n : Int) ∨ c < 1 ∨ 256 < c ∨ bits .and .i64 c (c - 1) ≠ 0 ∨ a < 0 ∨ a % c ≠ 0 ∨ (n : Int) - c < a) :
    Calls Tryz.prog 24 #[.slice ao n cap, .int .i64 a, .int .i64 c] w fun e w' => e = .returned (.tuple #[.agg #[.int .u8 0, .int .u8 0, .int .u8 0, .int .u8 0, .int .u8 0, .int .u8 0, .int .u8 0, .int .u8 0, .int .u8 0, .int .u8 0, .int .u8 0, .int .u8 0, .int .u8 0, .int .u8 0, .int .u8 0, .int .u8 0, .int .u8 0, .int .u8 0, .int .u8 0, .int .u8 0, .int .u8 0, .int .u8 0, .int .u8 0, .int .u8 0, .int .u8 0, .int .u8 0, .int .u8 0, .int .u8 0, .int .u8 0, .int .u8 0, .int .u8 0, .int .u8 0], .agg #[.int .i64 2, .int .i64 (-1)]]) ∧ Below w.heap.size w w' := by
  have HBAD := Lib.hid hbad
  clear hbad
  obtain ⟨zl, hzl, hz32⟩ := zero_bytesR
  have HZE := Lib.hid hz32
  have HZL := Lib.hid (show (Lib.byteCells zl).toArray.size = 32 by rw [List.size_toArray, Lib.byteCells_length, hzl]; rfl)
  have hA := heap_alloc_old (w.alloc (.cells (Lib.byteCells zl).toArray 70)) (.cells #[.int .i64 0, .int .i64 0] 30) (r := w.heap.size) (by simp)
  have hA1 := hA.trans (heap_one w (.cells (Lib.byteCells zl).toArray 70))
  have hF1 := heap_one (w.alloc (.cells (Lib.byteCells zl).toArray 70)) (.cells #[.int .i64 0, .int .i64 0] 30)
  rw [show (w.alloc (.cells (Lib.byteCells zl).toArray 70)).heap.size = w.heap.size + 1 by simp] at hF1
  have hB1 := (below_one w (.cells (Lib.byteCells zl).toArray 70)).alloc (by simp) (.cells #[.int .i64 0, .int .i64 0] 30)
  clear hA hzl
  go_enter Tryz.func24, Tryz.ntmps24
  go_upto_region 1 with fail
  generalize (w.alloc (.cells (Lib.byteCells zl).toArray 70)).alloc (.cells #[.int .i64 0, .int .i64 0] 30) = w1 at *
  have HA := Lib.hid hA1
  have HF := Lib.hid hF1
  have HB := Lib.hid hB1
  clear hA1 hF1 hB1
  go_wp2_with fail
  go_loopw [8, 9] (fun vp vk wr => ∃ j kk : Nat, j ≤ 9 ∧ kk = 2 ^ j ∧ vp = .bool (pB c j) ∧ vk = .int .i64 (kk : Int) ∧ wr = w1) (fun _ vk _ => 1024 - (intOf vk).toNat)
  case atStart => exact ⟨0, 1, by omega, rfl, rfl, rfl, rfl⟩
  case round =>
    obtain ⟨j, kk, hj, hkk, rfl, rfl, rfl⟩ := hrel
    have hk1 : 1 ≤ kk := by rw [hkk]; exact Nat.one_le_two_pow
    have HKK := Lib.hid hkk
    by_cases hj9 : j < 9
    · have hk256 : kk ≤ 256 := by
        rw [hkk]
        exact Nat.le_trans (Nat.pow_le_pow_right (by omega) (show j ≤ 8 by omega)) (by decide)
      have g1 : (kk : Int) ≤ 256 := by omega
      have g2 : (0 : Int) ≤ (kk : Int) := by omega
      have HN := Lib.hid (show 2 * kk = 2 ^ (j + 1) by rw [Nat.pow_succ, ← hkk]; omega)
      have HPS := pB_succ (c) j
      rw [← hkk] at HPS
      have HP := Lib.hid HPS
      clear HPS hkk
      cases hp : pB c j with
      | true =>
        have HPT := Lib.hid (show pB c (j + 1) = true by rw [HP.out, hp]; rfl)
        clear hp
        go_wp2_with fail
        refine ⟨⟨j + 1, 2 * kk, by omega, HN.out, by rw [HPT.out], by go_num, by first | rfl | trivial⟩, by simp [intOf]; omega⟩
      | false =>
        by_cases he : (kk : Int) = c
        · have HPT := Lib.hid (show pB c (j + 1) = true by rw [HP.out, hp, Bool.false_or]; exact decide_eq_true he)
          have he1 : ((kk : Int) == c) = true := by rw [beq_iff_eq]; exact he
          clear hp he
          go_wp2_with fail
          refine ⟨⟨j + 1, 2 * kk, by omega, HN.out, by rw [HPT.out], by go_num, by first | rfl | trivial⟩, by simp [intOf]; omega⟩
        · have HPT := Lib.hid (show pB c (j + 1) = false by rw [HP.out, hp, Bool.false_or]; exact decide_eq_false he)
          have he1 : ((kk : Int) == c) = false := by rw [beq_eq_false_iff_ne]; exact he
          clear hp he
          go_wp2_with fail
          refine ⟨⟨j + 1, 2 * kk, by omega, HN.out, by rw [HPT.out], by go_num, by first | rfl | trivial⟩, by simp [intOf]; omega⟩
    · obtain rfl : j = 9 := by omega
      have g1 : ¬ (kk : Int) ≤ 256 := by
        rw [hkk]
        decide
      clear hkk hj9 hj
      by_cases f1 : 256 < (n : Int)
      · go_wp2_with (first | (go_at_call 30; refine (faultPlainH 2 (by decide) _).mono ?_))
        first
          | rintro e w2 rfl hb2
          | rintro e w2 ⟨rfl, hb2⟩
        have HA2 := Lib.hid (below_heap hb2 HA.out)
        have HF2 := Lib.hid (below_heap hb2 HF.out)
        obtain ⟨hr1, hr2, hr3⟩ := two_rows (Z1 := (Lib.byteCells zl).toArray) (F1 := #[.int .i64 2, .int .i64 (-1)]) w HA2.out HF2.out (HB.out.trans (hb2.mono HB.out.size)) (Nat.le_refl _)
        have HFA := Lib.hid (row_after (Z1 := (Lib.byteCells zl).toArray) HF2.out)
        have H1 := Lib.hid hr1
        have H2 := Lib.hid hr2
        have H3 := Lib.hid hr3
        clear hr1 hr2 hr3 hb2
        go_wp2_with (first | (refine wpList_store_row (by rfl) 70 (.tmp 6) (.tmp 49) (by rfl) w.heap.size (Lib.byteCells zl).toArray (by rfl) (by rfl) 70 (Lib.byteCells zl).toArray HA2.out (by rw [HZL.out]; exact hashInfo) rfl (byteCells_one zl) ?_) | (refine wpList_store_row (by rfl) 30 (.tmp 7) (.tmp 50) (by rfl) (w.heap.size + 1) #[.int .i64 2, .int .i64 (-1)] (by rfl) (by rfl) 30 #[.int .i64 0, .int .i64 0] HFA.out faultInfoH rfl (one2 _ _) ?_))
        exact bodyPost_ret (results_rows2H rfl _ _ w.heap.size (w.heap.size + 1) 70 30 _ _ (0, 0) (0, 0) _ _ rfl H1.out rfl H2.out Tryz.underlying70 rfl (by rw [HZL.out]; exact hashInfo) Tryz.underlying30 rfl faultInfoH) rfl ⟨by rw [← HZE.out], H3.out⟩
      · cases hp : pB c 9 with
        | false =>
          go_wp2_with (first | (go_at_call 30; refine (faultPlainH 2 (by decide) _).mono ?_))
          first
            | rintro e w2 rfl hb2
            | rintro e w2 ⟨rfl, hb2⟩
          have HA2 := Lib.hid (below_heap hb2 HA.out)
          have HF2 := Lib.hid (below_heap hb2 HF.out)
          obtain ⟨hr1, hr2, hr3⟩ := two_rows (Z1 := (Lib.byteCells zl).toArray) (F1 := #[.int .i64 2, .int .i64 (-1)]) w HA2.out HF2.out (HB.out.trans (hb2.mono HB.out.size)) (Nat.le_refl _)
          have HFA := Lib.hid (row_after (Z1 := (Lib.byteCells zl).toArray) HF2.out)
          have H1 := Lib.hid hr1
          have H2 := Lib.hid hr2
          have H3 := Lib.hid hr3
          clear hr1 hr2 hr3 hb2
          go_wp2_with (first | (refine wpList_store_row (by rfl) 70 (.tmp 6) (.tmp 49) (by rfl) w.heap.size (Lib.byteCells zl).toArray (by rfl) (by rfl) 70 (Lib.byteCells zl).toArray HA2.out (by rw [HZL.out]; exact hashInfo) rfl (byteCells_one zl) ?_) | (refine wpList_store_row (by rfl) 30 (.tmp 7) (.tmp 50) (by rfl) (w.heap.size + 1) #[.int .i64 2, .int .i64 (-1)] (by rfl) (by rfl) 30 #[.int .i64 0, .int .i64 0] HFA.out faultInfoH rfl (one2 _ _) ?_))
          exact bodyPost_ret (results_rows2H rfl _ _ w.heap.size (w.heap.size + 1) 70 30 _ _ (0, 0) (0, 0) _ _ rfl H1.out rfl H2.out Tryz.underlying70 rfl (by rw [HZL.out]; exact hashInfo) Tryz.underlying30 rfl faultInfoH) rfl ⟨by rw [← HZE.out], H3.out⟩
        | true =>
          obtain ⟨i, hi, hci⟩ := pB_true hp
          have hc1 : 1 ≤ c ∧ c ≤ 256 := by
            have h1 : 1 ≤ 2 ^ i := Nat.one_le_two_pow
            have h2 : 2 ^ i ≤ 256 := Nat.le_trans (Nat.pow_le_pow_right (by omega) (show i ≤ 8 by omega)) (by decide)
            omega
          obtain ⟨hc1, hc2⟩ := hc1
          have HCI := Lib.hid hci
          clear hci
          by_cases f3 : a < 0
          · go_wp2_with (first | (go_at_call 30; refine (faultPlainH 2 (by decide) _).mono ?_))
            first
              | rintro e w2 rfl hb2
              | rintro e w2 ⟨rfl, hb2⟩
            have HA2 := Lib.hid (below_heap hb2 HA.out)
            have HF2 := Lib.hid (below_heap hb2 HF.out)
            obtain ⟨hr1, hr2, hr3⟩ := two_rows (Z1 := (Lib.byteCells zl).toArray) (F1 := #[.int .i64 2, .int .i64 (-1)]) w HA2.out HF2.out (HB.out.trans (hb2.mono HB.out.size)) (Nat.le_refl _)
            have HFA := Lib.hid (row_after (Z1 := (Lib.byteCells zl).toArray) HF2.out)
            have H1 := Lib.hid hr1
            have H2 := Lib.hid hr2
            have H3 := Lib.hid hr3
            clear hr1 hr2 hr3 hb2
            go_wp2_with (first | (refine wpList_store_row (by rfl) 70 (.tmp 6) (.tmp 49) (by rfl) w.heap.size (Lib.byteCells zl).toArray (by rfl) (by rfl) 70 (Lib.byteCells zl).toArray HA2.out (by rw [HZL.out]; exact hashInfo) rfl (byteCells_one zl) ?_) | (refine wpList_store_row (by rfl) 30 (.tmp 7) (.tmp 50) (by rfl) (w.heap.size + 1) #[.int .i64 2, .int .i64 (-1)] (by rfl) (by rfl) 30 #[.int .i64 0, .int .i64 0] HFA.out faultInfoH rfl (one2 _ _) ?_))
            exact bodyPost_ret (results_rows2H rfl _ _ w.heap.size (w.heap.size + 1) 70 30 _ _ (0, 0) (0, 0) _ _ rfl H1.out rfl H2.out Tryz.underlying70 rfl (by rw [HZL.out]; exact hashInfo) Tryz.underlying30 rfl faultInfoH) rfl ⟨by rw [← HZE.out], H3.out⟩
          · by_cases f4 : 256 < a
            · go_wp2_with (first | (go_at_call 30; refine (faultPlainH 2 (by decide) _).mono ?_))
              first
                | rintro e w2 rfl hb2
                | rintro e w2 ⟨rfl, hb2⟩
              have HA2 := Lib.hid (below_heap hb2 HA.out)
              have HF2 := Lib.hid (below_heap hb2 HF.out)
              obtain ⟨hr1, hr2, hr3⟩ := two_rows (Z1 := (Lib.byteCells zl).toArray) (F1 := #[.int .i64 2, .int .i64 (-1)]) w HA2.out HF2.out (HB.out.trans (hb2.mono HB.out.size)) (Nat.le_refl _)
              have HFA := Lib.hid (row_after (Z1 := (Lib.byteCells zl).toArray) HF2.out)
              have H1 := Lib.hid hr1
              have H2 := Lib.hid hr2
              have H3 := Lib.hid hr3
              clear hr1 hr2 hr3 hb2
              go_wp2_with (first | (refine wpList_store_row (by rfl) 70 (.tmp 6) (.tmp 49) (by rfl) w.heap.size (Lib.byteCells zl).toArray (by rfl) (by rfl) 70 (Lib.byteCells zl).toArray HA2.out (by rw [HZL.out]; exact hashInfo) rfl (byteCells_one zl) ?_) | (refine wpList_store_row (by rfl) 30 (.tmp 7) (.tmp 50) (by rfl) (w.heap.size + 1) #[.int .i64 2, .int .i64 (-1)] (by rfl) (by rfl) 30 #[.int .i64 0, .int .i64 0] HFA.out faultInfoH rfl (one2 _ _) ?_))
              exact bodyPost_ret (results_rows2H rfl _ _ w.heap.size (w.heap.size + 1) 70 30 _ _ (0, 0) (0, 0) _ _ rfl H1.out rfl H2.out Tryz.underlying70 rfl (by rw [HZL.out]; exact hashInfo) Tryz.underlying30 rfl faultInfoH) rfl ⟨by rw [← HZE.out], H3.out⟩
            · by_cases f5 : a % c = 0
              · have f6 : (n : Int) < a + c := by
                  have hb := HBAD.out
                  have hx := and_pow i (by omega)
                  rw [← HCI.out] at hx
                  omega
                have f7 : Int.tmod a c = 0 := by rw [Int.tmod_eq_emod_of_nonneg (by omega)]; exact f5
                go_wp2_with (first | (go_at_call 30; refine (faultPlainH 2 (by decide) _).mono ?_))
                first
                  | rintro e w2 rfl hb2
                  | rintro e w2 ⟨rfl, hb2⟩
                have HA2 := Lib.hid (below_heap hb2 HA.out)
                have HF2 := Lib.hid (below_heap hb2 HF.out)
                obtain ⟨hr1, hr2, hr3⟩ := two_rows (Z1 := (Lib.byteCells zl).toArray) (F1 := #[.int .i64 2, .int .i64 (-1)]) w HA2.out HF2.out (HB.out.trans (hb2.mono HB.out.size)) (Nat.le_refl _)
                have HFA := Lib.hid (row_after (Z1 := (Lib.byteCells zl).toArray) HF2.out)
                have H1 := Lib.hid hr1
                have H2 := Lib.hid hr2
                have H3 := Lib.hid hr3
                clear hr1 hr2 hr3 hb2
                go_wp2_with (first | (refine wpList_store_row (by rfl) 70 (.tmp 6) (.tmp 49) (by rfl) w.heap.size (Lib.byteCells zl).toArray (by rfl) (by rfl) 70 (Lib.byteCells zl).toArray HA2.out (by rw [HZL.out]; exact hashInfo) rfl (byteCells_one zl) ?_) | (refine wpList_store_row (by rfl) 30 (.tmp 7) (.tmp 50) (by rfl) (w.heap.size + 1) #[.int .i64 2, .int .i64 (-1)] (by rfl) (by rfl) 30 #[.int .i64 0, .int .i64 0] HFA.out faultInfoH rfl (one2 _ _) ?_))
                exact bodyPost_ret (results_rows2H rfl _ _ w.heap.size (w.heap.size + 1) 70 30 _ _ (0, 0) (0, 0) _ _ rfl H1.out rfl H2.out Tryz.underlying70 rfl (by rw [HZL.out]; exact hashInfo) Tryz.underlying30 rfl faultInfoH) rfl ⟨by rw [← HZE.out], H3.out⟩
              · have f7 : ¬ Int.tmod a c = 0 := by rw [Int.tmod_eq_emod_of_nonneg (by omega)]; exact f5
                go_wp2_with (first | (go_at_call 30; refine (faultPlainH 2 (by decide) _).mono ?_))
                first
                  | rintro e w2 rfl hb2
                  | rintro e w2 ⟨rfl, hb2⟩
                have HA2 := Lib.hid (below_heap hb2 HA.out)
                have HF2 := Lib.hid (below_heap hb2 HF.out)
                obtain ⟨hr1, hr2, hr3⟩ := two_rows (Z1 := (Lib.byteCells zl).toArray) (F1 := #[.int .i64 2, .int .i64 (-1)]) w HA2.out HF2.out (HB.out.trans (hb2.mono HB.out.size)) (Nat.le_refl _)
                have HFA := Lib.hid (row_after (Z1 := (Lib.byteCells zl).toArray) HF2.out)
                have H1 := Lib.hid hr1
                have H2 := Lib.hid hr2
                have H3 := Lib.hid hr3
                clear hr1 hr2 hr3 hb2
                go_wp2_with (first | (refine wpList_store_row (by rfl) 70 (.tmp 6) (.tmp 49) (by rfl) w.heap.size (Lib.byteCells zl).toArray (by rfl) (by rfl) 70 (Lib.byteCells zl).toArray HA2.out (by rw [HZL.out]; exact hashInfo) rfl (byteCells_one zl) ?_) | (refine wpList_store_row (by rfl) 30 (.tmp 7) (.tmp 50) (by rfl) (w.heap.size + 1) #[.int .i64 2, .int .i64 (-1)] (by rfl) (by rfl) 30 #[.int .i64 0, .int .i64 0] HFA.out faultInfoH rfl (one2 _ _) ?_))
                exact bodyPost_ret (results_rows2H rfl _ _ w.heap.size (w.heap.size + 1) 70 30 _ _ (0, 0) (0, 0) _ _ rfl H1.out rfl H2.out Tryz.underlying70 rfl (by rw [HZL.out]; exact hashInfo) Tryz.underlying30 rfl faultInfoH) rfl ⟨by rw [← HZE.out], H3.out⟩
set_option maxHeartbeats 4000000 in
set_option maxRecDepth 100000 in
theorem rhash_ok (k c at' n cap g o : Nat) (l : List UInt8) (w : World) (hc : 2 ^ k = c) (hl : l.length = 32 * n) (hr : w.rangeAt g o (Lib.byteCells l)) (hgw : g < w.heap.size) (hcap : n ≤ cap) (hn : n ≤ 256) (hk : k ≤ 8) (hm : at' % c = 0) (hat : at' + c ≤ n) :
    Calls Tryz.prog 24 #[.slice (some ⟨g, o, none⟩) n cap, .int .i64 (at' : Int), .int .i64 (c : Int)] w fun e w' => e = .returned (.tuple #[.agg (Lib.byteCells (treeL nodeF k ((l.drop (32 * at')).take (32 * c)))).toArray, .agg #[.int .i64 0, .int .i64 0]]) ∧ Below w.heap.size w w' := by
  have hc1 : 1 ≤ c := by rw [← hc]; exact Nat.one_le_two_pow
  have HPW := Lib.hid (show pB (c : Int) 9 = true by rw [← hc]; exact pB_pow k hk)
  obtain ⟨sub, hsub⟩ : ∃ sub, (l.drop (32 * at')).take (32 * c) = sub := ⟨_, rfl⟩
  have hsl : sub.length = 32 * c := by rw [← hsub, List.length_take, List.length_drop, hl]; omega
  have hsr : w.rangeAt g (o + at' * 32) (Lib.byteCells sub) := by
    rw [← hsub, Nat.mul_comm at' 32]
    exact range_part hr (32 * at') (32 * c)
  rw [hsub]
  obtain ⟨T, hT⟩ : ∃ T, treeL nodeF k sub = T := ⟨_, rfl⟩
  have HTS := Lib.hid (show (Lib.byteCells T).toArray.size = 32 by rw [List.size_toArray, Lib.byteCells_length, ← hT, treeL_len nodeF_len k sub (by omega)])
  have HTR := Lib.hid fun W (hb : Below w.heap.size w W) => (by
    have h := rtree_any k hk sub g (o + at' * 32) (cap - at') W (by rw [hc]; exact hsl) (range_below hb hsr) (Nat.lt_of_lt_of_le hgw hb.size) (by omega)
    rw [hc, hT] at h
    exact h : Calls Tryz.prog 89 #[.slice (some ⟨g, o + at' * 32, none⟩) c (cap - at')] W fun e w' => e = .returned (.agg (Lib.byteCells T).toArray) ∧ Below W.heap.size W w')
  rw [hT]
  have f1 : ¬ (256 : Int) < (n : Int) := by omega
  have f3 : ¬ (at' : Int) < 0 := by omega
  have f4 : ¬ (256 : Int) < (at' : Int) := by omega
  have f5 : (at' : Int) % (c : Int) = 0 := by
    rw [← Int.natCast_emod, hm]
    rfl
  have f6 : ¬ (n : Int) < (at' : Int) + (c : Int) := by omega
  have k0 : (0 : Int) ≤ (at' : Int) := by omega
  have k1 : (at' : Int) ≤ (at' : Int) + (c : Int) := by omega
  have k2 : (at' : Int) + (c : Int) ≤ (cap : Int) := by omega
  have k3 : ((at' : Int) + (c : Int)).toNat = at' + c := by omega
  have k4 : at' + c - at' = c := by omega
  have k5 : ¬ cap - at' = 0 := by omega
  have k6 : (at' : Int) + (c : Int) ≤ 256 := by omega
  have k7 : (c : Int) ≤ 256 := by omega
  clear hc hl hr hsub hsl hsr hT hm hat
  obtain ⟨zl, hzl, hz32⟩ := zero_bytesR
  have HZL := Lib.hid (show (Lib.byteCells zl).toArray.size = 32 by rw [List.size_toArray, Lib.byteCells_length, hzl]; rfl)
  have hA := heap_alloc_old (w.alloc (.cells (Lib.byteCells zl).toArray 70)) (.cells #[.int .i64 0, .int .i64 0] 30) (r := w.heap.size) (by simp)
  have hA1 := hA.trans (heap_one w (.cells (Lib.byteCells zl).toArray 70))
  have hF1 := heap_one (w.alloc (.cells (Lib.byteCells zl).toArray 70)) (.cells #[.int .i64 0, .int .i64 0] 30)
  rw [show (w.alloc (.cells (Lib.byteCells zl).toArray 70)).heap.size = w.heap.size + 1 by simp] at hF1
  have hB1 := (below_one w (.cells (Lib.byteCells zl).toArray 70)).alloc (by simp) (.cells #[.int .i64 0, .int .i64 0] 30)
  clear hA hzl
  go_enter Tryz.func24, Tryz.ntmps24
  go_upto_region 1 with fail
  generalize (w.alloc (.cells (Lib.byteCells zl).toArray 70)).alloc (.cells #[.int .i64 0, .int .i64 0] 30) = w1 at *
  have HA := Lib.hid hA1
  have HF := Lib.hid hF1
  have HB := Lib.hid hB1
  clear hA1 hF1 hB1
  go_wp2_with fail
  go_loopw [8, 9] (fun vp vk wr => ∃ j kk : Nat, j ≤ 9 ∧ kk = 2 ^ j ∧ vp = .bool (pB (c : Int) j) ∧ vk = .int .i64 (kk : Int) ∧ wr = w1) (fun _ vk _ => 1024 - (intOf vk).toNat)
  case atStart => exact ⟨0, 1, by omega, rfl, rfl, rfl, rfl⟩
  case round =>
    obtain ⟨j, kk, hj, hkk, rfl, rfl, rfl⟩ := hrel
    have hk1 : 1 ≤ kk := by rw [hkk]; exact Nat.one_le_two_pow
    have HKK := Lib.hid hkk
    by_cases hj9 : j < 9
    · have hk256 : kk ≤ 256 := by
        rw [hkk]
        exact Nat.le_trans (Nat.pow_le_pow_right (by omega) (show j ≤ 8 by omega)) (by decide)
      have g1 : (kk : Int) ≤ 256 := by omega
      have g2 : (0 : Int) ≤ (kk : Int) := by omega
      have HN := Lib.hid (show 2 * kk = 2 ^ (j + 1) by rw [Nat.pow_succ, ← hkk]; omega)
      have HPS := pB_succ (c : Int) j
      rw [← hkk] at HPS
      have HP := Lib.hid HPS
      clear HPS hkk
      cases hp : pB (c : Int) j with
      | true =>
        have HPT := Lib.hid (show pB (c : Int) (j + 1) = true by rw [HP.out, hp]; rfl)
        clear hp
        go_wp2_with fail
        refine ⟨⟨j + 1, 2 * kk, by omega, HN.out, by rw [HPT.out], by go_num, by first | rfl | trivial⟩, by simp [intOf]; omega⟩
      | false =>
        by_cases he : (kk : Int) = (c : Int)
        · have HPT := Lib.hid (show pB (c : Int) (j + 1) = true by rw [HP.out, hp, Bool.false_or]; exact decide_eq_true he)
          have he1 : ((kk : Int) == (c : Int)) = true := by rw [beq_iff_eq]; exact he
          clear hp he
          go_wp2_with fail
          refine ⟨⟨j + 1, 2 * kk, by omega, HN.out, by rw [HPT.out], by go_num, by first | rfl | trivial⟩, by simp [intOf]; omega⟩
        · have HPT := Lib.hid (show pB (c : Int) (j + 1) = false by rw [HP.out, hp, Bool.false_or]; exact decide_eq_false he)
          have he1 : ((kk : Int) == (c : Int)) = false := by rw [beq_eq_false_iff_ne]; exact he
          clear hp he
          go_wp2_with fail
          refine ⟨⟨j + 1, 2 * kk, by omega, HN.out, by rw [HPT.out], by go_num, by first | rfl | trivial⟩, by simp [intOf]; omega⟩
    · obtain rfl : j = 9 := by omega
      have g1 : ¬ (kk : Int) ≤ 256 := by
        rw [hkk]
        decide
      clear hkk hj9 hj
      have hp := HPW.out
      clear hz32
      go_wp2_with (go_at_call 89; refine (HTR.out _ HB.out).mono ?_)
      first
        | rintro e w2 rfl hb2
        | rintro e w2 ⟨rfl, hb2⟩
      have HA2 := Lib.hid (below_heap hb2 HA.out)
      have HF2 := Lib.hid (below_heap hb2 HF.out)
      obtain ⟨hr1, hr2, hr3⟩ := two_rows (Z1 := (Lib.byteCells T).toArray) (F1 := #[.int .i64 0, .int .i64 0]) w HA2.out HF2.out (HB.out.trans (hb2.mono HB.out.size)) (Nat.le_refl _)
      have HFA := Lib.hid (row_after (Z1 := (Lib.byteCells T).toArray) HF2.out)
      have H1 := Lib.hid hr1
      have H2 := Lib.hid hr2
      have H3 := Lib.hid hr3
      clear hr1 hr2 hr3 hb2
      go_wp2_with (first | (refine wpList_store_row (by rfl) 70 (.tmp 6) (.tmp 57) (by rfl) w.heap.size (Lib.byteCells T).toArray (by rfl) (by rfl) 70 (Lib.byteCells zl).toArray HA2.out (by rw [HTS.out]; exact hashInfo) (by rw [HTS.out, HZL.out]) (byteCells_one T) ?_) | (refine wpList_store_row (by rfl) 30 (.tmp 7) (.tmp 58) (by rfl) (w.heap.size + 1) #[.int .i64 0, .int .i64 0] (by rfl) (by rfl) 30 #[.int .i64 0, .int .i64 0] HFA.out faultInfoH rfl (one2 _ _) ?_))
      exact bodyPost_ret (results_rows2H rfl _ _ w.heap.size (w.heap.size + 1) 70 30 _ _ (0, 0) (0, 0) _ _ rfl H1.out rfl H2.out Tryz.underlying70 rfl (by rw [HTS.out]; exact hashInfo) Tryz.underlying30 rfl faultInfoH) rfl ⟨rfl, H3.out⟩
end Go.Proofs.YtlahdjdbbfjadaaGreatDoor

namespace Go.Proofs.YtlahdjdbbfjadaaGreatDoor
open Go.RowKit

/-- The mark behind a copy. -/
def twinMark : List UInt8 := [97, 30, 0] ++ List.replicate 28 0 ++ [201]
theorem range_newT (w : World) (l : List UInt8) : (w.alloc (.cells (Lib.byteCells l).toArray 70)).rangeAt w.heap.size 0 (Lib.byteCells l) := fun j v hv => by
  rw [Nat.zero_add]
  exact cell_of (heap_one w _) j (by simpa using hv)
set_option maxHeartbeats 4000000 in
set_option maxRecDepth 100000 in
theorem markHash_any (w : World) : Calls Tryz.prog 27 #[.int .i64 7777] w fun e w' => e = .returned (.agg (Lib.byteCells twinMark).toArray) ∧ Below w.heap.size w w' := by
  obtain ⟨zl, hzl, hz32⟩ := zero_bytesR
  have HZL := Lib.hid (show (Lib.byteCells zl).toArray.size = 32 by rw [List.size_toArray, Lib.byteCells_length, hzl]; rfl)
  have HMS := Lib.hid (show (Lib.byteCells twinMark).toArray.size = 32 by rw [List.size_toArray, Lib.byteCells_length]; rfl)
  have hO := heap_one w (.cells (Lib.byteCells zl).toArray 70)
  have hB := below_one w (.cells (Lib.byteCells zl).toArray 70)
  clear hzl
  go_enter Tryz.func27, Tryz.ntmps27
  go_upto_region 1 with fail
  generalize (w.alloc (.cells (Lib.byteCells zl).toArray 70)) = w1 at *
  have HO := Lib.hid hO
  have HRE := Lib.hid (setRow_heap w1 w.heap.size _ (Lib.byteCells twinMark).toArray 70 (0, 0) hO)
  have HBR := Lib.hid (below_setRow hB (Nat.le_refl _) (Lib.byteCells twinMark).toArray)
  clear hO hB hz32
  go_wp2_with (first | (refine wpList_run (by rfl) ⟨_, _, rfl⟩ (.agg (Lib.byteCells twinMark).toArray) (fun w => by kernel_rfl) ?_) | (refine wpList_store_row (by rfl) 70 (.tmp 2) (.tmp 11) (by rfl) w.heap.size (Lib.byteCells twinMark).toArray (by rfl) (by rfl) 70 (Lib.byteCells zl).toArray HO.out (by rw [HMS.out]; exact hashInfo) (by rw [HMS.out, HZL.out]) (byteCells_one twinMark) ?_))
  exact bodyPost_ret (results_row0 rfl _ _ w.heap.size 70 _ (0, 0) _ rfl HRE.out Tryz.underlying70 rfl (by rw [HMS.out]; exact hashInfo)) rfl ⟨rfl, HBR.out⟩
set_option maxHeartbeats 4000000 in
set_option maxRecDepth 100000 in
theorem isHash_any (w : World) : Calls Tryz.prog 33 #[.agg (Lib.byteCells twinMark).toArray, .int .i64 7777] w fun e w' => e = .returned (.bool true) ∧ Below w.heap.size w w' := by
  have HML := Lib.hid (show twinMark.length = 32 from rfl)
  have HR := Lib.hid (range_newT w twinMark)
  have HB := Lib.hid (below_one w (.cells (Lib.byteCells twinMark).toArray 70))
  go_enter Tryz.func33, Tryz.ntmps33
  go_upto_region 1 with fail
  go_wp2_with (first | (refine wpList_hashLoad (by rfl) (.tmp 2) (by rfl) w.heap.size 0 (by rfl) twinMark HML.out HR.out ?_) | (refine wpList_run (by rfl) ⟨_, _, rfl⟩ (.agg (Lib.byteCells twinMark).toArray) (fun w => by kernel_rfl) ?_) | (refine wpList_hashEq (by rfl) (.tmp 5) (.tmp 14) _ (by rfl) twinMark (by rfl) (by rfl) HML.out ?_))
  go_ret
  exact ⟨rfl, HB.out⟩
theorem make_hashes (n : Nat) (hn : n ≤ 1048577) (W : World) : ∃ cs : Array Value, cs.size = 32 * n ∧ (Instr.makeSlice 22 (.int .i64 (n : Int)) (.int .i64 (n : Int))).run Tryz.prog W = .ok (.slice (some ⟨W.heap.size, 0, none⟩) n n) (W.alloc (.cells cs 70)) := by
  obtain ⟨i0, hi, hz⟩ := Option.map_eq_some_iff.1 infoHash
  simp only [Prod.mk.injEq] at hz
  obtain ⟨hz0, hz1, hz2⟩ := hz
  have h := run_make (P := Tryz.prog) W 22 70 i0 (.agg (Array.replicate 32 (.int .u8 0))) Tryz.underlying22 hi hz0 .i64 .i64 (n : Int) (n : Int) (by omega) (Int.le_refl _) (by rw [hz2]; omega) (by omega)
  rw [Int.toNat_natCast] at h
  exact ⟨_, by rw [size_madeCells, hz1, Nat.mul_comm], h⟩
set_option maxHeartbeats 4000000 in
set_option maxRecDepth 100000 in
theorem twinHashes_any (v : Value) (n : Nat) (l : List UInt8) (w : World) (hv : HashIn w v n l) (hn : n ≤ 1048576) :
    Calls Tryz.prog 8 #[v] w fun e w' => (∃ g, e = .returned (.slice (some ⟨g, 0, none⟩) n (n + 1)) ∧ g < w'.heap.size ∧ w'.rangeAt g 0 (Lib.byteCells (l ++ twinMark))) ∧ Below w.heap.size w w' := by
  obtain ⟨hl, ao, cap, rfl, hr⟩ := hv
  have HR := Lib.hid hr
  have HLN := Lib.hid hl
  obtain ⟨cs, hcs, hmk⟩ := make_hashes (n + 1) (by omega) w
  have hth : (w.alloc (.cells cs 70)).there w.heap.size 0 (32 * (n + 1)) := there_row (lo := 0) (hi := 0) (heap_one w _) (by omega) (.inr (Nat.le_refl _))
  have hb1 := below_one w (.cells cs 70)
  have hlw : w.heap.size < (w.alloc (.cells cs 70)).heap.size := by simp
  rw [Int.natCast_add] at hmk
  have e1 : ((1 : Nat) : Int) = 1 := rfl
  rw [e1] at hmk
  have HMI := Lib.hid (hashInfo)
  have n0 : (n : Int) + 1 ≤ 1048577 := by omega
  clear hl hr hcs e1
  go_enter Tryz.func8, Tryz.ntmps8
  go_wp2_with fail
  generalize (w.alloc (.cells cs 70)) = w1 at *
  have HTH := Lib.hid hth
  have HB1 := Lib.hid hb1
  have HLW := Lib.hid hlw
  clear hth hb1 hlw hmk
  go_loopw [4] (fun vi wr => ∃ i : Nat, i ≤ n ∧ vi = .int .i64 (i : Int) ∧ wr.rangeAt w.heap.size 0 (Lib.byteCells (l.take (32 * i))) ∧ wr.there w.heap.size 0 (32 * (n + 1)) ∧ Below w.heap.size w wr ∧ w.heap.size < wr.heap.size) (fun vi _ => n - (intOf vi).toNat)
  case atStart => exact ⟨0, Nat.zero_le _, rfl, fun j v hv => by simp [Lib.byteCells] at hv, HTH.out, HB1.out, HLW.out⟩
  case round =>
    obtain ⟨i, hin, rfl, hrg, hth, hbel, hlw⟩ := hrel
    rename World => wA
    have HRG := Lib.hid hrg
    have HTA := Lib.hid hth
    have HBE := Lib.hid hbel
    have HLA := Lib.hid hlw
    clear hrg hth hbel hlw HTH HB1 HLW
    by_cases hi : i < n
    · have i1 : (i : Int) < (n : Int) := by omega
      have i2 : (i : Int) < (n : Int) + 1 := by omega
      have i0 : (0 : Int) ≤ (i : Int) := by omega
      obtain ⟨g, o, rfl, hg⟩ := HR.out (by omega)
      obtain ⟨hb, hhb⟩ : ∃ hb, hashAt l i = hb := ⟨_, rfl⟩
      have HHL := Lib.hid (show hb.length = 32 by rw [← hhb]; exact hashAt_len HLN.out hi)
      have HHS := Lib.hid (show (Lib.byteCells hb).toArray.size = 32 by rw [List.size_toArray, Lib.byteCells_length, HHL.out])
      have HRA := Lib.hid (show wA.rangeAt g (o + i * 32) (Lib.byteCells hb) by rw [← hhb]; exact range_at (range_below HBE.out hg) i)
      have HTK := Lib.hid (show l.take (32 * (i + 1)) = l.take (32 * i) ++ hb by rw [← hhb]; exact take_hash l i)
      have hgw : g < wA.heap.size := by
        obtain ⟨b, hb0⟩ : ∃ b, l[0]? = some b := ⟨_, List.getElem?_eq_getElem (by have := HLN.out; omega)⟩
        exact lt_of_cell (range_below HBE.out hg 0 _ (by unfold Lib.byteCells; rw [List.getElem?_map, hb0]; rfl))
      have HTI := Lib.hid (show wA.there w.heap.size (i * 32) 32 from fun j hj => by
        have := HTA.out (i * 32 + j) (by omega)
        rwa [Nat.zero_add] at this)
      have hwA : w.heap.size < wA.heap.size := HLA.out
      clear hg hhb
      go_wp2_with (first | (refine wpList_hashLoad (by rfl) (.tmp 19) (by rfl) g (o + i * 32) (by rfl) hb HHL.out HRA.out ?_) | (refine wpList_store_mid (by rfl) 70 (.tmp 21) (.tmp 20) (by rfl) w.heap.size (i * 32) (Lib.byteCells hb).toArray (by rfl) (by rfl) (by rw [HHS.out]; exact HTI.out) (by rw [HHS.out]; exact hashInfo) (byteCells_one hb) ?_))
      go_roundw
      case rel =>
        refine ⟨i + 1, hi, by go_num, ?_, World.there_setCells HTA.out _ _ _, below_setCells (Nat.le_refl _) _ _ _ HBE.out, Nat.lt_of_lt_of_le HLA.out (below_setCells (B := 0) (Nat.zero_le _) _ _ wA (Below.refl _ _)).size⟩
        rw [HTK.out, ← byteCells_app]
        have hlen : (Lib.byteCells (l.take (32 * i))).length = 32 * i := by
          rw [Lib.byteCells_length, List.length_take, HLN.out]
          omega
        refine range_app (World.rangeAt_setCells_apart HRG.out _ _ _ (.inr (.inl (by rw [hlen]; omega)))) ?_
        rw [hlen, Nat.zero_add, Nat.mul_comm 32 i]
        refine World.rangeAt_setCells_same _ _ _ _ (fun j hj => HTI.out j (by have := HHS.out; simp at hj this; omega))
      case measure => simp [intOf]; omega
    · obtain rfl : i = n := by omega
      have i1 : ¬ (i : Int) < (i : Int) := by omega
      have i2 : (i : Int) < (i : Int) + 1 := by omega
      have i0 : (0 : Int) ≤ (i : Int) := by omega
      have hfull := HRG.out
      rw [List.take_of_length_le (by rw [HLN.out]; exact Nat.le_refl _)] at hfull
      have HFU := Lib.hid hfull
      obtain ⟨mk, hmk⟩ : ∃ mk, twinMark = mk := ⟨_, rfl⟩
      have HMK := Lib.hid hmk
      have HMH := Lib.hid (by have h := markHash_any wA; rw [hmk] at h; exact h : Calls Tryz.prog 27 #[.int .i64 7777] wA fun e w' => e = .returned (.agg (Lib.byteCells mk).toArray) ∧ Below wA.heap.size wA w')
      have HMS := Lib.hid (show (Lib.byteCells mk).toArray.size = 32 by rw [List.size_toArray, Lib.byteCells_length, ← hmk]; rfl)
      have HTI := Lib.hid (show wA.there w.heap.size (i * 32) 32 from fun j hj => by
        have := HTA.out (i * 32 + j) (by omega)
        rwa [Nat.zero_add] at this)
      clear hfull hmk
      go_wp2_with (go_at_call 27; refine HMH.out.mono ?_)
      first
        | rintro e w2 rfl hb2
        | rintro e w2 ⟨rfl, hb2⟩
      have HTI2 := Lib.hid (there_heap HTI.out (hb2.block w.heap.size HLA.out))
      have HFU2 := Lib.hid (range_below hb2 HFU.out)
      have HB2 := Lib.hid (HBE.out.trans (hb2.mono HBE.out.size))
      have hwA : w.heap.size < w2.heap.size := Nat.lt_of_lt_of_le HLA.out hb2.size
      have HLA2 := Lib.hid hwA
      clear hb2
      go_wp2_with (refine wpList_store_mid (by rfl) 70 (.tmp 26) (.tmp 25) (by rfl) w.heap.size (i * 32) (Lib.byteCells mk).toArray (by rfl) (by rfl) (by rw [HMS.out]; exact HTI2.out) (by rw [HMS.out]; exact hashInfo) (byteCells_one mk) ?_)
      go_ret
      refine ⟨⟨w.heap.size, rfl, Nat.lt_of_lt_of_le HLA2.out (below_setCells (B := 0) (Nat.zero_le _) _ _ w2 (Below.refl _ _)).size, ?_⟩, below_setCells (Nat.le_refl _) _ _ _ HB2.out⟩
      rw [← byteCells_app, HMK.out]
      have hlen : (Lib.byteCells l).length = 32 * i := by rw [Lib.byteCells_length, HLN.out]
      refine range_app (World.rangeAt_setCells_apart HFU2.out _ _ _ (.inr (.inl (by rw [hlen]; omega)))) ?_
      rw [hlen, Nat.zero_add, Nat.mul_comm 32 i]
      refine World.rangeAt_setCells_same _ _ _ _ (fun j hj => HTI2.out j (by have := HMS.out; simp at hj this; omega))
set_option maxHeartbeats 4000000 in
set_option maxRecDepth 100000 in
theorem leftHashes_any (v : Value) (n g : Nat) (l : List UInt8) (w : World) (hv : HashIn w v n l) (hn : n ≤ 1048576) (hg : g < w.heap.size) (hr : w.rangeAt g 0 (Lib.byteCells (l ++ twinMark))) :
    Calls Tryz.prog 15 #[.slice (some ⟨g, 0, none⟩) n (n + 1), v] w fun e w' => e = .returned (.bool true) ∧ Below w.heap.size w w' := by
  have hl := hv.1
  have hin : HashIn w (.slice (some ⟨g, 0, none⟩) n (n + 1)) n l := ⟨hl, _, _, rfl, fun _ => ⟨g, 0, rfl, by
    have h := range_part hr 0 (32 * n)
    rw [List.drop_zero, List.take_left' (by omega)] at h
    exact h⟩⟩
  have hmr : w.rangeAt g (n * 32) (Lib.byteCells twinMark) := by
    have h := range_part hr (32 * n) 32
    rw [List.drop_left' (by omega), show twinMark.take 32 = twinMark from rfl, Nat.zero_add, Nat.mul_comm] at h
    exact h
  have HSH := Lib.hid (sameHashes_any (.slice (some ⟨g, 0, none⟩) n (n + 1)) v n l w (by omega) hin hv)
  obtain ⟨_, ao, cap, rfl, _⟩ := hv
  have HMR := Lib.hid hmr
  have HML := Lib.hid (show twinMark.length = 32 from rfl)
  have n0 : (n : Int) + 1 ≤ 1048577 := by omega
  have n1 : (0 : Int) ≤ (n : Int) + 1 := by omega
  have n2 : ((n : Int) + 1).toNat = n + 1 := by omega
  have n3 : (n : Int) < (n : Int) + 1 := by omega
  have n4 : (0 : Int) ≤ (n : Int) := by omega
  have HIS := Lib.hid isHash_any
  clear hl hin hmr hr
  generalize twinMark = mk at *
  go_enter Tryz.func15, Tryz.ntmps15
  go_wp2_with (go_at_call 14; refine HSH.out.mono ?_)
  first
    | rintro e w2 rfl hb2
    | rintro e w2 ⟨rfl, hb2⟩
  have HM2 := Lib.hid (range_below hb2 HMR.out)
  have hg2 : g < w2.heap.size := Nat.lt_of_lt_of_le hg hb2.size
  have HB2 := Lib.hid hb2
  clear hb2
  go_wp2_with (first | (refine wpList_hashLoad (by rfl) (.tmp 16) (by rfl) g (n * 32) (by rfl) mk HML.out HM2.out ?_) | (go_at_call 33; refine (HIS.out _).mono ?_))
  first
    | rintro e w3 rfl hb3
    | rintro e w3 ⟨rfl, hb3⟩
  have HB3 := Lib.hid (HB2.out.trans (hb3.mono HB2.out.size))
  clear hb3
  go_wp2_with fail
  go_ret
  exact ⟨rfl, HB3.out⟩
end Go.Proofs.YtlahdjdbbfjadaaGreatDoor

namespace Go.Proofs.YtlahdjdbbfjadaaGreatDoor
open Go.RowKit

theorem beyond_oneH (w : World) (g N : Nat) (hc : w.cell? ⟨g, 0, none⟩ = some (.int .i64 (N : Int))) (hN : N ≤ 281474976710656) :
    Calls Tryz.prog 7 #[.slice (some ⟨g, 0, none⟩) 1 1] w fun e w' => e = .returned (.bool (decide (1048576 < N))) ∧ Below w.heap.size w w' := by
  go_enter Tryz.func7, Tryz.ntmps7
  go_wp2_with fail
  by_cases hb : 1048576 < N
  · have hbi : (1048576 : Int) < (N : Int) := by omega
    refine wp_loop_rounds 1 ?_
    rw [rounds_succ]
    go_wp2_with fail
    go_ret
    exact ⟨ret_bool (by simp [hb]), below_drewN (Below.refl _ _) 0⟩
  · have hbi : ¬ (1048576 : Int) < (N : Int) := by omega
    refine wp_loop_rounds 2 ?_
    rw [rounds_succ]
    go_wp2_with fail
    rw [rounds_succ]
    go_wp2_with fail
    go_ret
    exact ⟨ret_bool (by simp [hb]), below_drewN (Below.refl _ _) 0⟩
set_option maxHeartbeats 4000000 in
set_option maxRecDepth 100000 in
/-- The law, where both answer the same hash and the same error. -/
theorem hashes_walk (S : Nat → Addr) (v : Value) (n : Nat) (l : List UInt8) (i1 i2 : Int) (R : List UInt8) (ev : Value) (ec : Nat) (c z : Int) (w : World) (hB : Base S w) (hT : Tab w) (hv : HashIn w v n l) (hn : n ≤ 1048576) (hR : R.length = 32)
    (hE : ∀ W, Base S W → ErrAt S W ev ec none) (hsame : sameB ec none c z = true)
    (h1 : ∀ g W, Below w.heap.size w W → g < W.heap.size → W.rangeAt g 0 (Lib.byteCells (l ++ twinMark)) → Calls Tryz.prog 23 #[.slice (some ⟨g, 0, none⟩) n (n + 1), .int .i64 i1, .int .i64 i2] W fun e w' => e = .returned (.tuple #[.agg (Lib.byteCells R).toArray, ev]) ∧ Below W.heap.size W w')
    (h2 : ∀ W, Below w.heap.size w W → Calls Tryz.prog 24 #[v, .int .i64 i1, .int .i64 i2] W fun e w' => e = .returned (.tuple #[.agg (Lib.byteCells R).toArray, .agg #[.int .i64 c, .int .i64 z]]) ∧ Below W.heap.size W w') :
    Calls Tryz.prog 5 #[v, .int .i64 i1, .int .i64 i2] w fun e w' => e = .returned (.bool true) ∧ Below w.heap.size w w' := by
  have HB := Lib.hid hB
  have HT := Lib.hid hT
  have HV := Lib.hid hv
  have HE := Lib.hid hE
  have HSM := Lib.hid hsame
  have H1 := Lib.hid h1
  have H2 := Lib.hid h2
  have HRL := Lib.hid hR
  have HRS := Lib.hid (show (Lib.byteCells R).toArray.size = 32 by rw [List.size_toArray, Lib.byteCells_length, hR])
  obtain ⟨_, ao, cap, rfl, _⟩ := hv
  have HBY := Lib.hid (beyond_oneH (w.alloc (.cells #[.int .i64 (n : Int)] 3)) w.heap.size n (cell_of (heap_one w _) 0 rfl) (by omega))
  obtain ⟨zl, hzl, hz32⟩ := zero_bytesR
  have HZS := Lib.hid (show (Lib.byteCells zl).toArray.size = 32 by rw [List.size_toArray, Lib.byteCells_length, hzl]; rfl)
  have hN : ¬ 1048576 < n := by omega
  have HN := Lib.hid hn
  clear hB hT hE hsame h1 h2 hR hzl
  go_enter Tryz.func5, Tryz.ntmps5
  go_wp2_with (go_at_call 7; refine HBY.out.mono ?_)
  rintro e w1 ⟨rfl, hb1⟩
  have HB1 := Lib.hid ((below_one w (.cells #[.int .i64 (n : Int)] 3)).trans (hb1.mono (by simp)))
  clear hb1
  go_wp2_with (go_at_call 8; refine (twinHashes_any _ n l w1 (HV.out.below HB1.out) HN.out).mono ?_)
  first
    | rintro e w2 g rfl hg hrg hb2
    | rintro e w2 ⟨⟨g, rfl, hg, hrg⟩, hb2⟩
    | rintro e w2 ⟨g, rfl, hg, hrg⟩ hb2
  have HB2 := Lib.hid (HB1.out.trans (hb2.mono HB1.out.size))
  have HG2 := Lib.hid hg
  have HRG2 := Lib.hid hrg
  clear hb2 hg hrg
  go_wp2_with (go_at_call 23; refine (H1.out g w2 HB2.out HG2.out HRG2.out).mono ?_)
  first
    | rintro e w3 rfl hb3
    | rintro e w3 ⟨rfl, hb3⟩
  have b34 := hb3.trans ((below_one w3 (.cells (Lib.byteCells R).toArray 70)).mono hb3.size)
  have HB4 := Lib.hid (HB2.out.trans (b34.mono HB2.out.size))
  have HG4 := Lib.hid (Nat.lt_of_lt_of_le HG2.out b34.size)
  have HRG4 := Lib.hid (range_below b34 HRG2.out)
  have HX4 := Lib.hid (range_newT w3 R)
  clear hb3 b34
  go_upto_region 5 with (refine wpList_hash (by rfl) (.tmp 8) (.tmp 23) (by rfl) (by rfl) (by rfl) HRS.out HZS.out (byteCells_one R) ?_)
  generalize (w3.alloc (.cells (Lib.byteCells R).toArray 70)) = w4 at *
  go_wp2_with (go_at_call 24; refine (H2.out w4 HB4.out).mono ?_)
  first
    | rintro e w5 rfl hb5
    | rintro e w5 ⟨rfl, hb5⟩
  have HB5 := Lib.hid (HB4.out.trans (hb5.mono HB4.out.size))
  have HG5 := Lib.hid (Nat.lt_of_lt_of_le HG4.out hb5.size)
  have HRG5 := Lib.hid (range_below hb5 HRG4.out)
  have HX5 := Lib.hid (range_below hb5 HX4.out)
  clear hb5
  have ha := (heap_alloc_old (w5.alloc (.cells (Lib.byteCells zl).toArray 70)) (.cells #[.int .i64 0, .int .i64 0] 30) (r := w5.heap.size) (by simp)).trans (heap_one w5 (.cells (Lib.byteCells zl).toArray 70))
  have hf := heap_one (w5.alloc (.cells (Lib.byteCells zl).toArray 70)) (.cells #[.int .i64 0, .int .i64 0] 30)
  rw [show (w5.alloc (.cells (Lib.byteCells zl).toArray 70)).heap.size = w5.heap.size + 1 by simp] at hf
  have hbb := (below_one w5 (.cells (Lib.byteCells zl).toArray 70)).alloc (by simp) (.cells #[.int .i64 0, .int .i64 0] 30)
  obtain ⟨hr1, hr2, hr3⟩ := two_rows (Z1 := (Lib.byteCells R).toArray) (F1 := #[.int .i64 c, .int .i64 z]) w5 ha hf hbb (Nat.le_refl _)
  have HFA := Lib.hid (row_after (Z1 := (Lib.byteCells R).toArray) hf)
  have HA := Lib.hid ha
  have HR1 := Lib.hid hr1
  have HR2 := Lib.hid hr2
  have HR3 := Lib.hid hr3
  clear ha hf hbb hr1 hr2 hr3
  go_upto_region 6 with (first | (refine wpList_store_row (by rfl) 70 (.tmp 10) (.tmp 30) (by rfl) w5.heap.size (Lib.byteCells R).toArray (by rfl) (by rfl) 70 (Lib.byteCells zl).toArray HA.out (by rw [HRS.out]; exact hashInfo) (by rw [HRS.out, HZS.out]) (byteCells_one R) ?_) | (refine wpList_store_row (by rfl) 30 (.tmp 11) (.tmp 31) (by rfl) (w5.heap.size + 1) #[.int .i64 c, .int .i64 z] (by rfl) (by rfl) 30 #[.int .i64 0, .int .i64 0] HFA.out faultInfoH rfl (one2 _ _) ?_))
  generalize ((((w5.alloc (.cells (Lib.byteCells zl).toArray 70)).alloc (.cells #[.int .i64 0, .int .i64 0] 30)).setRow w5.heap.size (Lib.byteCells R).toArray).setRow (w5.heap.size + 1) #[.int .i64 c, .int .i64 z]) = w6 at *
  have HB6 := Lib.hid (HB5.out.trans (HR3.out.mono HB5.out.size))
  have HG6 := Lib.hid (Nat.lt_of_lt_of_le HG5.out HR3.out.size)
  have HRG6 := Lib.hid (range_below HR3.out HRG5.out)
  have HX6 := Lib.hid (range_below HR3.out HX5.out)
  have HY6 := Lib.hid (show w6.rangeAt w5.heap.size 0 (Lib.byteCells R) from fun j v hv => by
    rw [Nat.zero_add]
    exact cell_of HR1.out j (by simpa using hv))
  have f0 := cell_of HR2.out 0 (v := .int .i64 c) rfl
  have f1 := cell_of HR2.out 1 (v := .int .i64 z) rfl
  have lf := lt_of_heap HR2.out
  have HSA := Lib.hid (same_any S w6 ev ec none c z (HB.out.below HB6.out) (HE.out _ (HB.out.below HB6.out)))
  clear hz32
  go_wp2_with (first | (refine wpList_hashLoad (by rfl) (.tmp 8) (by rfl) w3.heap.size 0 (by rfl) R HRL.out HX6.out ?_) | (refine wpList_hashLoad (by rfl) (.tmp 10) (by rfl) w5.heap.size 0 (by rfl) R HRL.out HY6.out ?_) | (refine wpList_hashEq (by rfl) (.tmp 32) (.tmp 33) _ (by rfl) R (by rfl) (by rfl) HRL.out ?_) | (go_at_call 13; refine HSA.out.mono ?_))
  first
    | rintro e w7 rfl hb7
    | rintro e w7 ⟨rfl, hb7⟩
  rw [HSM.out]
  have HB7 := Lib.hid (HB6.out.trans (hb7.mono HB6.out.size))
  have HLH := Lib.hid (leftHashes_any _ n g l w7 (HV.out.below HB7.out) HN.out (Nat.lt_of_lt_of_le HG6.out hb7.size) (range_below hb7 HRG6.out))
  clear hb7 f0 f1 lf
  go_wp2_with (go_at_call 15; refine HLH.out.mono ?_)
  first
    | rintro e w8 rfl hb8
    | rintro e w8 ⟨rfl, hb8⟩
  have HB8 := Lib.hid (HB7.out.trans (hb8.mono HB7.out.size))
  have HLV := Lib.hid (livesT_any S w8 (HB.out.below HB8.out) (tab_below HT.out HB8.out))
  clear hb8
  go_wp2_with (go_at_call 18; refine HLV.out.mono ?_)
  first
    | rintro e w9 rfl hb9
    | rintro e w9 ⟨rfl, hb9⟩
  have HB9 := Lib.hid (HB8.out.trans (hb9.mono HB8.out.size))
  clear hb9
  go_wp2_with fail
  go_ret
  exact ⟨rfl, HB9.out⟩
set_option maxHeartbeats 2000000 in
set_option maxRecDepth 100000 in
theorem hashes_beyond (v : Value) (n : Nat) (l : List UInt8) (i1 i2 : Int) (w : World) (hH : HashIn w v n l) (hn : n ≤ 140737488351232) (hN : 1048576 < n) :
    Calls Tryz.prog 5 #[v, .int .i64 i1, .int .i64 i2] w fun e w' => e = .returned (.bool true) ∧ Below w.heap.size w w' := by
  obtain ⟨_, ao, cap, rfl, _⟩ := hH
  have HBY := Lib.hid (beyond_oneH (w.alloc (.cells #[.int .i64 (n : Int)] 3)) w.heap.size n (cell_of (heap_one w _) 0 rfl) (by omega))
  go_enter Tryz.func5, Tryz.ntmps5
  go_wp2_with (go_at_call 7; refine HBY.out.mono ?_)
  rintro e w1 ⟨rfl, hb1⟩
  have HB1 := Lib.hid ((below_one w (.cells #[.int .i64 (n : Int)] 3)).trans (hb1.mono (by simp)))
  clear hb1
  go_wp2_with fail
  go_ret
  exact ⟨rfl, HB1.out⟩
theorem zeros_bytes : (#[.int .u8 0, .int .u8 0, .int .u8 0, .int .u8 0, .int .u8 0, .int .u8 0, .int .u8 0, .int .u8 0, .int .u8 0, .int .u8 0, .int .u8 0, .int .u8 0, .int .u8 0, .int .u8 0, .int .u8 0, .int .u8 0, .int .u8 0, .int .u8 0, .int .u8 0, .int .u8 0, .int .u8 0, .int .u8 0, .int .u8 0, .int .u8 0, .int .u8 0, .int .u8 0, .int .u8 0, .int .u8 0, .int .u8 0, .int .u8 0, .int .u8 0, .int .u8 0] : Array Value) = (Lib.byteCells (List.replicate 32 0)).toArray := by kernel_rfl
theorem hashes_any : TileHashesFrame.Walk := by
  intro S hv0 n l i1 i2 w hH hRo hn h1 h2 hB hT hTS
  by_cases hN : 1048576 < n
  · exact hashes_beyond hv0 n l i1 i2 w hH hn hN
  · have hH' := hH
    obtain ⟨hl, ao, cap, rfl, hr⟩ := hH
    have hgB : 17 < w.heap.size := by
      obtain ⟨t, fr, h⟩ := hTS
      exact lt_of_heap h
    rcases hash_split n i1 i2 with hbad | ⟨k, at', hk, rfl, rfl, hm, hat, hn256⟩
    · refine hashes_walk S _ n l i1 i2 (List.replicate 32 0) (errV S 2) 2 2 (-1) w hB hT hH' (by omega) rfl (fun W hW => .inr (.inl ⟨by omega, by omega, rfl, rfl⟩)) (by decide) (fun g W hb hg hrg => ?_) (fun W hb => ?_)
      · have h := hash_no S (some ⟨g, 0, none⟩) n (n + 1) i1 i2 W (hB.below hb) hn h1 h2 hbad
        rw [zeros_bytes] at h
        exact h
      · have h := rhash_no ao n cap i1 i2 W hn h1 h2 hbad
        rw [zeros_bytes] at h
        exact h
    · have h1k : 1 ≤ 2 ^ k := Nat.one_le_two_pow
      obtain ⟨g0, o, rfl, hr2⟩ := hr (by omega)
      have hgw : g0 < w.heap.size := by
        obtain ⟨b, hb⟩ : ∃ b, l[0]? = some b := ⟨_, List.getElem?_eq_getElem (by omega)⟩
        exact lt_of_cell (hr2 0 _ (by unfold Lib.byteCells; rw [List.getElem?_map, hb]; rfl))
      refine hashes_walk S _ n l _ _ (treeL nodeF k ((l.drop (32 * at')).take (32 * 2 ^ k))) .nilIface 0 0 0 w hB hT hH' (by omega) (treeL_len nodeF_len k _ (by rw [List.length_take, List.length_drop, hl]; omega)) (fun W hW => .inl ⟨rfl, rfl, rfl⟩) (by decide) (fun g W hb hg hrg => ?_) (fun W hb => ?_)
      · have hrl : W.rangeAt g 0 (Lib.byteCells l) := by
          have h := range_part hrg 0 (32 * n)
          rw [List.drop_zero, List.take_left' (by omega)] at h
          exact h
        exact hash_ok k at' n (n + 1) g 0 l W hl hrl hg (by omega) hn256 hk hm hat (tab_bel hTS hb hgB) (Nat.lt_of_lt_of_le hgB hb.size)
      · exact rhash_ok k (2 ^ k) at' n cap g0 o l W rfl hl (range_below hb hr2) (Nat.lt_of_lt_of_le hgw hb.size) (hRo _ _ _ rfl) hn256 hk hm hat
/-- The claim. -/
theorem tileHashes_card : Rows.TileHashesCardSaid := TileHashesFrame.card hashes_any
end Go.Proofs.YtlahdjdbbfjadaaGreatDoor
