/-
  PROVED: cartularylaw11.TileHalves returns true for every list, place and count (the tied card of its row): a tree over hashes is the node of its halves. Conditions: those of the row.
-/
import Derived.Test.YtlahdjdbbfjadaaGreatDoorTileHS
import Derived.Test.YtlahdjdbbfjadaaGreatDoorTileLives
import Derived.Test.YtlahdjdbbfjadaaGreatDoorTileHalvesFrame
import Derived.Test.YtlahdjdbbfjadaaGreatDoorKept
namespace Go.Proofs.YtlahdjdbbfjadaaGreatDoor
open Go.RowKit

theorem beyond_oneT (w : World) (g N : Nat) (hc : w.cell? ⟨g, 0, none⟩ = some (.int .i64 (N : Int))) (hN : N ≤ 281474976710656) :
    Calls Tryz.prog 7 #[.slice (some ⟨g, 0, none⟩) 1 1] w fun e w' => e = .returned (.bool (decide (1048576 < N))) ∧ Below w.heap.size w w' := by
  go_enter Tryz.func7, Tryz.ntmps7
  go_wp2_with fail
  by_cases hb : 1048576 < N
  · have hbi : (1048576 : Int) < (N : Int) := by omega
    refine wp_loop_rounds 1 ?_
    rw [rounds_succ]
    go_wp2_with fail
    go_ret
    exact ⟨ret_bool (by simp [hb]), below_drewN (Below.refl _ _) 0⟩
  · have hbi : ¬ (1048576 : Int) < (N : Int) := by omega
    refine wp_loop_rounds 2 ?_
    rw [rounds_succ]
    go_wp2_with fail
    rw [rounds_succ]
    go_wp2_with fail
    go_ret
    exact ⟨ret_bool (by simp [hb]), below_drewN (Below.refl _ _) 0⟩
theorem zero_bytes : ∃ zl : List UInt8, zl.length = 32 ∧ (#[.int .u8 0, .int .u8 0, .int .u8 0, .int .u8 0, .int .u8 0, .int .u8 0, .int .u8 0, .int .u8 0, .int .u8 0, .int .u8 0, .int .u8 0, .int .u8 0, .int .u8 0, .int .u8 0, .int .u8 0, .int .u8 0, .int .u8 0, .int .u8 0, .int .u8 0, .int .u8 0, .int .u8 0, .int .u8 0, .int .u8 0, .int .u8 0, .int .u8 0, .int .u8 0, .int .u8 0, .int .u8 0, .int .u8 0, .int .u8 0, .int .u8 0, .int .u8 0] : Array Value) = (Lib.byteCells zl).toArray := ⟨List.replicate 32 0, rfl, by kernel_rfl⟩
theorem range_new (w : World) (l : List UInt8) : (w.alloc (.cells (Lib.byteCells l).toArray 70)).rangeAt w.heap.size 0 (Lib.byteCells l) := fun j v hv => by
  rw [Nat.zero_add]
  exact cell_of (heap_one w _) j (by simpa using hv)
theorem tree_zero (l : List UInt8) (a : Nat) : treeL nodeF 0 ((l.drop (32 * a)).take (32 * 2 ^ 0)) = hashAt l a := by
  unfold treeL hashAt
  rw [Nat.mul_zero, List.drop_zero, List.take_take, Nat.pow_zero, Nat.mul_one, Nat.min_self]
theorem tree_succ (k : Nat) (l : List UInt8) (a : Nat) : treeL nodeF (k + 1) ((l.drop (32 * a)).take (32 * 2 ^ (k + 1))) =
    nodeF (treeL nodeF k ((l.drop (32 * a)).take (32 * 2 ^ k))) (treeL nodeF k ((l.drop (32 * (a + 2 ^ k))).take (32 * 2 ^ k))) := by
  have h2 : 2 ^ (k + 1) = 2 ^ k + 2 ^ k := by rw [Nat.pow_succ]; omega
  rw [treeL, List.take_take, Nat.min_eq_left (by rw [h2]; omega), List.drop_take, List.drop_drop, h2, show 32 * (2 ^ k + 2 ^ k) - 32 * 2 ^ k = 32 * 2 ^ k by omega, show 32 * a + 32 * 2 ^ k = 32 * (a + 2 ^ k) by omega]
theorem tree_len32 (k : Nat) (l : List UInt8) (a n : Nat) (hl : l.length = 32 * n) (h : a + 2 ^ k ≤ n) : (treeL nodeF k ((l.drop (32 * a)).take (32 * 2 ^ k))).length = 32 := by
  have h1 : 1 ≤ 2 ^ k := Nat.one_le_two_pow
  refine treeL_len nodeF_len k _ ?_
  rw [List.length_take, List.length_drop, hl]
  omega
set_option maxHeartbeats 4000000 in
set_option maxRecDepth 100000 in
theorem halves_no (S : Nat → Addr) (ao : Option Addr) (n cap : Nat) (i1 i2 : Int) (w : World) (hB : Base S w) (hT : Tab w) (hn : n ≤ 1048576) (h1 : -9223372036854775808 ≤ i1 ∧ i1 ≤ 9223372036854775807) (h2 : -9223372036854775808 ≤ i2 ∧ i2 ≤ 9223372036854775807)
    (hbad : 256 < (n : Int) ∨ i2 < 1 ∨ 256 < i2 ∨ bits .and .i64 i2 (i2 - 1) ≠ 0 ∨ i1 < 0 ∨ i1 % i2 ≠ 0 ∨ (n : Int) - i2 < i1) :
    Calls Tryz.prog 6 #[.slice ao n cap, .int .i64 i1, .int .i64 i2] w fun e w' => e = .returned (.bool true) ∧ Below w.heap.size w w' := by
  have HB := Lib.hid hB
  have HT := Lib.hid hT
  have HBAD := Lib.hid hbad
  clear hB hT hbad
  have HBY := Lib.hid (beyond_oneT (w.alloc (.cells #[.int .i64 (n : Int)] 3)) w.heap.size n (cell_of (heap_one w _) 0 rfl) (by omega))
  obtain ⟨zl, hzl, hz32⟩ := zero_bytes
  have HZL := Lib.hid hzl
  have HZS := Lib.hid (show (Lib.byteCells zl).toArray.size = 32 by rw [List.size_toArray, Lib.byteCells_length, hzl])
  have hN : ¬ 1048576 < n := by omega
  clear hzl
  go_enter Tryz.func6, Tryz.ntmps6
  go_wp2_with (go_at_call 7; refine HBY.out.mono ?_)
  rintro e w1 ⟨rfl, hb1⟩
  have HB1 := Lib.hid ((below_one w (.cells #[.int .i64 (n : Int)] 3)).trans (hb1.mono (by simp)))
  clear hb1
  have hq := hash_no S ao n cap i1 i2 w1 (HB.out.below HB1.out) (by omega) h1 h2 HBAD.out
  rw [hz32] at hq
  have HH := Lib.hid hq
  clear hq
  go_wp2_with (go_at_call 23; refine HH.out.mono ?_)
  rintro e w2 ⟨rfl, hb2⟩
  have HB2 := Lib.hid (HB1.out.trans (hb2.mono HB1.out.size))
  clear hb2
  simp only [errV]
  have HRW := Lib.hid (range_new w2 zl)
  have HB3 := Lib.hid (HB2.out.alloc HB2.out.size (.cells (Lib.byteCells zl).toArray 70))
  go_wp2_with (refine wpList_hash (by rfl) (.tmp 7) (.tmp 22) (by rfl) (by rfl) (by rfl) HZS.out HZS.out (byteCells_one zl) ?_)
  generalize (w2.alloc (.cells (Lib.byteCells zl).toArray 70)) = w3 at *
  have hi := is_any S w3 (errV S 2) 2 none 2 (HB.out.below HB3.out) (.inr (.inl ⟨by omega, by omega, rfl, rfl⟩))
  simp only [errV] at hi
  have HIS := Lib.hid hi
  clear hi
  refine HIS.out.mono ?_
  rintro e w4 ⟨rfl, hb4⟩
  have his : isB 2 none 2 = true := by decide
  have HB4 := Lib.hid (HB3.out.trans (hb4.mono HB3.out.size))
  have HRX := Lib.hid (range_below hb4 HRW.out)
  clear hb4
  rw [his]
  go_wp2_with (first | (refine wpList_hashLoad (by rfl) (.tmp 7) (by rfl) w2.heap.size 0 (by rfl) zl HZL.out HRX.out ?_) | (refine wpList_hashEq (by rfl) (.tmp 29) (.tmp 30) _ (by rfl) zl (by rfl) (by rfl) HZL.out ?_))
  refine (livesT_any S _ (HB.out.below HB4.out) (tab_below HT.out HB4.out)).mono ?_
  rintro e w5 ⟨rfl, hb5⟩
  go_wp2_with fail
  go_ret
  exact ⟨rfl, HB4.out.trans (hb5.mono HB4.out.size)⟩

set_option maxHeartbeats 4000000 in
set_option maxRecDepth 100000 in
theorem halves_one (S : Nat → Addr) (at' n cap g o : Nat) (l : List UInt8) (w : World) (hB : Base S w) (hT : Tab w) (hTS : TabSha w) (hgB : 17 < w.heap.size) (hl : l.length = 32 * n) (hr : w.rangeAt g o (Lib.byteCells l)) (hgw : g < w.heap.size) (hcap : n ≤ cap) (hn : n ≤ 256) (hat : at' + 1 ≤ n) :
    Calls Tryz.prog 6 #[.slice (some ⟨g, o, none⟩) n cap, .int .i64 (at' : Int), .int .i64 1] w fun e w' => e = .returned (.bool true) ∧ Below w.heap.size w w' := by
  have HB := Lib.hid hB
  have HT := Lib.hid hT
  have HTS := Lib.hid hTS
  have HGB := Lib.hid hgB
  have HR := Lib.hid hr
  have HGW := Lib.hid hgw
  have HBY := Lib.hid (beyond_oneT (w.alloc (.cells #[.int .i64 (n : Int)] 3)) w.heap.size n (cell_of (heap_one w _) 0 rfl) (by omega))
  obtain ⟨zl, hzl, hz32⟩ := zero_bytes
  have HZS := Lib.hid (show (Lib.byteCells zl).toArray.size = 32 by rw [List.size_toArray, Lib.byteCells_length, hzl])
  have hN : ¬ 1048576 < n := by omega
  clear hzl hB hT hTS hgB hr hgw
  go_enter Tryz.func6, Tryz.ntmps6
  go_wp2_with (go_at_call 7; refine HBY.out.mono ?_)
  rintro e w1 ⟨rfl, hb1⟩
  have HB1 := Lib.hid ((below_one w (.cells #[.int .i64 (n : Int)] 3)).trans (hb1.mono (by simp)))
  clear hb1
  have HG1 := Lib.hid (Nat.lt_of_lt_of_le HGW.out HB1.out.size)
  obtain ⟨T, hTT⟩ : ∃ T, hashAt l at' = T := ⟨_, rfl⟩
  have HTL := Lib.hid (show T.length = 32 by rw [← hTT]; exact hashAt_len hl (by omega))
  have HRT := Lib.hid (show w.rangeAt g (o + at' * 32) (Lib.byteCells T) by rw [← hTT]; exact range_at HR.out at')
  have hq := hash_ok 0 at' n cap g o l w1 hl (range_below HB1.out HR.out) HG1.out hcap hn (by omega) (Nat.mod_one _) hat (tab_bel HTS.out HB1.out HGB.out) (Nat.lt_of_lt_of_le HGB.out HB1.out.size)
  rw [tree_zero, hTT] at hq
  have HH := Lib.hid (show Calls Tryz.prog 23 #[.slice (some ⟨g, o, none⟩) n cap, .int .i64 (at' : Int), .int .i64 1] w1 fun e w' => e = .returned (.tuple #[.agg (Lib.byteCells T).toArray, .nilIface]) ∧ Below w1.heap.size w1 w' from hq)
  clear hq hTT
  go_wp2_with (go_at_call 23; refine HH.out.mono ?_)
  rintro e w2 ⟨rfl, hb2⟩
  have HB2 := Lib.hid (HB1.out.trans (hb2.mono HB1.out.size))
  clear hb2
  have HTS' := Lib.hid (show (Lib.byteCells T).toArray.size = 32 by rw [List.size_toArray, Lib.byteCells_length, HTL.out])
  have HRW := Lib.hid (range_new w2 T)
  have HB3 := Lib.hid (HB2.out.alloc HB2.out.size (.cells (Lib.byteCells T).toArray 70))
  have f1 : ¬ (at' : Int) < 0 := by omega
  have f2 : ¬ (n : Int) < 1 := by omega
  have f3 : ¬ (n : Int) - 1 < (at' : Int) := by omega
  have f4 : ¬ (256 : Int) < (n : Int) := by omega
  have f5 : (0 : Int) ≤ (at' : Int) := by omega
  have f6 : (at' : Int) < (n : Int) := by omega
  go_wp2_with (refine wpList_hash (by rfl) (.tmp 7) (.tmp 22) (by rfl) (by rfl) (by rfl) HTS'.out HZS.out (byteCells_one T) ?_)
  generalize (w2.alloc (.cells (Lib.byteCells T).toArray 70)) = w3 at *
  have HRG := Lib.hid (range_below HB3.out HRT.out)
  refine wp_region_kept (by kernel_rfl) (by kernel_rfl) ?_
  refine wpQuiet_hashLoad (by rfl) (.tmp 7) (by rfl) w2.heap.size 0 (by rfl) T HTL.out HRW.out ?_
  simp only [Act.put, List.setIfInBounds_toArray, List.set_cons_zero, List.set_cons_succ]
  go_big_quiet_step (fail)
  go_big_quiet_step (fail)
  go_big_quiet_step (fail)
  refine wpQuiet_hashLoad (by rfl) (.tmp 72) (by rfl) g (o + at' * 32) (by rfl) T HTL.out HRG.out ?_
  simp only [Act.put, List.setIfInBounds_toArray, List.set_cons_zero, List.set_cons_succ]
  refine wpQuiet_hashEq (by rfl) (.tmp 69) (.tmp 73) _ (by rfl) T (by rfl) (by rfl) HTL.out ?_
  simp only [Act.put, List.setIfInBounds_toArray, List.set_cons_zero, List.set_cons_succ]
  go_big_quiet_step (fail)
  go_big_quiet_step ((go_at_call 18; rename Kept _ => x; exact Kept.call (livesT_any S _ (HB.out.below (HB3.out.trans (x.below.mono HB3.out.size))) (tab_below HT.out (HB3.out.trans (x.below.mono HB3.out.size))))))
  go_big_quiet_step (fail)
  go_big_quiet_step (fail)
  refine wpQuiet_nil ?_
  intro x
  go_wp2_with fail
  go_ret
  exact ⟨rfl, HB3.out.trans (x.below.mono HB3.out.size)⟩
set_option maxHeartbeats 4000000 in
set_option maxRecDepth 100000 in
theorem halves_more (S : Nat → Addr) (k c at' n cap g o : Nat) (l : List UInt8) (w : World) (hB : Base S w) (hT : Tab w) (hTS : TabSha w) (hgB : 17 < w.heap.size) (hl : l.length = 32 * n) (hr : w.rangeAt g o (Lib.byteCells l)) (hgw : g < w.heap.size) (hcap : n ≤ cap) (hn : n ≤ 256) (hk : k + 1 ≤ 8) (hc : 2 ^ (k + 1) = c) (hmo : at' % c = 0) (hat : at' + c ≤ n) :
    Calls Tryz.prog 6 #[.slice (some ⟨g, o, none⟩) n cap, .int .i64 (at' : Int), .int .i64 (c : Int)] w fun e w' => e = .returned (.bool true) ∧ Below w.heap.size w w' := by
  obtain ⟨m, hm⟩ : ∃ m, 2 ^ k = m := ⟨_, rfl⟩
  have hcm : c = 2 * m := by rw [← hc, Nat.pow_succ, hm]; omega
  have hm1 : 1 ≤ m := by rw [← hm]; exact Nat.one_le_two_pow
  have HB := Lib.hid hB
  have HT := Lib.hid hT
  have HTS := Lib.hid hTS
  have HGB := Lib.hid hgB
  have HR := Lib.hid hr
  have HGW := Lib.hid hgw
  have HBY := Lib.hid (beyond_oneT (w.alloc (.cells #[.int .i64 (n : Int)] 3)) w.heap.size n (cell_of (heap_one w _) 0 rfl) (by omega))
  obtain ⟨zl, hzl, hz32⟩ := zero_bytes
  have HZS := Lib.hid (show (Lib.byteCells zl).toArray.size = 32 by rw [List.size_toArray, Lib.byteCells_length, hzl])
  have hN : ¬ 1048576 < n := by omega
  clear hzl hB hT hTS hgB hr hgw
  go_enter Tryz.func6, Tryz.ntmps6
  go_wp2_with (go_at_call 7; refine HBY.out.mono ?_)
  rintro e w1 ⟨rfl, hb1⟩
  have HB1 := Lib.hid ((below_one w (.cells #[.int .i64 (n : Int)] 3)).trans (hb1.mono (by simp)))
  clear hb1
  have HG1 := Lib.hid (Nat.lt_of_lt_of_le HGW.out HB1.out.size)
  obtain ⟨A, hA⟩ : ∃ A, treeL nodeF k ((l.drop (32 * at')).take (32 * 2 ^ k)) = A := ⟨_, rfl⟩
  obtain ⟨B, hBB⟩ : ∃ B, treeL nodeF k ((l.drop (32 * (at' + 2 ^ k))).take (32 * 2 ^ k)) = B := ⟨_, rfl⟩
  obtain ⟨T, hTT⟩ : ∃ T, nodeF A B = T := ⟨_, rfl⟩
  have HAL := Lib.hid (show A.length = 32 by rw [← hA]; exact tree_len32 k l at' n hl (by omega))
  have HBL := Lib.hid (show B.length = 32 by rw [← hBB]; exact tree_len32 k l (at' + 2 ^ k) n hl (by omega))
  have HTL := Lib.hid (show T.length = 32 by rw [← hTT]; exact nodeF_len _ _)
  have hmm : at' % m = 0 := by
    rw [hcm] at hmo
    exact Nat.mod_eq_zero_of_dvd (Nat.dvd_trans ⟨2, by omega⟩ (Nat.dvd_of_mod_eq_zero hmo))
  have HQ := Lib.hid fun W (hb : Below w.heap.size w W) => (by
    have hq := hash_ok (k + 1) at' n cap g o l W hl (range_below hb HR.out) (Nat.lt_of_lt_of_le HGW.out hb.size) hcap hn hk (by rw [hc]; exact hmo) (by rw [hc]; exact hat) (tab_bel HTS.out hb HGB.out) (Nat.lt_of_lt_of_le HGB.out hb.size)
    rw [tree_succ, hA, hBB, hTT, hc] at hq
    exact hq : Calls Tryz.prog 23 #[.slice (some ⟨g, o, none⟩) n cap, .int .i64 (at' : Int), .int .i64 (c : Int)] W fun e w' => e = .returned (.tuple #[.agg (Lib.byteCells T).toArray, .nilIface]) ∧ Below W.heap.size W w')
  have HQA := Lib.hid fun W (hb : Below w.heap.size w W) => (by
    have hq := hash_ok k at' n cap g o l W hl (range_below hb HR.out) (Nat.lt_of_lt_of_le HGW.out hb.size) hcap hn (by omega) (by rw [hm]; exact hmm) (by omega) (tab_bel HTS.out hb HGB.out) (Nat.lt_of_lt_of_le HGB.out hb.size)
    rw [hA, hm] at hq
    exact hq : Calls Tryz.prog 23 #[.slice (some ⟨g, o, none⟩) n cap, .int .i64 (at' : Int), .int .i64 (m : Int)] W fun e w' => e = .returned (.tuple #[.agg (Lib.byteCells A).toArray, .nilIface]) ∧ Below W.heap.size W w')
  have HQB := Lib.hid fun W (hb : Below w.heap.size w W) => (by
    have hq := hash_ok k (at' + 2 ^ k) n cap g o l W hl (range_below hb HR.out) (Nat.lt_of_lt_of_le HGW.out hb.size) hcap hn (by omega) (by rw [hm, Nat.add_mod_right]; exact hmm) (by omega) (tab_bel HTS.out hb HGB.out) (Nat.lt_of_lt_of_le HGB.out hb.size)
    rw [hBB, hm, Int.natCast_add] at hq
    exact hq : Calls Tryz.prog 23 #[.slice (some ⟨g, o, none⟩) n cap, .int .i64 ((at' : Int) + (m : Int)), .int .i64 (m : Int)] W fun e w' => e = .returned (.tuple #[.agg (Lib.byteCells B).toArray, .nilIface]) ∧ Below W.heap.size W w')
  have HND := Lib.hid fun W (hb : Below w.heap.size w W) => (by
    have hq := node_any A B HAL.out HBL.out W (tab_bel HTS.out hb HGB.out) (Nat.lt_of_lt_of_le HGB.out hb.size)
    rw [show shaL (1 :: (A ++ B)) = T from hTT] at hq
    exact hq : Calls Tryz.prog 26 #[.agg (Lib.byteCells A).toArray, .agg (Lib.byteCells B).toArray] W fun e w' => e = .returned (.agg (Lib.byteCells T).toArray) ∧ Below W.heap.size W w')
  have HSA := Lib.hid (show (Lib.byteCells A).toArray.size = 32 by rw [List.size_toArray, Lib.byteCells_length, HAL.out])
  have HSB := Lib.hid (show (Lib.byteCells B).toArray.size = 32 by rw [List.size_toArray, Lib.byteCells_length, HBL.out])
  have HST := Lib.hid (show (Lib.byteCells T).toArray.size = 32 by rw [List.size_toArray, Lib.byteCells_length, HTL.out])
  have f1 : ¬ (at' : Int) < 0 := by omega
  have f2 : ¬ (c : Int) < 1 := by omega
  have f3 : ¬ (n : Int) < (c : Int) := by omega
  have f4 : ¬ (n : Int) - (c : Int) < (at' : Int) := by omega
  have f5 : ¬ (256 : Int) < (n : Int) := by omega
  have f6 : (at' : Int) % (c : Int) = 0 := by
    rw [← Int.natCast_emod, hmo]
    rfl
  have f7 : ((c : Int) == 1) = false := by
    rw [beq_eq_false_iff_ne]
    omega
  have f8 : (c : Int) / 2 = (m : Int) := by omega
  have f9 : (c : Int) % 2 = 0 := by omega
  have f10 : Int.tmod (c : Int) 2 = 0 := by rw [Int.tmod_eq_emod_of_nonneg (by omega)]; exact f9
  have f11 : (at' : Int) + (m : Int) ≤ 256 := by omega
  have f12 : (c : Int) ≤ 256 := by omega
  clear hA hBB hTT hmo hmm hcm hm hc hk
  go_wp2_with (go_at_call 23; refine (HQ.out _ HB1.out).mono ?_)
  rintro e w2 ⟨rfl, hb2⟩
  have HB2 := Lib.hid (HB1.out.trans (hb2.mono HB1.out.size))
  clear hb2
  have HR7 := Lib.hid (range_new w2 T)
  have HB3 := Lib.hid (HB2.out.alloc HB2.out.size (.cells (Lib.byteCells T).toArray 70))
  go_wp2_with (refine wpList_hash (by rfl) (.tmp 7) (.tmp 22) (by rfl) (by rfl) (by rfl) HST.out HZS.out (byteCells_one T) ?_)
  generalize (w2.alloc (.cells (Lib.byteCells T).toArray 70)) = w3 at *
  refine (HQA.out _ HB3.out).mono ?_
  rintro e w4 ⟨rfl, hb4⟩
  have HB4 := Lib.hid (HB3.out.trans (hb4.mono HB3.out.size))
  have HR74 := Lib.hid (range_below (hb4.trans ((below_one w4 (.cells (Lib.byteCells A).toArray 70)).mono hb4.size)) HR7.out)
  have HR9 := Lib.hid (range_new w4 A)
  have HB5 := Lib.hid (HB4.out.alloc HB4.out.size (.cells (Lib.byteCells A).toArray 70))
  clear hb4
  go_wp2_with (refine wpList_hash (by rfl) (.tmp 9) (.tmp 84) (by rfl) (by rfl) (by rfl) HSA.out HZS.out (byteCells_one A) ?_)
  generalize (w4.alloc (.cells (Lib.byteCells A).toArray 70)) = w5 at *
  refine (HQB.out _ HB5.out).mono ?_
  rintro e w6 ⟨rfl, hb6⟩
  have HB6 := Lib.hid (HB5.out.trans (hb6.mono HB5.out.size))
  have hb67 := hb6.trans ((below_one w6 (.cells (Lib.byteCells B).toArray 70)).mono hb6.size)
  have HR77 := Lib.hid (range_below hb67 HR74.out)
  have HR97 := Lib.hid (range_below hb67 HR9.out)
  have HR11 := Lib.hid (range_new w6 B)
  have HB7 := Lib.hid (HB6.out.alloc HB6.out.size (.cells (Lib.byteCells B).toArray 70))
  clear hb6 hb67
  go_wp2_with (refine wpList_hash (by rfl) (.tmp 11) (.tmp 95) (by rfl) (by rfl) (by rfl) HSB.out HZS.out (byteCells_one B) ?_)
  generalize (w6.alloc (.cells (Lib.byteCells B).toArray 70)) = w7 at *
  refine wp_region_kept (by kernel_rfl) (by kernel_rfl) ?_
  iterate 12 go_big_quiet_step (fail)
  refine wpQuiet_hashLoad (by rfl) (.tmp 7) (by rfl) w2.heap.size 0 (by rfl) T HTL.out HR77.out ?_
  simp only [Act.put, List.setIfInBounds_toArray, List.set_cons_zero, List.set_cons_succ]
  refine wpQuiet_hashLoad (by rfl) (.tmp 9) (by rfl) w4.heap.size 0 (by rfl) A HAL.out HR97.out ?_
  simp only [Act.put, List.setIfInBounds_toArray, List.set_cons_zero, List.set_cons_succ]
  refine wpQuiet_hashLoad (by rfl) (.tmp 11) (by rfl) w6.heap.size 0 (by rfl) B HBL.out HR11.out ?_
  simp only [Act.put, List.setIfInBounds_toArray, List.set_cons_zero, List.set_cons_succ]
  go_big_quiet_step ((go_at_call 26; rename Kept _ => x; exact Kept.call (HND.out _ (HB7.out.trans (x.below.mono HB7.out.size)))))
  refine wpQuiet_hashEq (by rfl) (.tmp 109) (.tmp 112) _ (by rfl) T (by rfl) (by rfl) HTL.out ?_
  simp only [Act.put, List.setIfInBounds_toArray, List.set_cons_zero, List.set_cons_succ]
  go_big_quiet_step (fail)
  go_big_quiet_step (fail)
  go_big_quiet_step ((go_at_call 18; rename Kept _ => x; exact Kept.call (livesT_any S _ (HB.out.below (HB7.out.trans (x.below.mono HB7.out.size))) (tab_below HT.out (HB7.out.trans (x.below.mono HB7.out.size))))))
  go_big_quiet_step (fail)
  go_big_quiet_step (fail)
  refine wpQuiet_nil ?_
  intro x
  go_wp2_with fail
  go_ret
  exact ⟨rfl, HB7.out.trans (x.below.mono HB7.out.size)⟩
set_option maxHeartbeats 2000000 in
set_option maxRecDepth 100000 in
theorem halves_beyond (v : Value) (n : Nat) (l : List UInt8) (i1 i2 : Int) (w : World) (hH : HashIn w v n l) (hn : n ≤ 140737488351232) (hN : 1048576 < n) :
    Calls Tryz.prog 6 #[v, .int .i64 i1, .int .i64 i2] w fun e w' => e = .returned (.bool true) ∧ Below w.heap.size w w' := by
  obtain ⟨_, ao, cap, rfl, _⟩ := hH
  have HBY := Lib.hid (beyond_oneT (w.alloc (.cells #[.int .i64 (n : Int)] 3)) w.heap.size n (cell_of (heap_one w _) 0 rfl) (by omega))
  go_enter Tryz.func6, Tryz.ntmps6
  go_wp2_with (go_at_call 7; refine HBY.out.mono ?_)
  rintro e w1 ⟨rfl, hb1⟩
  have HB1 := Lib.hid ((below_one w (.cells #[.int .i64 (n : Int)] 3)).trans (hb1.mono (by simp)))
  clear hb1
  go_wp2_with fail
  go_ret
  exact ⟨rfl, HB1.out⟩
theorem halves_any : TileHalvesFrame.Walk := by
  intro S hv0 n l i1 i2 w hH hRo hn h1 h2 hB hT hTS
  by_cases hN : 1048576 < n
  · exact halves_beyond hv0 n l i1 i2 w hH hn hN
  · obtain ⟨hl, ao, cap, rfl, hr⟩ := hH
    rcases hash_split n i1 i2 with hbad | ⟨k, at', hk, rfl, rfl, hm, hat, hn256⟩
    · exact halves_no S ao n cap i1 i2 w hB hT (by omega) h1 h2 hbad
    · have h1k : 1 ≤ 2 ^ k := Nat.one_le_two_pow
      obtain ⟨g, o, rfl, hr2⟩ := hr (by omega)
      have hgw : g < w.heap.size := by
        obtain ⟨b, hb⟩ : ∃ b, l[0]? = some b := ⟨_, List.getElem?_eq_getElem (by omega)⟩
        exact lt_of_cell (hr2 0 _ (by unfold Lib.byteCells; rw [List.getElem?_map, hb]; rfl))
      have hgB : 17 < w.heap.size := by
        obtain ⟨t, fr, h⟩ := hTS
        exact lt_of_heap h
      cases k with
      | zero => exact halves_one S at' n cap g o l w hB hT hTS hgB hl hr2 hgw (hRo _ _ _ rfl) hn256 hat
      | succ k => exact halves_more S k _ at' n cap g o l w hB hT hTS hgB hl hr2 hgw (hRo _ _ _ rfl) hn256 hk rfl hm hat
/-- The claim. -/
theorem tileHalves_card : Rows.TileHalvesCardSaid := TileHalvesFrame.card halves_any
end Go.Proofs.YtlahdjdbbfjadaaGreatDoor
