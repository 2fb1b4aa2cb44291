/-
  cartularyref11: Name and Path by their contracts.
-/
import Derived.Test.YtopilalefilkjaaGreatDoorTileRef11
import Derived.Deep.CutRange
import Derived.Lib.QuietBelow
import Derived.Deep.DeepCutAuto
namespace Go.Proofs.YtopilalefilkjaaGreatDoor
open Go.RowKit Go.Sort

theorem thr_len2 : ∀ (n : Nat) (p : List UInt8), (thr n p).length ≤ p.length + 2 * n
  | 0, p => Nat.le_refl _
  | n + 1, p => by
    have := thr_len2 n (p.drop 3)
    simp only [thr, List.length_cons, List.length_append, List.length_take, List.length_drop] at this ⊢
    omega
theorem threes_len (N : Nat) (hN : N ≤ 18446744073709551615) : (threesL (Lib.decDigits N)).length ≤ 70 := by
  have h2 := nDigits_20 N hN
  have h4 := thr_len2 ((padZ (Lib.decDigits N)).length / 3 - 1) (padZ (Lib.decDigits N))
  have h5 : (padZ (Lib.decDigits N)).length ≤ (Lib.decDigits N).length + 2 := by
    unfold padZ
    rw [List.length_append, List.length_replicate]
    omega
  unfold threesL
  rw [Lib.decDigits_length] at h5
  omega
def refPathV (L I : Nat) (W : Int) : Value := .tuple (if MayT L I W then #[.string ⟨(nameT L I W.toNat).toArray⟩, .agg #[.int .i64 0, .int .i64 0]] else #[.string ⟨#[]⟩, .agg #[.int .i64 2, .int .i64 (-1)]])

set_option maxHeartbeats 2000000 in
set_option maxRecDepth 100000 in
theorem refName_any (L I k : Nat) (h : MayT L I (k : Int)) (w : World) :
    Calls Tryz.prog 41 #[.agg #[.int .u8 (L : Int), .int .u64 (I : Int), .int .i64 (k : Int)]] w fun e w' => e = .returned (.string ⟨(nameT L I k).toArray⟩) ∧ Below w.heap.size w w' := by
  obtain ⟨hL, hk1, hk2, hI, _⟩ := h
  have hI' : I ≤ 18446744073709551615 := by omega
  have hk256 : k ≤ 256 := by omega
  have H1 := Lib.hid (refDecimal_any L (by omega))
  have H2 := Lib.hid (refThrees_any I hI')
  have H3 := Lib.hid (refDecimal_any k (by omega))
  have l1 : (⟨(Lib.decDigits L).toArray⟩ : ByteArray).data.toList = Lib.decDigits L := by simp
  have l2 : (⟨(threesL (Lib.decDigits I)).toArray⟩ : ByteArray).data.toList = threesL (Lib.decDigits I) := by simp
  have l3 : (⟨(Lib.decDigits k).toArray⟩ : ByteArray).data.toList = Lib.decDigits k := by simp
  have z1 : (⟨(Lib.decDigits L).toArray⟩ : ByteArray).size ≤ 20 := by rw [← size_list, l1, Lib.decDigits_length]; exact nDigits_20 L (by omega)
  have z2 : (⟨(threesL (Lib.decDigits I)).toArray⟩ : ByteArray).size ≤ 70 := by rw [← size_list, l2]; exact threes_len I hI'
  have z3 : (⟨(Lib.decDigits k).toArray⟩ : ByteArray).size ≤ 20 := by rw [← size_list, l3, Lib.decDigits_length]; exact nDigits_20 k (by omega)
  have hk1' : ¬ ((k : Int) < 0) := by omega
  have hnm : nameT L I k = [116, 105, 108, 101, 47] ++ (Lib.decDigits L ++ (47 :: (threesL (Lib.decDigits I) ++ partL k))) := rfl
  generalize nameT L I k = nm at *
  generalize (⟨(threesL (Lib.decDigits I)).toArray⟩ : ByteArray) = g2 at *
  obtain ⟨g1, hg1⟩ : ∃ g, (⟨(Lib.decDigits L).toArray⟩ : ByteArray) = g := ⟨_, rfl⟩
  obtain ⟨g3, hg3⟩ : ∃ g, (⟨(Lib.decDigits k).toArray⟩ : ByteArray) = g := ⟨_, rfl⟩
  rw [hg1] at H1 l1 z1
  rw [hg3] at H3 l3 z3
  have L1 := Lib.hid l1
  have L2 := Lib.hid l2
  have L3 := Lib.hid l3
  have HN := Lib.hid hnm
  have hr := heap_one w (.cells #[.int .u8 (L : Int), .int .u64 (I : Int), .int .i64 (k : Int)] 24)
  have hbw := below_one w (.cells #[.int .u8 (L : Int), .int .u64 (I : Int), .int .i64 (k : Int)] 24)
  clear l1 l2 l3 hnm hg1 hg3
  go_enter Tryz.func41, Tryz.ntmps41
  go_upto_region 1 with fail
  generalize hwq : w.alloc (.cells #[.int .u8 (L : Int), .int .u64 (I : Int), .int .i64 (k : Int)] 24) = wq at *
  obtain ⟨c0, c1, c2⟩ := cells3 hr
  have lq := lt_of_heap hr
  have HBW := Lib.hid hbw
  have k0 := cell_regrown c0
  have k1 := cell_regrown c1
  have hwL : IntKind.wrap .u64 (L : Int) = (L : Int) := by
    rw [show IntKind.wrap .u64 (L : Int) = (L : Int) % 18446744073709551616 from rfl]
    omega
  have n1 : ¬ 9223372036854775807 < 5 + g1.size := by omega
  have n2 : ¬ 9223372036854775807 < 5 + g1.size + 1 := by omega
  have n3 : ¬ 9223372036854775807 < 5 + g1.size + 1 + g2.size := by omega
  have HC0 := Lib.hid c0
  have HC1 := Lib.hid c1
  have HC2 := Lib.hid c2
  clear hbw hr hwq c0 c1 c2
  refine wp_region_quiet_below (by kernel_rfl) (by kernel_rfl) ?_
  repeat (quiet_step (fail))
  quiet_step ((go_at_call 114; exact Calls.regrown_of (H1.out _)))
  repeat (quiet_step (fail))
  quiet_step ((go_at_call 115; exact Calls.regrown_of (H2.out _)))
  repeat (quiet_step (fail))
  refine wpQuiet_nil ?_
  intro _ hw'
  obtain ⟨⟨dq, osq⟩, hw''⟩ := hw'
  subst hw''
  have hb4 := below_regrown wq dq osq
  clear k0 k1
  generalize grow (redrawn wq dq) osq = w4 at *
  have k2 := below_cell hb4 HC2.out
  simp only [Exit.then]
  have lw4 : w.heap.size < w4.heap.size := Nat.lt_of_lt_of_le lq hb4.size
  have B4 := Lib.hid (below_trans HBW.out hb4)
  clear hb4
  by_cases hk : k < 256
  · have hki : (k : Int) < 256 := by omega
    go_wp2_with fail
    refine (H3.out _).mono ?_
    rintro e w5 ⟨rfl, b5⟩
    have B5 := Lib.hid (below_trans B4.out b5)
    clear b5
    go_wp2_with fail
    go_ret
    refine ⟨congrArg Ending.returned (str_val ?_), B5.out⟩
    rw [HN.out, partL, if_pos hk]
    simp only [ba_app, L1.out, L2.out, L3.out]
    simp
  · have hki : ¬ (k : Int) < 256 := by omega
    go_wp2_with fail
    go_ret
    refine ⟨congrArg Ending.returned (str_val ?_), B4.out⟩
    rw [HN.out, partL, if_neg hk]
    simp only [ba_app, L1.out, L2.out]
    simp

set_option maxHeartbeats 2000000 in
set_option maxRecDepth 100000 in
theorem refPath_any (L I : Nat) (W : Int) (hL : L ≤ 255) (hI : I ≤ 18446744073709551615) (w : World) :
    Calls Tryz.prog 12 #[.agg #[.int .u8 (L : Int), .int .u64 (I : Int), .int .i64 W]] w fun e w' => e = .returned (refPathV L I W) ∧ Below w.heap.size w w' := by
  have HM := Lib.hid fun X => refMay_any L I W hL hI X
  unfold tileV at HM
  have ra := heap_2a w (.cells #[.int .u8 (L : Int), .int .u64 (I : Int), .int .i64 W] 24) (.cells #[.int .i64 0, .int .i64 0] 30)
  have rb := heap_2b w (.cells #[.int .u8 (L : Int), .int .u64 (I : Int), .int .i64 W] 24) (.cells #[.int .i64 0, .int .i64 0] 30)
  have bb := below_two w (.cells #[.int .u8 (L : Int), .int .u64 (I : Int), .int .i64 W] 24) (.cells #[.int .i64 0, .int .i64 0] 30)
  have RA := Lib.hid ra
  have RB := Lib.hid rb
  have BB := Lib.hid bb
  clear ra rb bb
  by_cases h : MayT L I W
  · rw [decide_eq_true h] at HM
    obtain ⟨k, rfl⟩ : ∃ k : Nat, W = k := ⟨W.toNat, by have := h.2.1; omega⟩
    have HV := Lib.hid (show refPathV L I (k : Int) = .tuple #[.string ⟨(nameT L I k).toArray⟩, .agg #[.int .i64 0, .int .i64 0]] by unfold refPathV; rw [if_pos h]; rfl)
    have HN := Lib.hid (refName_any L I k h)
    generalize refPathV L I (k : Int) = pv at *
    generalize (⟨(nameT L I k).toArray⟩ : ByteArray) = g1 at *
    clear h
    go_enter Tryz.func12, Tryz.ntmps12
    go_wp2_with fail
    refine (HM.out _).mono ?_
    rintro e w1 ⟨rfl, b1⟩
    have r0 := below_heap b1 RA.out
    have r1 := Lib.hid (below_heap b1 RB.out)
    have B1 := Lib.hid (below_trans BB.out b1)
    obtain ⟨c0, c1, c2⟩ := cells3 r0
    have l0 := lt_of_heap r0
    clear b1 r0
    go_wp2_with fail
    refine (HN.out _).mono ?_
    rintro e w2 ⟨rfl, b2⟩
    have hh : faultRow w2 (w.heap.size + 1) 0 0 := below_heap b2 r1.out
    obtain ⟨d0, d1, f0, f1⟩ := hh.cells
    have l1 := lt_of_heap hh
    have HH := Lib.hid hh
    have B2 := Lib.hid (below_trans B1.out b2)
    clear b2 hh c0 c1 c2
    go_wp2_with fail
    refine ret_told rfl (w.heap.size + 1) 0 0 (.string g1) (fault_set HH.out _ _) rfl rfl rfl ⟨?_, (B2.out.setCell (p := ⟨w.heap.size + 1, 0, none⟩) (Nat.le_succ _) _).setCell (p := ⟨w.heap.size + 1, 1, none⟩) (Nat.le_succ _) _⟩
    rw [HV.out]
  · rw [decide_eq_false h] at HM
    have HV := Lib.hid (show refPathV L I W = .tuple #[.string ⟨#[]⟩, .agg #[.int .i64 2, .int .i64 (-1)]] by unfold refPathV; rw [if_neg h])
    have HP := Lib.hid fun X => faultPlain_any 2 (by decide) X
    generalize refPathV L I W = pv at *
    clear h
    go_enter Tryz.func12, Tryz.ntmps12
    go_wp2_with fail
    refine (HM.out _).mono ?_
    rintro e w1 ⟨rfl, b1⟩
    have r1 := Lib.hid (below_heap b1 RB.out)
    have B1 := Lib.hid (below_trans BB.out b1)
    clear b1
    go_wp2_with fail
    refine (HP.out _).mono ?_
    rintro e w2 ⟨rfl, b2⟩
    have hh : faultRow w2 (w.heap.size + 1) 0 0 := below_heap b2 r1.out
    obtain ⟨d0, d1, f0, f1⟩ := hh.cells
    have l1 := lt_of_heap hh
    have HH := Lib.hid hh
    have B2 := Lib.hid (below_trans B1.out b2)
    clear b2 hh
    go_wp2_with fail
    refine ret_told rfl (w.heap.size + 1) 2 (-1) (.string ⟨#[]⟩) (fault_set HH.out _ _) rfl rfl rfl ⟨?_, (B2.out.setCell (p := ⟨w.heap.size + 1, 0, none⟩) (Nat.le_succ _) _).setCell (p := ⟨w.heap.size + 1, 1, none⟩) (Nat.le_succ _) _⟩
    rw [HV.out]
end Go.Proofs.YtopilalefilkjaaGreatDoor
