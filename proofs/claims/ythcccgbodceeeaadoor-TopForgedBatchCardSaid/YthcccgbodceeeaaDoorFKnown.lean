/-
  known19: the two leaves "a" and "b".
-/
import Derived.Test.YthcccgbodceeeaaDoorFIncl
import Derived.Test.YthcccgbodceeeaaDoorKnown19P
namespace Go.Proofs.YthcccgbodceeeaaDoor
open Go.RowKit

def sA : ByteArray := ⟨#[97]⟩
def sB : ByteArray := ⟨#[98]⟩
theorem sA_size : sA.size = 1 := rfl
theorem sB_size : sB.size = 1 := rfl
theorem leafT_A : leafT (bs sA) = [0, 97] := rfl
theorem leafT_B : leafT (bs sB) = [0, 98] := rfl
theorem hA_leaf : shaL (leafT (bs sA)) = leafA := by rw [leafT_A, leafA]
theorem hB_leaf : shaL (leafT (bs sB)) = leafB := by rw [leafT_B, leafB]
theorem known_names : ∃ A Bh R : List UInt8, shaL (leafT (bs sA)) = A ∧ shaL (leafT (bs sB)) = Bh ∧ shaL (nodeT A Bh) = R ∧ shaL (nodeT Bh A) ≠ R ∧ treeF spL (lf [sA, sB]) 2 0 2 = R ∧ A.length = 32 ∧ Bh.length = 32 := by
  obtain ⟨A, hA⟩ : ∃ A, leafA = A := ⟨_, rfl⟩
  obtain ⟨Bh, hB⟩ : ∃ Bh, leafB = Bh := ⟨_, rfl⟩
  have hk := known_ne
  rw [hA, hB] at hk
  have hAl : A.length = 32 := by rw [← hA, leafA]; exact shaL_len _
  have hBl : Bh.length = 32 := by rw [← hB, leafB]; exact shaL_len _
  refine ⟨A, Bh, _, by rw [hA_leaf, hA], by rw [hB_leaf, hB], rfl, fun h => ?_, ?_, hAl, hBl⟩
  · unfold nodeT at h
    rw [h, beq_self_eq_true] at hk
    cases hk
  · have h := treeF_node (lf [sA, sB]) 2 0 2 (by omega) (by omega)
    have hs : spL (2 - 0) = 1 := by decide +kernel
    have l0 : lf [sA, sB] 0 = bs sA := rfl
    have l1 : lf [sA, sB] 1 = bs sB := rfl
    rw [hs, Nat.zero_add] at h
    rw [h, treeF_fuel (lf [sA, sB]) 2 0 0 1 (by omega) (by omega) (by omega), treeF_fuel (lf [sA, sB]) 2 0 1 2 (by omega) (by omega) (by omega)]
    simp only [treeF]
    rw [l0, l1, hA_leaf, hB_leaf, hA, hB]
set_option maxHeartbeats 2000000 in
set_option maxRecDepth 100000 in
theorem known_any (S : Nat → Addr) (w : World) (hF : FW S w) :
    Calls Tryd.prog 5 #[] w fun x w' => x = .returned (.bool true) ∧ Below w.heap.size w w' := by
  have HF := Lib.hid hF
  have HB0 := Lib.hid (Below.refl w.heap.size w)
  clear hF
  go_enter Tryd.func5, Tryd.ntmps5
  go_upto_region 2 with (go_at_call 12; refine (new_log _).mono ?_)
  rintro x w1 ⟨rfl, ho1, hb1⟩
  have HO1 := Lib.hid ho1
  have HB1 := Lib.hid hb1
  clear ho1 hb1
  have HA1 := Lib.hid (append_log S w.heap.size w.heap.size [] sA w1 HO1.out (by simp) (HF.out.below HB1.out) HB1.out.size)
  go_upto_region 3 with (go_at_call 14; refine HA1.out.mono ?_)
  rintro e w2 ⟨⟨r, ev, rfl, hev⟩, ho2, hb2⟩
  have hsA := sA_size
  have hsB := sB_size
  obtain rfl := hev (by omega)
  rw [if_pos (by omega), List.nil_append] at ho2
  have HO2 := Lib.hid ho2
  have HB2 := Lib.hid (HB1.out.trans hb2)
  clear ho2 hb2 hev HA1
  have HA2 := Lib.hid (append_log S w.heap.size w.heap.size [sA] sB w2 HO2.out (by simp) (HF.out.below HB2.out) HB2.out.size)
  go_upto_region 4 with (go_at_call 14; refine HA2.out.mono ?_)
  rintro e w3 ⟨⟨r2, ev2, rfl, hev2⟩, ho3, hb3⟩
  obtain rfl := hev2 (by omega)
  rw [if_pos (by omega)] at ho3
  have HO3 := Lib.hid (show LogAt w3 w.heap.size [sA, sB] from ho3.at)
  have HB3 := Lib.hid (HB2.out.trans hb3)
  clear ho3 hb3 hev2 HA2
  obtain ⟨A, Bh, R, hA, hBh, hR, hne, htr, hAl, hBl⟩ := known_names
  have HRO := Lib.hid (root_any S w.heap.size [sA, sB] 2 w3 (HF.out.below HB3.out) HO3.out (by simp) (by simp [hsA, hsB]) (by omega))
  go_upto_region 5 with (go_at_call 7; refine HRO.out.mono ?_)
  rintro x w4 ⟨T, rfl, hTL, hTE, hb4⟩
  have hT : T = R := by rw [hTE (by omega) (by simp) 2 (by omega), htr]
  subst hT
  rw [if_pos (by simp)]
  have HTL := Lib.hid hTL
  have HO4 := Lib.hid (HO3.out.below hb4)
  have HB4 := Lib.hid (HB3.out.trans (hb4.mono HB3.out.size))
  clear hTL hTE hb4 htr hsA hsB HRO
  go_upto_region 5 with (refine wpList_hash (by rfl) (.tmp 6) (.tmp 24) (by rfl) (by rfl) (by rfl) (hash_size HTL.out) (by rfl) (byteCells_one T) ?_)
  have H6 := Lib.hid (heap_one w4 (.cells (Lib.byteCells T).toArray 33))
  have hb5 := below_one w4 (.cells (Lib.byteCells T).toArray 33)
  have HO5 := Lib.hid (HO4.out.below hb5)
  have HB5 := Lib.hid (HB4.out.trans (hb5.mono HB4.out.size))
  clear hb5
  generalize w4.alloc (.cells (Lib.byteCells T).toArray 33) = w5 at *
  generalize w4.heap.size = g6 at *
  have HPA := Lib.hid (by
    have h := npath_known S w.heap.size [sA, sB] w5 (HF.out.below HB5.out) HO5.out rfl (by simp [sA_size, sB_size])
    rw [show lf [sA, sB] 1 = bs sB from rfl, hBh] at h
    exact h)
  go_upto_region 6 with (go_at_call 15; refine HPA.out.mono ?_)
  rintro x w6 ⟨pv, rfl, hpv, hb6⟩
  have H6 := Lib.hid (below_heap hb6 H6.out)
  have HB6 := Lib.hid (HB5.out.trans (hb6.mono HB5.out.size))
  have HPV := Lib.hid hpv
  obtain ⟨_, aop, capp, rfl, _, _⟩ := hpv
  clear hb6 HPA
  go_upto_region 6 with fail
  have HAL := Lib.hid hAl
  have HLA := Lib.hid fun (W : World) (hb : Below w.heap.size w W) => (by
    have h := hleaf_any sA (by rw [sA_size]; omega) W (HF.out.below hb).tab (HF.out.below hb).lt
    rw [hA] at h
    exact h)
  have HLB := Lib.hid fun (W : World) (hb : Below w.heap.size w W) => (by
    have h := hleaf_any sB (by rw [sB_size]; omega) W (HF.out.below hb).tab (HF.out.below hb).lt
    rw [hBh] at h
    exact h)
  have HND := Lib.hid fun (W : World) (hb : Below w.heap.size w W) => (by
    have h := node_any A Bh hAl hBl W (HF.out.below hb).tab (HF.out.below hb).lt
    rw [show shaL (1 :: (A ++ Bh)) = T from hR] at h
    exact h)
  have HI0 := Lib.hid fun (W : World) (hb : Below w6.heap.size w6 W) => (by
    have h := incl_at S 0 (by omega) A Bh T _ W (HF.out.below (HB6.out.trans (hb.mono HB6.out.size))) hAl HTL.out (HPV.out.below hb)
    rw [if_pos (show nodeAt 0 A Bh = T from hR)] at h
    exact h)
  have HI1 := Lib.hid fun (W : World) (hb : Below w6.heap.size w6 W) => (by
    have h := incl_at S 1 (by omega) A Bh T _ W (HF.out.below (HB6.out.trans (hb.mono HB6.out.size))) hAl HTL.out (HPV.out.below hb)
    rw [if_neg (show nodeAt 1 A Bh ≠ T from hne), show errV S 4 = .iface 125 (.pointer (some (S 4))) from rfl] at h
    exact h)
  clear hA hBh hR hne hAl hBl
  refine wp_region_kept_tail 24 (by kernel_rfl) (by kernel_rfl) ?_
  simp only [List.take_succ_cons, List.take_zero, List.drop_succ_cons, List.drop_zero]
  iterate 20 go_big_quiet_step (fail)
  refine wpQuiet_hashLoad (by rfl) (.tmp 6) (by rfl) g6 0 (by rfl) T HTL.out (range_row H6.out) ?_
  simp only [Act.put, List.setIfInBounds_toArray, List.set_cons_zero, List.set_cons_succ]
  go_big_quiet_step ((go_at_call 8; rename Kept _ => x; exact Kept.call (HLA.out x.w (HB6.out.trans (x.below.mono HB6.out.size)))))
  go_big_quiet_step ((go_at_call 8; rename Kept _ => x; exact Kept.call (HLB.out x.w (HB6.out.trans (x.below.mono HB6.out.size)))))
  go_big_quiet_step ((go_at_call 16; rename Kept _ => x; exact Kept.call (HND.out x.w (HB6.out.trans (x.below.mono HB6.out.size)))))
  refine wpQuiet_nil ?_
  intro x
  have H6 := Lib.hid (below_heap x.below H6.out)
  have HB7 := Lib.hid (HB6.out.trans (x.below.mono HB6.out.size))
  have HX7 := Lib.hid x.below
  generalize x.w = w7 at *
  go_wp2_with (refine wpList_hashNe (by rfl) (.tmp 51) (.tmp 54) _ (by rfl) T T (by rfl) (by rfl) HTL.out HTL.out false (by simp) ?_)
  refine wp_region_kept_tail 12 (by kernel_rfl) (by kernel_rfl) ?_
  simp only [List.take_succ_cons, List.take_zero, List.drop_succ_cons, List.drop_zero]
  go_big_quiet_step ((go_at_call 8; rename Kept _ => x; exact Kept.call (HLA.out x.w (HB7.out.trans (x.below.mono HB7.out.size)))))
  go_big_quiet_step (fail)
  refine wpQuiet_hashLoad (by rfl) (.tmp 6) (by rfl) g6 0 (by rfl) T HTL.out (range_row H6.out) ?_
  simp only [Act.put, List.setIfInBounds_toArray, List.set_cons_zero, List.set_cons_succ]
  go_big_quiet_step ((go_at_call 17; rename Kept _ => x; exact Kept.call (HI0.out x.w (HX7.out.trans (x.below.mono HX7.out.size)))))
  iterate 2 go_big_quiet_step (fail)
  go_big_quiet_step ((go_at_call 8; rename Kept _ => x; exact Kept.call (HLA.out x.w (HB7.out.trans (x.below.mono HB7.out.size)))))
  go_big_quiet_step (fail)
  refine wpQuiet_hashLoad (by rfl) (.tmp 6) (by rfl) g6 0 (by rfl) T HTL.out (range_row H6.out) ?_
  simp only [Act.put, List.setIfInBounds_toArray, List.set_cons_zero, List.set_cons_succ]
  go_big_quiet_step ((go_at_call 17; rename Kept _ => x; exact Kept.call (HI1.out x.w (HX7.out.trans (x.below.mono HX7.out.size)))))
  iterate 2 go_big_quiet_step (fail)
  refine wpQuiet_nil ?_
  intro x
  have HB8 := Lib.hid (HB7.out.trans (x.below.mono HB7.out.size))
  generalize x.w = w8 at *
  go_wp2_with fail
  go_ret
  exact ⟨rfl, HB8.out⟩
end Go.Proofs.YthcccgbodceeeaaDoor
