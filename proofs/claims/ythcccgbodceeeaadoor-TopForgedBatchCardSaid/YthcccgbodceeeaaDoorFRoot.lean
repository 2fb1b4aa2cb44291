/-
  naive's Tree and Root by their contracts.
-/
import Derived.Test.YthcccgbodceeeaaDoorFTree
import Derived.Laws.EntriesVeiled
namespace Go.Proofs.YthcccgbodceeeaaDoor
open Go.RowKit

theorem treeF_fuel (L : Nat → List UInt8) : ∀ f g b e, b < e → e - b ≤ f + 1 → e - b ≤ g + 1 → treeF spL L f b e = treeF spL L g b e
  | 0, 0, _, _, _, _, _ => rfl
  | 0, g + 1, b, e, _, hf, _ => by simp only [treeF]; rw [if_pos (by omega)]
  | f + 1, 0, b, e, _, _, hg => by simp only [treeF]; rw [if_pos (by omega)]
  | f + 1, g + 1, b, e, hb, hf, hg => by
    simp only [treeF]
    by_cases h2 : e - b < 2
    · rw [if_pos h2, if_pos h2]
    · obtain ⟨k1, k2⟩ := spL_mid' (show 2 ≤ e - b by omega)
      rw [if_neg h2, if_neg h2, treeF_fuel L f g b _ (by omega) (by omega) (by omega), treeF_fuel L f g _ e (by omega) (by omega) (by omega)]
theorem size_logB (b : Nat) (ls : List ByteArray) (w : World) (h : LogAt w b ls) (hl : ls.length ≤ 1048576) :
    Calls Tryd.prog 13 #[.pointer (some ⟨b, 0, none⟩)] w fun e w' => e = .returned (.int .u64 (ls.length : Int)) ∧ Below w.heap.size w w' :=
  (size_log b ls w h hl).mono (by rintro e w' ⟨h1, rfl⟩; exact ⟨h1, Below.refl _ _⟩)
/-- What Tree says of a stretch. -/
def TreePost (S : Nat → Addr) (ls : List ByteArray) (b e : Nat) (w : World) (x : Ending) (w' : World) : Prop :=
  ∃ T, x = .returned (.tuple #[.agg (Lib.byteCells T).toArray, if e ≤ ls.length then .nilIface else errV S 3]) ∧ T.length = 32 ∧ (b < e → e ≤ ls.length → ∀ f, e - b ≤ f + 1 → T = treeF spL (lf ls) f b e) ∧ Below w.heap.size w w'
set_option maxHeartbeats 2000000 in
set_option maxRecDepth 100000 in
theorem tree_any (S : Nat → Addr) (lb : Nat) (ls : List ByteArray) (b e : Nat) (w : World) (hF : FW S w) (hL : LogAt w lb ls) (hl : ls.length ≤ 400) (hs : ∀ s ∈ ls, s.size ≤ 65536) (hbe : b ≤ e) (he : e ≤ 18446744073709551615) :
    Calls Tryd.prog 23 #[.pointer (some ⟨lb, 0, none⟩), spanV b e] w fun x w' => TreePost S ls b e w x w' := by
  obtain ⟨z32, hz32, hzs⟩ := z32_ex
  obtain ⟨hA, hB, hC, hsz, hb3⟩ := three_blocks w #[.pointer (some ⟨lb, 0, none⟩)] #[.int .u64 (b : Int), .int .u64 (e : Int)] z32 27 65 33
  have HF := Lib.hid hF
  have HL := Lib.hid hL
  have HLS := Lib.hid hs
  clear hF hL hs
  unfold spanV
  go_enter Tryd.func23, Tryd.ntmps23
  go_upto_region 1 with fail
  generalize ((w.alloc (.cells #[.pointer (some ⟨lb, 0, none⟩)] 27)).alloc (.cells #[.int .u64 (b : Int), .int .u64 (e : Int)] 65)).alloc (.cells z32 33) = w3 at *
  have HF3 := Lib.hid (HF.out.below hb3)
  have HL3 := Lib.hid (HL.out.below hb3)
  have c0 : w3.cell? ⟨w.heap.size, 0, none⟩ = some (.pointer (some ⟨lb, 0, none⟩)) := cell_of hA 0 rfl
  have c1 : w3.cell? ⟨w.heap.size + 1, 0, none⟩ = some (.int .u64 (b : Int)) := cell_of hB 0 rfl
  have c2 : w3.cell? ⟨w.heap.size + 1, 1, none⟩ = some (.int .u64 (e : Int)) := cell_of hB 1 rfl
  obtain ⟨ao, cap, fr, hlb, hr⟩ := HL3.out
  have c3 : w3.cell? ⟨lb, 1, none⟩ = some (.bool true) := cell_of hlb 1 rfl
  have l1 : w.heap.size < w3.heap.size := by omega
  have l2 : w.heap.size + 1 < w3.heap.size := by omega
  have HC := Lib.hid hC
  have HB3 := Lib.hid hb3
  have HA := Lib.hid hA
  have HZS := Lib.hid hzs
  clear hr hlb hA hB hC hsz hb3 hzs
  go_wp2_with fail
  have n1 : ¬ (e : Int) < (b : Int) := by omega
  refine wp_region_kept (by kernel_rfl) (by kernel_rfl) ?_
  iterate 9 go_big_quiet_step (fail)
  go_big_quiet_step ((go_at_call 13; rename Kept _ => x; exact Kept.call (size_logB lb ls x.w (HL3.out.below x.below) (by omega))))
  iterate 3 go_big_quiet_step (fail)
  refine wpQuiet_nil ?_
  intro x
  have HFX := Lib.hid (HF3.out.below x.below)
  have HLX := Lib.hid (HL3.out.below x.below)
  have HCX := Lib.hid (x.heap_old HC.out)
  have HAX := Lib.hid (x.heap_old HA.out)
  have HBX := Lib.hid (HB3.out.trans (x.below.mono HB3.out.size))
  have c1 := below_cell x.below c1
  have c2 := below_cell x.below c2
  have HSZ := Lib.hid (Nat.lt_of_lt_of_le l2 x.below.size)
  generalize x.w = wX at *
  clear l1 l2 c0 c3 HC HA
  by_cases hen : e ≤ ls.length
  · have n2 : ¬ (ls.length : Int) < (e : Int) := by omega
    by_cases hq : b = e
    · subst hq
      have HEM := Lib.hid (empty_any wX HFX.out.tab HFX.out.lt)
      go_wp2_with (go_at_call 36; refine HEM.out.mono ?_)
      rintro x wy T hTL rfl hbg
      have HTL := Lib.hid hTL
      have HRW := Lib.hid (below_heap hbg HCX.out)
      have HFB := Lib.hid (HBX.out.trans (hbg.mono HBX.out.size))
      clear hTL hbg
      go_wp2_with (refine wpList_store_row (by rfl) 33 (.tmp 4) (.tmp 40) (by rfl) (w.heap.size + 1 + 1) (Lib.byteCells T).toArray (by rfl) (by rfl) 33 z32 HRW.out (by rw [hash_size HTL.out]; exact hashInfo) (by rw [hash_size HTL.out, HZS.out]) (byteCells_one T) ?_)
      have HRE := Lib.hid (setRow_heap wy (w.heap.size + 1 + 1) _ (Lib.byteCells T).toArray 33 (0, 0) HRW.out)
      have HBR := Lib.hid (below_setRow HFB.out (show w.heap.size ≤ w.heap.size + 1 + 1 by omega) (Lib.byteCells T).toArray)
      generalize wy.setRow (w.heap.size + 1 + 1) (Lib.byteCells T).toArray = wJ at *
      go_wp2_with fail
      refine bodyPost_ret (v := .tuple #[.agg (Lib.byteCells T).toArray, .nilIface]) ?_ rfl ⟨T, by rw [if_pos hen], HTL.out, fun h => absurd h (Nat.lt_irrefl _), HBR.out⟩
      exact results_row_tmp rfl _ _ (w.heap.size + 1 + 1) 33 _ (0, 0) _ _ rfl rfl HRE.out Tryd.underlying33 rfl (by rw [hash_size HTL.out]; exact hashInfo)
    · have n3 : ¬ (b : Int) = (e : Int) := by omega
      go_upto_region 9 with fail
      have hbn := below_one wX (.cells #[.func (.func 37) #[] #[.pointer (some ⟨w.heap.size, 0, none⟩), .pointer (some ⟨wX.heap.size, 0, none⟩)]] 86)
      have HTE := Lib.hid (show TreeEnv S (wX.alloc (.cells #[.func (.func 37) #[] #[.pointer (some ⟨w.heap.size, 0, none⟩), .pointer (some ⟨wX.heap.size, 0, none⟩)]] 86)) lb ls w.heap.size wX.heap.size from ⟨HFX.out.below hbn, HLX.out.below hbn, ⟨_, _, below_heap hbn HAX.out⟩, ⟨_, _, heap_one wX _⟩⟩)
      have HCY := Lib.hid (below_heap hbn HCX.out)
      have HBY := Lib.hid (HBX.out.trans (hbn.mono HBX.out.size))
      have c1 := below_cell hbn c1
      have c2 := below_cell hbn c2
      have c6 : (wX.alloc (.cells #[.func (.func 37) #[] #[.pointer (some ⟨w.heap.size, 0, none⟩), .pointer (some ⟨wX.heap.size, 0, none⟩)]] 86)).cell? ⟨wX.heap.size, 0, none⟩ = some (.func (.func 37) #[] #[.pointer (some ⟨w.heap.size, 0, none⟩), .pointer (some ⟨wX.heap.size, 0, none⟩)]) := cell_of (heap_one wX _) 0 rfl
      generalize (wX.alloc (.cells #[.func (.func 37) #[] #[.pointer (some ⟨w.heap.size, 0, none⟩), .pointer (some ⟨wX.heap.size, 0, none⟩)]] 86)) = wZ at *
      generalize wX.heap.size = ct at *
      have HCL := Lib.hid (tree_clo S lb ls w.heap.size ct hl HLS.out e b e wZ HTE.out (by omega) hen (by omega))
      have HFU := Lib.hid (fun f (hf : e - b ≤ f + 1) => treeF_fuel (lf ls) e f b e (by omega) (by omega) hf)
      have HTL := Lib.hid (treeF_len' (lf ls) e b e)
      generalize treeF spL (lf ls) e b e = T at *
      clear hbn
      unfold treeArgs at HCL
      go_wp2_with (go_at_call 37; refine HCL.out.mono ?_)
      first
        | rintro x wy rfl hbg
        | rintro x wy ⟨rfl, hbg⟩
      have HRW := Lib.hid (below_heap hbg HCY.out)
      have HFB := Lib.hid (HBY.out.trans (hbg.mono HBY.out.size))
      clear hbg
      go_wp2_with (refine wpList_store_row (by rfl) 33 (.tmp 4) (.tmp 47) (by rfl) (w.heap.size + 1 + 1) (Lib.byteCells T).toArray (by rfl) (by rfl) 33 z32 HRW.out (by rw [hash_size HTL.out]; exact hashInfo) (by rw [hash_size HTL.out, HZS.out]) (byteCells_one T) ?_)
      have HRE := Lib.hid (setRow_heap wy (w.heap.size + 1 + 1) _ (Lib.byteCells T).toArray 33 (0, 0) HRW.out)
      have HBR := Lib.hid (below_setRow HFB.out (show w.heap.size ≤ w.heap.size + 1 + 1 by omega) (Lib.byteCells T).toArray)
      generalize wy.setRow (w.heap.size + 1 + 1) (Lib.byteCells T).toArray = wJ at *
      go_wp2_with fail
      refine bodyPost_ret (v := .tuple #[.agg (Lib.byteCells T).toArray, .nilIface]) ?_ rfl ⟨T, by rw [if_pos hen], HTL.out, fun _ _ f hf => HFU.out f hf, HBR.out⟩
      exact results_row_tmp rfl _ _ (w.heap.size + 1 + 1) 33 _ (0, 0) _ _ rfl rfl HRE.out Tryd.underlying33 rfl (by rw [hash_size HTL.out]; exact hashInfo)
  · have n2 : (ls.length : Int) < (e : Int) := by omega
    have g3 := HFX.out.var 3 (by omega)
    simp only [errG, errV] at g3
    go_wp2_with fail
    obtain ⟨T, hT, hTL⟩ : ∃ T : List UInt8, T = List.replicate 32 0 ∧ T.length = 32 := ⟨_, rfl, rfl⟩
    have HTL := Lib.hid hTL
    have HT := Lib.hid hT
    clear hT hTL hz32
    refine wp_region_any (by kernel_rfl) ?_
    change wpAny _ _ _ _ _ _ _ (World.drew _)
    refine wpAny_take (i := 0) (v := (.agg (Lib.byteCells T).toArray)) rfl (by kernel_rfl) (by kernel_rfl) (by kernel_rfl) (fun _ _ _ h => h) (Or.inl ⟨by rfl, ?_⟩) ?_
    · intro w
      rw [HT.out]
      kernel_rfl
    simp only [List.getElem_toArray, List.getElem_cons_zero, Act.put, List.setIfInBounds_toArray, List.set_cons_zero, List.set_cons_succ]
    have HCD := Lib.hid (show wX.drew.heap[w.heap.size + 1 + 1]? = some (.cells z32 33 (0, 0)) from HCX.out)
    have hz := setRow_heap wX.drew (w.heap.size + 1 + 1) _ (Lib.byteCells T).toArray 33 (0, 0) HCD.out
    have hbz : Below w.heap.size w (wX.drew.setRow (w.heap.size + 1 + 1) (Lib.byteCells T).toArray) := below_setRow HBX.out.drew (by omega) _
    have g3w : (wX.drew.setRow (w.heap.size + 1 + 1) (Lib.byteCells T).toArray).cell? ⟨3, 0, none⟩ = some (.iface 125 (.pointer (some (S 3)))) := by
      have h := HF.out.var 3 (by omega)
      exact below_cell hbz h
    have HRE := Lib.hid hz
    have HBR := Lib.hid hbz
    clear hz hbz
    refine wpAny_ready (rs := [1, 2]) (by kernel_rfl) (by simp) ?_
    refine AllReady.cons rfl (fun K hK => ?_) (AllReady.cons rfl (fun K hK => ?_) AllReady.nil)
    · go_simp
      refine hK _ _ ?_
      clear hK K
      refine wpAny_ready (rs := [2]) (by kernel_rfl) (by simp) ?_
      refine AllReady.cons rfl (fun K hK => ?_) AllReady.nil
      rw [if_pos (by rfl)]
      refine wp_store_row 33 (.tmp 4) (.tmp 32) (by rfl) (w.heap.size + 1 + 1) (Lib.byteCells T).toArray (by rfl) (by rfl) 33 z32 HCD.out (by rw [hash_size HTL.out]; exact hashInfo) (by rw [hash_size HTL.out, HZS.out]) (byteCells_one T) ?_
      refine hK _ _ ?_
      clear hK K
      change wpAny _ _ _ _ _ _ _ (World.setRow (World.drew _) _ _)
      generalize (wX.drew).setRow (w.heap.size + 1 + 1) (Lib.byteCells T).toArray = ws at *
      refine wpAny_ready (rs := [3]) (by kernel_rfl) (by simp) ?_
      refine AllReady.cons rfl (fun K hK => ?_) AllReady.nil
      go_simp
      refine hK _ _ ?_
      clear hK K
      refine wpAny_done (by kernel_rfl) ?_ _
      simp only [Exit.then]
      go_wp2_with fail
      refine bodyPost_ret (v := .tuple #[.agg (Lib.byteCells T).toArray, errV S 3]) ?_ rfl ⟨T, by rw [if_neg hen], HTL.out, fun _ h => absurd h hen, HBR.out⟩
      exact results_row_tmp rfl _ _ (w.heap.size + 1 + 1) 33 _ (0, 0) _ _ rfl rfl HRE.out Tryd.underlying33 rfl (by rw [hash_size HTL.out]; exact hashInfo)
    · rw [if_pos (by rfl)]
      refine wp_store_row 33 (.tmp 4) (.tmp 32) (by rfl) (w.heap.size + 1 + 1) (Lib.byteCells T).toArray (by rfl) (by rfl) 33 z32 HCD.out (by rw [hash_size HTL.out]; exact hashInfo) (by rw [hash_size HTL.out, HZS.out]) (byteCells_one T) ?_
      refine hK _ _ ?_
      clear hK K
      change wpAny _ _ _ _ _ _ _ (World.setRow (World.drew _) _ _)
      generalize (wX.drew).setRow (w.heap.size + 1 + 1) (Lib.byteCells T).toArray = ws at *
      refine wpAny_ready (rs := [1]) (by kernel_rfl) (by simp) ?_
      refine AllReady.cons rfl (fun K hK => ?_) AllReady.nil
      go_simp
      refine hK _ _ ?_
      clear hK K
      refine wpAny_ready (rs := [3]) (by kernel_rfl) (by simp) ?_
      refine AllReady.cons rfl (fun K hK => ?_) AllReady.nil
      go_simp
      refine hK _ _ ?_
      clear hK K
      refine wpAny_done (by kernel_rfl) ?_ _
      simp only [Exit.then]
      go_wp2_with fail
      refine bodyPost_ret (v := .tuple #[.agg (Lib.byteCells T).toArray, errV S 3]) ?_ rfl ⟨T, by rw [if_neg hen], HTL.out, fun _ h => absurd h hen, HBR.out⟩
      exact results_row_tmp rfl _ _ (w.heap.size + 1 + 1) 33 _ (0, 0) _ _ rfl rfl HRE.out Tryd.underlying33 rfl (by rw [hash_size HTL.out]; exact hashInfo)
set_option maxHeartbeats 1000000 in
set_option maxRecDepth 100000 in
theorem root_any (S : Nat → Addr) (lb : Nat) (ls : List ByteArray) (e : Nat) (w : World) (hF : FW S w) (hL : LogAt w lb ls) (hl : ls.length ≤ 400) (hs : ∀ s ∈ ls, s.size ≤ 65536) (he : e ≤ 18446744073709551615) :
    Calls Tryd.prog 7 #[.pointer (some ⟨lb, 0, none⟩), .int .u64 (e : Int)] w fun x w' => TreePost S ls 0 e w x w' := by
  obtain ⟨z32, hz32, hzs⟩ := z32_ex
  have HTR := Lib.hid fun (W : World) (hbw : Below w.heap.size w W) => tree_any S lb ls 0 e W (hF.below hbw) (hL.below hbw) hl hs (Nat.zero_le _) he
  unfold spanV at HTR
  clear hF hL hs
  go_enter Tryd.func7, Tryd.ntmps7
  go_upto_region 1 with fail
  clear hz32
  have HWO := Lib.hid (heap_one w (.cells z32 33))
  have HBO := Lib.hid (below_one w (.cells z32 33))
  generalize (w.alloc (.cells z32 33)) = wo at *
  have HZS := Lib.hid hzs
  clear hzs
  go_wp2_with (go_at_call 23; refine (HTR.out wo HBO.out).mono ?_)
  rintro x wy ⟨T, rfl, hTL, hEQ, hbg⟩
  have HTL := Lib.hid hTL
  have HEQ := Lib.hid hEQ
  have HRW := Lib.hid (below_heap hbg HWO.out)
  have HFB := Lib.hid (HBO.out.trans (hbg.mono HBO.out.size))
  clear hTL hbg hEQ
  obtain ⟨ev, hev⟩ : ∃ ev, (if e ≤ ls.length then Value.nilIface else errV S 3) = ev := ⟨_, rfl⟩
  rw [hev]
  go_wp2_with (refine wpList_store_row (by rfl) 33 (.tmp 4) (.tmp 10) (by rfl) w.heap.size (Lib.byteCells T).toArray (by rfl) (by rfl) 33 z32 HRW.out (by rw [hash_size HTL.out]; exact hashInfo) (by rw [hash_size HTL.out, HZS.out]) (byteCells_one T) ?_)
  have HRE := Lib.hid (setRow_heap wy w.heap.size _ (Lib.byteCells T).toArray 33 (0, 0) HRW.out)
  have HBR := Lib.hid (below_setRow HFB.out (Nat.le_refl _) (Lib.byteCells T).toArray)
  generalize wy.setRow w.heap.size (Lib.byteCells T).toArray = wJ at *
  go_wp2_with fail
  refine bodyPost_ret (v := .tuple #[.agg (Lib.byteCells T).toArray, ev]) ?_ rfl ⟨T, by rw [hev], HTL.out, HEQ.out, HBR.out⟩
  exact results_row_tmp rfl _ _ w.heap.size 33 _ (0, 0) _ _ rfl rfl HRE.out Tryd.underlying33 rfl (by rw [hash_size HTL.out]; exact hashInfo)
end Go.Proofs.YthcccgbodceeeaaDoor
