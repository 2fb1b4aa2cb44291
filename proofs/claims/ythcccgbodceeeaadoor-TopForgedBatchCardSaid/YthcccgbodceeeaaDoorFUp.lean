/-
  verify.Root of the two leaves' tree.
-/
import Derived.Test.YthcccgbodceeeaaDoorFHashes
import Derived.Test.YthcccgbodceeeaaDoorFOther
namespace Go.Proofs.YthcccgbodceeeaaDoor
open Go.RowKit

set_option maxHeartbeats 1000000 in
set_option maxRecDepth 100000 in
theorem up_one (w : World) : Calls Tryd.prog 45 #[.int .u64 1, .int .u64 1] w fun e w' => e = .returned (.tuple #[.int .u64 1, .int .u64 1]) ∧ w = w' := by
  go_enter Tryd.func45, Tryd.ntmps45
  go_wp2_with fail
  go_loopw [0, 1] (fun a b wr => a = .int .u64 1 ∧ b = .int .u64 1 ∧ wr = w) (fun _ _ _ => 0)
  case atStart => exact ⟨rfl, rfl, rfl⟩
  case round =>
    obtain ⟨rfl, rfl, rfl⟩ := hrel
    go_wp2_with fail
    go_ret2
    exact ⟨rfl, rfl⟩
/-- The loop over the one hash of the path. -/
def RKRel (i : Nat) (A N z : List UInt8) (w : World) (g8 g11 : Nat) (iv lv kv : Value) (wr : World) : Prop :=
  ((kv = .int .i64 0 ∧ iv = .int .u64 (i : Int) ∧ lv = .int .u64 1 ∧ wr.heap[g11]? = some (.cells (Lib.byteCells A).toArray 33 (0, 0))) ∨ (kv = .int .i64 1 ∧ iv = .int .u64 0 ∧ lv = .int .u64 0 ∧ wr.heap[g11]? = some (.cells (Lib.byteCells N).toArray 33 (0, 0)))) ∧
  wr.heap[g8]? = some (.cells (Lib.byteCells z).toArray 33 (0, 0)) ∧ Below w.heap.size w wr
set_option maxHeartbeats 2000000 in
set_option maxRecDepth 100000 in
theorem root_zero (S : Nat → Addr) (A Bh : List UInt8) (u : Value) (w : World) (hF : FW S w) (hA : A.length = 32) (hu : HsIn w u [Bh]) :
    Calls Tryd.prog 29 #[.int .u64 0, .int .u64 2, .agg (Lib.byteCells A).toArray, u] w fun x w' => x = .returned (.tuple #[.agg (Lib.byteCells (shaL (nodeT A Bh))).toArray, .nilIface]) ∧ Below w.heap.size w w' := by
  obtain ⟨z32, hz32, hzs⟩ := z32_ex2
  obtain ⟨hBl, ao, cap, rfl, _, hr0⟩ := hu
  obtain ⟨g, o, hao, hr⟩ := hr0 (by simp)
  subst hao
  clear hr0
  have HBL := Lib.hid (hBl Bh (List.mem_singleton.2 rfl))
  have HAL := Lib.hid hA
  have HF := Lib.hid hF
  have HR := Lib.hid hr
  obtain ⟨N, hN⟩ : ∃ N, shaL (nodeT A Bh) = N := ⟨_, rfl⟩
  have HNL := Lib.hid (show N.length = 32 by rw [← hN]; exact shaL_len _)
  have HND := Lib.hid fun (W : World) (hb : Below w.heap.size w W) => (by
    have h := node_any A Bh hA (hBl Bh (List.mem_singleton.2 rfl)) W (hF.below hb).tab (hF.below hb).lt
    rw [show shaL (1 :: (A ++ Bh)) = N from hN] at h
    exact h)
  rw [hN]
  clear hF hr hBl hA
  go_enter Tryd.func29, Tryd.ntmps29
  go_upto_region 3 with fail
  have h6 := heap_one w (.cells (Lib.byteCells A).toArray 33)
  have hb6 := below_one w (.cells (Lib.byteCells A).toArray 33)
  have hs6 : (w.alloc (.cells (Lib.byteCells A).toArray 33)).heap.size = w.heap.size + 1 := by simp
  have h8 := heap_one (w.alloc (.cells (Lib.byteCells A).toArray 33)) (.cells (Lib.byteCells z32).toArray 33)
  have hb8 := below_one (w.alloc (.cells (Lib.byteCells A).toArray 33)) (.cells (Lib.byteCells z32).toArray 33)
  have h6 := below_heap hb8 h6
  have hb := hb6.trans (hb8.mono hb6.size)
  rw [hs6] at h8
  generalize (w.alloc (.cells (Lib.byteCells A).toArray 33)).alloc (.cells (Lib.byteCells z32).toArray 33) = wo at *
  have H8 := Lib.hid h8
  have HBO := Lib.hid hb
  have HZS := Lib.hid hzs
  clear hb6 hs6 h8 hb8 hb
  go_cut [10, 11] (fun s1 s2 wx => ∃ g, s1 = .int .u64 1 ∧ s2 = .pointer (some ⟨g, 0, none⟩) ∧ wx.heap[g]? = some (.cells (Lib.byteCells A).toArray 33 (0, 0)) ∧ wo.heap.size ≤ g ∧ Below wo.heap.size wo wx)
  case first =>
    have HK := Lib.hid (fun (W' : World) (hb : Below wo.heap.size wo W') => (⟨hb, range_row (below_heap hb h6)⟩ : Below wo.heap.size wo W' ∧ W'.rangeAt w.heap.size 0 (Lib.byteCells A)))
    have hone := cells_oneC A
    have hund := Tryd.underlying33
    have hinf : (Tryd.prog.info? 33).map (fun x => x.size) = some (Lib.byteCells A).length := by rw [Lib.byteCells_length, HAL.out]; exact hashInfo
    have hr3 : ((wo.alloc (.cells (Lib.byteCells z32).toArray 33)).drew).heap[wo.heap.size]? = some (.cells (Lib.byteCells z32).toArray 33 (0, 0)) := below_heap ((Below.refl (wo.alloc (.cells (Lib.byteCells z32).toArray 33)).heap.size _).drew) (heap_one wo _)
    have hthr : ((wo.alloc (.cells (Lib.byteCells z32).toArray 33)).drew).there wo.heap.size 0 (Lib.byteCells A).length := there_row hr3 (by rw [Lib.byteCells_length, HAL.out, hash_size HZS.out]; exact Nat.le_refl _)
    have hsc := setCells_row hr3 (hash_size HZS.out) A HAL.out
    have hsr := setRow_heap ((wo.alloc (.cells (Lib.byteCells z32).toArray 33)).drew) wo.heap.size _ (Lib.byteCells A).toArray 33 (0, 0) hr3
    have hsb := below_setRow (below_one wo (.cells (Lib.byteCells z32).toArray 33)).drew (Nat.le_refl _) (Lib.byteCells A).toArray
    go_region_held3 (fun W' => Below wo.heap.size wo W' ∧ W'.rangeAt w.heap.size 0 (Lib.byteCells A))
      (first | exact HK.out _ (below_drewN (Below.refl _ _) 1) | exact HK.out _ (below_one wo _).drew | (rw [hsc]; exact HK.out _ hsb))
      (fail)
    all_goals (go_wp2_with fail; go_meet; exact ⟨_, by rfl, rfl, by rw [hsc]; exact hsr, Nat.le_refl _, by rw [hsc]; exact hsb⟩)
  case rest =>
    obtain ⟨g11, rfl, rfl, h11, hg11, hbx⟩ := hcut
    have HN8 := Lib.hid (show w.heap.size + 1 ≠ g11 from by have h1 := lt_of_heap H8.out; omega)
    have H8 := Lib.hid (below_heap hbx H8.out)
    have HBX := Lib.hid (HBO.out.trans (hbx.mono HBO.out.size))
    have H11 := Lib.hid h11
    have HG11 := Lib.hid (show w.heap.size ≤ g11 from Nat.le_trans HBO.out.size hg11)
    clear h11 hg11 hbx hz32 HBO
    go_wp2_with fail
    go_loopw [0, 10, 28] (fun iv lv kv wr => RKRel 0 A N z32 w (w.heap.size + 1) g11 iv lv kv wr) (fun _ _ kv _ => 1 - (intOf kv).toNat)
    case atStart => exact ⟨.inl ⟨rfl, rfl, rfl, H11.out⟩, H8.out, HBX.out⟩
    case round =>
      obtain ⟨hcase, h8, hbel⟩ := hrel
      rename World => wA
      have HBL2 := Lib.hid hbel
      have H8A := Lib.hid h8
      rcases hcase with ⟨rfl, rfl, rfl, h11⟩ | ⟨rfl, rfl, rfl, h11⟩
      · have H11A := Lib.hid h11
        have HRA := Lib.hid (range_below hbel HR.out)
        clear h8 h11 hbel
        go_upto_region 7 with (first | (refine wpList_hashLoad2 (by rfl) (.tmp 30) (by rfl) g o (by rfl) Bh HBL.out (fun j v hv => by have h := HRA.out j v (by simpa [hcells] using hv); exact h) ?_) | (refine wpList_hash (by rfl) (.tmp 13) (.tmp 31) (by rfl) (by rfl) (by rfl) (hash_size HBL.out) (by rfl) (byteCells_one Bh) ?_))
        have H13 := Lib.hid (heap_one wA (.cells (Lib.byteCells Bh).toArray 33))
        have hbB := below_one wA (.cells (Lib.byteCells Bh).toArray 33)
        have H11B := Lib.hid (below_heap hbB H11A.out)
        have H8B := Lib.hid (below_heap hbB H8A.out)
        have HBB := Lib.hid (HBL2.out.trans (hbB.mono HBL2.out.size))
        generalize wA.alloc (.cells (Lib.byteCells Bh).toArray 33) = wB at *
        generalize wA.heap.size = g13 at *
        clear hbB
        go_wp2_with (first | (refine wpList_load_row (by rfl) 33 (.tmp 11) (by rfl) g11 (by rfl) 33 (Lib.byteCells A).toArray (0, 0) _ H11B.out Tryd.underlying33 rfl (by rw [hash_size HAL.out]; exact hashInfo) ?_) | (refine wpList_load_row (by rfl) 33 (.tmp 13) (by rfl) g13 (by rfl) 33 (Lib.byteCells Bh).toArray (0, 0) _ H13.out Tryd.underlying33 rfl (by rw [hash_size HBL.out]; exact hashInfo) ?_) | (go_at_call 16; refine (HND.out wB HBB.out).mono ?_))
        first
          | rintro x wC rfl hbC
          | rintro x wC ⟨rfl, hbC⟩
        have H11C := Lib.hid (below_heap hbC H11B.out)
        have H8C := Lib.hid (below_heap hbC H8B.out)
        have HBC := Lib.hid (HBB.out.trans (hbC.mono HBB.out.size))
        clear hbC
        go_wp2_with (refine wpList_store_row (by rfl) 33 (.tmp 11) (.tmp 55) (by rfl) g11 (Lib.byteCells N).toArray (by rfl) (by rfl) 33 (Lib.byteCells A).toArray H11C.out (by rw [hash_size HNL.out]; exact hashInfo) (by rw [hash_size HNL.out, hash_size HAL.out]) (byteCells_one N) ?_)
        have H11D := Lib.hid (setRow_heap wC g11 _ (Lib.byteCells N).toArray 33 (0, 0) H11C.out)
        have H8D := Lib.hid ((setRow_other wC g11 (w.heap.size + 1) (Lib.byteCells N).toArray HN8.out).trans H8C.out)
        have HBD := Lib.hid (below_setRow HBC.out HG11.out (Lib.byteCells N).toArray)
        generalize wC.setRow g11 (Lib.byteCells N).toArray = wD at *
        go_wp2_with fail
        exact ⟨⟨.inr ⟨rfl, rfl, rfl, H11D.out⟩, H8D.out, HBD.out⟩, by simp [intOf]⟩
      · have H11A := Lib.hid h11
        clear h8 h11 hbel
        go_wp2_with (first | (refine wpList_load_row (by rfl) 33 (.tmp 11) (by rfl) g11 (by rfl) 33 (Lib.byteCells N).toArray (0, 0) _ H11A.out Tryd.underlying33 rfl (by rw [hash_size HNL.out]; exact hashInfo) ?_) | (refine wpList_store_row (by rfl) 33 (.tmp 8) (.tmp 65) (by rfl) (w.heap.size + 1) (Lib.byteCells N).toArray (by rfl) (by rfl) 33 (Lib.byteCells z32).toArray H8A.out (by rw [hash_size HNL.out]; exact hashInfo) (by rw [hash_size HNL.out, hash_size hzs]) (byteCells_one N) ?_))
        have HRE := Lib.hid (setRow_heap wA (w.heap.size + 1) _ (Lib.byteCells N).toArray 33 (0, 0) H8A.out)
        have HBR := Lib.hid (below_setRow HBL2.out (Nat.le_succ _) (Lib.byteCells N).toArray)
        generalize wA.setRow (w.heap.size + 1) (Lib.byteCells N).toArray = wJ at *
        go_wp2_with fail
        refine bodyPost_ret (v := .tuple #[.agg (Lib.byteCells N).toArray, .nilIface]) ?_ rfl ⟨rfl, HBR.out⟩
        exact results_row_tmp rfl _ _ (w.heap.size + 1) 33 _ (0, 0) _ _ rfl rfl HRE.out Tryd.underlying33 rfl (by rw [hash_size HNL.out]; exact hashInfo)
set_option maxHeartbeats 2000000 in
set_option maxRecDepth 100000 in
theorem root_one (S : Nat → Addr) (A Bh : List UInt8) (u : Value) (w : World) (hF : FW S w) (hA : A.length = 32) (hu : HsIn w u [Bh]) :
    Calls Tryd.prog 29 #[.int .u64 1, .int .u64 2, .agg (Lib.byteCells A).toArray, u] w fun x w' => x = .returned (.tuple #[.agg (Lib.byteCells (shaL (nodeT Bh A))).toArray, .nilIface]) ∧ Below w.heap.size w w' := by
  obtain ⟨z32, hz32, hzs⟩ := z32_ex2
  obtain ⟨hBl, ao, cap, rfl, _, hr0⟩ := hu
  obtain ⟨g, o, hao, hr⟩ := hr0 (by simp)
  subst hao
  clear hr0
  have HBL := Lib.hid (hBl Bh (List.mem_singleton.2 rfl))
  have HAL := Lib.hid hA
  have HF := Lib.hid hF
  have HR := Lib.hid hr
  obtain ⟨N, hN⟩ : ∃ N, shaL (nodeT Bh A) = N := ⟨_, rfl⟩
  have HNL := Lib.hid (show N.length = 32 by rw [← hN]; exact shaL_len _)
  have HND := Lib.hid fun (W : World) (hb : Below w.heap.size w W) => (by
    have h := node_any Bh A (hBl Bh (List.mem_singleton.2 rfl)) hA W (hF.below hb).tab (hF.below hb).lt
    rw [show shaL (1 :: (Bh ++ A)) = N from hN] at h
    exact h)
  rw [hN]
  clear hF hr hBl hA
  go_enter Tryd.func29, Tryd.ntmps29
  go_upto_region 3 with fail
  have h6 := heap_one w (.cells (Lib.byteCells A).toArray 33)
  have hb6 := below_one w (.cells (Lib.byteCells A).toArray 33)
  have hs6 : (w.alloc (.cells (Lib.byteCells A).toArray 33)).heap.size = w.heap.size + 1 := by simp
  have h8 := heap_one (w.alloc (.cells (Lib.byteCells A).toArray 33)) (.cells (Lib.byteCells z32).toArray 33)
  have hb8 := below_one (w.alloc (.cells (Lib.byteCells A).toArray 33)) (.cells (Lib.byteCells z32).toArray 33)
  have h6 := below_heap hb8 h6
  have hb := hb6.trans (hb8.mono hb6.size)
  rw [hs6] at h8
  generalize (w.alloc (.cells (Lib.byteCells A).toArray 33)).alloc (.cells (Lib.byteCells z32).toArray 33) = wo at *
  have H8 := Lib.hid h8
  have HBO := Lib.hid hb
  have HZS := Lib.hid hzs
  clear hb6 hs6 h8 hb8 hb
  go_cut [10, 11] (fun s1 s2 wx => ∃ g, s1 = .int .u64 1 ∧ s2 = .pointer (some ⟨g, 0, none⟩) ∧ wx.heap[g]? = some (.cells (Lib.byteCells A).toArray 33 (0, 0)) ∧ wo.heap.size ≤ g ∧ Below wo.heap.size wo wx)
  case first =>
    have HK := Lib.hid (fun (W' : World) (hb : Below wo.heap.size wo W') => (⟨hb, range_row (below_heap hb h6)⟩ : Below wo.heap.size wo W' ∧ W'.rangeAt w.heap.size 0 (Lib.byteCells A)))
    have hone := cells_oneC A
    have hund := Tryd.underlying33
    have hinf : (Tryd.prog.info? 33).map (fun x => x.size) = some (Lib.byteCells A).length := by rw [Lib.byteCells_length, HAL.out]; exact hashInfo
    have hr3 : ((wo.alloc (.cells (Lib.byteCells z32).toArray 33)).drew).heap[wo.heap.size]? = some (.cells (Lib.byteCells z32).toArray 33 (0, 0)) := below_heap ((Below.refl (wo.alloc (.cells (Lib.byteCells z32).toArray 33)).heap.size _).drew) (heap_one wo _)
    have hthr : ((wo.alloc (.cells (Lib.byteCells z32).toArray 33)).drew).there wo.heap.size 0 (Lib.byteCells A).length := there_row hr3 (by rw [Lib.byteCells_length, HAL.out, hash_size HZS.out]; exact Nat.le_refl _)
    have hsc := setCells_row hr3 (hash_size HZS.out) A HAL.out
    have hsr := setRow_heap ((wo.alloc (.cells (Lib.byteCells z32).toArray 33)).drew) wo.heap.size _ (Lib.byteCells A).toArray 33 (0, 0) hr3
    have hsb := below_setRow (below_one wo (.cells (Lib.byteCells z32).toArray 33)).drew (Nat.le_refl _) (Lib.byteCells A).toArray
    go_region_held3 (fun W' => Below wo.heap.size wo W' ∧ W'.rangeAt w.heap.size 0 (Lib.byteCells A))
      (first | exact HK.out _ (below_drewN (Below.refl _ _) 1) | exact HK.out _ (below_one wo _).drew | (rw [hsc]; exact HK.out _ hsb))
      (fail)
    all_goals (go_wp2_with fail; go_meet; exact ⟨_, by rfl, rfl, by rw [hsc]; exact hsr, Nat.le_refl _, by rw [hsc]; exact hsb⟩)
  case rest =>
    obtain ⟨g11, rfl, rfl, h11, hg11, hbx⟩ := hcut
    have HN8 := Lib.hid (show w.heap.size + 1 ≠ g11 from by have h1 := lt_of_heap H8.out; omega)
    have H8 := Lib.hid (below_heap hbx H8.out)
    have HBX := Lib.hid (HBO.out.trans (hbx.mono HBO.out.size))
    have H11 := Lib.hid h11
    have HG11 := Lib.hid (show w.heap.size ≤ g11 from Nat.le_trans HBO.out.size hg11)
    clear h11 hg11 hbx hz32 HBO
    go_wp2_with fail
    go_loopw [0, 10, 28] (fun iv lv kv wr => RKRel 1 A N z32 w (w.heap.size + 1) g11 iv lv kv wr) (fun _ _ kv _ => 1 - (intOf kv).toNat)
    case atStart => exact ⟨.inl ⟨rfl, rfl, rfl, H11.out⟩, H8.out, HBX.out⟩
    case round =>
      obtain ⟨hcase, h8, hbel⟩ := hrel
      rename World => wA
      have HBL2 := Lib.hid hbel
      have H8A := Lib.hid h8
      rcases hcase with ⟨rfl, rfl, rfl, h11⟩ | ⟨rfl, rfl, rfl, h11⟩
      · have H11A := Lib.hid h11
        have HRA := Lib.hid (range_below hbel HR.out)
        clear h8 h11 hbel
        go_upto_region 7 with (first | (refine wpList_hashLoad2 (by rfl) (.tmp 30) (by rfl) g o (by rfl) Bh HBL.out (fun j v hv => by have h := HRA.out j v (by simpa [hcells] using hv); exact h) ?_) | (refine wpList_hash (by rfl) (.tmp 13) (.tmp 31) (by rfl) (by rfl) (by rfl) (hash_size HBL.out) (by rfl) (byteCells_one Bh) ?_))
        have H13 := Lib.hid (heap_one wA (.cells (Lib.byteCells Bh).toArray 33))
        have hbB := below_one wA (.cells (Lib.byteCells Bh).toArray 33)
        have H11B := Lib.hid (below_heap hbB H11A.out)
        have H8B := Lib.hid (below_heap hbB H8A.out)
        have HBB := Lib.hid (HBL2.out.trans (hbB.mono HBL2.out.size))
        generalize wA.alloc (.cells (Lib.byteCells Bh).toArray 33) = wB at *
        generalize wA.heap.size = g13 at *
        clear hbB
        go_wp2_with (first | (refine wpList_load_row (by rfl) 33 (.tmp 11) (by rfl) g11 (by rfl) 33 (Lib.byteCells A).toArray (0, 0) _ H11B.out Tryd.underlying33 rfl (by rw [hash_size HAL.out]; exact hashInfo) ?_) | (refine wpList_load_row (by rfl) 33 (.tmp 13) (by rfl) g13 (by rfl) 33 (Lib.byteCells Bh).toArray (0, 0) _ H13.out Tryd.underlying33 rfl (by rw [hash_size HBL.out]; exact hashInfo) ?_) | (go_at_call 16; refine (HND.out wB HBB.out).mono ?_))
        first
          | rintro x wC rfl hbC
          | rintro x wC ⟨rfl, hbC⟩
        have H11C := Lib.hid (below_heap hbC H11B.out)
        have H8C := Lib.hid (below_heap hbC H8B.out)
        have HBC := Lib.hid (HBB.out.trans (hbC.mono HBB.out.size))
        clear hbC
        go_wp2_with (refine wpList_store_row (by rfl) 33 (.tmp 11) (.tmp 46) (by rfl) g11 (Lib.byteCells N).toArray (by rfl) (by rfl) 33 (Lib.byteCells A).toArray H11C.out (by rw [hash_size HNL.out]; exact hashInfo) (by rw [hash_size HNL.out, hash_size HAL.out]) (byteCells_one N) ?_)
        have H11D := Lib.hid (setRow_heap wC g11 _ (Lib.byteCells N).toArray 33 (0, 0) H11C.out)
        have H8D := Lib.hid ((setRow_other wC g11 (w.heap.size + 1) (Lib.byteCells N).toArray HN8.out).trans H8C.out)
        have HBD := Lib.hid (below_setRow HBC.out HG11.out (Lib.byteCells N).toArray)
        generalize wC.setRow g11 (Lib.byteCells N).toArray = wD at *
        go_wp2_with (go_at_call 45; refine (up_one _).mono ?_; rintro e w' ⟨rfl, rfl⟩)
        exact ⟨⟨.inr ⟨rfl, rfl, rfl, H11D.out⟩, H8D.out, HBD.out⟩, by simp [intOf]⟩
      · have H11A := Lib.hid h11
        clear h8 h11 hbel
        go_wp2_with (first | (refine wpList_load_row (by rfl) 33 (.tmp 11) (by rfl) g11 (by rfl) 33 (Lib.byteCells N).toArray (0, 0) _ H11A.out Tryd.underlying33 rfl (by rw [hash_size HNL.out]; exact hashInfo) ?_) | (refine wpList_store_row (by rfl) 33 (.tmp 8) (.tmp 65) (by rfl) (w.heap.size + 1) (Lib.byteCells N).toArray (by rfl) (by rfl) 33 (Lib.byteCells z32).toArray H8A.out (by rw [hash_size HNL.out]; exact hashInfo) (by rw [hash_size HNL.out, hash_size hzs]) (byteCells_one N) ?_))
        have HRE := Lib.hid (setRow_heap wA (w.heap.size + 1) _ (Lib.byteCells N).toArray 33 (0, 0) H8A.out)
        have HBR := Lib.hid (below_setRow HBL2.out (Nat.le_succ _) (Lib.byteCells N).toArray)
        generalize wA.setRow (w.heap.size + 1) (Lib.byteCells N).toArray = wJ at *
        go_wp2_with fail
        refine bodyPost_ret (v := .tuple #[.agg (Lib.byteCells N).toArray, .nilIface]) ?_ rfl ⟨rfl, HBR.out⟩
        exact results_row_tmp rfl _ _ (w.heap.size + 1) 33 _ (0, 0) _ _ rfl rfl HRE.out Tryd.underlying33 rfl (by rw [hash_size HNL.out]; exact hashInfo)
end Go.Proofs.YthcccgbodceeeaaDoor
