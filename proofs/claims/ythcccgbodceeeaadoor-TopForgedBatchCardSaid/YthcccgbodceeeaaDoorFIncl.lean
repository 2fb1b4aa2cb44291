/-
  verify.Inclusion and naive.Path of the two leaves' tree.
-/
import Derived.Test.YthcccgbodceeeaaDoorFUp
namespace Go.Proofs.YthcccgbodceeeaaDoor
open Go.RowKit

/-- What verify.Root says at index i. -/
def nodeAt (i : Nat) (A Bh : List UInt8) : List UInt8 := if i = 0 then shaL (nodeT A Bh) else shaL (nodeT Bh A)
theorem nodeAt_len (i : Nat) (A Bh : List UInt8) : (nodeAt i A Bh).length = 32 := by
  unfold nodeAt
  split <;> exact shaL_len _
theorem root_at (S : Nat → Addr) (i : Nat) (hi : i < 2) (A Bh : List UInt8) (u : Value) (w : World) (hF : FW S w) (hA : A.length = 32) (hu : HsIn w u [Bh]) :
    Calls Tryd.prog 29 #[.int .u64 (i : Int), .int .u64 2, .agg (Lib.byteCells A).toArray, u] w fun x w' => x = .returned (.tuple #[.agg (Lib.byteCells (nodeAt i A Bh)).toArray, .nilIface]) ∧ Below w.heap.size w w' := by
  rcases Nat.lt_or_ge i 1 with h | h
  · obtain rfl : i = 0 := by omega
    exact root_zero S A Bh u w hF hA hu
  · obtain rfl : i = 1 := by omega
    exact root_one S A Bh u w hF hA hu
set_option maxHeartbeats 2000000 in
set_option maxRecDepth 100000 in
theorem incl_at (S : Nat → Addr) (i : Nat) (hi : i < 2) (A Bh R : List UInt8) (u : Value) (w : World) (hF : FW S w) (hA : A.length = 32) (hR : R.length = 32) (hu : HsIn w u [Bh]) :
    Calls Tryd.prog 17 #[.int .u64 (i : Int), .int .u64 2, .agg (Lib.byteCells A).toArray, u, .agg (Lib.byteCells R).toArray] w fun x w' => x = .returned (if nodeAt i A Bh = R then .nilIface else errV S 4) ∧ Below w.heap.size w w' := by
  have h7 := heap_one w (.cells (Lib.byteCells A).toArray 33)
  have hb7 := below_one w (.cells (Lib.byteCells A).toArray 33)
  have hs7 : (w.alloc (.cells (Lib.byteCells A).toArray 33)).heap.size = w.heap.size + 1 := by simp
  have h9 := heap_one (w.alloc (.cells (Lib.byteCells A).toArray 33)) (.cells (Lib.byteCells R).toArray 33)
  have hb9 := below_one (w.alloc (.cells (Lib.byteCells A).toArray 33)) (.cells (Lib.byteCells R).toArray 33)
  have h7 := below_heap hb9 h7
  have hb := hb7.trans (hb9.mono hb7.size)
  rw [hs7] at h9
  have HRT := Lib.hid (root_at S i hi A Bh u ((w.alloc (.cells (Lib.byteCells A).toArray 33)).alloc (.cells (Lib.byteCells R).toArray 33)) (hF.below hb) hA (hu.below hb))
  have HNL := Lib.hid (nodeAt_len i A Bh)
  obtain ⟨N, hN⟩ : ∃ N, nodeAt i A Bh = N := ⟨_, rfl⟩
  rw [hN] at HRT HNL ⊢
  obtain ⟨_, ao, cap, rfl, _, _⟩ := hu
  have HF := Lib.hid hF
  have HAL := Lib.hid hA
  have HRL := Lib.hid hR
  have H7 := Lib.hid h7
  have H9 := Lib.hid h9
  have HBO := Lib.hid hb
  obtain ⟨V, hV⟩ : ∃ V, (if N = R then Value.nilIface else errV S 4) = V := ⟨_, rfl⟩
  rw [hV]
  have HVV := Lib.hid hV
  clear hF hA hR h7 h9 hb hb7 hs7 hb9 hN hV
  go_enter Tryd.func17, Tryd.ntmps17
  go_upto_region 1 with fail
  generalize (w.alloc (.cells (Lib.byteCells A).toArray 33)).alloc (.cells (Lib.byteCells R).toArray 33) = wo at *
  go_wp2_with (first | (refine wpList_load_row (by rfl) 33 (.tmp 7) (by rfl) w.heap.size (by rfl) 33 (Lib.byteCells A).toArray (0, 0) _ H7.out Tryd.underlying33 rfl (by rw [hash_size HAL.out]; exact hashInfo) ?_) | (go_at_call 29; refine HRT.out.mono ?_))
  first
    | rintro x w1 rfl hb1
    | rintro x w1 ⟨rfl, hb1⟩
  have H9 := Lib.hid (below_heap hb1 H9.out)
  have HB1 := Lib.hid (HBO.out.trans (hb1.mono HBO.out.size))
  clear hb1
  go_upto_region 4 with (refine wpList_hash (by rfl) (.tmp 11) (.tmp 19) (by rfl) (by rfl) (by rfl) (hash_size HNL.out) (by rfl) (byteCells_one N) ?_)
  have H11 := Lib.hid (heap_one w1 (.cells (Lib.byteCells N).toArray 33))
  have hb2 := below_one w1 (.cells (Lib.byteCells N).toArray 33)
  have H9 := Lib.hid (below_heap hb2 H9.out)
  have HB2 := Lib.hid (HB1.out.trans (hb2.mono HB1.out.size))
  generalize w1.alloc (.cells (Lib.byteCells N).toArray 33) = w2 at *
  generalize w1.heap.size = g11 at *
  clear hb2
  by_cases hNR : N = R
  · have HP := Lib.hid (show V = .nilIface by rw [← HVV.out, if_pos hNR])
    have HD := Lib.hid (show false = decide (N ≠ R) by simp [hNR])
    clear hNR
    go_wp2_with (first | (refine wpList_load_row (by rfl) 33 (.tmp 11) (by rfl) g11 (by rfl) 33 (Lib.byteCells N).toArray (0, 0) _ H11.out Tryd.underlying33 rfl (by rw [hash_size HNL.out]; exact hashInfo) ?_) | (refine wpList_load_row (by rfl) 33 (.tmp 9) (by rfl) (w.heap.size + 1) (by rfl) 33 (Lib.byteCells R).toArray (0, 0) _ H9.out Tryd.underlying33 rfl (by rw [hash_size HRL.out]; exact hashInfo) ?_) | (refine wpList_hashNe (by rfl) (.tmp 24) (.tmp 25) _ (by rfl) N R (by rfl) (by rfl) HNL.out HRL.out false HD.out ?_))
    go_ret
    exact ⟨by rw [HP.out]; rfl, HB2.out⟩
  · have HP := Lib.hid (show V = .iface 125 (.pointer (some (S 4))) by rw [← HVV.out, if_neg hNR]; rfl)
    have HD := Lib.hid (show true = decide (N ≠ R) from (decide_eq_true hNR).symm)
    have g4 := (HF.out.below HB2.out).var 4 (by omega)
    simp only [errG, errV] at g4
    clear hNR
    go_wp2_with (first | (refine wpList_load_row (by rfl) 33 (.tmp 11) (by rfl) g11 (by rfl) 33 (Lib.byteCells N).toArray (0, 0) _ H11.out Tryd.underlying33 rfl (by rw [hash_size HNL.out]; exact hashInfo) ?_) | (refine wpList_load_row (by rfl) 33 (.tmp 9) (by rfl) (w.heap.size + 1) (by rfl) 33 (Lib.byteCells R).toArray (0, 0) _ H9.out Tryd.underlying33 rfl (by rw [hash_size HRL.out]; exact hashInfo) ?_) | (refine wpList_hashNe (by rfl) (.tmp 24) (.tmp 25) _ (by rfl) N R (by rfl) (by rfl) HNL.out HRL.out true HD.out ?_))
    go_ret
    exact ⟨by rw [HP.out]; rfl, HB2.out⟩
set_option maxHeartbeats 1000000 in
set_option maxRecDepth 100000 in
theorem npath_known (S : Nat → Addr) (lb : Nat) (ls : List ByteArray) (w : World) (hF : FW S w) (hL : LogAt w lb ls) (hl2 : ls.length = 2) (hls : ∀ s ∈ ls, s.size ≤ 65536) :
    Calls Tryd.prog 15 #[.pointer (some ⟨lb, 0, none⟩), .int .u64 0, .int .u64 2] w fun x w' => HKPost (shaL (leafT (lf ls 1))) w x w' := by
  have HP := Lib.hid (path_known w)
  have HH := Lib.hid fun (W : World) (u : Value) (hb : Below w.heap.size w W) (hu : SpIn W u [(1, 2)]) => hashes_known S lb ls u W (hF.below hb) (hL.below hb) hl2 hls hu
  obtain ⟨H, hH⟩ : ∃ H, shaL (leafT (lf ls 1)) = H := ⟨_, rfl⟩
  rw [hH] at HH ⊢
  clear hF hL hl2 hls hH
  go_enter Tryd.func15, Tryd.ntmps15
  go_wp2_with (go_at_call 27; refine HP.out.mono ?_)
  rintro x w1 ⟨u, rfl, hu, hb1⟩
  have HB1 := Lib.hid hb1
  have HU := Lib.hid hu
  obtain ⟨ao, cap, rfl, _⟩ := hu
  clear hb1
  go_wp2_with (go_at_call 28; refine (HH.out w1 _ HB1.out HU.out).mono ?_)
  rintro x w2 ⟨v, rfl, hv, hb2⟩
  have HB2 := Lib.hid (HB1.out.trans (hb2.mono HB1.out.size))
  have HV := Lib.hid hv
  clear hv hb2
  go_wp2_with fail
  go_ret2
  exact ⟨v, rfl, HV.out, HB2.out⟩
end Go.Proofs.YthcccgbodceeeaaDoor
