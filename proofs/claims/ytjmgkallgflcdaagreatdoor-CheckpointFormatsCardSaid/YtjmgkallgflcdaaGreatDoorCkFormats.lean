/-
  PROVED: cartularylaw21.CheckpointFormats returns true, whatever the checkpoint (the tied card of its row). Conditions: those of the row: each text and each list takes at most the bytes that the form allows; the listed package-level variables hold what the program lays.
-/
import Derived.Test.YtjmgkallgflcdaaGreatDoorTwinCk
import Derived.Test.YtjmgkallgflcdaaGreatDoorRefCkF
import Derived.Test.YtjmgkallgflcdaaGreatDoorTold
import Derived.Test.YtjmgkallgflcdaaGreatDoorCheckpointFormatsFrame
namespace Go.Proofs.YtjmgkallgflcdaaGreatDoor
open Go.RowKit

theorem fmt_ans (st : CkSt) : okAns (fmtCk st).2 none := by
  by_cases h : (fmtCk st).2 = 0
  · exact .inl ⟨h, rfl⟩
  · exact .inr (.inl ⟨h, rfl⟩)

set_option maxHeartbeats 4000000 in
set_option maxRecDepth 100000 in
theorem ckformats_walk (S : Nat → Addr) (w : World) (o : List UInt8) (z : Nat) (r : List UInt8) (ev : Value) (L : List (List UInt8)) (hck : CkArg w o z r ev L) (hB : Base S w) (htab : Tab w) :
    Calls Tryz.prog 3 #[.agg (ckList ⟨o.toArray⟩ (z : Int) (Lib.byteCells r) ev).toArray] w fun e w' => e = .returned (.bool true) ∧ Below w.heap.size w w' := by
  obtain ⟨h32, hz, hT, hlo, hlL, hle⟩ := hck
  obtain ⟨ao, cap, rfl, hcells⟩ := id hT
  clear hcells
  have b1 : Below w.heap.size w (w.alloc (.cells (ckList ⟨o.toArray⟩ (z : Int) (Lib.byteCells r) (.slice ao L.length cap)).toArray 27)) := (Below.refl _ _).alloc (Nat.le_refl _) _
  have hrow : CkRow (w.alloc (.cells (ckList ⟨o.toArray⟩ (z : Int) (Lib.byteCells r) (.slice ao L.length cap)).toArray 27)) w.heap.size ⟨o.toArray⟩ (z : Int) (Lib.byteCells r) (.slice ao L.length cap) := ⟨by rw [Lib.byteCells_length, h32], heap_alloc_new w _⟩
  have h35 : (ckList ⟨o.toArray⟩ (z : Int) (Lib.byteCells r) (.slice ao L.length cap)).toArray.size = 35 := by simp [ckList, Lib.byteCells_length, h32]
  have HB := Lib.hid hB
  have HTAB := Lib.hid htab
  have HT := Lib.hid hT
  have HLE := Lib.hid hle
  clear hB htab hT hle
  go_enter Tryz.func3, Tryz.ntmps3
  go_upto_region 1 with fail
  generalize w.alloc (.cells (ckList ⟨o.toArray⟩ (z : Int) (Lib.byteCells r) (.slice ao L.length cap)).toArray 27) = W1 at *
  obtain ⟨c0, c1, c34, _⟩ := hrow.cells
  have HROW := Lib.hid hrow
  have H35 := Lib.hid h35
  have HTS := Lib.hid (textsSize_any W1 _ L (HT.out.below b1) hlL HLE.out)
  clear hrow h35
  go_wp2_with fail
  refine HTS.out.mono ?_
  rintro e w2 ⟨N, hN, hNL, rfl, b2⟩
  have d2 : Below w.heap.size w w2 := b1.trans (b2.mono b1.size)
  have b3 : Below w2.heap.size w2 (w2.alloc (.cells #[.int .i64 (N : Int)] 3)) := (Below.refl _ _).alloc (Nat.le_refl _) _
  have hc3 : (w2.alloc (.cells #[.int .i64 (N : Int)] 3)).cell? ⟨w2.heap.size, 0, none⟩ = some (.int .i64 (N : Int)) := by
    rw [cell_of_row _ _ 0 _ _ _ (heap_alloc_new w2 _)]
    rfl
  have HBY := Lib.hid (beyond_one _ w2.heap.size N hc3 hN)
  have d3 := below_trans d2 b3
  have HR2 := Lib.hid (HROW.out.below b2)
  clear hc3 c0 c1 c34 b2 HTS HROW
  go_wp2_with fail
  have HR3 := Lib.hid (HR2.out.below b3)
  generalize w2.alloc (.cells #[.int .i64 (N : Int)] 3) = w3 at *
  clear HR2 b3
  by_cases hb : 1048576 < N
  · have h2 := HBY.out
    rw [decide_eq_true hb] at h2
    refine h2.mono ?_
    rintro e w4 ⟨rfl, b4⟩
    go_wp2_with fail
    go_ret
    exact ⟨rfl, below_trans d3 b4⟩
  have hL := Nat.le_trans (hNL (by omega)) (show N ≤ 1048576 by omega)
  have h2 := HBY.out
  rw [decide_eq_false hb] at h2
  refine h2.mono ?_
  rintro e w4 ⟨rfl, b4⟩
  have d4 := below_trans d3 b4
  have HR4 := Lib.hid (HR3.out.below b4)
  have HTW := Lib.hid (twinCk_any w4 ⟨o.toArray⟩ z r (.slice ao L.length cap) L h32 (HT.out.below d4) hL (tab_below HTAB.out d4))
  clear b4 HR3 HBY h2 hb hN hNL
  go_wp2_with (first | (refine wpList_ckLoad (by rfl) (.tmp 1) (by rfl) (by rfl) HR4.out.2 H35.out ?_))
  refine HTW.out.mono ?_
  rintro e w5 ⟨g, rfl, b5, htw⟩
  have h35t : (ckList ⟨o.toArray⟩ (z : Int) (Lib.byteCells r) (.slice (some ⟨g, 0, none⟩) L.length (L.length + 1))).toArray.size = 35 := by simp [ckList, Lib.byteCells_length, h32]
  have honet : (ckList ⟨o.toArray⟩ (z : Int) (Lib.byteCells r) (.slice (some ⟨g, 0, none⟩) L.length (L.length + 1))).toArray.all (·.oneCell') = true := ckList_one rfl
  have H35T := Lib.hid h35t
  have HONET := Lib.hid honet
  have d5 := below_trans d4 b5
  have hr5 := HR4.out.below b5
  have b6 : Below w5.heap.size w5 (w5.alloc (.cells (ckList ⟨o.toArray⟩ (z : Int) (Lib.byteCells r) (.slice (some ⟨g, 0, none⟩) L.length (L.length + 1))).toArray 27)) := (Below.refl _ _).alloc (Nat.le_refl _) _
  have hrt6 : (w5.alloc (.cells (ckList ⟨o.toArray⟩ (z : Int) (Lib.byteCells r) (.slice (some ⟨g, 0, none⟩) L.length (L.length + 1))).toArray 27)).heap[w5.heap.size]? = some (.cells (ckList ⟨o.toArray⟩ (z : Int) (Lib.byteCells r) (.slice (some ⟨g, 0, none⟩) L.length (L.length + 1))).toArray 27 (0, 0)) := heap_alloc_new w5 _
  have d6 := below_trans d5 b6
  have HR6 := Lib.hid (hr5.below b6)
  have HRT6 := Lib.hid hrt6
  have HTW6 := Lib.hid (htw.below b6)
  have HFM := Lib.hid (format_any S (w5.alloc (.cells (ckList ⟨o.toArray⟩ (z : Int) (Lib.byteCells r) (.slice (some ⟨g, 0, none⟩) L.length (L.length + 1))).toArray 27)) o z r L (.slice (some ⟨g, 0, none⟩) L.length (L.length + 1)) h32 (htw.below b6).in_ hz hlo (by omega) (fun x hx => by have := HLE.out x hx; omega) (HB.out.below d6) (tab_below HTAB.out d6))
  clear h35t honet b5 htw hr5 b6 hrt6 HR4 HTW
  go_wp2_with (first | (refine wpList_ck (by rfl) (.tmp 3) (.tmp 14) (by rfl) (by rfl) (by rfl) H35T.out HONET.out ?_) | (refine wpList_ckLoad (by rfl) (.tmp 3) (by rfl) (by rfl) HRT6.out H35T.out ?_))
  generalize w5.alloc (.cells (ckList ⟨o.toArray⟩ (z : Int) (Lib.byteCells r) (.slice (some ⟨g, 0, none⟩) L.length (L.length + 1))).toArray 27) = w6 at *
  refine HFM.out.mono ?_
  rintro e w7 ⟨er, rfl, b7, he⟩
  have d7 := below_trans d6 b7
  have HR7 := Lib.hid (HR6.out.below b7)
  have HRT7 := Lib.hid (below_heap b7 HRT6.out)
  have HTW7 := Lib.hid (HTW6.out.below b7)
  have HE7 := Lib.hid he
  have HRF := Lib.hid (refFormat_any w7 o z r L (.slice ao L.length cap) h32 (HT.out.below d7) hz (by omega))
  have HOK := Lib.hid (sameB_fz (fmt_ans (o, z, r, L)))
  clear b7 he HR6 HRT6 HTW6 HFM
  generalize fmtCk (o, z, r, L) = F at *
  obtain ⟨ft, fc⟩ := F
  simp only [] at HE7 HRF HOK ⊢
  generalize (⟨ft.toArray⟩ : ByteArray) = fb at *
  have hff : (fb.toList == fb.toList) = true := beq_self_eq_true _
  go_wp2_with (first | (refine wpList_ckLoad (by rfl) (.tmp 1) (by rfl) (by rfl) HR7.out.2 H35.out ?_))
  refine HRF.out.mono ?_
  rintro e w8 ⟨rfl, b8⟩
  have d8 := below_trans d7 b8
  have HR8 := Lib.hid (HR7.out.below b8)
  have HRT8 := Lib.hid (below_heap b8 HRT7.out)
  have HTW8 := Lib.hid (HTW7.out.below b8)
  have HE8 := Lib.hid (HE7.out.below b8)
  clear b8 HR7 HRT7 HTW7 HE7 HRF
  go_wp2_with fail
  have b9 : Below w8.heap.size w8 (w8.alloc (.cells #[.int .i64 (fc : Int), .int .i64 (fz fc none)] 36)) := (Below.refl _ _).alloc (Nat.le_refl _) _
  generalize w8.alloc (.cells #[.int .i64 (fc : Int), .int .i64 (fz fc none)] 36) = w9 at *
  have d9 := below_trans d8 b9
  refine (same_any S w9 er fc none (fc : Int) (fz fc none) (HB.out.below d9) (HE8.out.below b9)).mono ?_
  rintro e w10 ⟨rfl, b10⟩
  have e0 : Value.bool (sameB fc none (fc : Int) (fz fc none)) = .bool true := by rw [HOK.out]
  have d10 := below_trans d9 b10
  have HR10 := Lib.hid ((HR8.out.below b9).below b10)
  have HRT10 := Lib.hid (below_heap b10 (below_heap b9 HRT8.out))
  have HTW10 := Lib.hid ((HTW8.out.below b9).below b10)
  rw [e0]
  have HLC := Lib.hid (leftCk_any w10 w4.heap.size g o z r (.slice ao L.length cap) L h32 HTW10.out (HT.out.below d10) hL (tab_below HTAB.out d10))
  clear b9 b10 HR8 HRT8 HTW8 HE8 e0 HOK
  go_wp2_with (first | (refine wpList_ckLoad (by rfl) (.tmp 3) (by rfl) (by rfl) HRT10.out H35T.out ?_) | (refine wpList_ckLoad (by rfl) (.tmp 1) (by rfl) (by rfl) HR10.out.2 H35.out ?_))
  refine HLC.out.mono ?_
  rintro e w11 ⟨rfl, b11⟩
  have d11 := below_trans d10 b11
  clear b11 HLC
  go_wp2_with fail
  refine (alive21_any S w11 (HB.out.below d11) (tab_below HTAB.out d11)).mono ?_
  rintro e w12 ⟨rfl, b12⟩
  go_wp2_with fail
  go_ret
  exact ⟨rfl, below_trans d11 b12⟩
theorem checkpointFormats_walk : CheckpointFormatsFrame.Walk := fun S o z r ev L w hck hB hT => ckformats_walk S w o z r ev L hck hB hT
theorem checkpointFormats_card : Rows.CheckpointFormatsCardSaid := CheckpointFormatsFrame.card checkpointFormats_walk
end Go.Proofs.YtjmgkallgflcdaaGreatDoor
