/-
  cartularylaw01.TwinCheckpoint and LeftCheckpoint by contracts.
-/
import Derived.Test.YtjmgkallgflcdaaGreatDoorCkBack1
import Derived.Test.YtjmgkallgflcdaaGreatDoorTwin
import Derived.Laws.ResultCell
namespace Go.Proofs.YtjmgkallgflcdaaGreatDoor
open Go.RowKit

theorem heap_setCell_ne (w : World) (p : Addr) (v : Value) (j : Nat) (h : j ≠ p.block) : (w.setCell p v).heap[j]? = w.heap[j]? := heap_setCell_other w p j v h
theorem Twin.keep {B g : Nat} {w w' : World} {L : List (List UInt8)} (h : Twin B w g L) (hk : w'.heap[g]? = w.heap[g]?) : Twin B w' g L :=
  owns_keep h (fun g' hg => by
    obtain rfl : g = g' := by simpa [Value.ownBlock] using hg
    exact hk)
theorem Twin.mono {B B' g : Nat} {w : World} {L : List (List UInt8)} (h : Twin B w g L) (hB : B' ≤ B) : Twin B' w g L := by
  refine ⟨h.1, ?_⟩
  rcases h.2 with h' | ⟨g', cap, cur, e, hg, r⟩
  · exact .inl h'
  · exact .inr ⟨g', cap, cur, e, Nat.le_trans hB hg, r⟩

set_option maxHeartbeats 2000000 in
set_option maxRecDepth 100000 in
theorem twinCk_any (w : World) (o : ByteArray) (z : Nat) (r : List UInt8) (ev : Value) (L : List (List UInt8)) (h32 : r.length = 32) (hT : TextsIn w ev L) (hl : L.length ≤ 1048576) (htab : Tab w) :
    Calls Tryz.prog 8 #[.agg (ckList o (z : Int) (Lib.byteCells r) ev).toArray] w fun e w' => ∃ g, e = .returned (.agg (ckList o (z : Int) (Lib.byteCells r) (.slice (some ⟨g, 0, none⟩) L.length (L.length + 1))).toArray) ∧ Below w.heap.size w w' ∧ Twin w.heap.size w' g L := by
  have b0 : Below w.heap.size w (w.alloc (.cells (ckList o (z : Int) (Lib.byteCells r) ev).toArray 27)) := (Below.refl _ _).alloc (Nat.le_refl _) _
  have hs0 : (w.alloc (.cells (ckList o (z : Int) (Lib.byteCells r) ev).toArray 27)).heap.size = w.heap.size + 1 := by simp
  have hrow0 : CkRow (w.alloc (.cells (ckList o (z : Int) (Lib.byteCells r) ev).toArray 27)) w.heap.size o (z : Int) (Lib.byteCells r) ev := ⟨by rw [Lib.byteCells_length, h32], heap_alloc_new w _⟩
  obtain ⟨ao, c, rfl, hcells⟩ := id hT
  have HT := Lib.hid hT
  have HTAB := Lib.hid htab
  clear hcells hT htab
  go_enter Tryz.func8, Tryz.ntmps8
  go_upto_region 1 with fail
  rw [zero_lit]
  generalize w.alloc (.cells (ckList o (z : Int) (Lib.byteCells r) (.slice ao L.length c)).toArray 27) = W0 at *
  have b1 : Below W0.heap.size W0 (W0.alloc (.cells ckZero 27)) := (Below.refl _ _).alloc (Nat.le_refl _) _
  have hz1 : (W0.alloc (.cells ckZero 27)).heap[w.heap.size + 1]? = some (.cells ckZero 27 (0, 0)) := by rw [← hs0]; exact heap_alloc_new W0 _
  have hrow1 := hrow0.below b1
  have d1 := b0.trans (b1.mono b0.size)
  have hs1 : (W0.alloc (.cells ckZero 27)).heap.size = w.heap.size + 2 := by simp [hs0]
  generalize W0.alloc (.cells ckZero 27) = W1 at *
  obtain ⟨_, _, c34, _⟩ := hrow1.cells
  have HTW := Lib.hid (twinTexts_any W1 _ L (HT.out.below d1) hl (tab_below HTAB.out d1))
  have HROW := Lib.hid hrow1
  have HZ := Lib.hid hz1
  clear hrow1 hz1 hrow0 b0 b1 hs0
  clear W0
  go_wp2_with fail
  refine HTW.out.mono ?_
  rintro e w2 ⟨g, rfl, b2, htw⟩
  have hr2 := HROW.out.below b2
  have hz2 := below_heap b2 HZ.out
  have d2 := d1.trans (b2.mono d1.size)
  have hg := htw.lt
  rw [hs1] at hg
  have hr3 := hr2.set34 (.slice (some ⟨g, 0, none⟩) L.length (L.length + 1))
  obtain ⟨_, _, e34, fz⟩ := hr2.cells
  have f34 := fz 34
  have hz3 : (w2.setCell ⟨w.heap.size, 34, none⟩ (.slice (some ⟨g, 0, none⟩) L.length (L.length + 1))).heap[w.heap.size + 1]? = some (.cells ckZero 27 (0, 0)) := by
    rw [heap_setCell_ne _ _ _ _ (by show w.heap.size + 1 ≠ w.heap.size; omega)]
    exact hz2
  have ht3 : Twin w.heap.size (w2.setCell ⟨w.heap.size, 34, none⟩ (.slice (some ⟨g, 0, none⟩) L.length (L.length + 1))) g L := (htw.keep (heap_setCell_ne _ _ _ _ (by show g ≠ w.heap.size; omega))).mono (by omega)
  have d3 := d2.setCell (p := ⟨w.heap.size, 34, none⟩) (Nat.le_refl _) (.slice (some ⟨g, 0, none⟩) L.length (L.length + 1))
  have HR3 := Lib.hid hr3
  have HZ3 := Lib.hid hz3
  have HT3 := Lib.hid ht3
  have HD3 := Lib.hid d3
  clear hr2 hr3 hz2 hz3 ht3 d3 htw b2 fz HTW HROW HZ
  have h35 : (ckList o (z : Int) (Lib.byteCells r) (.slice (some ⟨g, 0, none⟩) L.length (L.length + 1))).toArray.size = 35 := by simp [ckList, Lib.byteCells_length, h32]
  have hone : (ckList o (z : Int) (Lib.byteCells r) (.slice (some ⟨g, 0, none⟩) L.length (L.length + 1))).toArray.all (·.oneCell') = true := ckList_one rfl
  have H35 := Lib.hid h35
  have HONE := Lib.hid hone
  clear h35 hone
  have hfin : ((w2.setCell ⟨w.heap.size, 34, none⟩ (.slice (some ⟨g, 0, none⟩) L.length (L.length + 1))).setRow (w.heap.size + 1) (ckList o (z : Int) (Lib.byteCells r) (.slice (some ⟨g, 0, none⟩) L.length (L.length + 1))).toArray).heap[w.heap.size + 1]? = some (.cells (ckList o (z : Int) (Lib.byteCells r) (.slice (some ⟨g, 0, none⟩) L.length (L.length + 1))).toArray 27 (0, 0)) := setRow_heap _ _ _ _ _ _ HZ3.out
  have HFIN := Lib.hid hfin
  clear hfin
  go_wp2_with (first | (refine wpList_ckLoad (by rfl) (.tmp 1) (by rfl) (by rfl) HR3.out.2 H35.out ?_) | (refine wpList_store_row rfl 27 (.tmp 2) (.tmp 7) rfl (w.heap.size + 1) _ rfl rfl 27 ckZero HZ3.out (by rw [H35.out]; exact ckInfo) (by rw [H35.out]; exact zero_size) HONE.out ?_))
  refine bodyPost_ret (v := .agg (ckList o (z : Int) (Lib.byteCells r) (.slice (some ⟨g, 0, none⟩) L.length (L.length + 1))).toArray) ?_ rfl ⟨g, rfl, below_setRow HD3.out (by omega) _, HT3.out.keep (setRow_other _ _ _ _ (by omega))⟩
  exact results_cell_row rfl _ _ (w.heap.size + 1) 27 _ (0, 0) _ rfl HFIN.out Tryz.underlying27 rfl (by rw [H35.out]; exact ckInfo)

set_option maxHeartbeats 2000000 in
set_option maxRecDepth 100000 in
theorem leftCk_any (w : World) (B g : Nat) (o : List UInt8) (z : Nat) (r : List UInt8) (ev : Value) (L : List (List UInt8)) (h32 : r.length = 32) (hTw : Twin B w g L) (hT : TextsIn w ev L) (hl : L.length ≤ 1048576) (htab : Tab w) :
    Calls Tryz.prog 12 #[.agg (ckList ⟨o.toArray⟩ (z : Int) (Lib.byteCells r) (.slice (some ⟨g, 0, none⟩) L.length (L.length + 1))).toArray, .agg (ckList ⟨o.toArray⟩ (z : Int) (Lib.byteCells r) ev).toArray] w fun e w' => e = .returned (.bool true) ∧ Below w.heap.size w w' := by
  have b0 : Below w.heap.size w (w.alloc (.cells (ckList ⟨o.toArray⟩ (z : Int) (Lib.byteCells r) (.slice (some ⟨g, 0, none⟩) L.length (L.length + 1))).toArray 27)) := (Below.refl _ _).alloc (Nat.le_refl _) _
  have hs0 : (w.alloc (.cells (ckList ⟨o.toArray⟩ (z : Int) (Lib.byteCells r) (.slice (some ⟨g, 0, none⟩) L.length (L.length + 1))).toArray 27)).heap.size = w.heap.size + 1 := by simp
  have hrow0 : CkRow (w.alloc (.cells (ckList ⟨o.toArray⟩ (z : Int) (Lib.byteCells r) (.slice (some ⟨g, 0, none⟩) L.length (L.length + 1))).toArray 27)) w.heap.size ⟨o.toArray⟩ (z : Int) (Lib.byteCells r) (.slice (some ⟨g, 0, none⟩) L.length (L.length + 1)) := ⟨by rw [Lib.byteCells_length, h32], heap_alloc_new w _⟩
  have h35a : (ckList ⟨o.toArray⟩ (z : Int) (Lib.byteCells r) (.slice (some ⟨g, 0, none⟩) L.length (L.length + 1))).toArray.size = 35 := by simp [ckList, Lib.byteCells_length, h32]
  have h35b : (ckList ⟨o.toArray⟩ (z : Int) (Lib.byteCells r) ev).toArray.size = 35 := by simp [ckList, Lib.byteCells_length, h32]
  obtain ⟨ao, c, rfl, hcells⟩ := id hT
  have HT := Lib.hid hT
  have HTW := Lib.hid hTw
  have HTAB := Lib.hid htab
  have H35A := Lib.hid h35a
  have H35B := Lib.hid h35b
  clear hcells hT htab hTw h35a h35b
  go_enter Tryz.func12, Tryz.ntmps12
  go_upto_region 1 with fail
  generalize w.alloc (.cells (ckList ⟨o.toArray⟩ (z : Int) (Lib.byteCells r) (.slice (some ⟨g, 0, none⟩) L.length (L.length + 1))).toArray 27) = W0 at *
  have b1 : Below W0.heap.size W0 (W0.alloc (.cells (ckList ⟨o.toArray⟩ (z : Int) (Lib.byteCells r) (.slice ao L.length c)).toArray 27)) := (Below.refl _ _).alloc (Nat.le_refl _) _
  have hrb : CkRow (W0.alloc (.cells (ckList ⟨o.toArray⟩ (z : Int) (Lib.byteCells r) (.slice ao L.length c)).toArray 27)) (w.heap.size + 1) ⟨o.toArray⟩ (z : Int) (Lib.byteCells r) (.slice ao L.length c) := ⟨by rw [Lib.byteCells_length, h32], by rw [← hs0]; exact heap_alloc_new W0 _⟩
  have hra := hrow0.below b1
  have d1 := b0.trans (b1.mono b0.size)
  generalize W0.alloc (.cells (ckList ⟨o.toArray⟩ (z : Int) (Lib.byteCells r) (.slice ao L.length c)).toArray 27) = W1 at *
  have HRA := Lib.hid hra
  have HRB := Lib.hid hrb
  have HSM := Lib.hid (sameCk_any W1 o o z z r r L L (.slice (some ⟨g, 0, none⟩) L.length (L.length + 1)) (.slice ao L.length c) h32 h32 (HTW.out.in_.below d1) (HT.out.below d1) (by omega) (by omega))
  clear hra hrb hrow0 b0 b1 hs0
  clear W0
  go_wp2_with (first | (refine wpList_ckLoad (by rfl) (.tmp 2) (by rfl) (by rfl) HRA.out.2 H35A.out ?_) | (refine wpList_ckLoad (by rfl) (.tmp 3) (by rfl) (by rfl) HRB.out.2 H35B.out ?_))
  refine HSM.out.mono ?_
  rintro e w2 ⟨rfl, b2⟩
  simp only [decide_true]
  have d2 := d1.trans (b2.mono d1.size)
  obtain ⟨_, _, e34, _⟩ := (HRA.out.below b2).cells
  obtain ⟨_, _, g34, _⟩ := (HRB.out.below b2).cells
  have HLT := Lib.hid (leftTexts_any w2 B g (.slice ao L.length c) L (HTW.out.below d2) (HT.out.below d2) hl (tab_below HTAB.out d2))
  clear b2 HSM
  go_wp2_with fail
  refine HLT.out.mono ?_
  rintro e w3 ⟨rfl, b3⟩
  go_wp2_with fail
  go_ret
  exact ⟨rfl, d2.trans (b3.mono d2.size)⟩
end Go.Proofs.YtjmgkallgflcdaaGreatDoor
