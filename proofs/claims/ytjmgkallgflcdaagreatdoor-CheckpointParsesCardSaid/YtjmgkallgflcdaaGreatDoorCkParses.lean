/-
  PROVED: cartularylaw21.CheckpointParses returns true, whatever the text (the tied card of its row). Conditions: those of the row: the text takes at most the bytes that the form allows; the listed package-level variables hold what the program lays.
-/
import Derived.Test.YtjmgkallgflcdaaGreatDoorCkBook
import Derived.Test.YtjmgkallgflcdaaGreatDoorCheckpointParsesFrame
namespace Go.Proofs.YtjmgkallgflcdaaGreatDoor
open Go.RowKit

set_option maxHeartbeats 4000000 in
set_option maxRecDepth 100000 in
theorem ckparses_walk (S : Nat → Addr) (s : ByteArray) (w : World) (hs : s.size ≤ 140737488351232) (hB : Base S w) (htab : Tab w) :
    Calls Tryz.prog 4 #[.string s] w fun e w' => e = .returned (.bool true) ∧ Below w.heap.size w w' := by
  have HB := Lib.hid hB
  have HTAB := Lib.hid htab
  obtain ⟨_, h32, h16, hok⟩ := parseCk_form s.data.toList
  have hok2 := sameB_fz hok
  obtain ⟨A, hA⟩ : ∃ A, parseCk s.data.toList = A := ⟨_, rfl⟩
  have HREF := Lib.hid (refParse_own s w (by omega) A hA)
  have HPA := Lib.hid fun W (hW : Base S W) => parse_own S s W hs hW A hA
  rw [hA] at h32 h16 hok2
  obtain ⟨_, g32, g16, _⟩ := parseCk_form (ByteArray.mk #[97, 10, 53, 10, 65, 65, 65, 65, 65, 65, 65, 65, 65, 65, 65, 65, 65, 65, 65, 65, 65, 65, 65, 65, 65, 65, 65, 65, 65, 65, 65, 65, 65, 65, 65, 65, 65, 65, 65, 65, 65, 65, 65, 65, 65, 65, 65, 61, 10, 120, 32, 121, 10]).data.toList
  obtain ⟨X, hX⟩ : ∃ X, parseCk (ByteArray.mk #[97, 10, 53, 10, 65, 65, 65, 65, 65, 65, 65, 65, 65, 65, 65, 65, 65, 65, 65, 65, 65, 65, 65, 65, 65, 65, 65, 65, 65, 65, 65, 65, 65, 65, 65, 65, 65, 65, 65, 65, 65, 65, 65, 65, 65, 65, 65, 61, 10, 120, 32, 121, 10]).data.toList = X := ⟨_, rfl⟩
  have HPX := Lib.hid fun W (hW : Base S W) => parse_own S ⟨#[97, 10, 53, 10, 65, 65, 65, 65, 65, 65, 65, 65, 65, 65, 65, 65, 65, 65, 65, 65, 65, 65, 65, 65, 65, 65, 65, 65, 65, 65, 65, 65, 65, 65, 65, 65, 65, 65, 65, 65, 65, 65, 65, 65, 65, 65, 65, 61, 10, 120, 32, 121, 10]⟩ W (by decide) hW X hX
  rw [hX] at g32 g16
  obtain ⟨⟨o, z, r, L⟩, fc, fp⟩ := A
  obtain ⟨⟨xo, xz, xr, xL⟩, xc, xp⟩ := X
  simp only [] at HREF HPA HPX h32 h16 g32 g16 hok2
  have HOK := Lib.hid hok2
  have H32 := Lib.hid h32
  have G32 := Lib.hid g32
  clear hB htab hA hX hok hok2 h32 g32
  go_enter Tryz.func4, Tryz.ntmps4
  go_wp2_with fail
  refine HREF.out.mono ?_
  rintro e w1 ⟨vW, rfl, d1, hW1⟩
  obtain ⟨ao, nn, cp, rfl⟩ := TextsRow.slice hW1
  have h35 : (ckList ⟨o.toArray⟩ (z : Int) (Lib.byteCells r) (.slice ao nn cp)).toArray.size = 35 := by simp [ckList, Lib.byteCells_length, H32.out]
  have hone : (ckList ⟨o.toArray⟩ (z : Int) (Lib.byteCells r) (.slice ao nn cp)).toArray.all (·.oneCell') = true := ckList_one rfl
  have H35 := Lib.hid h35
  have HONE := Lib.hid hone
  clear h35 hone HREF
  have hres0 : Res0 w1 ((w1.alloc (.cells ckZero 27)).alloc (.cells #[.int .i64 0, .int .i64 0] 36)) := by
    have e1 : (w1.alloc (.cells ckZero 27)).heap.size = w1.heap.size + 1 := by simp
    refine ⟨(heap_alloc_old _ _ (by rw [e1]; omega)).trans (heap_alloc_new w1 _), ?_, ((Below.refl _ _).alloc (Nat.le_refl _) _).alloc (by simp) _⟩
    have := heap_alloc_new (w1.alloc (.cells ckZero 27)) (.cells #[.int .i64 0, .int .i64 0] 36)
    rwa [e1] at this
  obtain ⟨q1, q2, q3, _⟩ := res_write hres0 (ckList ⟨o.toArray⟩ (z : Int) (Lib.byteCells r) (.slice ao nn cp)).toArray (fc : Int) (fz fc fp)
  obtain ⟨c0, c1, f0, f1⟩ := (res_mid hres0 (ckList ⟨o.toArray⟩ (z : Int) (Lib.byteCells r) (.slice ao nn cp)).toArray).cells
  have HR0 := Lib.hid hres0
  have Q1 := Lib.hid q1
  have Q2 := Lib.hid q2
  have HW1 := Lib.hid (rowKeep (hW1 : w1.ownsRow _ _ _ _ _ _) fun g hg => q3.block g (((hW1 : w1.ownsRow _ _ _ _ _ _).lt g hg).2))
  have d2 := below_trans d1 q3
  clear hres0 q1 q2 q3 hW1
  go_upto_region 2 with (rw [zero_lit]; refine wpList_store_row rfl 27 (.tmp 3) (.tmp 15) rfl w1.heap.size (ckList ⟨o.toArray⟩ (z : Int) (Lib.byteCells r) (.slice ao nn cp)).toArray rfl rfl 27 ckZero HR0.out.ck (by rw [H35.out]; exact ckInfo) (by rw [H35.out]; rfl) HONE.out ?_)
  clear c0 c1 f0 f1
  generalize (((((w1.alloc (.cells ckZero 27)).alloc (.cells #[.int .i64 0, .int .i64 0] 36)).setRow w1.heap.size (ckList ⟨o.toArray⟩ (z : Int) (Lib.byteCells r) (.slice ao nn cp)).toArray).setCell ⟨w1.heap.size + 1, 0, none⟩ (.int .i64 (fc : Int))).setCell ⟨w1.heap.size + 1, 1, none⟩ (.int .i64 (fz fc fp))) = w2 at *
  go_wp2_with fail
  refine (HPA.out w2 (HB.out.below d2)).mono ?_
  rintro e w3 ⟨va, ea, rfl, b3, he3, ho3⟩
  obtain ⟨ao3, nn3, cp3, rfl⟩ := TextsRow.slice ho3
  have h35 : (ckList ⟨o.toArray⟩ (z : Int) (Lib.byteCells r) (.slice ao3 nn3 cp3)).toArray.size = 35 := by simp [ckList, Lib.byteCells_length, H32.out]
  have hone : (ckList ⟨o.toArray⟩ (z : Int) (Lib.byteCells r) (.slice ao3 nn3 cp3)).toArray.all (·.oneCell') = true := ckList_one rfl
  have H35_3 := Lib.hid h35
  have HONE_3 := Lib.hid hone
  have b4 : Below w3.heap.size w3 (w3.alloc (.cells (ckList ⟨o.toArray⟩ (z : Int) (Lib.byteCells r) (.slice ao3 nn3 cp3)).toArray 27)) := (Below.refl _ _).alloc (Nat.le_refl _) _
  have hrow4 : (w3.alloc (.cells (ckList ⟨o.toArray⟩ (z : Int) (Lib.byteCells r) (.slice ao3 nn3 cp3)).toArray 27)).heap[w3.heap.size]? = some (.cells (ckList ⟨o.toArray⟩ (z : Int) (Lib.byteCells r) (.slice ao3 nn3 cp3)).toArray 27 (0, 0)) := heap_alloc_new w3 _
  have z3 := b3.size
  have d3 := below_trans d2 b3
  have d4 := below_trans d3 b4
  have HBB3 := Lib.hid b3
  have HBB4 := Lib.hid b4
  have HROW4 := Lib.hid hrow4
  have HE3 := Lib.hid he3
  have HO3 := Lib.hid ho3
  clear h35 hone b3 b4 hrow4 he3 ho3
  go_upto_region 3 with (refine wpList_ck (by rfl) (.tmp 5) (.tmp 20) (by rfl) (by rfl) (by rfl) H35_3.out HONE_3.out ?_)
  generalize w3.alloc (.cells (ckList ⟨o.toArray⟩ (z : Int) (Lib.byteCells r) (.slice ao3 nn3 cp3)).toArray 27) = w4 at *
  go_wp2_with fail
  refine (HPX.out w4 (HB.out.below d4)).mono ?_
  rintro e w5 ⟨vb, eb, rfl, b5, he5, ho5⟩
  obtain ⟨ao5, nn5, cp5, rfl⟩ := TextsRow.slice ho5
  have h35 : (ckList ⟨xo.toArray⟩ (xz : Int) (Lib.byteCells xr) (.slice ao5 nn5 cp5)).toArray.size = 35 := by simp [ckList, Lib.byteCells_length, G32.out]
  have hone : (ckList ⟨xo.toArray⟩ (xz : Int) (Lib.byteCells xr) (.slice ao5 nn5 cp5)).toArray.all (·.oneCell') = true := ckList_one rfl
  have H35_5 := Lib.hid h35
  have HONE_5 := Lib.hid hone
  have b6 : Below w5.heap.size w5 (w5.alloc (.cells (ckList ⟨xo.toArray⟩ (xz : Int) (Lib.byteCells xr) (.slice ao5 nn5 cp5)).toArray 27)) := (Below.refl _ _).alloc (Nat.le_refl _) _
  have hrow6 : (w5.alloc (.cells (ckList ⟨xo.toArray⟩ (xz : Int) (Lib.byteCells xr) (.slice ao5 nn5 cp5)).toArray 27)).heap[w5.heap.size]? = some (.cells (ckList ⟨xo.toArray⟩ (xz : Int) (Lib.byteCells xr) (.slice ao5 nn5 cp5)).toArray 27 (0, 0)) := heap_alloc_new w5 _
  have z5 := b5.size
  have d5 := below_trans d4 b5
  have d6 := below_trans d5 b6
  have HBB5 := Lib.hid b5
  have HBB6 := Lib.hid b6
  have HROW6 := Lib.hid hrow6
  have HE5 := Lib.hid he5
  have HO5 := Lib.hid ho5
  clear h35 hone b5 b6 hrow6 he5 ho5
  go_upto_region 4 with (refine wpList_ck (by rfl) (.tmp 7) (.tmp 24) (by rfl) (by rfl) (by rfl) H35_5.out HONE_5.out ?_)
  generalize w5.alloc (.cells (ckList ⟨xo.toArray⟩ (xz : Int) (Lib.byteCells xr) (.slice ao5 nn5 cp5)).toArray 27) = w6 at *
  go_wp2_with fail
  refine (HPA.out w6 (HB.out.below d6)).mono ?_
  rintro e w7 ⟨vc, ec, rfl, b7, he7, ho7⟩
  obtain ⟨ao7, nn7, cp7, rfl⟩ := TextsRow.slice ho7
  have h35 : (ckList ⟨o.toArray⟩ (z : Int) (Lib.byteCells r) (.slice ao7 nn7 cp7)).toArray.size = 35 := by simp [ckList, Lib.byteCells_length, H32.out]
  have hone : (ckList ⟨o.toArray⟩ (z : Int) (Lib.byteCells r) (.slice ao7 nn7 cp7)).toArray.all (·.oneCell') = true := ckList_one rfl
  have H35_7 := Lib.hid h35
  have HONE_7 := Lib.hid hone
  have b8 : Below w7.heap.size w7 (w7.alloc (.cells (ckList ⟨o.toArray⟩ (z : Int) (Lib.byteCells r) (.slice ao7 nn7 cp7)).toArray 27)) := (Below.refl _ _).alloc (Nat.le_refl _) _
  have hrow8 : (w7.alloc (.cells (ckList ⟨o.toArray⟩ (z : Int) (Lib.byteCells r) (.slice ao7 nn7 cp7)).toArray 27)).heap[w7.heap.size]? = some (.cells (ckList ⟨o.toArray⟩ (z : Int) (Lib.byteCells r) (.slice ao7 nn7 cp7)).toArray 27 (0, 0)) := heap_alloc_new w7 _
  have z7 := b7.size
  have d7 := below_trans d6 b7
  have d8 := below_trans d7 b8
  have HBB7 := Lib.hid b7
  have HBB8 := Lib.hid b8
  have HROW8 := Lib.hid hrow8
  have HE7 := Lib.hid he7
  have HO7 := Lib.hid ho7
  clear h35 hone b7 b8 hrow8 he7 ho7
  go_upto_region 5 with (refine wpList_ck (by rfl) (.tmp 9) (.tmp 29) (by rfl) (by rfl) (by rfl) H35_7.out HONE_7.out ?_)
  generalize w7.alloc (.cells (ckList ⟨o.toArray⟩ (z : Int) (Lib.byteCells r) (.slice ao7 nn7 cp7)).toArray 27) = w8 at *
  have d78 := HBB8.out
  have d68 := below_trans HBB7.out d78
  have d58 := below_trans HBB6.out d68
  have d48 := below_trans HBB5.out d58
  have d38 := below_trans HBB4.out d48
  have d28 := below_trans HBB3.out d38
  have hft8 := Q2.out.below d28
  obtain ⟨c0, c1, f0, f1⟩ := hft8.cells
  have HF8 := Lib.hid hft8
  have HW8 := Lib.hid (below_heap d28 Q1.out)
  have HA8 := Lib.hid (below_heap d48 HROW4.out)
  have HB8 := Lib.hid (below_heap d68 HROW6.out)
  have HC8 := Lib.hid HROW8.out
  have TW8 := Lib.hid ((TextsRow.keep HW1.out d28).in_)
  have TA8 := Lib.hid (TextsRow.keep HO3.out d38)
  have TB8 := Lib.hid (TextsRow.keep HO5.out d58)
  have TC8 := Lib.hid (TextsRow.keep HO7.out d78)
  have GA := Lib.hid (HO3.out : w3.ownsRow _ _ _ _ _ _).lt
  have GB := Lib.hid (HO5.out : w5.ownsRow _ _ _ _ _ _).lt
  have GC := Lib.hid (HO7.out : w7.ownsRow _ _ _ _ _ _).lt
  have EA8 := Lib.hid (HE3.out.below d38)
  have EC8 := Lib.hid (HE7.out.below d78)
  have y28 := d28.size
  have y38 := d38.size
  have y48 := d48.size
  have y58 := d58.size
  have y68 := d68.size
  have y78 := d78.size
  have y34 := HBB4.out.size
  have y56 := HBB6.out.size
  clear hft8 HROW4 HROW6 HROW8 Q1 Q2 HW1 HO3 HO5 HO7 HE3 HE5 HE7 HBB3 HBB4 HBB5 HBB6 HBB7 HBB8
  have e0 : Value.bool (sameB fc fp (fc : Int) (fz fc fp)) = .bool true := by rw [HOK.out]
  go_wp2_with fail
  refine (same_any S w8 ea fc fp (fc : Int) (fz fc fp) (HB.out.below d8) EA8.out).mono ?_
  rintro e w9 ⟨rfl, b9⟩
  rw [e0]
  have d9 := below_trans d8 b9
  have HB9 := Lib.hid b9
  have hft9 := HF8.out.below b9
  clear b9 c0 c1 f0 f1
  obtain ⟨c0, c1, f0, f1⟩ := hft9.cells
  clear hft9
  go_wp2_with fail
  refine (same_any S w9 ec fc fp (fc : Int) (fz fc fp) (HB.out.below d9) (EC8.out.below HB9.out)).mono ?_
  rintro e w10 ⟨rfl, b10⟩
  rw [e0]
  have d10 := below_trans d9 b10
  have d810 := below_trans HB9.out b10
  have HW10 := Lib.hid (below_heap d810 HW8.out)
  have HA10 := Lib.hid (below_heap d810 HA8.out)
  have HS1 := Lib.hid (sameCk_any w10 o o z z r r L L (.slice ao3 nn3 cp3) (.slice ao nn cp) H32.out H32.out ((TA8.out.keep d810).in_) (TW8.out.below d810) (by omega) (by omega))
  clear b10 c0 c1 f0 f1 e0
  go_wp2_with (first | (refine wpList_ckLoad (by rfl) (.tmp 5) (by rfl) (by rfl) HA10.out H35_3.out ?_) | (refine wpList_ckLoad (by rfl) (.tmp 3) (by rfl) (by rfl) HW10.out H35.out ?_))
  refine HS1.out.mono ?_
  rintro e w11 ⟨rfl, b11⟩
  simp only [decide_true]
  have d11 := below_trans d10 b11
  have d811 := below_trans d810 b11
  have HW11 := Lib.hid (below_heap d811 HW8.out)
  have HC11 := Lib.hid (below_heap d811 HC8.out)
  have HS2 := Lib.hid (sameCk_any w11 o o z z r r L L (.slice ao7 nn7 cp7) (.slice ao nn cp) H32.out H32.out ((TC8.out.keep d811).in_) (TW8.out.below d811) (by omega) (by omega))
  clear b11 HS1
  go_wp2_with (first | (refine wpList_ckLoad (by rfl) (.tmp 9) (by rfl) (by rfl) HC11.out H35_7.out ?_) | (refine wpList_ckLoad (by rfl) (.tmp 3) (by rfl) (by rfl) HW11.out H35.out ?_))
  refine HS2.out.mono ?_
  rintro e w12 ⟨rfl, b12⟩
  simp only [decide_true]
  have d12 := below_trans d11 b12
  have d812 := below_trans d811 b12
  clear b12 HS2
  have hk0 := keep_start w12 w12 (V3 (.slice ao3 nn3 cp3) (.slice ao5 nn5 cp5) (.slice ao7 nn7 cp7)) (Below.refl _ _)
  have HK0 := Lib.hid hk0
  clear hk0
  go_upto_region 8 with fail
  unfold bookRow at HK0
  generalize w12.alloc (.cells #[.int .i64 0, .slice none 0 0, .slice none 0 0, .slice none 0 0, .slice none 0 0, .slice none 0 0, .slice none 0 0, .slice none 0 0, .slice none 0 0, .slice none 0 0, .slice none 0 0, .slice none 0 0, .slice none 0 0, .slice none 0 0, .slice none 0 0, .slice none 0 0, .slice none 0 0] 64) = w13 at *
  have HA13 := Lib.hid (below_heap (below_trans d812 HK0.out.bel) HA8.out)
  go_wp2_with (refine wpList_ckLoad (by rfl) (.tmp 5) (by rfl) (by rfl) HA13.out H35_3.out ?_)
  refine (bookCk0_any w12 w13 w12.heap.size _ _ _ _ o z r H32.out HK0.out ⟨_, _, _, rfl⟩).mono ?_
  rintro e w14 ⟨rfl, t14, hk14⟩
  have HK14 := Lib.hid hk14
  have HB14 := Lib.hid (below_heap (below_trans d812 hk14.bel) HB8.out)
  clear hk14
  go_wp2_with (refine wpList_ckLoad (by rfl) (.tmp 7) (by rfl) (by rfl) HB14.out H35_5.out ?_)
  refine (bookCk1_any w12 w14 w12.heap.size _ _ _ _ xo xz xr G32.out HK14.out ⟨_, _, _, rfl⟩).mono ?_
  rintro e w15 ⟨rfl, t15, hk15⟩
  have HK15 := Lib.hid hk15
  have HC15 := Lib.hid (below_heap (below_trans d812 hk15.bel) HC8.out)
  clear hk15
  go_wp2_with (refine wpList_ckLoad (by rfl) (.tmp 9) (by rfl) (by rfl) HC15.out H35_7.out ?_)
  refine (bookCk2_any w12 w15 w12.heap.size _ _ _ _ o z r H32.out HK15.out ⟨_, _, _, rfl⟩).mono ?_
  rintro e w16 ⟨rfl, t16, hk16⟩
  have d816 := below_trans d812 hk16.bel
  have k16 := hk16.weaken d12
  have z812 := d812.size
  have z2 := d2.size
  have z4 := d4.size
  have z6 := d6.size
  have oa : w16.ownsRow w.heap.size 9 1 (.slice ao3 nn3 cp3) _ _ := (TA8.out.keep d816).conv d2.size
  have ob : w16.ownsRow w.heap.size 9 1 (.slice ao5 nn5 cp5) _ _ := (TB8.out.keep d816).conv d4.size
  have oc : w16.ownsRow w.heap.size 9 1 (.slice ao7 nn7 cp7) _ _ := (TC8.out.keep d816).conv d6.size
  have HAP := Lib.hid (apart3_any w w16 w12.heap.size t16 _ _ _ _ _ _ _ _ _ k16 oa ob oc
    (fun g hg => by
      have q := GA.out g hg
      exact ⟨by omega, fun e => by have := GB.out g e; omega, fun e => by have := GC.out g e; omega⟩)
    (fun g hg => by
      have q := GB.out g hg
      exact ⟨by omega, fun e => by have := GC.out g e; omega⟩)
    (fun g hg => by
      have q := GC.out g hg
      omega) (by omega) (by omega) (by omega) HTAB.out)
  clear k16 oa ob oc hk16
  go_wp2_with fail
  refine HAP.out.mono ?_
  rintro e w17 ⟨rfl, d17⟩
  go_wp2_with fail
  refine (alive21_any S w17 (HB.out.below d17) (tab_below HTAB.out d17)).mono ?_
  rintro e w18 ⟨rfl, b18⟩
  go_wp2_with fail
  go_ret
  exact ⟨rfl, below_trans d17 b18⟩
theorem checkpointParses_walk : CheckpointParsesFrame.Walk := fun S s w hs hB hT => ckparses_walk S s w hs hB hT
theorem checkpointParses_card : Rows.CheckpointParsesCardSaid := CheckpointParsesFrame.card checkpointParses_walk
end Go.Proofs.YtjmgkallgflcdaaGreatDoor
