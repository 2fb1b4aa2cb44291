/-
  PROVED: cartularylaw03.TextLines returns true, whatever the text (the tied card of its row). Conditions: those of the row: the text takes at most the bytes that the form allows; the listed package-level variables hold what the program lays.
-/
import Derived.Test.YtjmgkallgflcdaaGreatDoorRefLines
import Derived.Test.YtjmgkallgflcdaaGreatDoorTold
import Derived.Test.YtjmgkallgflcdaaGreatDoorAlive
import Derived.Test.YtjmgkallgflcdaaGreatDoorBook8
import Derived.Test.YtjmgkallgflcdaaGreatDoorTextLinesFrame
namespace Go.Proofs.YtjmgkallgflcdaaGreatDoor
open Go.RowKit

theorem beyond_few (w : World) (g N : Nat) (hc : w.cell? ⟨g, 0, none⟩ = some (.int .i64 (N : Int))) (hN : N ≤ 1048576) :
    Calls Tryz.prog 6 #[.slice (some ⟨g, 0, none⟩) 1 1] w fun e w' => e = .returned (.bool false) ∧ Below w.heap.size w w' := by
  go_enter Tryz.func6, Tryz.ntmps6
  go_wp2_with fail
  have hbi : ¬ (1048576 : Int) < (N : Int) := by omega
  refine wp_loop_rounds 2 ?_
  rw [rounds_succ]
  go_wp2_with fail
  rw [rounds_succ]
  go_wp2_with fail
  go_ret
  exact ⟨rfl, below_drewN (Below.refl _ _) 0⟩
theorem ok_lines (l : List UInt8) : okAns (linesOf l).2.1 (linesOf l).2.2 := by
  unfold linesOf
  split
  · exact .inr (.inl ⟨by simp, rfl⟩)
  · split
    · exact .inl ⟨rfl, rfl⟩
    · split
      · exact .inl ⟨rfl, rfl⟩
      · exact .inr (.inr ⟨by simp, _, rfl, by omega⟩)
theorem linesOf_few (l : List UInt8) : (linesOf l).1.length ≤ 1048576 := by
  unfold linesOf
  split
  · simp
  · split
    · simp
    · split
      · have := linesK_len l []
        simp only []
        omega
      · simp
set_option maxHeartbeats 4000000 in
set_option maxRecDepth 100000 in
theorem textlines_walk (S : Nat → Addr) (s : ByteArray) (w : World) (hs : s.size ≤ 140737488351232) (hB : Base S w) (htab : Tab w) :
    Calls Tryz.prog 5 #[.string s] w fun e w' => e = .returned (.bool true) ∧ Below w.heap.size w w' := by
  have HB := Lib.hid hB
  have HTAB := Lib.hid htab
  have hok := sameB_fz (ok_lines s.data.toList)
  have hfew := linesOf_few s.data.toList
  have HREF := Lib.hid (refLines_any s w (by omega))
  have HLI := Lib.hid fun W (hW : Base S W) => lines_any S s W (by omega) hW
  have HLX := Lib.hid fun W (hW : Base S W) => lines_any S ⟨#[120, 10, 121, 10]⟩ W (by decide) hW
  have hxy : linesOf (ByteArray.mk #[120, 10, 121, 10]).data.toList = ([[120], [121]], 0, none) := by decide
  rw [hxy] at HLX
  clear hB htab hxy
  generalize linesOf s.data.toList = F at *
  obtain ⟨L, fc, fp⟩ := F
  simp only [] at HREF HLI HLX hok hfew
  have HOK := Lib.hid hok
  clear hok
  go_enter Tryz.func5, Tryz.ntmps5
  go_wp2_with fail
  refine HREF.out.mono ?_
  rintro e w1 ⟨vW, rfl, hW1, d1⟩
  have b2 : Below w1.heap.size w1 (w1.alloc (.cells #[.int .i64 (fc : Int), .int .i64 (fz fc fp)] 36)) := (Below.refl _ _).alloc (Nat.le_refl _) _
  have hrow : faultRow (w1.alloc (.cells #[.int .i64 (fc : Int), .int .i64 (fz fc fp)] 36)) w1.heap.size (fc : Int) (fz fc fp) := heap_alloc_new w1 _
  have HROW := Lib.hid hrow
  have HW1 := Lib.hid (rowKeep hW1 fun g hg => b2.block g ((hW1.lt g hg).2))
  have d2 := below_trans d1 b2
  clear hrow hW1 b2 HREF
  go_upto_region 2 with fail
  generalize w1.alloc (.cells #[.int .i64 (fc : Int), .int .i64 (fz fc fp)] 36) = w2 at *
  go_wp2_with fail
  refine (HLI.out w2 (HB.out.below d2)).mono ?_
  rintro e w3 ⟨va, ⟨ea, rfl, hea, b3⟩, hta⟩
  have d3 := below_trans d2 b3
  have HEA := Lib.hid hea
  have HTA := Lib.hid hta
  have HB3 := Lib.hid b3
  clear hea hta b3
  go_wp2_with fail
  refine (HLX.out w3 (HB.out.below d3)).mono ?_
  rintro e w4 ⟨vb, ⟨eb, rfl, heb, b4⟩, htb⟩
  have d4 := below_trans d3 b4
  have HTB := Lib.hid htb
  have HB4 := Lib.hid b4
  clear heb htb b4
  go_wp2_with fail
  refine (HLI.out w4 (HB.out.below d4)).mono ?_
  rintro e w5 ⟨vc, ⟨ec, rfl, hec, b5⟩, htc⟩
  have d5 := below_trans d4 b5
  have HEC := Lib.hid hec
  have HTC := Lib.hid htc
  have HB5 := Lib.hid b5
  clear hec htc b5
  have hrow5 := ((HROW.out.below HB3.out).below HB4.out).below HB5.out
  obtain ⟨c0, c1, f0, f1⟩ := hrow5.cells
  have HROW5 := Lib.hid hrow5
  clear hrow5
  go_wp2_with fail
  have e0 : Value.bool (sameB fc fp (fc : Int) (fz fc fp)) = .bool true := by rw [HOK.out]
  refine (same_any S w5 ea fc fp (fc : Int) (fz fc fp) (HB.out.below d5) ((HEA.out.below HB4.out).below HB5.out)).mono ?_
  rintro e w6 ⟨rfl, b6⟩
  rw [e0]
  have d6 := below_trans d5 b6
  have HB6 := Lib.hid b6
  have hrow6 := HROW5.out.below b6
  clear b6 c0 c1 f0 f1
  obtain ⟨c0, c1, f0, f1⟩ := hrow6.cells
  clear hrow6
  go_wp2_with fail
  refine (same_any S w6 ec fc fp (fc : Int) (fz fc fp) (HB.out.below d6) (HEC.out.below HB6.out)).mono ?_
  rintro e w7 ⟨rfl, b7⟩
  rw [e0]
  have d7 := below_trans d6 b7
  have HB7 := Lib.hid b7
  have d57 := below_trans HB6.out b7
  have d47 := below_trans HB5.out d57
  have d37 := below_trans HB4.out d47
  have d27 := below_trans HB3.out d37
  have HTA7 := Lib.hid (HTA.out.below d37)
  have HTB7 := Lib.hid (HTB.out.below d47)
  have HTC7 := Lib.hid (HTC.out.below d57)
  have HTW7 := Lib.hid (rowKeep HW1.out fun g hg => d27.block g ((HW1.out.lt g hg).2))
  have HGA := Lib.hid HTA.out.block
  have HGB := Lib.hid HTB.out.block
  have HGC := Lib.hid HTC.out.block
  clear b7 c0 c1 f0 f1 HTA HTB HTC e0
  go_wp2_with fail
  refine (sameTexts_any w7 va vW L L HTA7.out.in_ (TextsOwn.in_ HTW7.out) (by omega) (by omega)).mono ?_
  rintro e w8 ⟨rfl, n8, h8⟩
  have b8 : Below w7.heap.size w7 w8 := h8 ▸ below_drewN (Below.refl _ _) n8
  have d8 := below_trans d7 b8
  have HB8 := Lib.hid b8
  simp only [decide_true]
  clear h8 b8
  go_wp2_with fail
  refine (sameTexts_any w8 vc vW L L (HTC7.out.in_.below HB8.out) ((TextsOwn.in_ HTW7.out).below HB8.out) (by omega) (by omega)).mono ?_
  rintro e w9 ⟨rfl, n9, h9⟩
  have b9 : Below w8.heap.size w8 w9 := h9 ▸ below_drewN (Below.refl _ _) n9
  have d9 := below_trans d8 b9
  have HB9 := Lib.hid b9
  simp only [decide_true]
  have b10 : Below w9.heap.size w9 (w9.alloc (.cells #[.string ⟨#[120]⟩, .string ⟨#[121]⟩] 9)) := (Below.refl _ _).alloc (Nat.le_refl _) _
  have hxy : TextsIn (w9.alloc (.cells #[.string ⟨#[120]⟩, .string ⟨#[121]⟩] 9)) (.slice (some ⟨w9.heap.size, 0, none⟩) 2 2) [[120], [121]] :=
    TextsAt.in_ (B := w9.heap.size) (.inr ⟨w9.heap.size, Nat.le_refl _, rfl, heap_alloc_new w9 _⟩)
  have HXY := Lib.hid hxy
  have d10 := below_trans d9 b10
  have d810 := below_trans HB9.out b10
  have d710 := below_trans HB8.out d810
  clear h9 b9 hxy
  go_wp2_with fail
  generalize w9.alloc (.cells #[.string ⟨#[120]⟩, .string ⟨#[121]⟩] 9) = w10 at *
  refine (sameTexts_any w10 vb (.slice (some ⟨w9.heap.size, 0, none⟩) 2 2) [[120], [121]] [[120], [121]] (HTB7.out.in_.below d710) HXY.out (by decide) (by decide)).mono ?_
  rintro e w11 ⟨rfl, n11, h11⟩
  have b11 : Below w10.heap.size w10 w11 := h11 ▸ below_drewN (Below.refl _ _) n11
  have d11 := below_trans d10 b11
  have d711 := below_trans d710 b11
  simp only [decide_true]
  have b12 : Below w11.heap.size w11 (w11.alloc (.cells #[.int .i64 (L.length : Int)] 3)) := (Below.refl _ _).alloc (Nat.le_refl _) _
  have hc12 : (w11.alloc (.cells #[.int .i64 (L.length : Int)] 3)).cell? ⟨w11.heap.size, 0, none⟩ = some (.int .i64 (L.length : Int)) := by
    rw [cell_of_row _ _ 0 _ _ _ (heap_alloc_new w11 _)]
    rfl
  have HC12 := Lib.hid hc12
  have d12 := below_trans d11 b12
  have d712 := below_trans d711 b12
  have hWs : ∃ ao c, vW = .slice ao L.length c := by
    rcases HTW7.out.2 with ⟨h, hn⟩ | ⟨g, c, cur, h, _⟩
    · exact ⟨none, 0, by rw [h, hn]⟩
    · exact ⟨_, _, h⟩
  obtain ⟨ao, cc, rfl⟩ := hWs
  clear h11 b11 hc12
  go_wp2_with fail
  generalize w11.alloc (.cells #[.int .i64 (L.length : Int)] 3) = w12 at *
  refine (beyond_few w12 w11.heap.size L.length HC12.out hfew).mono ?_
  rintro e w13 ⟨rfl, b13⟩
  have d13 := below_trans d12 b13
  have d713 := below_trans d712 b13
  clear b13 b12 b10
  have hk0 := keep_start w13 w13 (V3 va vb vc) (Below.refl _ _)
  have HK0 := Lib.hid hk0
  clear hk0
  go_upto_region 10 with fail
  unfold bookRow at HK0
  generalize w13.alloc (.cells #[.int .i64 0, .slice none 0 0, .slice none 0 0, .slice none 0 0, .slice none 0 0, .slice none 0 0, .slice none 0 0, .slice none 0 0, .slice none 0 0, .slice none 0 0, .slice none 0 0, .slice none 0 0, .slice none 0 0, .slice none 0 0, .slice none 0 0, .slice none 0 0, .slice none 0 0] 64) = w14 at *
  go_wp2_with fail
  refine (keep0_any w13 w14 w13.heap.size _ va vb vc HK0.out HTA7.out.slice).mono ?_
  rintro e w15 ⟨rfl, t15, hk15⟩
  have HK15 := Lib.hid hk15
  clear hk15
  go_wp2_with fail
  refine (keep1_any w13 w15 w13.heap.size _ va vb vc HK15.out HTB7.out.slice).mono ?_
  rintro e w16 ⟨rfl, t16, hk16⟩
  have HK16 := Lib.hid hk16
  clear hk16
  go_wp2_with fail
  refine (keep2_any w13 w16 w13.heap.size _ va vb vc HK16.out HTC7.out.slice).mono ?_
  rintro e w17 ⟨rfl, t17, hk17⟩
  have d717 := below_trans d713 hk17.bel
  have k17 := hk17.weaken d13
  have z713 := d713.size
  have z4 := d4.size
  have z3 := d3.size
  have y3 := HB3.out.size
  have y4 := HB4.out.size
  have y5 := HB5.out.size
  have y57 := d57.size
  have oa : w17.ownsRow w.heap.size 9 1 va _ _ := TextsOwn.conv (ownsRow_below (TextsAt.own HTA7.out hfew) d717) d2.size
  have ob : w17.ownsRow w.heap.size 9 1 vb _ _ := TextsOwn.conv (ownsRow_below (TextsAt.own HTB7.out (by decide)) d717) d3.size
  have oc : w17.ownsRow w.heap.size 9 1 vc _ _ := TextsOwn.conv (ownsRow_below (TextsAt.own HTC7.out hfew) d717) d4.size
  have HAP := Lib.hid (apart3_any w w17 w13.heap.size t17 va vb vc _ _ _ _ _ _ k17 oa ob oc
    (fun g hg => by
      have q := HGA.out g hg
      exact ⟨by omega, fun e => by have := HGB.out g e; omega, fun e => by have := HGC.out g e; omega⟩)
    (fun g hg => by
      have q := HGB.out g hg
      exact ⟨by omega, fun e => by have := HGC.out g e; omega⟩)
    (fun g hg => by
      have q := HGC.out g hg
      omega) hfew (by decide) hfew HTAB.out)
  clear k17 oa ob oc hk17
  go_wp2_with fail
  refine HAP.out.mono ?_
  rintro e w18 ⟨rfl, d18⟩
  go_wp2_with fail
  refine (alive_any S w18 (HB.out.below d18)).mono ?_
  rintro e w19 ⟨rfl, b19⟩
  go_wp2_with fail
  go_ret
  exact ⟨rfl, below_trans d18 b19⟩
theorem textLines_walk : TextLinesFrame.Walk := fun S s w hs hB hT => textlines_walk S s w hs hB hT
theorem textLines_card : Rows.TextLinesCardSaid := TextLinesFrame.card textLines_walk
end Go.Proofs.YtjmgkallgflcdaaGreatDoor
