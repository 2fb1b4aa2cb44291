/-
  PROVED: cartularylaw21.CheckpointBack returns true, whatever the checkpoint and the text (the tied card of its row). Conditions: those of the row: each text and each list takes at most the bytes that the form allows; the listed package-level variables hold what the program lays.
-/
import Derived.Test.YtjmgkallgflcdaaDoorCkBack1
import Derived.Test.YtjmgkallgflcdaaDoorCheckpointBackFrame
namespace Go.Proofs.YtjmgkallgflcdaaDoor
open Go.RowKit

theorem format_of (S : Nat → Addr) (w : World) (cs : Array Value) (st : CkSt) (ev : Value) (hcs : cs = (ckList ⟨st.1.toArray⟩ (st.2.1 : Int) (Lib.byteCells st.2.2.1) ev).toArray) (hT : TextsIn w ev st.2.2.2) (h32 : st.2.2.1.length = 32) (hz : st.2.1 ≤ 18446744073709551615) (hm : mayCk st = true) (hL : st.2.2.2.length ≤ 16) (s : ByteArray) (hf : fmtCk st = (s.data.toList, 0)) (hB : Base S w) (htab : Tab w) :
    Calls Tryd.prog 9 #[.agg cs] w fun e w' => e = .returned (.tuple #[.string s, .nilIface]) ∧ Below w.heap.size w w' := by
  have hm2 := hm
  unfold mayCk at hm2
  rw [Bool.and_eq_true] at hm2
  have h64 := name_len hm2.1
  have hel := extra_len hm2.2
  have h := format_any S w st.1 st.2.1 st.2.2.1 st.2.2.2 ev h32 hT hz (by omega) (by omega) (fun x hx => by have := hel x hx; omega) hB htab
  rw [← hcs] at h
  refine h.mono ?_
  rintro e w' ⟨er, rfl, b, he⟩
  have hf2 : fmtCk (st.1, st.2.1, st.2.2.1, st.2.2.2) = (s.data.toList, 0) := hf
  rw [hf2] at he ⊢
  rw [he.eq_nil rfl]
  exact ⟨by rw [ba_back], b⟩
theorem may_next {a : Bool} {L : List (List UInt8)} {k : Nat} {x : List UInt8} (hx : L[k]? = some x) : (a && (L.take (k + 1)).all extraB) = ((a && (L.take k).all extraB) && extraB x) := by
  rw [List.take_add_one, hx]
  simp [Bool.and_assoc]

set_option maxHeartbeats 4000000 in
set_option maxRecDepth 100000 in
theorem ckback_walk (S : Nat → Addr) (w : World) (o : List UInt8) (z : Nat) (r : List UInt8) (ev : Value) (L : List (List UInt8)) (hck : CkArg w o z r ev L) (s : ByteArray) (hs : s.size ≤ 140737488351232) (hB : Base S w) (htab : Tab w) :
    Calls Tryd.prog 3 #[.agg (ckList ⟨o.toArray⟩ (z : Int) (Lib.byteCells r) ev).toArray, .string s] w fun e w' => e = .returned (.bool true) ∧ Below w.heap.size w w' := by
  obtain ⟨h32, hz, hT, hlo, hlL, hle⟩ := hck
  obtain ⟨ao, cap, rfl, hcells⟩ := id hT
  have HCL := Lib.hid hcells
  clear hcells
  have b1 : Below w.heap.size w (w.alloc (.cells (ckList ⟨o.toArray⟩ (z : Int) (Lib.byteCells r) (.slice ao L.length cap)).toArray 27)) := (Below.refl _ _).alloc (Nat.le_refl _) _
  have hrow : CkRow (w.alloc (.cells (ckList ⟨o.toArray⟩ (z : Int) (Lib.byteCells r) (.slice ao L.length cap)).toArray 27)) w.heap.size ⟨o.toArray⟩ (z : Int) (Lib.byteCells r) (.slice ao L.length cap) := ⟨by rw [Lib.byteCells_length, h32], heap_alloc_new w _⟩
  have hsz1 : (w.alloc (.cells (ckList ⟨o.toArray⟩ (z : Int) (Lib.byteCells r) (.slice ao L.length cap)).toArray 27)).heap.size = w.heap.size + 1 := by simp
  have h35 : (ckList ⟨o.toArray⟩ (z : Int) (Lib.byteCells r) (.slice ao L.length cap)).toArray.size = 35 := by simp [ckList, Lib.byteCells_length, h32]
  have HB := Lib.hid hB
  have HTAB := Lib.hid htab
  have HT := Lib.hid hT
  have HLE := Lib.hid hle
  have HS := Lib.hid (size_list s)
  clear hB htab hT hle
  go_enter Tryd.func3, Tryd.ntmps3
  go_upto_region 1 with fail
  generalize hWd : w.alloc (.cells (ckList ⟨o.toArray⟩ (z : Int) (Lib.byteCells r) (.slice ao L.length cap)).toArray 27) = W1 at *
  obtain ⟨c0, c1, c34, _⟩ := hrow.cells
  have HROW := Lib.hid hrow
  have H35 := Lib.hid h35
  have HTS := Lib.hid (textsSize_any W1 _ L (HT.out.below b1) hlL HLE.out)
  clear hrow h35 hWd
  go_wp2_with fail
  refine HTS.out.mono ?_
  rintro e w2 ⟨N, hN, rfl, b2⟩
  have d2 : Below w.heap.size w w2 := b1.trans (b2.mono b1.size)
  have c0' := below_cell b2 c0
  have c34' := below_cell b2 c34
  have hbig2 := b2.size
  have b3 : Below w2.heap.size w2 (w2.alloc (.cells #[.int .i64 (N : Int)] 3)) := (Below.refl _ _).alloc (Nat.le_refl _) _
  have hc3 : (w2.alloc (.cells #[.int .i64 (N : Int)] 3)).cell? ⟨w2.heap.size, 0, none⟩ = some (.int .i64 (N : Int)) := by
    rw [cell_of_row _ _ 0 _ _ _ (heap_alloc_new w2 _)]
    rfl
  have HBY := Lib.hid (beyond_one _ w2.heap.size N hc3 hN)
  have d3 := below_trans d2 b3
  have HR2 := Lib.hid (HROW.out.below b2)
  clear hc3 c0 c1 c34 b2 HTS HROW
  go_wp2_with fail
  have HR3 := Lib.hid (HR2.out.below b3)
  generalize w2.alloc (.cells #[.int .i64 (N : Int)] 3) = w3 at *
  clear HR2 b3
  by_cases hb : 1048576 < N
  · have h2 := HBY.out
    rw [decide_eq_true hb] at h2
    refine h2.mono ?_
    rintro e w4 ⟨rfl, b4⟩
    go_wp2_with fail
    go_ret
    exact ⟨rfl, below_trans d3 b4⟩
  have h2 := HBY.out
  rw [decide_eq_false hb] at h2
  refine h2.mono ?_
  rintro e w4 ⟨rfl, b4⟩
  have d4 := below_trans d3 b4
  have hr4 := HR3.out.below b4
  obtain ⟨e0, e1, e34, _⟩ := hr4.cells
  have HR4 := Lib.hid hr4
  have HN := Lib.hid (name_any S ⟨o.toArray⟩ w4 (by show o.toArray.size ≤ _; simpa using hlo) (HB.out.below d4))
  have hod : (⟨o.toArray⟩ : ByteArray).data.toList = o := by simp
  rw [hod] at HN
  clear b4 hr4 HR3 HBY h2 hb hN c0' c34' hbig2 hod
  go_wp2_with fail
  refine HN.out.mono ?_
  rintro e w5 ⟨rfl, b5⟩
  have d5 := below_trans d4 b5
  have hr5 := HR4.out.below b5
  have HR5 := Lib.hid hr5
  clear b5 HR4 HN e0 e1 e34 hr5
  go_wp2_with fail
  go_loopw [5, 6] (fun vm vi wr => ∃ k : Nat, k ≤ L.length ∧ vi = .int .i64 k ∧ vm = .bool (nameOf o && (L.take k).all extraB) ∧ Below w5.heap.size w5 wr) (fun _ vi _ => L.length - (intOf vi).toNat)
  case atStart => exact ⟨0, by omega, rfl, by simp, Below.refl _ _⟩
  case round =>
    obtain ⟨k, hk, rfl, rfl, hbr⟩ := hrel
    have dr := below_trans d5 hbr
    have HRR := Lib.hid (HR5.out.below hbr)
    obtain ⟨f0, f1, f34, _⟩ := HRR.out.cells
    have HBR := Lib.hid hbr
    clear hbr
    by_cases hlt : k < L.length
    · have i0 : (0 : Int) ≤ (k : Int) := by omega
      have i1 : (k : Int) < (L.length : Int) := by omega
      obtain ⟨x, hx⟩ : ∃ x, L[k]? = some x := ⟨_, List.getElem?_eq_getElem hlt⟩
      have HNX := Lib.hid (may_next (a := nameOf o) hx)
      cases hm : (nameOf o && (L.take k).all extraB) with
      | false =>
        rw [hm] at HNX
        clear hx
        go_wp2_with fail
        go_roundw
        case rel => exact ⟨k + 1, by omega, by go_num, by rw [HNX.out]; simp, HBR.out⟩
        case measure => simp [intOf]; omega
      | true =>
        rw [hm] at HNX
        obtain ⟨b, off, rfl, hc⟩ := HCL.out (fun e => by rw [e] at hlt; simp at hlt)
        have ex := below_cell dr (hc k x hx)
        have hsx : (⟨x.toArray⟩ : ByteArray).size = x.length := by show x.toArray.size = _; simp
        have hxl := HLE.out x (List.mem_of_getElem? hx)
        have HPL := Lib.hid (plain_any S ⟨x.toArray⟩ wr (by rw [hsx]; omega) (HB.out.below dr))
        have hxd : (⟨x.toArray⟩ : ByteArray).data.toList = x := by simp
        have htl : (⟨x.toArray⟩ : ByteArray).toList = x := by rw [ByteArray.toList_eq]
        rw [hxd] at HPL
        clear hc hx hsx hxd hxl
        by_cases hxe : x = []
        · subst hxe
          clear HPL
          have HX0 := Lib.hid (show extraB [] = false by rfl)
          go_wp2_with fail
          go_roundw
          case rel => exact ⟨k + 1, by omega, by go_num, by rw [HNX.out, HX0.out]; simp, HBR.out⟩
          case measure => simp [intOf]; omega
        · have HXE := Lib.hid (show extraB x = plainOf x by simp [extraB, hxe])
          generalize (⟨x.toArray⟩ : ByteArray) = xs at *
          have hne : xs.toList.isEmpty = false := by rw [htl]; simpa using hxe
          have hne2 : ¬ xs.toList = [] := by rw [htl]; exact hxe
          clear htl hxe
          go_wp2_with fail
          refine HPL.out.mono ?_
          rintro e w6 ⟨rfl, b6⟩
          have HB6 := Lib.hid b6
          clear b6
          go_wp2_with fail
          go_roundw
          case rel => exact ⟨k + 1, by omega, by go_num, by rw [HNX.out, HXE.out]; simp, HBR.out.trans (HB6.out.mono HBR.out.size)⟩
          case measure => simp [intOf]; omega
    · obtain rfl : k = L.length := by omega
      have i1 : ¬ (L.length : Int) < (L.length : Int) := by omega
      rw [List.take_length]
      have HFM := Lib.hid (format_any S wr o z r L (.slice ao L.length cap) h32 (HT.out.below dr) hz hlo (by omega) (fun x hx => by have := HLE.out x hx; omega) (HB.out.below dr) (tab_below HTAB.out dr))
      have HROWR := Lib.hid HRR.out.2
      have hmd : (nameOf o && L.all extraB) = mayCk (o, z, r, L) := rfl
      rw [hmd]
      clear hmd
      go_wp2_with (first | (refine wpList_ckLoad (by rfl) (.tmp 2) (by rfl) (by rfl) HROWR.out H35.out ?_))
      refine HFM.out.mono ?_
      rintro e w7 ⟨er, rfl, b7, he⟩
      have d7 := below_trans dr b7
      have HR7 := Lib.hid (HRR.out.below b7)
      obtain ⟨g0, g1, g34, _⟩ := HR7.out.cells
      clear b7 f0 f1 f34 HFM HROWR
      cases hm : mayCk (o, z, r, L) with
      | false =>
        rw [fmt_not hm] at he ⊢
        obtain ⟨T, y, rfl⟩ := err_iface he (by decide)
        have HE := Lib.hid he
        clear he hm
        go_wp2_with fail
        refine (is_yes2 S w7 _ 2 (HB.out.below d7) HE.out).mono ?_
        rintro e w8 ⟨rfl, b8⟩
        have d8 := below_trans d7 b8
        clear b8 g0 g1 g34
        go_wp2_with fail
        refine (parse_all S s w8 hs (HB.out.below d8)).mono ?_
        rintro e u1 ⟨cs', er', rfl, v1, hf1, hz1', hv1⟩
        have x1 := below_trans d8 v1
        have y1 : Below u1.heap.size u1 (u1.alloc (.cells cs' 27)) := (Below.refl _ _).alloc (Nat.le_refl _) _
        have x2 := below_trans x1 y1
        have hro2 : (u1.alloc (.cells cs' 27)).heap[u1.heap.size]? = some (.cells cs' 27 (0, 0)) := heap_alloc_new u1 _
        by_cases hc' : (parseCk s.data.toList).2.1 = 0
        · obtain rfl := hf1.eq_nil hc'
          obtain ⟨q35, qone, q32, qev, qcs, qT⟩ := ckVal_parts (hv1 hc')
          obtain ⟨p1, p2, p3, p4, p5⟩ := parse_text (l := s.data.toList) (st := (parseCk s.data.toList).1) (p := (parseCk s.data.toList).2.2) (by rw [← hc'])
          have HFO := Lib.hid (format_of S (u1.alloc (.cells cs' 27)) cs' (parseCk s.data.toList).1 qev qcs (qT.below y1) p5 (by omega) p2 p4 s p1 (HB.out.below x2) (tab_below HTAB.out x2))
          have HQ35 := Lib.hid q35
          have HQONE := Lib.hid qone
          have HRO := Lib.hid hro2
          clear hf1 hz1' hv1 v1 y1 hro2 hc' q35 qone q32 qcs qT p1 p2 p3 p4 p5
          go_wp2_with (first | (refine wpList_ck (by rfl) (.tmp 11) (.tmp 97) (by rfl) (by rfl) (by rfl) HQ35.out HQONE.out ?_) | (refine wpList_ckLoad (by rfl) (.tmp 11) (by rfl) (by rfl) HRO.out HQ35.out ?_))
          generalize u1.alloc (.cells cs' 27) = u2 at *
          refine HFO.out.mono ?_
          rintro e u3 ⟨rfl, v3⟩
          have x3 := below_trans x2 v3
          have hss : (s.toList == s.toList) = true := beq_self_eq_true _
          go_wp2_with fail
          refine (alive21_any S u3 (HB.out.below x3) (tab_below HTAB.out x3)).mono ?_
          rintro e u4 ⟨rfl, v4⟩
          go_wp2_with fail
          go_ret
          exact ⟨rfl, below_trans x3 v4⟩
        · obtain rfl := hz1' hc'
          obtain ⟨T', y', rfl⟩ := err_iface hf1 hc'
          have HRO := Lib.hid hro2
          clear hf1 hz1' hv1 v1 y1 hro2 hc'
          go_wp2_with (first | (refine wpList_ck (by rfl) (.tmp 11) (.tmp 97) (by rfl) (by rfl) (by rfl) zero_size zero_one ?_) | (refine wpList_ckLoad (by rfl) (.tmp 11) (by rfl) (by rfl) HRO.out zero_size ?_))
          rw [zero_lit]
          generalize u1.alloc (.cells ckZero 27) = u2 at *
          refine (same_zero u2).mono ?_
          rintro e u3 ⟨rfl, v3⟩
          have x3 := below_trans x2 v3
          go_wp2_with fail
          refine (alive21_any S u3 (HB.out.below x3) (tab_below HTAB.out x3)).mono ?_
          rintro e u4 ⟨rfl, v4⟩
          go_wp2_with fail
          go_ret
          exact ⟨rfl, below_trans x3 v4⟩
      | true =>
        by_cases hbg : 1048576 < z ∨ 16 < L.length
        · rw [fmt_big hm hbg] at he ⊢
          obtain ⟨T, y, rfl⟩ := err_iface he (by decide)
          have HE := Lib.hid he
          clear he hm
          by_cases hz1 : 1048576 < z
          · have iz : (1048576 : Int) < (z : Int) := by omega
            clear hbg
            go_wp2_with fail
            refine (is_yes2 S w7 _ 4 (HB.out.below d7) HE.out).mono ?_
            rintro e w8 ⟨rfl, b8⟩
            have d8 := below_trans d7 b8
            clear b8 g0 g1 g34
            go_wp2_with fail
            refine (parse_all S s w8 hs (HB.out.below d8)).mono ?_
            rintro e u1 ⟨cs', er', rfl, v1, hf1, hz1', hv1⟩
            have x1 := below_trans d8 v1
            have y1 : Below u1.heap.size u1 (u1.alloc (.cells cs' 27)) := (Below.refl _ _).alloc (Nat.le_refl _) _
            have x2 := below_trans x1 y1
            have hro2 : (u1.alloc (.cells cs' 27)).heap[u1.heap.size]? = some (.cells cs' 27 (0, 0)) := heap_alloc_new u1 _
            by_cases hc' : (parseCk s.data.toList).2.1 = 0
            · obtain rfl := hf1.eq_nil hc'
              obtain ⟨q35, qone, q32, qev, qcs, qT⟩ := ckVal_parts (hv1 hc')
              obtain ⟨p1, p2, p3, p4, p5⟩ := parse_text (l := s.data.toList) (st := (parseCk s.data.toList).1) (p := (parseCk s.data.toList).2.2) (by rw [← hc'])
              have HFO := Lib.hid (format_of S (u1.alloc (.cells cs' 27)) cs' (parseCk s.data.toList).1 qev qcs (qT.below y1) p5 (by omega) p2 p4 s p1 (HB.out.below x2) (tab_below HTAB.out x2))
              have HQ35 := Lib.hid q35
              have HQONE := Lib.hid qone
              have HRO := Lib.hid hro2
              clear hf1 hz1' hv1 v1 y1 hro2 hc' q35 qone q32 qcs qT p1 p2 p3 p4 p5
              go_wp2_with (first | (refine wpList_ck (by rfl) (.tmp 11) (.tmp 97) (by rfl) (by rfl) (by rfl) HQ35.out HQONE.out ?_) | (refine wpList_ckLoad (by rfl) (.tmp 11) (by rfl) (by rfl) HRO.out HQ35.out ?_))
              generalize u1.alloc (.cells cs' 27) = u2 at *
              refine HFO.out.mono ?_
              rintro e u3 ⟨rfl, v3⟩
              have x3 := below_trans x2 v3
              have hss : (s.toList == s.toList) = true := beq_self_eq_true _
              go_wp2_with fail
              refine (alive21_any S u3 (HB.out.below x3) (tab_below HTAB.out x3)).mono ?_
              rintro e u4 ⟨rfl, v4⟩
              go_wp2_with fail
              go_ret
              exact ⟨rfl, below_trans x3 v4⟩
            · obtain rfl := hz1' hc'
              obtain ⟨T', y', rfl⟩ := err_iface hf1 hc'
              have HRO := Lib.hid hro2
              clear hf1 hz1' hv1 v1 y1 hro2 hc'
              go_wp2_with (first | (refine wpList_ck (by rfl) (.tmp 11) (.tmp 97) (by rfl) (by rfl) (by rfl) zero_size zero_one ?_) | (refine wpList_ckLoad (by rfl) (.tmp 11) (by rfl) (by rfl) HRO.out zero_size ?_))
              rw [zero_lit]
              generalize u1.alloc (.cells ckZero 27) = u2 at *
              refine (same_zero u2).mono ?_
              rintro e u3 ⟨rfl, v3⟩
              have x3 := below_trans x2 v3
              go_wp2_with fail
              refine (alive21_any S u3 (HB.out.below x3) (tab_below HTAB.out x3)).mono ?_
              rintro e u4 ⟨rfl, v4⟩
              go_wp2_with fail
              go_ret
              exact ⟨rfl, below_trans x3 v4⟩
          · have iz : ¬ (1048576 : Int) < (z : Int) := by omega
            have il : (16 : Int) < (L.length : Int) := by omega
            clear hbg
            go_wp2_with fail
            refine (is_yes2 S w7 _ 4 (HB.out.below d7) HE.out).mono ?_
            rintro e w8 ⟨rfl, b8⟩
            have d8 := below_trans d7 b8
            clear b8 g0 g1 g34
            go_wp2_with fail
            refine (parse_all S s w8 hs (HB.out.below d8)).mono ?_
            rintro e u1 ⟨cs', er', rfl, v1, hf1, hz1', hv1⟩
            have x1 := below_trans d8 v1
            have y1 : Below u1.heap.size u1 (u1.alloc (.cells cs' 27)) := (Below.refl _ _).alloc (Nat.le_refl _) _
            have x2 := below_trans x1 y1
            have hro2 : (u1.alloc (.cells cs' 27)).heap[u1.heap.size]? = some (.cells cs' 27 (0, 0)) := heap_alloc_new u1 _
            by_cases hc' : (parseCk s.data.toList).2.1 = 0
            · obtain rfl := hf1.eq_nil hc'
              obtain ⟨q35, qone, q32, qev, qcs, qT⟩ := ckVal_parts (hv1 hc')
              obtain ⟨p1, p2, p3, p4, p5⟩ := parse_text (l := s.data.toList) (st := (parseCk s.data.toList).1) (p := (parseCk s.data.toList).2.2) (by rw [← hc'])
              have HFO := Lib.hid (format_of S (u1.alloc (.cells cs' 27)) cs' (parseCk s.data.toList).1 qev qcs (qT.below y1) p5 (by omega) p2 p4 s p1 (HB.out.below x2) (tab_below HTAB.out x2))
              have HQ35 := Lib.hid q35
              have HQONE := Lib.hid qone
              have HRO := Lib.hid hro2
              clear hf1 hz1' hv1 v1 y1 hro2 hc' q35 qone q32 qcs qT p1 p2 p3 p4 p5
              go_wp2_with (first | (refine wpList_ck (by rfl) (.tmp 11) (.tmp 97) (by rfl) (by rfl) (by rfl) HQ35.out HQONE.out ?_) | (refine wpList_ckLoad (by rfl) (.tmp 11) (by rfl) (by rfl) HRO.out HQ35.out ?_))
              generalize u1.alloc (.cells cs' 27) = u2 at *
              refine HFO.out.mono ?_
              rintro e u3 ⟨rfl, v3⟩
              have x3 := below_trans x2 v3
              have hss : (s.toList == s.toList) = true := beq_self_eq_true _
              go_wp2_with fail
              refine (alive21_any S u3 (HB.out.below x3) (tab_below HTAB.out x3)).mono ?_
              rintro e u4 ⟨rfl, v4⟩
              go_wp2_with fail
              go_ret
              exact ⟨rfl, below_trans x3 v4⟩
            · obtain rfl := hz1' hc'
              obtain ⟨T', y', rfl⟩ := err_iface hf1 hc'
              have HRO := Lib.hid hro2
              clear hf1 hz1' hv1 v1 y1 hro2 hc'
              go_wp2_with (first | (refine wpList_ck (by rfl) (.tmp 11) (.tmp 97) (by rfl) (by rfl) (by rfl) zero_size zero_one ?_) | (refine wpList_ckLoad (by rfl) (.tmp 11) (by rfl) (by rfl) HRO.out zero_size ?_))
              rw [zero_lit]
              generalize u1.alloc (.cells ckZero 27) = u2 at *
              refine (same_zero u2).mono ?_
              rintro e u3 ⟨rfl, v3⟩
              have x3 := below_trans x2 v3
              go_wp2_with fail
              refine (alive21_any S u3 (HB.out.below x3) (tab_below HTAB.out x3)).mono ?_
              rintro e u4 ⟨rfl, v4⟩
              go_wp2_with fail
              go_ret
              exact ⟨rfl, below_trans x3 v4⟩
        · have iz : ¬ (1048576 : Int) < (z : Int) := by omega
          have il : ¬ (16 : Int) < (L.length : Int) := by omega
          have hlen := text_len hm hbg h32
          have HTP := Lib.hid (text_parse hm hbg h32)
          rw [fmt_ok hm hbg] at he ⊢
          obtain rfl := he.eq_nil rfl
          have htd : (⟨(ckText (o, z, r, L)).toArray⟩ : ByteArray).data.toList = ckText (o, z, r, L) := by simp
          have hts : (⟨(ckText (o, z, r, L)).toArray⟩ : ByteArray).size ≤ 140737488351232 := by rw [← size_list, htd]; omega
          have HP8 := Lib.hid (parse_all S ⟨(ckText (o, z, r, L)).toArray⟩ w7 hts (HB.out.below d7))
          rw [htd, HTP.out] at HP8
          generalize (⟨(ckText (o, z, r, L)).toArray⟩ : ByteArray) = tx at *
          clear hlen htd hts he hm hbg HTP
          go_wp2_with fail
          refine HP8.out.mono ?_
          rintro e w8 ⟨cs, er, rfl, b8, he8, _, hv8⟩
          obtain rfl := he8.eq_nil rfl
          obtain ⟨k35, kone, k32, ev8, kcs, kT⟩ := ckVal_parts (hv8 rfl)
          have b9 : Below w8.heap.size w8 (w8.alloc (.cells cs 27)) := (Below.refl _ _).alloc (Nat.le_refl _) _
          have d8 := below_trans d7 b8
          have d9 := below_trans d8 b9
          have hro9 : (w8.alloc (.cells cs 27)).heap[w8.heap.size]? = some (.cells cs 27 (0, 0)) := heap_alloc_new w8 _
          have HRA := Lib.hid hro9
          have HRB := Lib.hid ((HR7.out.below b8).below b9).2
          have HK35 := Lib.hid k35
          have HKONE := Lib.hid kone
          have HSM := Lib.hid (sameCk_any (w8.alloc (.cells cs 27)) o o z z r r L L ev8 (.slice ao L.length cap) h32 h32 (kT.below b9) (HT.out.below d9) (by omega) (by omega))
          rw [← kcs] at HSM
          clear k35 kone k32 kT b8 b9 he8 hv8 hro9 g0 g1 g34 kcs HP8
          go_wp2_with (first | (refine wpList_ck (by rfl) (.tmp 9) (.tmp 53) (by rfl) (by rfl) (by rfl) HK35.out HKONE.out ?_) | (refine wpList_ckLoad (by rfl) (.tmp 9) (by rfl) (by rfl) HRA.out HK35.out ?_) | (refine wpList_ckLoad (by rfl) (.tmp 2) (by rfl) (by rfl) HRB.out H35.out ?_))
          generalize w8.alloc (.cells cs 27) = w9 at *
          refine HSM.out.mono ?_
          rintro e w10 ⟨rfl, b10⟩
          have d10 := below_trans d9 b10
          simp only [decide_true]
          clear b10 HSM HRA HRB
          go_wp2_with fail
          refine (parse_all S s w10 hs (HB.out.below d10)).mono ?_
          rintro e u1 ⟨cs', er', rfl, v1, hf1, hz1', hv1⟩
          have x1 := below_trans d10 v1
          have y1 : Below u1.heap.size u1 (u1.alloc (.cells cs' 27)) := (Below.refl _ _).alloc (Nat.le_refl _) _
          have x2 := below_trans x1 y1
          have hro2 : (u1.alloc (.cells cs' 27)).heap[u1.heap.size]? = some (.cells cs' 27 (0, 0)) := heap_alloc_new u1 _
          by_cases hc' : (parseCk s.data.toList).2.1 = 0
          · obtain rfl := hf1.eq_nil hc'
            obtain ⟨q35, qone, q32, qev, qcs, qT⟩ := ckVal_parts (hv1 hc')
            obtain ⟨p1, p2, p3, p4, p5⟩ := parse_text (l := s.data.toList) (st := (parseCk s.data.toList).1) (p := (parseCk s.data.toList).2.2) (by rw [← hc'])
            have HFO := Lib.hid (format_of S (u1.alloc (.cells cs' 27)) cs' (parseCk s.data.toList).1 qev qcs (qT.below y1) p5 (by omega) p2 p4 s p1 (HB.out.below x2) (tab_below HTAB.out x2))
            have HQ35 := Lib.hid q35
            have HQONE := Lib.hid qone
            have HRO := Lib.hid hro2
            clear hf1 hz1' hv1 v1 y1 hro2 hc' q35 qone q32 qcs qT p1 p2 p3 p4 p5
            go_wp2_with (first | (refine wpList_ck (by rfl) (.tmp 11) (.tmp 97) (by rfl) (by rfl) (by rfl) HQ35.out HQONE.out ?_) | (refine wpList_ckLoad (by rfl) (.tmp 11) (by rfl) (by rfl) HRO.out HQ35.out ?_))
            generalize u1.alloc (.cells cs' 27) = u2 at *
            refine HFO.out.mono ?_
            rintro e u3 ⟨rfl, v3⟩
            have x3 := below_trans x2 v3
            have hss : (s.toList == s.toList) = true := beq_self_eq_true _
            go_wp2_with fail
            refine (alive21_any S u3 (HB.out.below x3) (tab_below HTAB.out x3)).mono ?_
            rintro e u4 ⟨rfl, v4⟩
            go_wp2_with fail
            go_ret
            exact ⟨rfl, below_trans x3 v4⟩
          · obtain rfl := hz1' hc'
            obtain ⟨T', y', rfl⟩ := err_iface hf1 hc'
            have HRO := Lib.hid hro2
            clear hf1 hz1' hv1 v1 y1 hro2 hc'
            go_wp2_with (first | (refine wpList_ck (by rfl) (.tmp 11) (.tmp 97) (by rfl) (by rfl) (by rfl) zero_size zero_one ?_) | (refine wpList_ckLoad (by rfl) (.tmp 11) (by rfl) (by rfl) HRO.out zero_size ?_))
            rw [zero_lit]
            generalize u1.alloc (.cells ckZero 27) = u2 at *
            refine (same_zero u2).mono ?_
            rintro e u3 ⟨rfl, v3⟩
            have x3 := below_trans x2 v3
            go_wp2_with fail
            refine (alive21_any S u3 (HB.out.below x3) (tab_below HTAB.out x3)).mono ?_
            rintro e u4 ⟨rfl, v4⟩
            go_wp2_with fail
            go_ret
            exact ⟨rfl, below_trans x3 v4⟩
theorem checkpointBack_walk : CheckpointBackFrame.Walk := fun S o z r ev L s w hck hs hB hT => ckback_walk S w o z r ev L hck s hs hB hT
theorem checkpointBack_card : Rows.CheckpointBackCardSaid := CheckpointBackFrame.card checkpointBack_walk
end Go.Proofs.YtjmgkallgflcdaaDoor
