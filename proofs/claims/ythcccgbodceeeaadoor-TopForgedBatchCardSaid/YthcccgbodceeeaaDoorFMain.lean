/-
  TopForgedBatch by its contract.
-/
import Derived.Test.YthcccgbodceeeaaDoorFKnown
namespace Go.Proofs.YthcccgbodceeeaaDoor
open Go.RowKit

def ForgeryOf (S : Nat → Addr) (okp same : Bool) (T : List UInt8) (x : Ending) : Prop :=
  ∃ (a b : ByteArray) (okb : Bool), x = .returned (.tuple #[.string a, .string b, .bool okb]) ∧
    ∀ W : World, FW S W → Calls Tryd.prog 11 #[.string a, .string b, .bool okb, .bool (okp && !same), .bool (okp && same), .agg (Lib.byteCells T).toArray] W fun e w' => e = .returned (.bool true) ∧ Below W.heap.size W w'
theorem batch_forgery (S : Nat → Addr) (ok : Prop) (same okp : Bool) (hok : okp = true ↔ ok) (T0 T : List UInt8) (hT : T.length = 32) (hTT : ok → T = T0) (w : World) (x : Ending) (w' : World) (h : BatchPost ok same T0 w x w') : ForgeryOf S okp same T x := by
  obtain ⟨_, h1, h2, h3⟩ := h
  cases okp with
  | false =>
    have hn : ¬ ok := fun h => by have := hok.2 h; cases this
    refine ⟨⟨#[]⟩, ⟨#[]⟩, false, h1 hn, fun W _ => ?_⟩
    exact forgery_none T W hT
  | true =>
    have ho := hok.1 rfl
    cases same with
    | true =>
      obtain ⟨s, e, e2, e3⟩ := h2 ho rfl
      exact ⟨s, s, false, e, fun W hW => forgery_so S s T W hW hT e3 (by rw [hTT ho]; exact e2)⟩
    | false =>
      obtain ⟨s, s', e, e1, e2, e3, e4⟩ := h3 ho rfl
      exact ⟨s, s', true, e, fun W hW => forgery_wrong S s s' false T W hW hT e3 e4 e1 e2⟩
/-- One round of the hashing. -/
def MRel (w : World) (fs : List ByteArray) (hv iv : Value) (wr : World) : Prop :=
  ∃ i : Nat, i ≤ fs.length ∧ iv = .int .i64 (i : Int) ∧ wr.ownsRow w.heap.size 33 32 hv i (hcells (hsl fs i)) ∧ Below w.heap.size w wr
set_option maxHeartbeats 4000000 in
set_option maxRecDepth 100000 in
theorem main_any (S : Nat → Addr) (lv sv pv : Value) (ss fs : List ByteArray) (pr : List (List UInt8)) (B Z : Nat) (w : World) (hF : FW S w) (hl : StrsIn w lv ss) (hss : ss.length ≤ 9223372036854775807) (hsv : StrsIn w sv fs) (hfs : ∀ s ∈ fs, s.size ≤ 140737488355327) (hpv : HsIn w pv pr) (hB : B ≤ 18446744073709551615) (hZ : Z ≤ 18446744073709551615) :
    Calls Tryd.prog 3 #[.agg #[lv, .int .u64 (B : Int), .int .u64 (Z : Int), sv, pv]] w fun x w' => x = .returned (.bool true) ∧ Below w.heap.size w w' := by
  obtain ⟨zl, hzl, hinfo⟩ := Tryd.infoHash
  obtain ⟨zl0, _, hzv0⟩ := zeroHash
  have HZV := Lib.hid hzv0
  clear hzv0
  obtain ⟨i0, hi, hz0, hz1, hz2⟩ := info_parts hinfo
  have HF := Lib.hid hF
  have HL := Lib.hid hl
  have HSV := Lib.hid hsv
  have HPV := Lib.hid hpv
  have HFS := Lib.hid hfs
  obtain ⟨aol, capl, rfl, _⟩ := hl
  obtain ⟨aos, caps, rfl, hrs⟩ := hsv
  obtain ⟨_, aop, capp, rfl, _, _⟩ := hpv
  have HRS := Lib.hid hrs
  clear hF hfs hrs hinfo
  go_enter Tryd.func3, Tryd.ntmps3
  go_upto_region 1 with fail
  have hwo := heap_one w (.cells #[.slice aol ss.length capl, .int .u64 (B : Int), .int .u64 (Z : Int), .slice aos fs.length caps, .slice aop pr.length capp] 26)
  have hbo := below_one w (.cells #[.slice aol ss.length capl, .int .u64 (B : Int), .int .u64 (Z : Int), .slice aos fs.length caps, .slice aop pr.length capp] 26)
  generalize w.alloc (.cells #[.slice aol ss.length capl, .int .u64 (B : Int), .int .u64 (Z : Int), .slice aos fs.length caps, .slice aop pr.length capp] 26) = wo at *
  have HWO := Lib.hid hwo
  have HBO := Lib.hid hbo
  have HLO := Lib.hid (log_any S _ ss wo (HF.out.below hbo) (HL.out.below hbo) hss)
  have c0 := cell_of hwo 0 rfl
  have c3 := cell_of hwo 3 rfl
  clear hwo hbo
  go_wp2_with (go_at_call 4; refine HLO.out.mono ?_)
  rintro x w1 ⟨lb, ls, rfl, _, hlg, hl4, hls, hb1⟩
  have HW1 := Lib.hid (below_heap hb1 HWO.out)
  have HB1 := Lib.hid (HBO.out.trans (hb1.mono HBO.out.size))
  have HLG := Lib.hid hlg
  have HLS := Lib.hid hls
  have c3 := below_cell hb1 c3
  clear hlg hls hb1 c0 HLO HWO HBO
  have HKN := Lib.hid fun (W : World) (hb : Below w.heap.size w W) => known_any S W (HF.out.below hb)
  by_cases h4 : 400 < fs.length
  · have i1 : (400 : Int) < (fs.length : Int) := by omega
    go_wp2_with (go_at_call 5; refine (HKN.out _ HB1.out).mono ?_)
    first
      | rintro x w2 rfl hb2
      | rintro x w2 ⟨rfl, hb2⟩
    have HB2 := Lib.hid (HB1.out.trans (hb2.mono HB1.out.size))
    clear hb2
    go_wp2_with fail
    go_ret
    exact ⟨rfl, HB2.out⟩
  · have i1 : ¬ (400 : Int) < (fs.length : Int) := by omega
    have hn4 : fs.length ≤ 400 := by omega
    clear h4
    have c1 := cell_of HW1.out 1 rfl
    have c2 := cell_of HW1.out 2 rfl
    have c4 := cell_of HW1.out 4 rfl
    obtain ⟨same, hsame⟩ : ∃ same, sameB ls B fs fs.length = same := ⟨_, rfl⟩
    have HFO := Lib.hid (forge_batch S lb B Z ls fs pr _ _ w1 (HF.out.below HB1.out) HLG.out hl4 HLS.out (HSV.out.below HB1.out) (HPV.out.below HB1.out) hB hZ hn4 HFS.out)
    rw [hsame] at HFO
    go_upto_region 5 with fail
    go_upto_region 6 with (go_at_call 6; refine HFO.out.mono ?_)
    intro x w2 hpost
    have hb2 := hpost.1
    have HPO := Lib.hid hpost
    have HW2 := Lib.hid (below_heap hb2 HW1.out)
    have HB2 := Lib.hid (HB1.out.trans (hb2.mono HB1.out.size))
    have HLG2 := Lib.hid (HLG.out.below hb2)
    obtain ⟨okp, hokp⟩ : ∃ okp : Bool, okp = true ↔ forgeOk ls fs B Z pr := by
      by_cases h : forgeOk ls fs B Z pr
      · exact ⟨true, by simp [h]⟩
      · exact ⟨false, by simp [h]⟩
    have HOK := Lib.hid hokp
    have HFG0 := Lib.hid fun (T : List UInt8) (hT : T.length = 32) (hTT : forgeOk ls fs B Z pr → T = treeF spL (lf ls) Z 0 Z) => batch_forgery S _ same okp hokp _ T hT hTT w1 x w2 hpost
    obtain ⟨a, b, okb, rfl⟩ : ∃ (a b : ByteArray) (okb : Bool), x = .returned (.tuple #[.string a, .string b, .bool okb]) := by
      obtain ⟨_, h1, h2, h3⟩ := hpost
      by_cases h : forgeOk ls fs B Z pr
      · cases same with
        | true => obtain ⟨s, e, _⟩ := h2 h rfl; exact ⟨_, _, _, e⟩
        | false => obtain ⟨s, s', e, _⟩ := h3 h rfl; exact ⟨_, _, _, e⟩
      · exact ⟨_, _, _, h1 h⟩
    clear hpost hb2 hokp c1 c2 c3 c4 HFO HPO HLG HW1 HB1
    have c1 := cell_of HW2.out 1 rfl
    have c2 := cell_of HW2.out 2 rfl
    have c4 := cell_of HW2.out 4 rfl
    have HRO := Lib.hid (root_any S lb ls Z w2 (HF.out.below HB2.out) HLG2.out hl4 HLS.out hZ)
    go_wp2_with (go_at_call 7; refine HRO.out.mono ?_)
    rintro x w3 ⟨T, rfl, hTL, hTE, hb3⟩
    have HTL := Lib.hid hTL
    have HTT := Lib.hid (show forgeOk ls fs B Z pr → T = treeF spL (lf ls) Z 0 Z from fun h => hTE (by have := h.2.1.1; have := h.2.1.2.1; omega) h.1 Z (by omega))
    have HTZ := Lib.hid (show 0 < Z → Z ≤ ls.length → T = treeF spL (lf ls) Z 0 Z from fun h0 h => hTE h0 h Z (by omega))
    have HFG := Lib.hid (by
      obtain ⟨a', b', okb', e, hf⟩ := HFG0.out T HTL.out HTT.out
      simp only [Ending.returned.injEq, Value.tuple.injEq, Array.mk.injEq, List.cons.injEq, Value.string.injEq, Value.bool.injEq, and_true] at e
      obtain ⟨rfl, rfl, rfl⟩ := e
      exact hf)
    obtain ⟨ev, hev⟩ : ∃ ev, (if Z ≤ ls.length then Value.nilIface else errV S 3) = ev := ⟨_, rfl⟩
    rw [hev]
    have HEV := Lib.hid hev
    have HW3 := Lib.hid (below_heap hb3 HW2.out)
    have HB3 := Lib.hid (HB2.out.trans (hb3.mono HB2.out.size))
    have HLG3 := Lib.hid (HLG2.out.below hb3)
    clear hTL hTE hb3 hev HFG0 HRO c1 c2 c4 HLG2 HW2 HB2
    go_upto_region 7 with (refine wpList_hash (by rfl) (.tmp 8) (.tmp 41) (by rfl) (by rfl) (by rfl) (hash_size HTL.out) (by rfl) (byteCells_one T) ?_)
    have H8 := Lib.hid (heap_one w3 (.cells (Lib.byteCells T).toArray 33))
    have hb4 := below_one w3 (.cells (Lib.byteCells T).toArray 33)
    have HW4 := Lib.hid (below_heap hb4 HW3.out)
    have HB4 := Lib.hid (HB3.out.trans (hb4.mono HB3.out.size))
    have HLG4 := Lib.hid (HLG3.out.below hb4)
    clear hb4 HW3 HB3 HLG3
    generalize w3.alloc (.cells (Lib.byteCells T).toArray 33) = w4 at *
    generalize w3.heap.size = g8 at *
    have HB04 := Lib.hid (Below.refl w4.heap.size w4)
    go_wp2_with fail
    go_loopw [10, 11] (fun hv iv wr => MRel w4 fs hv iv wr) (fun _ iv _ => fs.length - (intOf iv).toNat)
    case atStart => exact ⟨0, Nat.zero_le _, rfl, World.ownsRow_nil _ _ _ _, HB04.out⟩
    case round =>
      obtain ⟨i, hin, rfl, hown, hbel⟩ := hrel
      rename World => wA
      by_cases hi' : i < fs.length
      · have i1' : (i : Int) < (fs.length : Int) := by omega
        have i0' : (0 : Int) ≤ (i : Int) := by omega
        obtain ⟨s, hs⟩ : ∃ s, fs[i]? = some s := ⟨_, List.getElem?_eq_getElem hi'⟩
        obtain ⟨g, o, rfl, hrow⟩ := HRS.out (fun e => by rw [e] at hi'; simp at hi')
        have ci : wA.cell? ⟨g, o + i, none⟩ = some (.string s) := below_cell (HB4.out.trans (hbel.mono HB4.out.size)) (hrow i (.string s) (by rw [List.getElem?_map, hs]; rfl))
        obtain ⟨H, hH⟩ : ∃ H, shaL (leafT (bs s)) = H := ⟨_, rfl⟩
        have HHL := Lib.hid (show H.length = 32 by rw [← hH]; exact shaL_len _)
        have HLF := Lib.hid (by
          have hfw := HF.out.below (HB4.out.trans (hbel.mono HB4.out.size))
          have h := hleaf_any s (by have := HFS.out s (List.mem_of_getElem? hs); omega) wA hfw.tab hfw.lt
          rw [hH] at h
          exact h : Calls Tryd.prog 8 #[.string s] wA fun e w' => e = .returned (.agg (Lib.byteCells H).toArray) ∧ Below wA.heap.size wA w')
        have HNX := Lib.hid (show hcells (hsl fs (i + 1)) = hcells (hsl fs i) ++ Lib.byteCells H by rw [hsl_next hs, hcells_snoc, hH])
        obtain ⟨ah, ch, rfl⟩ := owns_anyH hown
        have HOW := Lib.hid hown
        have HBL := Lib.hid hbel
        clear hown hbel hH hs hrow
        go_wp2_with (go_at_call 8; refine HLF.out.mono ?_)
        first
          | rintro x wB rfl hbB
          | rintro x wB ⟨rfl, hbB⟩
        have HOB := Lib.hid (owns_below HOW.out hbB)
        have HBB := Lib.hid (HBL.out.trans (hbB.mono HBL.out.size))
        clear hbB ci
        go_wp2_with (first | (refine wpList_buildHash zl0 HZV.out (by rfl) (.tmp 54) (by rfl) H (by rfl) HHL.out ?_) | (at_builtin; refine wpList_append_own_at _ rfl _ _ 24 rfl w4.heap.size 33 i0 (.agg (Lib.byteCells zl).toArray) 32 32 Tryd.underlying24 hi hz0 hz1 hz2 (hash_size hzl) (by decide) _ _ _ rfl (HOB.out.alloc _) ⟨wB.heap.size, 0, none⟩ 1 1 (Lib.byteCells H) rfl (by rw [Lib.byteCells_length, HHL.out]) (fun j u hj => by rw [Addr.add_mid, Nat.zero_add]; exact cell_of (heap_one wB _) j (by simpa using hj)) (cells_oneC H) (by unfold maxLen; omega) (by omega) (by have := HBB.out.size; simp; omega) ?_))
        intro v' w2' hown' hgrow _ hloc
        have hb2 : Below w4.heap.size w4 w2' := (HBB.out.alloc HBB.out.size _).grown hgrow (by have := HBB.out.size; simp; omega) (fun j hj => (HOB.out.lt j hj).1)
        rw [← HNX.out] at hown'
        have HO2 := Lib.hid hown'
        have HB2 := Lib.hid hb2
        clear hown' hgrow hloc hb2 HOB HBB
        go_wp2_with fail
        exact ⟨⟨i + 1, hi', by go_num, HO2.out, HB2.out⟩, by simp [intOf]; omega⟩
      · obtain rfl : i = fs.length := by omega
        have i1' : ¬ (fs.length : Int) < (fs.length : Int) := by omega
        obtain ⟨ah, ch, rfl⟩ := owns_anyH hown
        have HBA := Lib.hid (HB4.out.trans (hbel.mono HB4.out.size))
        have HHS := Lib.hid (hsIn_of_owns (hsl_32 fs fs.length) (by rw [hsl_len fs _ (Nat.le_refl _)]; exact hown))
        have HVE := Lib.hid fun (W : World) (hb : Below wA.heap.size wA W) (hZ4 : Z ≤ 400) => (by
          have hbw := HBA.out.trans (hb.mono HBA.out.size)
          exact verify_any S B Z fs.length ch capp ah aop (hsl fs fs.length) pr T (Fof B fs) W (HF.out.below hbw) (HHS.out.below hb) (hsl_len fs _ (Nat.le_refl _)).symm (fun i hi => hsl_at fs B i hi) (HPV.out.below hbw) hB hZ4 hn4 HTL.out)
        have HOT := Lib.hid fun (W : World) (hb : Below wA.heap.size wA W) => (by
          have hbw := HBA.out.trans (hb.mono HBA.out.size)
          have h := other_any S lb B ls fs _ W (HF.out.below hbw) ((HLG4.out.below hbel).below hb) hl4 (HSV.out.below hbw) hn4
          rw [hsame] at h
          exact h)
        have HWA := Lib.hid (below_heap hbel HW4.out)
        have H8A := Lib.hid (below_heap hbel H8.out)
        have HA0 := Lib.hid (Below.refl wA.heap.size wA)
        have c1 := cell_of HWA.out 1 rfl
        have c2 := cell_of HWA.out 2 rfl
        have c4 := cell_of HWA.out 4 rfl
        clear hown hbel hin hi' HLG4 HW4 HB4 H8 hsame
        by_cases hz : Z ≤ ls.length
        · have HZ4 := Lib.hid (show Z ≤ 400 by omega)
          obtain rfl : ev = .nilIface := by rw [← HEV.out, if_pos hz]
          by_cases hok : verOk B Z fs.length pr (Fof B fs) T
          · have h0 : 0 < Z := by have := hok.1.1; have := hok.1.2.1; omega
            have z1 : (0 : Int) < (Z : Int) := by omega
            have hfo : forgeOk ls fs B Z pr := ⟨hz, by rw [HTZ.out h0 hz] at hok; exact hok⟩
            obtain rfl : okp = true := HOK.out.2 hfo
            have HV1 := Lib.hid hok
            clear hok hfo hz h0 HEV HOK
            cases same with
            | true =>
              simp only [Bool.and_true, Bool.and_false, Bool.not_true] at HFG HOT
              go_upto_region 13 with (first | (refine wpList_hashLoad2 (by rfl) (.tmp 8) (by rfl) g8 0 (by rfl) T HTL.out (range_row H8A.out) ?_) | (go_at_call 9; refine (HVE.out wA HA0.out HZ4.out).mono ?_))
              rintro x w5 ⟨h1, _, hb5⟩
              obtain rfl := h1 HV1.out
              clear h1
              have HA5 := Lib.hid (HA0.out.trans (hb5.mono HA0.out.size))
              have H85 := Lib.hid (below_heap hb5 H8A.out)
              have c1 := below_cell hb5 c1
              have c2 := below_cell hb5 c2
              have c4 := below_cell hb5 c4
              clear hb5
              go_upto_region 13 with (go_at_call 10; refine (HOT.out w5 HA5.out).mono ?_)
              first
                | rintro x w6 rfl hb6
                | rintro x w6 ⟨rfl, hb6⟩
              have HA6 := Lib.hid (HA5.out.trans (hb6.mono HA5.out.size))
              have H86 := Lib.hid (below_heap hb6 H85.out)
              have c1 := below_cell hb6 c1
              have c2 := below_cell hb6 c2
              have c4 := below_cell hb6 c4
              clear hb6
              go_upto_region 14 with (first | (refine wpList_hashLoad2 (by rfl) (.tmp 8) (by rfl) g8 0 (by rfl) T HTL.out (range_row H86.out) ?_) | (go_at_call 9; refine (HVE.out w6 HA6.out HZ4.out).mono ?_))
              rintro x w7 ⟨h1, _, hb7⟩
              obtain rfl := h1 HV1.out
              clear h1
              have HA7 := Lib.hid (HA6.out.trans (hb7.mono HA6.out.size))
              have H87 := Lib.hid (below_heap hb7 H86.out)
              have c1 := below_cell hb7 c1
              have c2 := below_cell hb7 c2
              have c4 := below_cell hb7 c4
              clear hb7
              go_upto_region 14 with (go_at_call 10; refine (HOT.out w7 HA7.out).mono ?_)
              first
                | rintro x w8 rfl hb8
                | rintro x w8 ⟨rfl, hb8⟩
              have HA8 := Lib.hid (HA7.out.trans (hb8.mono HA7.out.size))
              have H88 := Lib.hid (below_heap hb8 H87.out)
              have c1 := below_cell hb8 c1
              have c2 := below_cell hb8 c2
              have c4 := below_cell hb8 c4
              clear hb8
              go_upto_region 14 with fail
              have HBZ := Lib.hid (HBA.out.trans (HA8.out.mono HBA.out.size))
              have HFE := Lib.hid (HF.out.below HBZ.out)
              go_wp2_with (first | (refine wpList_load_row (by rfl) 33 (.tmp 8) (by rfl) g8 (by rfl) 33 (Lib.byteCells T).toArray (0, 0) _ H88.out Tryd.underlying33 rfl (by rw [hash_size HTL.out]; exact hashInfo) ?_) | (go_at_call 11; refine (HFG.out _ HFE.out).mono ?_))
              first
                | rintro x wy rfl hby
                | rintro x wy ⟨rfl, hby⟩
              have HBY := Lib.hid (HBZ.out.trans (hby.mono HBZ.out.size))
              clear hby
              go_wp2_with (go_at_call 5; refine (HKN.out _ HBY.out).mono ?_)
              first
                | rintro x wz rfl hbz
                | rintro x wz ⟨rfl, hbz⟩
              have HBE := Lib.hid (HBY.out.trans (hbz.mono HBY.out.size))
              clear hbz
              go_wp2_with fail
              go_ret
              exact ⟨rfl, HBE.out⟩
            | false =>
              simp only [Bool.and_true, Bool.and_false, Bool.not_false] at HFG HOT
              go_upto_region 13 with (first | (refine wpList_hashLoad2 (by rfl) (.tmp 8) (by rfl) g8 0 (by rfl) T HTL.out (range_row H8A.out) ?_) | (go_at_call 9; refine (HVE.out wA HA0.out HZ4.out).mono ?_))
              rintro x w5 ⟨h1, _, hb5⟩
              obtain rfl := h1 HV1.out
              clear h1
              have HA5 := Lib.hid (HA0.out.trans (hb5.mono HA0.out.size))
              have H85 := Lib.hid (below_heap hb5 H8A.out)
              have c1 := below_cell hb5 c1
              have c2 := below_cell hb5 c2
              have c4 := below_cell hb5 c4
              clear hb5
              go_upto_region 13 with (go_at_call 10; refine (HOT.out w5 HA5.out).mono ?_)
              first
                | rintro x w6 rfl hb6
                | rintro x w6 ⟨rfl, hb6⟩
              have HA6 := Lib.hid (HA5.out.trans (hb6.mono HA5.out.size))
              have H86 := Lib.hid (below_heap hb6 H85.out)
              have c1 := below_cell hb6 c1
              have c2 := below_cell hb6 c2
              have c4 := below_cell hb6 c4
              clear hb6
              go_upto_region 14 with (first | (refine wpList_hashLoad2 (by rfl) (.tmp 8) (by rfl) g8 0 (by rfl) T HTL.out (range_row H86.out) ?_) | (go_at_call 9; refine (HVE.out w6 HA6.out HZ4.out).mono ?_))
              rintro x w7 ⟨h1, _, hb7⟩
              obtain rfl := h1 HV1.out
              clear h1
              have HA7 := Lib.hid (HA6.out.trans (hb7.mono HA6.out.size))
              have H87 := Lib.hid (below_heap hb7 H86.out)
              have c1 := below_cell hb7 c1
              have c2 := below_cell hb7 c2
              have c4 := below_cell hb7 c4
              clear hb7
              go_upto_region 14 with (go_at_call 10; refine (HOT.out w7 HA7.out).mono ?_)
              first
                | rintro x w8 rfl hb8
                | rintro x w8 ⟨rfl, hb8⟩
              have HA8 := Lib.hid (HA7.out.trans (hb8.mono HA7.out.size))
              have H88 := Lib.hid (below_heap hb8 H87.out)
              have c1 := below_cell hb8 c1
              have c2 := below_cell hb8 c2
              have c4 := below_cell hb8 c4
              clear hb8
              go_upto_region 14 with fail
              have HBZ := Lib.hid (HBA.out.trans (HA8.out.mono HBA.out.size))
              have HFE := Lib.hid (HF.out.below HBZ.out)
              go_wp2_with (first | (refine wpList_load_row (by rfl) 33 (.tmp 8) (by rfl) g8 (by rfl) 33 (Lib.byteCells T).toArray (0, 0) _ H88.out Tryd.underlying33 rfl (by rw [hash_size HTL.out]; exact hashInfo) ?_) | (go_at_call 11; refine (HFG.out _ HFE.out).mono ?_))
              first
                | rintro x wy rfl hby
                | rintro x wy ⟨rfl, hby⟩
              have HBY := Lib.hid (HBZ.out.trans (hby.mono HBZ.out.size))
              clear hby
              go_wp2_with (go_at_call 5; refine (HKN.out _ HBY.out).mono ?_)
              first
                | rintro x wz rfl hbz
                | rintro x wz ⟨rfl, hbz⟩
              have HBE := Lib.hid (HBY.out.trans (hbz.mono HBY.out.size))
              clear hbz
              go_wp2_with fail
              go_ret
              exact ⟨rfl, HBE.out⟩
          · have HV1 := Lib.hid hok
            obtain rfl : okp = false := by
              cases okp with
              | false => rfl
              | true =>
                have hfo := HOK.out.1 rfl
                have h0 : 0 < Z := by have := hfo.2.1.1; have := hfo.2.1.2.1; omega
                have hv := hfo.2
                rw [← HTZ.out h0 hz] at hv
                exact absurd hv hok
            clear hok hz HEV HOK
            simp only [Bool.false_and] at HFG
            by_cases h0 : 0 < Z
            · have z1 : (0 : Int) < (Z : Int) := by omega
              go_upto_region 13 with (first | (refine wpList_hashLoad2 (by rfl) (.tmp 8) (by rfl) g8 0 (by rfl) T HTL.out (range_row H8A.out) ?_) | (go_at_call 9; refine (HVE.out wA HA0.out HZ4.out).mono ?_))
              rintro x w5 ⟨_, h2, hb5⟩
              obtain ⟨i5, rfl⟩ := h2 HV1.out
              have HE5 := Lib.hid (show errV S i5 = .iface 125 (.pointer (some (S i5))) from rfl)
              rw [HE5.out]
              clear h2
              have HA5 := Lib.hid (HA0.out.trans (hb5.mono HA0.out.size))
              have H85 := Lib.hid (below_heap hb5 H8A.out)
              have c1 := below_cell hb5 c1
              have c2 := below_cell hb5 c2
              have c4 := below_cell hb5 c4
              clear hb5
              go_upto_region 14 with (first | (refine wpList_hashLoad2 (by rfl) (.tmp 8) (by rfl) g8 0 (by rfl) T HTL.out (range_row H85.out) ?_) | (go_at_call 9; refine (HVE.out w5 HA5.out HZ4.out).mono ?_))
              rintro x w6 ⟨_, h2, hb6⟩
              obtain ⟨i6, rfl⟩ := h2 HV1.out
              have HE6 := Lib.hid (show errV S i6 = .iface 125 (.pointer (some (S i6))) from rfl)
              rw [HE6.out]
              clear h2
              have HA6 := Lib.hid (HA5.out.trans (hb6.mono HA5.out.size))
              have H86 := Lib.hid (below_heap hb6 H85.out)
              have c1 := below_cell hb6 c1
              have c2 := below_cell hb6 c2
              have c4 := below_cell hb6 c4
              clear hb6
              go_upto_region 14 with fail
              have HBZ := Lib.hid (HBA.out.trans (HA6.out.mono HBA.out.size))
              have HFE := Lib.hid (HF.out.below HBZ.out)
              go_wp2_with (first | (refine wpList_load_row (by rfl) 33 (.tmp 8) (by rfl) g8 (by rfl) 33 (Lib.byteCells T).toArray (0, 0) _ H86.out Tryd.underlying33 rfl (by rw [hash_size HTL.out]; exact hashInfo) ?_) | (go_at_call 11; refine (HFG.out _ HFE.out).mono ?_))
              first
                | rintro x wy rfl hby
                | rintro x wy ⟨rfl, hby⟩
              have HBY := Lib.hid (HBZ.out.trans (hby.mono HBZ.out.size))
              clear hby
              go_wp2_with (go_at_call 5; refine (HKN.out _ HBY.out).mono ?_)
              first
                | rintro x wz rfl hbz
                | rintro x wz ⟨rfl, hbz⟩
              have HBE := Lib.hid (HBY.out.trans (hbz.mono HBY.out.size))
              clear hbz
              go_wp2_with fail
              go_ret
              exact ⟨rfl, HBE.out⟩
            · have z1 : ¬ (0 : Int) < (Z : Int) := by omega
              go_upto_region 13 with (first | (refine wpList_hashLoad2 (by rfl) (.tmp 8) (by rfl) g8 0 (by rfl) T HTL.out (range_row H8A.out) ?_) | (go_at_call 9; refine (HVE.out wA HA0.out HZ4.out).mono ?_))
              rintro x w5 ⟨_, h2, hb5⟩
              obtain ⟨i5, rfl⟩ := h2 HV1.out
              have HE5 := Lib.hid (show errV S i5 = .iface 125 (.pointer (some (S i5))) from rfl)
              rw [HE5.out]
              clear h2
              have HA5 := Lib.hid (HA0.out.trans (hb5.mono HA0.out.size))
              have H85 := Lib.hid (below_heap hb5 H8A.out)
              have c1 := below_cell hb5 c1
              have c2 := below_cell hb5 c2
              have c4 := below_cell hb5 c4
              clear hb5
              go_upto_region 14 with fail
              have HBZ := Lib.hid (HBA.out.trans (HA5.out.mono HBA.out.size))
              have HFE := Lib.hid (HF.out.below HBZ.out)
              go_wp2_with (first | (refine wpList_load_row (by rfl) 33 (.tmp 8) (by rfl) g8 (by rfl) 33 (Lib.byteCells T).toArray (0, 0) _ H85.out Tryd.underlying33 rfl (by rw [hash_size HTL.out]; exact hashInfo) ?_) | (go_at_call 11; refine (HFG.out _ HFE.out).mono ?_))
              first
                | rintro x wy rfl hby
                | rintro x wy ⟨rfl, hby⟩
              have HBY := Lib.hid (HBZ.out.trans (hby.mono HBZ.out.size))
              clear hby
              go_wp2_with (go_at_call 5; refine (HKN.out _ HBY.out).mono ?_)
              first
                | rintro x wz rfl hbz
                | rintro x wz ⟨rfl, hbz⟩
              have HBE := Lib.hid (HBY.out.trans (hbz.mono HBY.out.size))
              clear hbz
              go_wp2_with fail
              go_ret
              exact ⟨rfl, HBE.out⟩
        · have HE5 := Lib.hid (show errV S 3 = .iface 125 (.pointer (some (S 3))) from rfl)
          obtain rfl : ev = errV S 3 := by rw [← HEV.out, if_neg hz]
          obtain rfl : okp = false := by
            cases okp with
            | false => rfl
            | true => exact absurd (HOK.out.1 rfl).1 hz
          rw [HE5.out]
          clear hz HEV HOK
          simp only [Bool.false_and] at HFG
          go_upto_region 14 with fail
          have HBZ := Lib.hid (HBA.out.trans (HA0.out.mono HBA.out.size))
          have HFE := Lib.hid (HF.out.below HBZ.out)
          go_wp2_with (first | (refine wpList_load_row (by rfl) 33 (.tmp 8) (by rfl) g8 (by rfl) 33 (Lib.byteCells T).toArray (0, 0) _ H8A.out Tryd.underlying33 rfl (by rw [hash_size HTL.out]; exact hashInfo) ?_) | (go_at_call 11; refine (HFG.out _ HFE.out).mono ?_))
          first
            | rintro x wy rfl hby
            | rintro x wy ⟨rfl, hby⟩
          have HBY := Lib.hid (HBZ.out.trans (hby.mono HBZ.out.size))
          clear hby
          go_wp2_with (go_at_call 5; refine (HKN.out _ HBY.out).mono ?_)
          first
            | rintro x wz rfl hbz
            | rintro x wz ⟨rfl, hbz⟩
          have HBE := Lib.hid (HBY.out.trans (hbz.mono HBY.out.size))
          clear hbz
          go_wp2_with fail
          go_ret
          exact ⟨rfl, HBE.out⟩
end Go.Proofs.YthcccgbodceeeaaDoor
