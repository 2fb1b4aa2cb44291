/-
  forge.Batch by its contract.
-/
import Derived.Test.YthcccgbodceeeaaDoorFForgeP
import Derived.Test.YthcccgbodceeeaaDoorFBuild
namespace Go.Proofs.YthcccgbodceeeaaDoor
open Go.RowKit

theorem hsIn_of_owns {W : World} {Bs : Nat} {v : Value} {hs : List (List UInt8)} (hl : ∀ h ∈ hs, h.length = 32) (h : W.ownsRow Bs 33 32 v hs.length (hcells hs)) : HsIn W v hs := by
  obtain ⟨_, ho⟩ := h
  rcases ho with ⟨rfl, hn⟩ | ⟨g, cap, cur, rfl, _, hg, hc, _, _, htk⟩
  · exact ⟨hl, none, 0, by rw [hn], by omega, fun hne => absurd (List.length_eq_zero_iff.1 hn) hne⟩
  · refine ⟨hl, _, cap, rfl, hc, fun _ => ⟨g, 0, rfl, fun j u hj => ?_⟩⟩
    rw [Nat.zero_add]
    refine cell_of hg j ?_
    rw [← htk, List.getElem?_take] at hj
    split at hj
    · simpa using hj
    · cases hj
theorem Tryd.infoHash : ∃ z : List UInt8, z.length = 32 ∧ (Tryd.prog.info? 33).map (fun i => (i.zero, i.size, i.bytes)) = some (some (.agg (Lib.byteCells z).toArray), 32, 32) := ⟨List.replicate 32 0, rfl, by kernel_rfl⟩
/-- One round of the walk over the claimed leaves. -/
def RoundRel (w : World) (ls fs : List ByteArray) (B g13 : Nat) (T : List UInt8) (hv sv iv : Value) (wr : World) : Prop :=
  ∃ i : Nat, i ≤ fs.length ∧ iv = .int .i64 (i : Int) ∧ sv = .bool (sameB ls B fs i) ∧ wr.ownsRow w.heap.size 33 32 hv i (hcells (hsl fs i)) ∧ wr.heap[g13]? = some (.cells (Lib.byteCells T).toArray 33 (0, 0)) ∧ hv.ownBlock ≠ some g13 ∧ Below w.heap.size w wr
set_option maxHeartbeats 2000000 in
set_option maxRecDepth 100000 in
theorem forge_batch (S : Nat → Addr) (lb B Z : Nat) (ls fs : List ByteArray) (pr : List (List UInt8)) (u v : Value) (w : World) (hF : FW S w) (hL : LogAt w lb ls) (hl4 : ls.length ≤ 400) (hls : ∀ s ∈ ls, s.size ≤ 65536) (hu : StrsIn w u fs) (hv : HsIn w v pr) (hB : B ≤ 18446744073709551615) (hZ : Z ≤ 18446744073709551615) (hn4 : fs.length ≤ 400) (hfs : ∀ s ∈ fs, s.size ≤ 140737488355327) :
    Calls Tryd.prog 6 #[.pointer (some ⟨lb, 0, none⟩), .int .u64 (B : Int), .int .u64 (Z : Int), u, v] w fun x w' => BatchPost (forgeOk ls fs B Z pr) (sameB ls B fs fs.length) (treeF spL (lf ls) Z 0 Z) w x w' := by
  obtain ⟨zl, hzl, hinfo⟩ := Tryd.infoHash
  obtain ⟨zl0, _, hzv0⟩ := zeroHash
  have HZV := Lib.hid hzv0
  clear hzv0
  obtain ⟨i0, hi, hz0, hz1, hz2⟩ := info_parts hinfo
  have HRO := Lib.hid (root_any S lb ls Z w hF hL hl4 hls hZ)
  obtain ⟨ao, cap, rfl, hr⟩ := hu
  have HF := Lib.hid hF
  have HL := Lib.hid hL
  have HLS := Lib.hid hls
  have HR := Lib.hid hr
  have HV := Lib.hid hv
  have HFS := Lib.hid hfs
  obtain ⟨_, aop, capp, rfl, _, _⟩ := hv
  clear hF hL hls hr hfs hinfo
  go_enter Tryd.func6, Tryd.ntmps6
  go_wp2_with (go_at_call 7; refine HRO.out.mono ?_)
  rintro x w1 ⟨T, rfl, hTL, hTE, hb1⟩
  have HTL := Lib.hid hTL
  have HTE := Lib.hid hTE
  have HB1 := Lib.hid hb1
  clear hTL hTE hb1
  by_cases hz : Z ≤ ls.length
  · rw [if_pos hz]
    go_upto_region 2 with (refine wpList_hash (by rfl) (.tmp 13) (.tmp 28) (by rfl) (by rfl) (by rfl) (hash_size HTL.out) (by rfl) (byteCells_one T) ?_)
    have H13 := Lib.hid (heap_one w1 (.cells (Lib.byteCells T).toArray 33))
    have HB2 := Lib.hid (HB1.out.alloc HB1.out.size (.cells (Lib.byteCells T).toArray 33))
    generalize w1.alloc (.cells (Lib.byteCells T).toArray 33) = w2 at *
    generalize w1.heap.size = g13 at *
    go_wp2_with fail
    go_loopw [15, 16, 34] (fun hv sv iv wr => RoundRel w ls fs B g13 T hv sv iv wr) (fun _ _ iv _ => fs.length - (intOf iv).toNat)
    case atStart => exact ⟨0, Nat.zero_le _, rfl, rfl, World.ownsRow_nil _ _ _ _, H13.out, (fun h => by cases h), HB2.out⟩
    case round =>
      obtain ⟨i, hin, rfl, rfl, hown, h13, hng, hbel⟩ := hrel
      rename World => wA
      by_cases hi' : i < fs.length
      · have i1 : (i : Int) < (fs.length : Int) := by omega
        have i0' : (0 : Int) ≤ (i : Int) := by omega
        obtain ⟨s, hs⟩ : ∃ s, fs[i]? = some s := ⟨_, List.getElem?_eq_getElem hi'⟩
        obtain ⟨g, o, rfl, hrow⟩ := HR.out (fun e => by rw [e] at hi'; simp at hi')
        have ci : wA.cell? ⟨g, o + i, none⟩ = some (.string s) := below_cell hbel (hrow i (.string s) (by rw [List.getElem?_map, hs]; rfl))
        obtain ⟨H, hH⟩ : ∃ H, shaL (leafT (bs s)) = H := ⟨_, rfl⟩
        have HHL := Lib.hid (show H.length = 32 by rw [← hH]; exact shaL_len _)
        have HLF := Lib.hid (by
          have hfw := HF.out.below hbel
          have h := hleaf_any s (by have := HFS.out s (List.mem_of_getElem? hs); omega) wA hfw.tab hfw.lt
          rw [hH] at h
          exact h : Calls Tryd.prog 8 #[.string s] wA fun e w' => e = .returned (.agg (Lib.byteCells H).toArray) ∧ Below wA.heap.size wA w')
        have HNX := Lib.hid (show hcells (hsl fs (i + 1)) = hcells (hsl fs i) ++ Lib.byteCells H by rw [hsl_next hs, hcells_snoc, hH])
        obtain ⟨j, hj⟩ : ∃ j, jAt B i = j := ⟨_, rfl⟩
        have hw : IntKind.u64.wrap ((B : Int) + (i : Int)) = (j : Int) := by
          rw [← hj, IntKind.wrap_u64]
          unfold jAt
          omega
        have HSB := Lib.hid (show sameB ls B fs (i + 1) = (sameB ls B fs i && (decide (j < ls.length) && decide (ls.getD j ⟨#[]⟩ = s))) by
          rw [sameB, okAt, hj, show fs.getD i ⟨#[]⟩ = s by rw [List.getD_eq_getElem?_getD, hs]; rfl])
        obtain ⟨ah, ch, rfl⟩ := owns_anyH hown
        have HOW := Lib.hid hown
        have HH13 := Lib.hid h13
        have HNG := Lib.hid hng
        have HBL := Lib.hid hbel
        obtain ⟨sb, hsb⟩ : ∃ sb, sameB ls B fs i = sb := ⟨_, rfl⟩
        rw [hsb] at HSB ⊢
        clear hown h13 hng hbel hH hj hsb hs hrow
        go_wp2_with (go_at_call 8; refine HLF.out.mono ?_)
        first
          | rintro x wB rfl hbB
          | rintro x wB ⟨rfl, hbB⟩
        have HOB := Lib.hid (owns_below HOW.out hbB)
        have HB13 := Lib.hid (below_heap hbB HH13.out)
        have HBB := Lib.hid (HBL.out.trans (hbB.mono HBL.out.size))
        clear hbB ci
        go_wp2_with (first | (refine wpList_buildHash zl0 HZV.out (by rfl) (.tmp 41) (by rfl) H (by rfl) HHL.out ?_) | (at_builtin; refine wpList_append_own_at _ rfl _ _ 24 rfl w.heap.size 33 i0 (.agg (Lib.byteCells zl).toArray) 32 32 Tryd.underlying24 hi hz0 hz1 hz2 (hash_size hzl) (by decide) _ _ _ rfl (HOB.out.alloc _) ⟨wB.heap.size, 0, none⟩ 1 1 (Lib.byteCells H) rfl (by rw [Lib.byteCells_length, HHL.out]) (fun j u hj => by rw [Addr.add_mid, Nat.zero_add]; exact cell_of (heap_one wB _) j (by simpa using hj)) (cells_oneC H) (by unfold maxLen; omega) (by omega) (by have := HBB.out.size; simp; omega) ?_))
        intro v' w2' hown' hgrow _ hloc
        have hb2 : Below w.heap.size w w2' := (HBB.out.alloc HBB.out.size _).grown hgrow (by have := HBB.out.size; simp; omega) (fun j hj => (HOB.out.lt j hj).1)
        have HR13 := Lib.hid (show w2'.heap[g13]? = some (.cells (Lib.byteCells T).toArray 33 (0, 0)) by
          have h := HB13.out
          have hlt := lt_of_heap h
          have e1 := hgrow.block g13 (by simp; exact Nat.lt_succ_of_lt hlt) (fun e => HNG.out e.symm)
          rw [e1, heap_alloc_old wB _ hlt]
          exact h)
        have HNV := Lib.hid (show v'.ownBlock ≠ some g13 by
          rcases hloc with h | h
          · rw [h]; exact HNG.out
          · rw [h]; intro e; have h2 := Option.some.inj e; have h3 := lt_of_heap HB13.out; first | omega | (simp at h2; omega))
        rw [← HNX.out] at hown'
        have HO2 := Lib.hid hown'
        have HB2 := Lib.hid hb2
        clear hown' hgrow hloc hb2 HOB HB13 HBB
        by_cases hjl : j < ls.length
        · obtain ⟨y, hy⟩ : ∃ y, ls.getD j ⟨#[]⟩ = y := ⟨_, rfl⟩
          rw [hy, decide_eq_true hjl, Bool.true_and] at HSB
          have HLJ := Lib.hid (by
            have h := leaf_log S lb ls j w2' (HL.out.below HB2.out) (by omega) (HF.out.below HB2.out)
            rw [if_pos hjl, hy] at h
            exact h : Calls Tryd.prog 18 #[.pointer (some ⟨lb, 0, none⟩), .int .u64 (j : Int)] w2' fun e w' => e = .returned (.tuple #[.string y, .nilIface]) ∧ Below w2'.heap.size w2' w')
          clear hy
          cases sb with
          | false =>
            go_wp2_with (go_at_call 18; refine HLJ.out.mono ?_)
            first
              | rintro x wC rfl hbC
              | rintro x wC ⟨rfl, hbC⟩
            have HOC := Lib.hid (owns_below HO2.out hbC)
            have HRC := Lib.hid (below_heap hbC HR13.out)
            have HBC := Lib.hid (HB2.out.trans (hbC.mono HB2.out.size))
            clear hbC
            go_wp2_with fail
            exact ⟨⟨i + 1, hi', by go_num, by rw [HSB.out]; rfl, HOC.out, HRC.out, HNV.out, HBC.out⟩, by simp [intOf]; omega⟩
          | true =>
            obtain ⟨d, hd⟩ : ∃ d, (s.toList == y.toList) = d := ⟨_, rfl⟩
            have HSD := Lib.hid (show sameB ls B fs (i + 1) = d by
              rw [HSB.out, ← hd, Bool.true_and, ByteArray.toList_eq, ByteArray.toList_eq]
              by_cases hsy : y = s
              · rw [hsy]
                simp
              · rw [decide_eq_false hsy]
                exact (beq_eq_false_iff_ne.2 fun h => hsy (bs_inj h.symm)).symm)
            go_wp2_with (go_at_call 18; refine HLJ.out.mono ?_)
            first
              | rintro x wC rfl hbC
              | rintro x wC ⟨rfl, hbC⟩
            have HOC := Lib.hid (owns_below HO2.out hbC)
            have HRC := Lib.hid (below_heap hbC HR13.out)
            have HBC := Lib.hid (HB2.out.trans (hbC.mono HB2.out.size))
            clear hbC
            go_wp2_with fail
            exact ⟨⟨i + 1, hi', by go_num, by rw [HSD.out], HOC.out, HRC.out, HNV.out, HBC.out⟩, by simp [intOf]; omega⟩
        · rw [decide_eq_false hjl, Bool.false_and, Bool.and_false] at HSB
          have HLJ := Lib.hid (by
            have h := leaf_log S lb ls j w2' (HL.out.below HB2.out) (by omega) (HF.out.below HB2.out)
            rw [if_neg hjl] at h
            exact h : Calls Tryd.prog 18 #[.pointer (some ⟨lb, 0, none⟩), .int .u64 (j : Int)] w2' fun e w' => e = .returned (.tuple #[.string ⟨#[]⟩, .iface 125 (.pointer (some (S 3)))]) ∧ Below w2'.heap.size w2' w')
          cases sb with
          | false =>
            go_wp2_with (go_at_call 18; refine HLJ.out.mono ?_)
            first
              | rintro x wC rfl hbC
              | rintro x wC ⟨rfl, hbC⟩
            have HOC := Lib.hid (owns_below HO2.out hbC)
            have HRC := Lib.hid (below_heap hbC HR13.out)
            have HBC := Lib.hid (HB2.out.trans (hbC.mono HB2.out.size))
            clear hbC
            go_wp2_with fail
            exact ⟨⟨i + 1, hi', by go_num, by rw [HSB.out], HOC.out, HRC.out, HNV.out, HBC.out⟩, by simp [intOf]; omega⟩
          | true =>
            go_wp2_with (go_at_call 18; refine HLJ.out.mono ?_)
            first
              | rintro x wC rfl hbC
              | rintro x wC ⟨rfl, hbC⟩
            have HOC := Lib.hid (owns_below HO2.out hbC)
            have HRC := Lib.hid (below_heap hbC HR13.out)
            have HBC := Lib.hid (HB2.out.trans (hbC.mono HB2.out.size))
            clear hbC
            go_wp2_with fail
            exact ⟨⟨i + 1, hi', by go_num, by rw [HSB.out], HOC.out, HRC.out, HNV.out, HBC.out⟩, by simp [intOf]; omega⟩
      · obtain rfl : i = fs.length := by omega
        have i1 : ¬ (fs.length : Int) < (fs.length : Int) := by omega
        obtain ⟨ah, ch, rfl⟩ := owns_anyH hown
        have HVE := Lib.hid (verify_any S B Z fs.length ch capp ah aop (hsl fs fs.length) pr T (Fof B fs) wA (HF.out.below hbel) (hsIn_of_owns (hsl_32 fs fs.length) (by rw [hsl_len fs _ (Nat.le_refl _)]; exact hown)) (hsl_len fs _ (Nat.le_refl _)).symm (fun i hi => hsl_at fs B i hi) (HV.out.below hbel) hB (by omega) hn4 HTL.out)
        have HOKI := Lib.hid (show verOk B Z fs.length pr (Fof B fs) T ↔ forgeOk ls fs B Z pr from by
          constructor
          · intro h
            have hz0 : 0 < Z := by have := h.1.1; have := h.1.2.1; omega
            rw [HTE.out hz0 hz Z (by omega)] at h
            exact ⟨hz, h⟩
          · rintro ⟨_, h⟩
            have hz0 : 0 < Z := by have := h.1.1; have := h.1.2.1; omega
            rw [HTE.out hz0 hz Z (by omega)]
            exact h)
        have HH13 := Lib.hid h13
        have HBL := Lib.hid hbel
        clear hown h13 hng hbel hin hi'
        obtain ⟨sb, hsb⟩ : ∃ sb, sameB ls B fs fs.length = sb := ⟨_, rfl⟩
        have HSB := Lib.hid hsb
        rw [hsb]
        clear hsb
        go_wp2_with (first | (refine wpList_load_row (by rfl) 33 (.tmp 13) (by rfl) g13 (by rfl) 33 (Lib.byteCells T).toArray (0, 0) _ HH13.out Tryd.underlying33 rfl (by rw [hash_size HTL.out]; exact hashInfo) ?_) | (go_at_call 9; refine HVE.out.mono ?_))
        rintro x wD ⟨h1, h2, hbD⟩
        have HBD := Lib.hid (HBL.out.trans (hbD.mono HBL.out.size))
        clear hbD
        by_cases hok : verOk B Z fs.length pr (Fof B fs) T
        · obtain rfl := h1 hok
          have HOK := Lib.hid (HOKI.out.1 hok)
          have hz0 : 0 < Z := by have := hok.1.1; have := hok.1.2.1; omega
          have hBZ : B + fs.length ≤ Z := hok.1.2.1
          have hn0 : 0 < fs.length := hok.1.1
          have HTT := Lib.hid (HTE.out hz0 hz Z (by omega))
          clear h1 h2 hok HOKI HVE HTE
          cases sb with
          | true =>
            have HSO := Lib.hid (so_any S lb Z ls wD (HF.out.below HBD.out) (HL.out.below HBD.out) hl4 HLS.out hz0 hz)
            rw [← HTT.out] at HSO
            go_wp2_with (go_at_call 19; refine HSO.out.mono ?_)
            rintro x wE ⟨r, rfl, hr1, hr2, hbE⟩
            have HRR := Lib.hid hr1
            have HR2 := Lib.hid hr2
            have HBE := Lib.hid (HBD.out.trans (hbE.mono HBD.out.size))
            clear hr1 hr2 hbE
            go_wp2_with fail
            exact bodyPost_ret (results_tmp3 rfl _ _ _) rfl ⟨HBE.out, fun h => absurd HOK.out h, fun _ _ => ⟨r, rfl, HRR.out.trans HTT.out, HR2.out⟩, fun _ h => by rw [HSB.out] at h; cases h⟩
          | false =>
            have HLAW := Lib.hid (batch_law ls fs B Z pr HLS.out HFS.out hl4 HV.out.1 HOK.out HSB.out)
            have hw : IntKind.u64.wrap ((B : Int) + (fs.length : Int)) = ((B + fs.length : Nat) : Int) := by
              rw [IntKind.wrap_u64]
              omega
            obtain ⟨E, hE⟩ : ∃ E, B + fs.length = E := ⟨_, rfl⟩
            have HSH := Lib.hid (batch_shape B E Z (by omega) (by omega) (by omega) wD)
            rw [hE] at hw
            go_wp2_with (go_at_call 20; refine HSH.out.mono ?_)
            rintro x wE ⟨uo, rfl, hsp, hbE⟩
            have HBE := Lib.hid (HBD.out.trans (hbE.mono HBD.out.size))
            have HOUT : (outs B E 0 Z).length = pr.length := by rw [← hE]; exact HOK.out.2.1.2.2
            have HLD := Lib.hid (laid_any (outs B E 0 Z) pr uo _ wE hsp (HV.out.below HBE.out) HOUT (by have := outs_len (B := B) (E := E) hz0; omega) (fun s hs => by have := outsF_spec B E (Z - 0) 0 Z (by omega) (by omega) s hs; omega))
            have HLOOK := Lib.hid (batch_looks B E Z pr hz0 (by omega) HV.out.1 HOUT)
            have HKN := Lib.hid (batch_knows B E Z pr hz0 HOUT)
            rw [hE] at HLAW
            clear hsp hbE HOUT
            go_wp2_with (go_at_call 21; refine HLD.out.mono ?_)
            first
              | rintro x wF rfl hm hbF
              | rintro x wF ⟨rfl, hm, hbF⟩
            have HM := Lib.hid hm
            have HBF := Lib.hid (HBE.out.trans (hbF.mono HBE.out.size))
            clear hm hbF
            generalize wE.heap.size = mb at *
            obtain ⟨px, qx, hwk, hne, hsh, hl1, hl2⟩ := HLAW.out
            have hbG := below_one wF (.cells #[.pointer (some ⟨lb, 0, none⟩), .map (some mb), .int .u64 (B : Int), .slice ao fs.length cap] 61)
            have HBG := Lib.hid (HBF.out.alloc HBF.out.size (.cells #[.pointer (some ⟨lb, 0, none⟩), .map (some mb), .int .u64 (B : Int), .slice ao fs.length cap] 61))
            have HPA := Lib.hid (by
              have hO : PartOld S (wF.alloc (.cells #[.pointer (some ⟨lb, 0, none⟩), .map (some mb), .int .u64 (B : Int), .slice ao fs.length cap] 61)) lb mb wF.heap.size B ls fs ((outs B E 0 Z).zip pr) := ⟨HF.out.below HBG.out, HL.out.below HBG.out, HM.out.below hbG, ⟨_, _, _, heap_one wF _, StrsIn.below ⟨ao, cap, rfl, HR.out⟩ HBG.out⟩⟩
              have h := part_any S lb mb wF.heap.size B Z ls fs _ (Fof B fs) _ hO HLOOK.out hl4 HLS.out (fun i hi => fof_at fs B HFS.out i hi) hz0 hz (by rw [hE]; exact HKN.out)
              rw [hE, hwk] at h
              exact h)
            clear hwk hbG
            have HL1 := Lib.hid hl1
            have HL2 := Lib.hid hl2
            clear hl1 hl2
            go_wp2_with (go_at_call 22; refine HPA.out.mono ?_)
            rintro x wH ⟨s1, s2, rfl, hst, hbH⟩
            obtain ⟨e1, e2⟩ := hst px qx rfl
            have HXN := Lib.hid (show bs s1 ≠ bs s2 by rw [e1, e2]; exact hne)
            have HX1 := Lib.hid (show (bs s1).length ≤ 4611686018427387000 by rw [e1]; exact HL1.out)
            have HX2 := Lib.hid (show (bs s2).length ≤ 4611686018427387000 by rw [e2]; exact HL2.out)
            have HXS := Lib.hid (show shaL (bs s1) = shaL (bs s2) by rw [e1, e2]; exact hsh)
            have HBH := Lib.hid (HBG.out.trans (hbH.mono HBG.out.size))
            clear hst hbH e1 e2 hne hsh
            go_wp2_with fail
            exact bodyPost_ret (results_tmp3 rfl _ _ _) rfl ⟨HBH.out, fun h => absurd HOK.out h, fun _ h => (by rw [HSB.out] at h; cases h), fun _ _ => ⟨s1, s2, rfl, HXN.out, HXS.out, HX1.out, HX2.out⟩⟩
        · obtain ⟨i, rfl⟩ := h2 hok
          have HNO := Lib.hid (fun h => hok (HOKI.out.2 h))
          have HEV := Lib.hid (show errV S i = .iface 125 (.pointer (some (S i))) from rfl)
          rw [HEV.out]
          clear h1 h2 hok HOKI HVE HTE
          go_wp2_with fail
          exact bodyPost_ret (results_tmp3 rfl _ _ _) rfl ⟨HBD.out, fun _ => rfl, fun h => absurd h HNO.out, fun h => absurd h HNO.out⟩
  · rw [if_neg hz]
    have HNO := Lib.hid (show ¬ forgeOk ls fs B Z pr from fun h => hz h.1)
    have HEV := Lib.hid (show errV S 3 = .iface 125 (.pointer (some (S 3))) from rfl)
    rw [HEV.out]
    go_wp2_with (refine wpList_hash (by rfl) (.tmp 13) (.tmp 28) (by rfl) (by rfl) (by rfl) (hash_size HTL.out) (by rfl) (byteCells_one T) ?_)
    exact bodyPost_ret (results_tmp3 rfl _ _ _) rfl ⟨HB1.out.alloc HB1.out.size _, fun _ => rfl, fun h => absurd h HNO.out, fun h => absurd h HNO.out⟩
end Go.Proofs.YthcccgbodceeeaaDoor
