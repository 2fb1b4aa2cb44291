/-
  cartularylaw11.TileCounts: the tiles of a log are those that In answers, each once, in order; of each level their widths are together how many nodes it has; the chapter's examples hold: the law's function returns true, for every argument, and never panics; it writes to no memory that was there.
-/
import Derived.Test.YtopilalefilkjaaGreatDoorTileCountsP
import Derived.Test.YtopilalefilkjaaGreatDoorTileLives
import Derived.Test.YtopilalefilkjaaGreatDoorTileCountsFrame
import Derived.Deep.RegionHeld3
import Derived.Deep.CutRange
import Derived.Deep.RegionWith
import Derived.StillTailTactics
import Derived.Deep.MidRow
namespace Go.Proofs.YtopilalefilkjaaGreatDoor
open Go.RowKit

theorem cell_blk {B : Nat} {w w' : World} (h : Below B w w') {a : Addr} {v : Value} (ha : a.block < B) (hc : w.cell? a = some v) : w'.cell? a = some v := by
  unfold World.cell? at *
  rw [h.block _ ha]
  exact hc
theorem set_heap {W : World} {b i : Nat} {cs : Array Value} {t : TypeId} {fr : Nat × Nat} {u : Value} (h : W.heap[b]? = some (.cells cs t fr)) :
    (W.setCell ⟨b, i, none⟩ u).heap[b]? = some (.cells (cs.setIfInBounds i u) t fr) := by
  simp [World.setCell, Array.getElem?_modify, h]

set_option maxHeartbeats 16000000 in
set_option maxRecDepth 100000 in
theorem tileCounts_walk : TileCountsFrame.Walk := by
  intro S n0 b1 n2 w hz hl hi hB hT
  obtain ⟨Z, rfl⟩ := Int.eq_ofNat_of_zero_le hz.1
  obtain ⟨L, rfl⟩ := Int.eq_ofNat_of_zero_le hl.1
  obtain ⟨I, rfl⟩ := Int.eq_ofNat_of_zero_le hi.1
  have HI := Lib.hid fun W => in_any L I Z (by omega) (by omega) (by omega) W
  have HBS := Lib.hid hB
  have HTB := Lib.hid hT
  clear hB hT
  by_cases hzz : 1048576 < Z
  · as_aux_lemma =>
    have hg : (1048576 : Int) < (Z : Int) := by omega
    have HA := Lib.hid fun W hB => all_over S Z hzz (by omega) W hB
    obtain ⟨x, y, z, k, hiv⟩ : ∃ x y z : Int, ∃ k : Bool, inV L I Z = .tuple #[.agg #[.int .u8 x, .int .u64 y, .int .i64 z], .bool k] := by
      unfold inV
      by_cases hp : InP L I Z
      · exact ⟨L, I, inW L I Z, true, by rw [if_pos hp]; rfl⟩
      · exact ⟨0, 0, 0, false, by rw [if_neg hp]; rfl⟩
    simp only [hiv] at HI
    go_enter Tryz.func5, Tryz.ntmps5
    go_wp2_with fail
    refine (HA.out _ HBS.out).mono ?_
    rintro e w1 ⟨rfl, b1⟩
    have B1 := Lib.hid b1
    clear b1
    dsimp only
    go_wp2_with fail
    refine (HI.out _).mono ?_
    rintro e w2 ⟨rfl, b2⟩
    have B2 := Lib.hid (below_trans B1.out b2)
    clear b2
    dsimp only
    go_wp2_with fail
    have b3 := B2.out.alloc B2.out.size (.cells #[.int .u8 x, .int .u64 y, .int .i64 z] 24)
    have HIS := Lib.hid (is_any S _ (errV S 5) 5 none 5 (HBS.out.below b3) (.inr (.inl ⟨by omega, by omega, rfl, rfl⟩)))
    have B3 := Lib.hid b3
    clear b3
    refine HIS.out.mono ?_
    rintro e w4 ⟨rfl, b4⟩
    have b4w := below_trans B3.out b4
    have HL := Lib.hid (livesT_any S _ (HBS.out.below b4w) (tab_below HTB.out b4w))
    have B4 := Lib.hid b4w
    have his : isB 5 none 5 = true := by decide
    clear b4 b4w
    rw [his]
    dsimp only
    go_wp2_with fail
    refine HL.out.mono ?_
    rintro e w5 ⟨rfl, b5⟩
    have B5 := Lib.hid (below_trans B4.out b5)
    clear b5
    dsimp only
    go_wp2_with fail
    go_ret
    exact ⟨rfl, B5.out⟩
  · have hZ : Z ≤ 1048576 := by omega
    have hg : ¬ (1048576 : Int) < (Z : Int) := by omega
    obtain ⟨x, y, z, k, hiv, hmk⟩ := in_met L I Z hZ
    have HMK := Lib.hid hmk
    simp only [hiv] at HI
    have hN := pre_len Z 8 hZ
    clear hiv hmk hzz
    go_enter Tryz.func5, Tryz.ntmps5
    go_wp2_with fail
    refine (all_any Z hZ _).mono ?_
    rintro e w1 ⟨vl, rfl, hown, b1⟩
    obtain ⟨ao, cap, rfl⟩ := owns_any hown
    have HO1 := Lib.hid hown
    have HB1 := Lib.hid b1
    clear hown b1
    dsimp only
    go_wp2_with fail
    refine (HI.out _).mono ?_
    rintro e w2 ⟨rfl, b2⟩
    have HO := Lib.hid (owns_below HO1.out b2)
    have HBW := Lib.hid (below_trans HB1.out b2)
    clear b2 HI HO1 HB1
    dsimp only
    go_wp2_with fail
    go_loopw [12, 13] (fun vm vi wr => CntRel w2 x y z (pre Z 8) vm vi wr) (fun _ vi _ => (pre Z 8).length - (intOf vi).toNat)
    case atStart => exact ⟨0, Nat.zero_le _, rfl, by simp [metB], heap_2b w2 _ _, (Below.refl _ _).alloc (by simp) _⟩
    case round =>
      obtain ⟨i, hi9, rfl, rfl, hsum, hbr⟩ := hrel
      rename World => wA
      by_cases hiN : i < (pre Z 8).length
      · obtain ⟨t, ht⟩ : ∃ t, (pre Z 8)[i]? = some t := ⟨_, List.getElem?_eq_getElem hiN⟩
        obtain ⟨v, j, rfl, hv8, hj⟩ := pre_mem Z 8 t (List.mem_of_getElem? ht)
        have hv2 := nT_lv Z v j hZ hj
        have hj4 := nT_le Z v hZ
        obtain ⟨hw1, hw2⟩ := inW_pos hZ hj (by omega)
        have hinv : inV v j Z = .tuple #[.agg #[.int .u8 (v : Int), .int .u64 (j : Int), .int .i64 ((inW v j Z : Nat) : Int)], .bool true] := by
          unfold inV
          rw [if_pos ((inP_iff Z v j hZ (by omega)).2 hj)]
          rfl
        have HI2 := Lib.hid fun W => in_any v j Z (by omega) (by omega) (by omega) W
        simp only [hinv] at HI2
        obtain ⟨g, rfl, hgw⟩ : ∃ g, ao = some ⟨g, 0, none⟩ ∧ g < w2.heap.size := by
          rcases HO.out.2 with ⟨_, h2⟩ | ⟨g, cap', cur, h, _, hh, _⟩
          · omega
          · simp only [Value.slice.injEq] at h
            exact ⟨g, h.1, lt_of_heap hh⟩
        have hbw : Below w2.heap.size w2 wA := (below_one w2 _).trans (hbr.mono (Nat.le_succ _))
        obtain ⟨d0, d1, d2⟩ := tcells_get _ i _ ht
        have hadd : ∀ q, (⟨g, 0, none⟩ : Addr).add q = ⟨g, q, none⟩ := fun q => by rw [Addr.add_mid, Nat.zero_add]
        have c0 := below_cell hbw (HO.out.cells rfl _ _ d0)
        have c1 := below_cell hbw (HO.out.cells rfl _ _ d1)
        have c2 := below_cell hbw (HO.out.cells rfl _ _ d2)
        rw [hadd, Nat.mul_comm 3 i] at c0 c1 c2
        have HNX := Lib.hid fun k a (hk : k + 1 = i) (ha : (pre Z 8)[k]? = some a) => pre_next Z 8 k a (mkT Z v j) ha (by rw [hk]; exact ht)
        have HPC := Lib.hid fun k a (ha : (pre Z 8)[k]? = some a) => tcells_get _ k a ha
        have HRS := Lib.hid (row_set (pre Z 8) v hv2 (mkT Z v j) rfl i ht)
        have HMT := Lib.hid (metB_take ht x y z)
        have hsb := sum_bound Z v i hZ
        have R9 : wA.heap[w2.heap.size]? = some (.cells #[.int .u8 x, .int .u64 y, .int .i64 z] 24) := by rw [hbr.block _ (Nat.lt_succ_self _)]; exact heap_one w2 _
        have ks := cell_of hsum v (row_get ((pre Z 8).take i) v hv2)
        have fz := frozen_row hsum v
        have hgA : g < wA.heap.size := Nat.lt_of_lt_of_le hgw hbw.size
        have hsA : w2.heap.size + 1 < wA.heap.size := lt_of_heap hsum
        simp only [mkT] at c0 c1 c2 HNX HRS HMT
        generalize hW : inW v j Z = wd at *
        generalize hsw : sumW v ((pre Z 8).take i) = sw at *
        have hi3 : ((i : Int) * 3).toNat = i * 3 := by omega
        have hi31 : (i : Int) + 1 ≤ 12288 := by omega
        have hiI : (i : Int) < ((pre Z 8).length : Int) := by omega
        have HBR := Lib.hid hbr
        have HSUM := Lib.hid hsum
        have HHT := Lib.hid ht
        have HBWW := Lib.hid hbw
        have HJ := Lib.hid hj
        have C0 := Lib.hid c0
        have C1 := Lib.hid c1
        have C2 := Lib.hid c2
        have K9 := Lib.hid R9
        have KS := Lib.hid ks
        have FZ := Lib.hid fz
        clear hbr hsum ht hbw hj d0 d1 d2 R9 ks fz hinv hsw hW hj4
        go_upto_region 12 with fail
        go_cut [14, 15] from 43 to 170 (fun s14 s15 wx => ∃ g4, s14 = .pointer (some ⟨g4, 0, none⟩) ∧ s15 = .bool true ∧ wA.heap.size ≤ g4 ∧ wx.heap[g4]? = some (.cells #[.int .u8 (v : Int), .int .u64 (j : Int), .int .i64 (wd : Int)] 24) ∧ Below wA.heap.size wA wx)
        case first =>
          go_region_with (go_at_call 22; refine (HI2.out _).mono ?_; rintro e w3 ⟨rfl, b3⟩; try (have r3 := below_heap b3 (b := wA.heap.size) (o := .cells #[.int .u8 0, .int .u64 0, .int .i64 0] 24) (heap_one wA _); have d0 := cell_of r3 0 (v := .int .u8 0) rfl; have d1 := cell_of r3 1 (v := .int .u64 0) rfl; have d2 := cell_of r3 2 (v := .int .i64 0) rfl; have f00 := frozen_row r3 0; have f01 := frozen_row r3 1; have f02 := frozen_row r3 2; have l3 := lt_of_heap r3))
          all_goals go_wp2_with fail
          all_goals go_meet
          all_goals first
            | exact ⟨w3.heap.size, rfl, rfl, by have := b3.size; simpa using this, heap_one w3 _, (((Below.refl wA.heap.size wA).drew).trans b3).alloc (by have := b3.size; simpa using this) _⟩
            | exact ⟨wA.heap.size, rfl, rfl, Nat.le_refl _, set3_heap r3, ((((below_one wA _).drew.trans (b3.mono (by simp))).setCell (Nat.le_refl _) _).setCell (Nat.le_refl _) _).setCell (Nat.le_refl _) _⟩
        case rest =>
          obtain ⟨g4, rfl, rfl, hg4, h4, hb4⟩ := hcut
          rename World => wc
          obtain ⟨q0, q1, q2⟩ := cells3 h4
          have c0 := below_cell hb4 C0.out
          have c1 := below_cell hb4 C1.out
          have c2 := below_cell hb4 C2.out
          have hgc : g < wc.heap.size := Nat.lt_of_lt_of_le hgA hb4.size
          have v7 : ¬ (7 : Int) < (v : Int) := by omega
          have k1 : ¬ (wd : Int) < 1 := by omega
          have k2 : ¬ (256 : Int) < (wd : Int) := by omega
          have HB4 := Lib.hid hb4
          clear h4 hb4
          go_wp2_with fail
          go_quiet (fail)
          clear q0 q1 q2 v7 k1 k2 hg4
          simp only [Exit.then]
          go_upto_region 15 with fail
          go_cut [141] from 43 to 170 (fun s141 wx => s141 = .bool false ∧ Below wc.heap.size wc wx)
          case first =>
            by_cases h0 : i = 0
            · have i0 : ¬ (0 : Int) < (i : Int) := by omega
              have i0n : ¬ 0 < i := by omega
              have i0d : decide ((0 : Int) < (i : Int)) = false := decide_eq_false i0
              clear h0
              go_quiet (fail)
              go_wp2_with fail
              go_meet
              exact ⟨rfl, below_drewN (Below.refl _ _) _⟩
            · obtain ⟨k', hk⟩ : ∃ k', k' + 1 = i := ⟨i - 1, by omega⟩
              obtain ⟨⟨p, q, r⟩, ha⟩ : ∃ a, (pre Z 8)[k']? = some a := ⟨_, List.getElem?_eq_getElem (by omega)⟩
              have hA : p < v ∨ p = v ∧ q < j := HNX.out k' _ hk ha
              obtain ⟨e0, e1, _⟩ := HPC.out k' _ ha
              have hb2 := below_trans HBWW.out HB4.out
              have m0 := below_cell hb2 (HO.out.cells rfl _ _ e0)
              have m1 := below_cell hb2 (HO.out.cells rfl _ _ e1)
              rw [hadd, show 3 * k' = (i - 1) * 3 by omega] at m0 m1
              have i0 : (0 : Int) < (i : Int) := by omega
              have i0n : 0 < i := by omega
              have i0d : decide ((0 : Int) < (i : Int)) = true := decide_eq_true i0
              have j1 : ((i : Int) - 1).toNat = i - 1 := by omega
              have j2 : 0 ≤ (i : Int) - 1 := by omega
              have j3 : (i : Int) - 1 < ((pre Z 8).length : Int) := by omega
              have j4 : IntKind.i64.wrap ((i : Int) - 1) = (i : Int) - 1 := by rw [IntKind.wrap_i64]; omega
              clear e0 e1 hb2 hk ha h0
              rcases hA with hA | ⟨hA, hA2⟩
              · have a1 : ¬ (v : Int) < (p : Int) := by omega
                have a1n : ¬ v < p := by omega
                have a1d : decide ((v : Int) < (p : Int)) = false := decide_eq_false a1
                have a2 : ((p : Int) == (v : Int)) = false := by rw [beq_eq_false_iff_ne]; omega
                have a2i : ¬ (p : Int) = (v : Int) := by omega
                have a2n : ¬ p = v := by omega
                clear hA
                go_quiet (fail)
                go_wp2_with fail
                go_meet
                exact ⟨rfl, below_drewN (Below.refl _ _) _⟩
              · subst hA
                have a1 : ¬ (p : Int) < (p : Int) := by omega
                have a3 : ¬ (j : Int) ≤ (q : Int) := by omega
                have a3n : ¬ j ≤ q := by omega
                have a3d : decide ((j : Int) ≤ (q : Int)) = false := decide_eq_false a3
                clear hA2
                go_quiet (fail)
                go_wp2_with fail
                go_meet
                exact ⟨rfl, below_drewN (Below.refl _ _) _⟩
          case rest =>
            obtain ⟨rfl, hbd⟩ := hcut
            rename World => we
            have hbd2 := below_trans HB4.out hbd
            have c0 := below_cell hbd2 C0.out
            have c1 := below_cell hbd2 C1.out
            have c2 := below_cell hbd2 C2.out
            have hge : g < we.heap.size := Nat.lt_of_lt_of_le hgA hbd2.size
            have hM := below_heap hbd2 HSUM.out
            have ks := below_cell hbd2 KS.out
            have fz := frozen_row hM v
            have hse : w2.heap.size + 1 < we.heap.size := Nat.lt_of_lt_of_le hsA hbd2.size
            have v8 : (v : Int) < 8 := by omega
            have HMM := Lib.hid hM
            have R9 := Lib.hid (below_heap hbd2 K9.out)
            have HBE := Lib.hid hbd2
            clear hM hbd hbd2
            go_upto_region 17 with fail
            go_cut [7] from 43 to 170 (fun s7 wx => s7 = .slice (some ⟨g, 0, none⟩) (pre Z 8).length cap ∧ wx.heap[w2.heap.size + 1]? = some (.cells (sumRow ((pre Z 8).take (i + 1))) 53) ∧ Below (w2.heap.size + 1) we wx)
            case first =>
              go_still_tail 20, (by kernel_rfl)
              go_wp2_with fail
              go_meet
              refine ⟨rfl, ?_, ((Below.refl (w2.heap.size + 1) we).setCell (p := ⟨w2.heap.size + 1, v, none⟩) (Nat.le_refl _) (.int .u64 ((sw : Int) + (wd : Int)))).drew⟩
              have h := set_heap (i := v) (u := .int .u64 ((sw : Int) + (wd : Int))) HMM.out
              rw [HRS.out] at h
              exact h
            case rest => as_aux_lemma =>
              obtain ⟨rfl, hS, hbf⟩ := hcut
              rename World => wf
              have c0 := cell_blk hbf (Nat.lt_succ_of_lt hgw) c0
              have c1 := cell_blk hbf (Nat.lt_succ_of_lt hgw) c1
              have c2 := cell_blk hbf (Nat.lt_succ_of_lt hgw) c2
              have r9 : wf.heap[w2.heap.size]? = some (.cells #[.int .u8 x, .int .u64 y, .int .i64 z] 24) := (hbf.block _ (Nat.lt_succ_self _)).trans R9.out
              obtain ⟨t90, t91, t92⟩ := cells3 r9
              have hgf : g < wf.heap.size := Nat.lt_of_lt_of_le hge hbf.size
              have HSF := Lib.hid hS
              have HBF := Lib.hid (HBR.out.trans ((HBE.out.mono (Nat.le_of_lt hsA)).trans hbf))
              clear hS hbf r9 ks fz
              go_upto_region 18 with fail
              cases hm : metB x y z ((pre Z 8).take i) with
              | true =>
                rw [hm] at HMT
                go_quiet (fail)
                go_wp2_with fail
                go_roundw
                case rel => exact ⟨i + 1, by omega, by go_num, by rw [HMT.out]; rfl, HSF.out, below_drewN HBF.out _⟩
                case measure => simp [intOf]; omega
              | false =>
                rw [hm] at HMT
                by_cases e1 : (v : Int) = x
                · subst e1
                  by_cases e2 : (j : Int) = y
                  · subst e2
                    by_cases e3 : (wd : Int) = z
                    · subst e3
                      go_quiet (fail)
                      go_wp2_with fail
                      go_roundw
                      case rel => exact ⟨i + 1, by omega, by go_num, by rw [HMT.out]; simp, HSF.out, below_drewN HBF.out _⟩
                      case measure => simp [intOf]; omega
                    · have e3b : ((wd : Int) == z) = false := beq_eq_false_iff_ne.2 e3
                      go_quiet (fail)
                      go_wp2_with fail
                      go_roundw
                      case rel => exact ⟨i + 1, by omega, by go_num, by rw [HMT.out]; simp [e3b], HSF.out, below_drewN HBF.out _⟩
                      case measure => simp [intOf]; omega
                  · have e2b : ((j : Int) == y) = false := beq_eq_false_iff_ne.2 e2
                    go_quiet (fail)
                    go_wp2_with fail
                    go_roundw
                    case rel => exact ⟨i + 1, by omega, by go_num, by rw [HMT.out]; simp [e2b], HSF.out, below_drewN HBF.out _⟩
                    case measure => simp [intOf]; omega
                · have e1b : ((v : Int) == x) = false := beq_eq_false_iff_ne.2 e1
                  go_quiet (fail)
                  go_wp2_with fail
                  go_roundw
                  case rel => exact ⟨i + 1, by omega, by go_num, by rw [HMT.out]; simp [e1b], HSF.out, below_drewN HBF.out _⟩
                  case measure => simp [intOf]; omega
      · as_aux_lemma =>
        have hiE : i = (pre Z 8).length := by omega
        subst hiE
        have hm : metB x y z ((pre Z 8).take (pre Z 8).length) = k := by rw [List.take_length]; exact HMK.out
        have hsums : ∀ q : Nat, q < 8 → wA.cell? ⟨w2.heap.size + 1, q, none⟩ = some (.int .u64 ((Z : Int) / 2 ^ (8 * q))) := by
          intro q hq
          have e : ((Z : Int) / 2 ^ (8 * q)) = ((cnt Z q : Nat) : Int) := shr_cast Z (8 * q)
          rw [e]
          by_cases h3 : 3 ≤ q
          · rw [cnt_3 Z q hZ h3]
            refine cell_of hsum q ?_
            rcases show q = 3 ∨ q = 4 ∨ q = 5 ∨ q = 6 ∨ q = 7 by omega with rfl | rfl | rfl | rfl | rfl <;> rfl
          · rw [← sum_all Z q hq]
            exact cell_of hsum q (row_get _ q (by omega))
        have hbw : Below w2.heap.size w2 wA := (below_one w2 _).trans (hbr.mono (Nat.le_succ _))
        have HSU := Lib.hid hsums
        have HBA := Lib.hid (below_trans HBW.out hbw)
        have hsA : w2.heap.size + 1 < wA.heap.size := lt_of_heap hsum
        rw [hm]
        clear hsums hbr hsum hbw hm
        go_wp2_with fail
        go_loopw [16] (fun vi wr => ∃ q : Nat, q ≤ 8 ∧ vi = .int .i64 (q : Int) ∧ Below wA.heap.size wA wr) (fun vi _ => 8 - (intOf vi).toNat)
        case atStart => exact ⟨0, by omega, rfl, Below.refl _ _⟩
        case round =>
          obtain ⟨q, hq, rfl, hbq⟩ := hrel
          rename World => wq
          have HBQ := Lib.hid hbq
          by_cases hq8 : q < 8
          · have ks := below_cell hbq (HSU.out q hq8)
            have q8 : (q : Int) < 8 := by omega
            clear hbq
            go_wp2_with fail
            go_roundw
            case rel => exact ⟨q + 1, by omega, by go_num, HBQ.out⟩
            case measure => simp [intOf]; omega
          · have q8 : ¬ (q : Int) < 8 := by omega
            have b3 := below_trans HBA.out hbq
            have HL := Lib.hid (livesT_any S wq (HBS.out.below b3) (tab_below HTB.out b3))
            have B3 := Lib.hid b3
            clear hbq b3
            go_wp2_with fail
            refine HL.out.mono ?_
            rintro e w5 ⟨rfl, b5⟩
            have B5 := Lib.hid (below_trans B3.out b5)
            clear b5
            dsimp only
            go_wp2_with fail
            go_ret
            exact ⟨rfl, B5.out⟩
theorem tileCounts_card : Rows.TileCountsCardSaid := TileCountsFrame.card tileCounts_walk
#print axioms tileCounts_card
end Go.Proofs.YtopilalefilkjaaGreatDoor
