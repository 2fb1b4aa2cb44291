/-
  cartularyref21.Format by its contract.
-/
import Derived.Test.YtjmgkallgflcdaaGreatDoorCkFmt
import Derived.Test.YtjmgkallgflcdaaGreatDoorCkBackP
import Derived.Test.YtjmgkallgflcdaaGreatDoorRefFH
import Derived.Test.YtjmgkallgflcdaaGreatDoorRefClear
import Derived.Test.YtjmgkallgflcdaaGreatDoorRefB64
import Derived.Test.YtjmgkallgflcdaaGreatDoorRefDcm
namespace Go.Proofs.YtjmgkallgflcdaaGreatDoor
open Go.RowKit

/-- The fault's cells are set, in a block that the call owns. -/
theorem ref_end {w W : World} {g : Nat} (hg : w.heap.size ≤ g) (hb : Below w.heap.size w W) (c z : Int) : Below w.heap.size w ((W.setCell ⟨g, 0, none⟩ (.int .i64 c)).setCell ⟨g, 1, none⟩ (.int .i64 z)) :=
  (hb.setCell (p := ⟨g, 0, none⟩) hg _).setCell (p := ⟨g, 1, none⟩) hg _
theorem fed_one (ls : List (List UInt8)) (x : List UInt8) : fed (ls ++ [x]) = fed ls ++ (x ++ [10]) := by rw [fed_app]; simp [fed]
theorem ckText_fed (o : List UInt8) (z : Nat) (root : List UInt8) (L : List (List UInt8)) : ckText (o, z, root, L) = fed (o :: Lib.decDigits z :: b64 root :: L) := join_fed _ _

set_option maxHeartbeats 4000000 in
set_option maxRecDepth 100000 in
theorem refFormat_aux (w : World) (O : ByteArray) (o : List UInt8) (hO : O.data.toList = o) (z : Nat) (root : List UInt8) (L : List (List UInt8)) (ev : Value) (hroot : root.length = 32) (hT : TextsIn w ev L) (hz : z ≤ 18446744073709551615) (hlL : L.length ≤ 4611686018427387904) :
    Calls Tryz.prog 10 #[.agg (ckList O (z : Int) (Lib.byteCells root) ev).toArray] w fun e w' => e = .returned (.tuple #[.string ⟨(fmtCk (o, z, root, L)).1.toArray⟩, .agg #[.int .i64 ((fmtCk (o, z, root, L)).2 : Int), .int .i64 (fz (fmtCk (o, z, root, L)).2 none)]]) ∧ Below w.heap.size w w' := by
  have b0 : Below w.heap.size w (w.alloc (.cells (ckList O (z : Int) (Lib.byteCells root) ev).toArray 27)) := (Below.refl _ _).alloc (Nat.le_refl _) _
  have hs0 : (w.alloc (.cells (ckList O (z : Int) (Lib.byteCells root) ev).toArray 27)).heap.size = w.heap.size + 1 := by simp
  have hrow0 : CkRow (w.alloc (.cells (ckList O (z : Int) (Lib.byteCells root) ev).toArray 27)) w.heap.size O (z : Int) (Lib.byteCells root) ev := ⟨by rw [Lib.byteCells_length, hroot], heap_alloc_new w _⟩
  obtain ⟨ao, c, rfl, hcells⟩ := id hT
  have HCL := Lib.hid hcells
  have HT := Lib.hid hT
  clear hcells hT
  go_enter Tryz.func10, Tryz.ntmps10
  go_upto_region 1 with fail
  generalize w.alloc (.cells (ckList O (z : Int) (Lib.byteCells root) (.slice ao L.length c)).toArray 27) = W0 at *
  have b1 : Below W0.heap.size W0 (fW W0) := (Below.refl _ _).alloc (Nat.le_refl _) _
  have hrow1 := hrow0.below b1
  have hfr1 : faultRow (fW W0) (w.heap.size + 1) 0 0 := by rw [← hs0]; exact fW_row W0
  have d1 := b0.trans (b1.mono b0.size)
  obtain ⟨c0, c1, c34, _⟩ := hrow1.cells
  have HROW := Lib.hid hrow1
  have HFR := Lib.hid hfr1
  have HN := Lib.hid (refName_any O (fW W0))
  rw [hO] at HN
  have HLO := Lib.hid hO
  clear hrow1 hfr1 hrow0 b1 b0 hs0 hO
  show Code.wp _ _ _ _ (fW W0)
  generalize fW W0 = W1 at *
  clear W0
  go_wp2_with fail
  refine HN.out.mono ?_
  rintro e w2 ⟨rfl, b2⟩
  have d2 := d1.trans (b2.mono d1.size)
  have HR2 := Lib.hid (HROW.out.below b2)
  have HF2 := Lib.hid (HFR.out.below b2)
  clear c0 c1 c34 b2 HROW HFR HN d1
  cases hno : nameOf o with
  | false =>
    have HFM := Lib.hid (show fmtCk (o, z, root, L) = ([], 2) by unfold fmtCk; rw [if_neg (by simp [hno])])
    clear hno
    go_wp2_with fail
    refine (faultPlain_any 2 (by decide) _).mono ?_
    rintro e w3 ⟨rfl, b3⟩
    have hh := HF2.out.below b3
    obtain ⟨a0, a1, f0, f1⟩ := hh.cells
    have HH := Lib.hid hh
    have hb := Lib.hid (ref_end (g := w.heap.size + 1) (by omega) (d2.trans (b3.mono d2.size)) 2 (-1))
    clear hh b3
    go_wp2_with fail
    refine ret_told rfl (w.heap.size + 1) 2 (-1) (.string ⟨#[]⟩) (fault_set HH.out _ _) rfl rfl rfl ⟨?_, hb.out⟩
    rw [HFM.out]; rfl
  | true =>
    have HNO := Lib.hid hno
    clear hno
    obtain ⟨c0', c1', c34', _⟩ := HR2.out.cells
    go_wp2_with fail
    go_loopw [4] (fun i wr => ∃ k : Nat, i = .int .i64 k ∧ k ≤ L.length ∧ (L.take k).all extraB = true ∧ Below w2.heap.size w2 wr) (fun i _ => L.length - (intOf i).toNat)
    case atStart => exact ⟨0, rfl, by omega, rfl, Below.refl _ _⟩
    case round =>
      obtain ⟨k, rfl, hk, hall, hbr⟩ := hrel
      have HALL := Lib.hid hall
      have HBR := Lib.hid hbr
      have dr := d2.trans (hbr.mono d2.size)
      have HRR := Lib.hid (HR2.out.below hbr)
      have HFRR := Lib.hid (HF2.out.below hbr)
      obtain ⟨f0, f1, f34, _⟩ := HRR.out.cells
      clear hall hbr
      by_cases hlt : k < L.length
      · obtain ⟨x, hx⟩ : ∃ x, L[k]? = some x := ⟨_, List.getElem?_eq_getElem hlt⟩
        obtain ⟨b, off, rfl, hc⟩ := HCL.out (fun e => by rw [e] at hlt; simp at hlt)
        have e1 := below_cell dr (hc k x hx)
        have HXM := Lib.hid (List.mem_of_getElem? hx)
        have HX := Lib.hid hx
        have HPL := Lib.hid (refPlain_any ⟨x.toArray⟩ wr)
        have hxd : (⟨x.toArray⟩ : ByteArray).data.toList = x := by simp
        have htl : (⟨x.toArray⟩ : ByteArray).toList = x := by rw [ByteArray.toList_eq]
        have i0 : (0 : Int) ≤ (k : Int) := by omega
        have i1 : (k : Int) < (L.length : Int) := by omega
        rw [hxd] at HPL
        clear hc hx hxd
        by_cases hxe : x = []
        · have HFM := Lib.hid (show fmtCk (o, z, root, L) = ([], 2) by
            unfold fmtCk
            rw [if_pos HNO.out, if_neg (fun h => by have := List.all_eq_true.1 h x HXM.out; simp [extraB, hxe] at this)])
          clear HPL HXM HX
          subst hxe
          go_wp2_with fail
          refine (faultPlain_any 2 (by decide) _).mono ?_
          rintro e w3 ⟨rfl, b3⟩
          have hh := HFRR.out.below b3
          obtain ⟨a0, a1, g0, g1⟩ := hh.cells
          have HH := Lib.hid hh
          have hb := Lib.hid (ref_end (g := w.heap.size + 1) (by omega) (dr.trans (b3.mono dr.size)) 2 (-1))
          clear hh b3
          go_wp2_with fail
          refine ret_told rfl (w.heap.size + 1) 2 (-1) (.string ⟨#[]⟩) (fault_set HH.out _ _) rfl rfl rfl ⟨?_, hb.out⟩
          rw [HFM.out]; rfl
        · generalize (⟨x.toArray⟩ : ByteArray) = xs at *
          have hne : xs.toList.isEmpty = false := by rw [htl]; simpa using hxe
          have hne2 : ¬ xs.toList = [] := by rw [htl]; exact hxe
          have HXE := Lib.hid hxe
          clear htl hxe
          cases hpx : plainOf x with
          | false =>
            have HFM := Lib.hid (show fmtCk (o, z, root, L) = ([], 2) by
              unfold fmtCk
              rw [if_pos HNO.out, if_neg (fun h => by have := List.all_eq_true.1 h x HXM.out; simp [extraB, hpx] at this)])
            rw [hpx] at HPL
            clear hpx
            go_wp2_with fail
            refine HPL.out.mono ?_
            rintro e w4 ⟨rfl, b4⟩
            have d4 := dr.trans (b4.mono dr.size)
            have HF4 := Lib.hid (HFRR.out.below b4)
            clear b4
            go_wp2_with fail
            refine (faultPlain_any 2 (by decide) _).mono ?_
            rintro e w3 ⟨rfl, b3⟩
            have hh := HF4.out.below b3
            obtain ⟨a0, a1, g0, g1⟩ := hh.cells
            have HH := Lib.hid hh
            have hb := Lib.hid (ref_end (g := w.heap.size + 1) (by omega) (d4.trans (b3.mono d4.size)) 2 (-1))
            clear hh b3
            go_wp2_with fail
            refine ret_told rfl (w.heap.size + 1) 2 (-1) (.string ⟨#[]⟩) (fault_set HH.out _ _) rfl rfl rfl ⟨?_, hb.out⟩
            rw [HFM.out]; rfl
          | true =>
            have HPX := Lib.hid hpx
            rw [hpx] at HPL
            clear hpx
            go_wp2_with fail
            refine HPL.out.mono ?_
            rintro e w4 ⟨rfl, b4⟩
            have HB4 := Lib.hid b4
            clear b4
            go_wp2_with fail
            go_roundw
            case rel => exact ⟨k + 1, by go_num, by omega, by rw [List.take_add_one, List.all_append, HALL.out, HX.out]; simp [extraB, HXE.out, HPX.out], HBR.out.trans (HB4.out.mono HBR.out.size)⟩
            case measure => simp [intOf]; omega
      · obtain rfl : k = L.length := by omega
        have hall := HALL.out
        rw [List.take_length] at hall
        have HA := Lib.hid hall
        have i1 : ¬ (L.length : Int) < (L.length : Int) := by omega
        clear hall
        by_cases hbg : 1048576 < z ∨ 16 < L.length
        · have HFM := Lib.hid (show fmtCk (o, z, root, L) = ([], 4) by
            unfold fmtCk
            rw [if_pos HNO.out, if_pos HA.out, if_pos hbg])
          by_cases hz1 : 1048576 < z
          · have iz : (1048576 : Int) < (z : Int) := by omega
            clear hbg
            go_wp2_with fail
            refine (faultPlain_any 4 (by decide) _).mono ?_
            rintro e w3 ⟨rfl, b3⟩
            have hh := HFRR.out.below b3
            obtain ⟨a0, a1, g0, g1⟩ := hh.cells
            have HH := Lib.hid hh
            have hb := Lib.hid (ref_end (g := w.heap.size + 1) (by omega) (dr.trans (b3.mono dr.size)) 4 (-1))
            clear hh b3
            go_wp2_with fail
            refine ret_told rfl (w.heap.size + 1) 4 (-1) (.string ⟨#[]⟩) (fault_set HH.out _ _) rfl rfl rfl ⟨?_, hb.out⟩
            rw [HFM.out]; rfl
          · have iz : ¬ (1048576 : Int) < (z : Int) := by omega
            have il : (16 : Int) < (L.length : Int) := by omega
            clear hbg
            go_wp2_with fail
            refine (faultPlain_any 4 (by decide) _).mono ?_
            rintro e w3 ⟨rfl, b3⟩
            have hh := HFRR.out.below b3
            obtain ⟨a0, a1, g0, g1⟩ := hh.cells
            have HH := Lib.hid hh
            have hb := Lib.hid (ref_end (g := w.heap.size + 1) (by omega) (dr.trans (b3.mono dr.size)) 4 (-1))
            clear hh b3
            go_wp2_with fail
            refine ret_told rfl (w.heap.size + 1) 4 (-1) (.string ⟨#[]⟩) (fault_set HH.out _ _) rfl rfl rfl ⟨?_, hb.out⟩
            rw [HFM.out]; rfl
        · have iz : ¬ (1048576 : Int) < (z : Int) := by omega
          have il : ¬ (16 : Int) < (L.length : Int) := by omega
          have HFM := Lib.hid (show fmtCk (o, z, root, L) = (ckText (o, z, root, L), 0) by
            unfold fmtCk
            rw [if_pos HNO.out, if_pos HA.out, if_neg hbg])
          have HZ := Lib.hid (show z ≤ 1048576 by omega)
          have HL16 := Lib.hid (show L.length ≤ 16 by omega)
          clear hbg
          have h64o : o.length ≤ 64 := (name_len HNO.out).1
          obtain ⟨D, hD⟩ : ∃ D : ByteArray, D = ⟨(Lib.decDigits z).toArray⟩ := ⟨_, rfl⟩
          obtain ⟨Bs, hBs⟩ : ∃ Bs : ByteArray, Bs = ⟨(b64 root).toArray⟩ := ⟨_, rfl⟩
          obtain ⟨R, hR⟩ : ∃ R : ByteArray, R = ⟨root.toArray⟩ := ⟨_, rfl⟩
          have zO : O.size ≤ 64 := by rw [← size_list, HLO.out]; exact h64o
          have zD : D.size ≤ 20 := by
            rw [hD]; show (Lib.decDigits z).toArray.size ≤ _
            rw [List.size_toArray, Lib.decDigits_length]
            exact nDigits_20 z hz
          have zB : Bs.size ≤ 44 := by
            rw [hBs]; show (b64 root).toArray.size ≤ _
            rw [List.size_toArray, b64_length, hroot]
            omega
          have lD : D.data.toList = Lib.decDigits z := by rw [hD]
          have lB : Bs.data.toList = b64 root := by rw [hBs]
          have HDEC : RowKit.Hid (∀ W : World, Calls Tryz.prog 33 #[.int .u64 (z : Int)] W fun e w' => e = .returned (.string D) ∧ Below W.heap.size W w') := by
            rw [hD]
            exact fun W => refDecimal_any z hz W
          have HB64 : RowKit.Hid (∀ W : World, Calls Tryz.prog 34 #[.string R] W fun e w' => e = .returned (.string Bs) ∧ Below W.heap.size W w') := by
            have hr : (⟨root.toArray⟩ : ByteArray).data.toList = root := by simp
            have h := fun W => refBase64_any ⟨root.toArray⟩ W (by rw [← size_list, hr, hroot]; omega)
            rw [hr] at h
            rw [hR, hBs]
            exact h
          have hkeep : ∀ W', Below wr.heap.size wr W' → Below wr.heap.size wr W' ∧ W'.cell? ⟨w.heap.size, 0, none⟩ = some (.string O) ∧ W'.cell? ⟨w.heap.size, 1, none⟩ = some (.int .u64 (z : Int)) ∧
              (convert 77 9 (.slice (some ⟨w.heap.size, 2, none⟩) 32 32)).run Tryz.prog W' = .ok (.string R) W' := fun W' hb => by
            rw [hR]
            refine ⟨hb, below_cell hb f0, below_cell hb f1, ?_⟩
            have h := run_convert_bytes_back (P := Tryz.prog) W' 77 9 5 ⟨w.heap.size, 2, none⟩ 32 root Tryz.underlying77 Tryz.underlying5 Tryz.underlying9 (fun j hj => by
              show W'.cell? ((⟨w.heap.size, 2, none⟩ : Addr).add j) = _
              have hadd : (⟨w.heap.size, 2, none⟩ : Addr).add j = ⟨w.heap.size, 2 + j, none⟩ := by simp [Addr.add]
              rw [hadd, cell_of_row _ _ (2 + j) _ _ _ (HRR.out.below hb).2]
              simp [ckList, Lib.byteCells, Nat.add_comm 2 j, List.getElem?_append_left, hj])
            rw [hroot] at h
            exact h
          have HK := Lib.hid hkeep
          have HLD := Lib.hid lD
          have HLB := Lib.hid lB
          clear hkeep lD lB hD hBs hR h64o
          have q1 : ¬ 9223372036854775807 < O.size + 1 := by omega
          have q1' : ¬ 9223372036854775807 ≤ O.size := by omega
          have q2 : ¬ 9223372036854775807 < O.size + 1 + D.size := by omega
          have q3 : ¬ 9223372036854775807 < O.size + 1 + D.size + 1 := by omega
          have q3' : ¬ 9223372036854775807 ≤ O.size + 1 + D.size := by omega
          have q4 : ¬ 9223372036854775807 < O.size + 1 + D.size + 1 + Bs.size := by omega
          have q5 : ¬ 9223372036854775807 < O.size + 1 + D.size + 1 + Bs.size + 1 := by omega
          have q5' : ¬ 9223372036854775807 ≤ O.size + 1 + D.size + 1 + Bs.size := by omega
          go_upto_region 10 with fail
          have k0 := HK.out wr (Below.refl _ _)
          obtain ⟨_, _, _, hcv⟩ := k0
          go_region_held3 (fun W' => Below wr.heap.size wr W' ∧ W'.cell? ⟨w.heap.size, 0, none⟩ = some (.string O) ∧ W'.cell? ⟨w.heap.size, 1, none⟩ = some (.int .u64 (z : Int)) ∧
              (convert 77 9 (.slice (some ⟨w.heap.size, 2, none⟩) 32 32)).run Tryz.prog W' = .ok (.string R) W')
            (first | exact HK.out _ (Below.refl _ _) | exact HK.out _ (below_drewN (Below.refl _ _) 1) | exact HK.out _ hb4 | exact HK.out _ hb3)
            (first | (go_at_call 33; refine (HDEC.out _).mono ?_; rintro e w3 ⟨rfl, b3⟩; have hb3 : Below wr.heap.size wr w3 := (below_drewN (Below.refl _ _) 1).trans b3) | (go_at_call 34; refine (HB64.out _).mono ?_; rintro e w4 ⟨rfl, b4⟩; have hb4 : Below wr.heap.size wr w4 := hb3.trans (b4.mono hb3.size)))
          have d4 := dr.trans (hb4.mono dr.size)
          have HR4 := Lib.hid (HRR.out.below hb4)
          have HF4 := Lib.hid (HFRR.out.below hb4)
          have hx0 : (O ++ ⟨#[10]⟩ ++ D ++ ⟨#[10]⟩ ++ Bs ++ ⟨#[10]⟩).data.toList = fed [o, Lib.decDigits z, b64 root] := by
            simp only [ByteArray.data_append, Array.toList_append, HLO.out, HLD.out, HLB.out, fed_cons, fed_nil]
            simp
          have hz0 : (O ++ ⟨#[10]⟩ ++ D ++ ⟨#[10]⟩ ++ Bs ++ ⟨#[10]⟩).size ≤ 200 := by
            simp only [ByteArray.size_append]
            show O.size + 1 + D.size + 1 + Bs.size + 1 ≤ 200
            omega
          generalize (O ++ ⟨#[10]⟩ ++ D ++ ⟨#[10]⟩ ++ Bs ++ ⟨#[10]⟩) = T at *
          have HX0 := Lib.hid hx0
          clear hx0 q1 q1' q2 q3 q3' q4 q5 q5' b3 b4 hb3 hb4 f0 f1 f34 c0' c1' c34'
          obtain ⟨g0, g1, g34, _⟩ := HR4.out.cells
          obtain ⟨a0, a1, p0, p1⟩ := HF4.out.cells
          simp only [Exit.then]
          go_wp2_with fail
          go_loopw [5, 6] (fun vx vi wq => ∃ (k : Nat) (x : ByteArray), k ≤ L.length ∧ vx = .string x ∧ vi = .int .i64 k ∧ x.data.toList = fed (o :: Lib.decDigits z :: b64 root :: L.take k) ∧ x.size ≤ 200 + k * 4097 ∧ Below w4.heap.size w4 wq) (fun _ vi _ => L.length - (intOf vi).toNat)
          case atStart => exact ⟨0, T, by omega, rfl, rfl, HX0.out, by omega, Below.refl _ _⟩
          case round =>
            rename_i wq
            obtain ⟨k, x, hk, rfl, rfl, hx, hsz, hbq⟩ := hrel
            have dq := d4.trans (hbq.mono d4.size)
            have HX := Lib.hid hx
            have HBQ := Lib.hid hbq
            obtain ⟨_, _, h34, _⟩ := (HR4.out.below hbq).cells
            have hL16 := HL16.out
            clear hx g34
            by_cases hlt : k < L.length
            · obtain ⟨y, hy⟩ : ∃ y, L[k]? = some y := ⟨_, List.getElem?_eq_getElem hlt⟩
              obtain ⟨b, off, rfl, hc⟩ := HCL.out (fun e => by rw [e] at hlt; simp at hlt)
              have e1 := below_cell dq (hc k y hy)
              have hyl := extra_len HA.out y (List.mem_of_getElem? hy)
              have i0 : (0 : Int) ≤ (k : Int) := by omega
              have i2 : (k : Int) < (L.length : Int) := by omega
              have hys : (⟨y.toArray⟩ : ByteArray).size ≤ 4096 := by show y.toArray.size ≤ _; simpa using hyl
              have HNX : RowKit.Hid ((x ++ ⟨y.toArray⟩ ++ ⟨#[10]⟩).data.toList = fed (o :: Lib.decDigits z :: b64 root :: L.take (k + 1))) := by
                have e : o :: Lib.decDigits z :: b64 root :: L.take (k + 1) = (o :: Lib.decDigits z :: b64 root :: L.take k) ++ [y] := by
                  rw [List.take_add_one, hy]
                  rfl
                rw [e, fed_one, ← HX.out]
                simp only [ByteArray.data_append, Array.toList_append, List.append_assoc]
                exact trivial
              generalize (⟨y.toArray⟩ : ByteArray) = ys at *
              have HNS : RowKit.Hid ((x ++ ys ++ ⟨#[10]⟩).size ≤ 200 + (k + 1) * 4097) := by
                simp only [ByteArray.size_append]
                show x.size + ys.size + 1 ≤ _
                omega
              have hs2 : x.size + ys.size ≤ 100000 := by omega
              clear hc hy hyl hbq
              go_wp2_with fail
              go_roundw
              case rel => exact ⟨k + 1, _, by omega, rfl, by go_num, HNX.out, HNS.out, HBQ.out⟩
              case measure => simp [intOf]; omega
            · obtain rfl : k = L.length := by omega
              have i2 : ¬ (L.length : Int) < (L.length : Int) := by omega
              have hxx := HX.out
              rw [List.take_length, ← ckText_fed] at hxx
              have HXX := Lib.hid hxx
              have HF5 := Lib.hid (HF4.out.below hbq)
              obtain ⟨r0, r1, t0, t1⟩ := HF5.out.cells
              have hb := Lib.hid (ref_end (g := w.heap.size + 1) (by omega) dq 0 0)
              clear hxx hbq a0 a1 p0 p1
              go_wp2_with fail
              refine ret_told rfl (w.heap.size + 1) 0 0 (.string x) (fault_set HF5.out _ _) rfl rfl rfl ⟨?_, hb.out⟩
              rw [HFM.out]
              refine congrArg (fun t => Ending.returned (.tuple #[.string t, .agg #[.int .i64 0, .int .i64 0]])) ?_
              rw [← HXX.out, ba_back]
theorem refFormat_any (w : World) (o : List UInt8) (z : Nat) (root : List UInt8) (L : List (List UInt8)) (ev : Value) (hroot : root.length = 32) (hT : TextsIn w ev L) (hz : z ≤ 18446744073709551615) (hlL : L.length ≤ 4611686018427387904) :
    Calls Tryz.prog 10 #[.agg (ckList ⟨o.toArray⟩ (z : Int) (Lib.byteCells root) ev).toArray] w fun e w' => e = .returned (.tuple #[.string ⟨(fmtCk (o, z, root, L)).1.toArray⟩, .agg #[.int .i64 ((fmtCk (o, z, root, L)).2 : Int), .int .i64 (fz (fmtCk (o, z, root, L)).2 none)]]) ∧ Below w.heap.size w w' :=
  refFormat_aux w ⟨o.toArray⟩ o (by simp) z root L ev hroot hT hz hlL
end Go.Proofs.YtjmgkallgflcdaaGreatDoor
