/-
  The law NoteKnows, walked.
-/
import Derived.Test.YticlgcfodlcpcaaGreatDoorNKnowsP
namespace Go.Proofs.YticlgcfodlcpcaaGreatDoor
open Go.RowKit

def BelB (w0 : World) : Bool → World → Prop := fun _ W => Below w0.heap.size w0 W
theorem BelB.out {w0 W : World} {b : Bool} (h : BelB w0 b W) : Below w0.heap.size w0 W := h
theorem step_sliceKn2 {ops : Array Oper} {o : Oper} {a : Act} {K : Act → World → Prop} {Q : Exit → Act → World → Prop} {E : Prop} (hgd : o.guard = none) (x y : Operand) (ho : o.op = .buildSlice 57 2 #[(0, x), (1, y)])
    {W : World} (k l : Kn) (hx : a.eval x = .agg (knC k).toArray) (hy : a.eval y = .agg (knC l).toArray) (hk : k.2.1.length = 32) (hl : l.2.1.length = 32)
    (h : K (a.put o.dst (.slice (some ⟨W.heap.size, 0, none⟩) 2 2)) (W.alloc (.cells (knC k ++ knC l).toArray 64))) :
    if Region.wanted o (yielded ops a.tmps) = true then Oper.wp Tryz.prog o a W K Q else E := by
  have hw : Region.wanted o (yielded ops a.tmps) = true := by simp [Region.wanted, hgd]
  rw [if_pos hw]
  have hr := run_buildSlice_kn2 k l hk hl W
  unfold Oper.wp execOp
  simp only [ho, List.map_toArray, List.map_cons, List.map_nil, hx, hy, Sem.run_bind, hr, Result.andThen_ok, Sem.run_pure]
  exact h
theorem key_ne_hash : ¬ (44 : TypeId) = 23 := by decide
theorem KeyF.setRow {w : World} {kb pb : Nat} {s : List UInt8} {h nx : Nat} (hk : KeyF w kb s h nx) (hne : pb < kb) (cs : Array Value) : KeyF (w.setRow pb cs) kb s h nx := by
  obtain ⟨h6, lv, hk⟩ := hk
  exact ⟨h6, lv, hk.other (b := pb) (fun k hkb => setRow_other w pb k cs hkb) (by omega) fun t g ht hg => by
    have := ((hk.own t ht).lt g hg).1
    omega⟩
theorem KeyF.but {w w' : World} {kb b : Nat} {s : List UInt8} {h nx : Nat} (hk : KeyF w kb s h nx) (hb : But [b] w w') (hlt : b < kb) : KeyF w' kb s h nx := by
  obtain ⟨h6, lv, hk⟩ := hk
  obtain ⟨cs, hc, hC⟩ := hk.hp
  refine ⟨h6, lv, ⟨cs, hb.heap hc (by rw [List.mem_singleton]; omega), hC⟩, hk.ls, fun t ht => rowKeepK (hk.own t ht) fun g hg => hb.block g ((hk.own t ht).lt g hg).2 ?_, hk.sep⟩
  have := ((hk.own t ht).lt g hg).1
  rw [List.mem_singleton]
  omega
theorem KeyF.butUp {w w' : World} {kb k2 : Nat} {s s2 : List UInt8} {h nx h2 n2 : Nat} (hk : KeyF w kb s h nx) (hb : But [k2] w w') (hlt : kb < k2) (hk2 : KeyF w k2 s2 h2 n2) : KeyF w' kb s h nx := by
  obtain ⟨h6, lv, hk⟩ := hk
  obtain ⟨cs, hc, hC⟩ := hk.hp
  obtain ⟨_, _, hk2⟩ := hk2
  obtain ⟨cs2, hc2, _⟩ := hk2.hp
  refine ⟨h6, lv, ⟨cs, hb.heap hc (by rw [List.mem_singleton]; omega), hC⟩, hk.ls, fun t ht => rowKeepK (hk.own t ht) fun g hg => hb.block g ((hk.own t ht).lt g hg).2 ?_, hk.sep⟩
  rw [List.mem_singleton]
  intro e
  rcases (hk.own t ht).2 with ⟨h0, _⟩ | ⟨g', cap, cur, h0, _, hg', _⟩
  · rw [h0] at hg; cases hg
  · rw [h0] at hg
    have : g' = g := by simpa [Value.ownBlock] using hg
    rw [this, e, hc2] at hg'
    simp only [Option.some.injEq, Obj.cells.injEq] at hg'
    exact key_ne_hash hg'.2.1
set_option maxHeartbeats 16000000 in
set_option maxRecDepth 100000 in
theorem knows_any (S : Nat → Addr) (s nm sec : List UInt8) (ht : Nat) (pub : List UInt8) (height : Int) (own : Bool) (hs : s.length ≤ 140737488351232) (hm : nm.length ≤ 140737488351232) (hsec : sec.length = 32) (hht : ht ≤ 255) (hpub : pub.length = 32) (hhe : idxOk height) (w : World) (hF : FW S w) :
    Calls Tryz.prog 6 #[.agg (kwC s nm sec ht pub height own).toArray] w fun e w' => e = .returned (.bool true) ∧ Below w.heap.size w w' := by
  have HF := Lib.hid fun (W : World) (hW : Below w.heap.size w W) => hF.below hW
  have HFW := Lib.hid hF
  have HLA := Lib.hid (fun (W W' : World) (hW : Below w.heap.size w W) (hW' : Below W.heap.size W W') => hW.trans (hW'.mono hW.size))
  have HTX := Lib.hid fun (W : World) (hW : Below w.heap.size w W) => text_any S s (by omega) W (hF.below hW).base
  have HAL := Lib.hid fun (W : World) (hW : Below w.heap.size w W) => alive_any S W (hF.below hW)
  obtain ⟨h, hh⟩ : ∃ h, ht % 3 = h := ⟨_, rfl⟩
  have h2 : h ≤ 2 := by omega
  have HK := Lib.hid fun (W : World) (hW : Below w.heap.size w W) => keyNew_any S sec h hsec (by omega) W (hF.below hW)
  have HSEC := Lib.hid hsec
  have HPUB := Lib.hid hpub
  have HH := Lib.hid hh
  have HHE := Lib.hid hhe
  have HS := Lib.hid hs
  have HM := Lib.hid hm
  have c0 := kwC_text s nm sec ht pub height own
  obtain ⟨c67, c68⟩ := kwC_height (s := s) (nm := nm) (ht := ht) (height := height) (own := own) hsec hpub
  obtain ⟨KL, hKL⟩ : ∃ K, kwC s nm sec ht pub height own = K := ⟨_, rfl⟩
  have HKL := Lib.hid hKL
  rw [hKL] at c0 c67 c68 ⊢
  have hb1 := below_one w (.cells KL.toArray 71 (0, 0))
  have hx1 := heap_one w (.cells KL.toArray 71 (0, 0))
  have HX1 := Lib.hid hx1
  have HB1 := Lib.hid hb1
  clear hsec hpub hs hm hKL hb1 hx1 hF
  go_enter Tryz.func6, Tryz.ntmps6
  go_upto_region 1 with fail
  generalize w.alloc (.cells KL.toArray 71) = w1 at *
  have hr1 := row_range HX1.out
  have k0 := hr1 0 _ c0
  have k67 := hr1 67 _ c67
  have k68 := hr1 68 _ c68
  rw [← HKL.out] at hr1
  have HSN := Lib.hid (kwC_sn hr1)
  have HPB := Lib.hid (kwC_pub HSEC.out hr1)
  simp only [Nat.zero_add] at k0 k67 k68
  clear hr1 c0 c67 c68 HX1
  go_upto_region 3 with (first | (refine wpList_snLoad (by rfl) (.tmp 17) (by rfl) w.heap.size 1 (by rfl) nm sec ht HSEC.out HSN.out ?_) | (refine wpList_snStore (by rfl) (.tmp 4) (.tmp 18) (by rfl) (by rfl) (by rfl) HSEC.out (by rfl) ?_))
  have hb2 := below_one w1 (.cells (snC nm sec ht).toArray 60 (0, 0))
  have HX2 := Lib.hid (heap_one w1 (.cells (snC nm sec ht).toArray 60 (0, 0)))
  have HB2 := Lib.hid (HLA.out _ _ HB1.out hb2)
  have k67 := below_cell hb2 k67
  have k68 := below_cell hb2 k68
  have HPB2 := Lib.hid (range_below hb2 HPB.out)
  clear hb2 k0 HSN HPB HB1
  generalize w1.alloc (.cells (snC nm sec ht).toArray 60) = w2 at *
  generalize w1.heap.size = xb at *
  go_upto_region 4 with (first | (refine wpList_hashLoad (by rfl) (.tmp 19) (by rfl) w.heap.size 35 (by rfl) pub HPUB.out HPB2.out ?_) | (refine wpList_hash (by rfl) (.tmp 5) (.tmp 20) (by rfl) (by rfl) (by rfl) (hash_size HPUB.out) (by rfl) (byteCells_all pub) ?_))
  have hb3 := below_one w2 (.cells (Lib.byteCells pub).toArray 23 (0, 0))
  have HP3 := Lib.hid (HashAt.new w2 pub HPUB.out)
  have HB3 := Lib.hid (HLA.out _ _ HB2.out hb3)
  have k67 := below_cell hb3 k67
  have k68 := below_cell hb3 k68
  have HX3 := Lib.hid (below_heap hb3 HX2.out)
  have HSZP := Lib.hid (show w.heap.size ≤ w2.heap.size from HB2.out.size)
  have HXB := Lib.hid (show xb < w2.heap.size from lt_of_heap HX2.out)
  have HNE := Lib.hid (show xb ≠ w2.heap.size from fun e => by have := HXB.out; omega)
  clear hb3 HX2 HPB2 HB2
  generalize w2.alloc (.cells (Lib.byteCells pub).toArray 23) = w3 at *
  generalize w2.heap.size = pb at *
  have x0 := cell_of HX3.out 0 (show (snC nm sec ht).toArray[0]? = some (.string ⟨nm.toArray⟩) from rfl)
  have x33 := cell_of HX3.out 33 (by rw [List.getElem?_toArray]; exact snC_ht HSEC.out)
  have HXS := Lib.hid (by have h := snC_sec (row_range HX3.out); exact h : w3.rangeAt xb 1 (Lib.byteCells sec))
  have t0 : (0 : Int) ≤ (ht : Int) := by omega
  have t1 : (ht : Int) ≤ 255 := by omega
  have t2 : (ht : Int) % 3 = (h : Int) := by have := HH.out; omega
  have t3 : (ht : Int).tmod 3 = (h : Int) := by rw [Int.tmod_eq_emod_of_nonneg t0]; exact t2
  go_upto_region 6 with (first | (refine wpList_hashLoad (by rfl) (.tmp 24) (by rfl) xb 1 (by rfl) sec HSEC.out HXS.out ?_) | (go_at_call 8; refine (HK.out _ HB3.out).mono ?_; rintro e w4 ⟨kb, lv, rfl, hkb, hk, hb4⟩))
  have HB4 := Lib.hid (HLA.out _ _ HB3.out hb4)
  have HKB := Lib.hid (Nat.le_trans HB3.out.size hkb)
  have HKF := Lib.hid (show KeyF w4 kb sec h 0 from ⟨by omega, lv, hk⟩)
  have k68 := below_cell hb4 k68
  have HX4 := Lib.hid (below_heap hb4 HX3.out)
  have HP4 := Lib.hid (HP3.out.below hb4)
  have HKP := Lib.hid (show pb < kb from Nat.lt_of_lt_of_le HP3.out.lt hkb)
  clear hkb hk hb4 k67 x0 x33 t3 HX3 HP3 HXS
  have HWP := Lib.hid (show w.heap.size ≤ pb from HSZP.out)
  cases own with
  | true =>
    have HPL := Lib.hid (knode_len sec h 0)
    have HPU := Lib.hid (fun (W : World) (hk : KeyF W kb sec h 0) => keyPublic_any kb sec h 0 W hk)
    obtain ⟨P, hP⟩ : ∃ P, knode sec h 0 = P := ⟨_, rfl⟩
    have HPP := Lib.hid hP
    rw [hP] at HPU HPL
    clear hP
    go_upto_region 10 with (first | (go_at_call 18; refine (HPU.out _ HKF.out).mono ?_; rintro e w5 ⟨rfl, hb5⟩) | (refine wpList_stH (by rfl) (.tmp 5) (.tmp 42) (by rfl) (by rfl) (by rfl) (HP4.out.below hb5) HPL.out ?_))
    have HPC := Lib.hid ((HP4.out.below hb5).set HPL.out)
    have HXC := Lib.hid ((setRow_other w5 pb xb (Lib.byteCells P).toArray HNE.out).trans (below_heap hb5 HX4.out))
    have HKC := Lib.hid ((HKF.out.below hb5).setRow HKP.out (Lib.byteCells P).toArray)
    have HBC := Lib.hid (below_setRow (HLA.out _ _ HB4.out hb5) HWP.out (Lib.byteCells P).toArray)
    clear hb5 k68 HX4 HP4 HKF HB4
    generalize w5.setRow pb (Lib.byteCells P).toArray = wc at *
    have HK2L := Lib.hid (knode_len sec h 0)
    have HP2 := Lib.hid (fun (W : World) (hk : KeyF W kb sec h 1) => keyPublic_any kb sec h 1 W hk)
    have HKO2 := Lib.hid (fun (k2 : Kn) (hm : mayTxt s = true) (hna : nameOf nm = true) => knows_open sec s nm P h height k2 (by omega) hm hna)
    obtain ⟨K2, hK2⟩ : ∃ K, knode sec h 0 = K := ⟨_, rfl⟩
    rw [hK2] at HP2 HK2L
    clear hK2
    have x0 := cell_of HXC.out 0 (show (snC nm sec ht).toArray[0]? = some (.string ⟨nm.toArray⟩) from rfl)
    have x33 := cell_of HXC.out 33 (by rw [List.getElem?_toArray]; exact snC_ht HSEC.out)
    have HXS := Lib.hid (by have h := snC_sec (row_range HXC.out); exact h : wc.rangeAt xb 1 (Lib.byteCells sec))
    go_upto_region 13 with (first | (refine wpList_hashLoad (by rfl) (.tmp 44) (by rfl) xb 1 (by rfl) sec HSEC.out HXS.out ?_) | (go_at_call 8; refine (HK.out _ HBC.out).mono ?_; rintro e w7 ⟨kb2, lv2, rfl, hkb2, hk2, hb7⟩))
    have HBX := Lib.hid (HLA.out _ _ HBC.out hb7)
    have HK7 := Lib.hid (HKC.out.below hb7)
    have HKO := Lib.hid (show KeyF w7 kb2 sec h 0 from ⟨by omega, lv2, hk2⟩)
    have HKL2 := Lib.hid (show kb < kb2 from Nat.lt_of_lt_of_le HKC.out.lt hkb2)
    have HKB2 := Lib.hid (Nat.le_trans HBC.out.size hkb2)
    have HP7 := Lib.hid (HPC.out.below hb7)
    have HX7 := Lib.hid (below_heap hb7 HXC.out)
    clear hkb2 hk2 hb7 HKC HPC HXC HXS HBC x0 x33 HK
    obtain ⟨A, hA⟩ : ∃ A, splitN s = A := ⟨_, rfl⟩
    have HA := Lib.hid hA
    rw [hA] at HTX
    obtain ⟨⟨t, L⟩, c, p⟩ := A
    clear hA
    by_cases hc : c = 0
    · subst hc
      go_wp2_with (first | (go_at_call 16; refine (HTX.out _ HBX.out).mono ?_; rintro e w8 ⟨ev8, rfl, he8, hb8⟩; obtain rfl := ErrAt.zero2 he8 rfl; have HBX := Lib.hid (HLA.out _ _ HBX.out hb8); clear he8 hb8) | (go_at_call 7; refine (HAL.out _ HBX.out).mono ?_; rintro e w10 ⟨rfl, hb10⟩))
      go_ret
      exact ⟨rfl, HLA.out _ _ HBX.out hb10⟩
    · have hno : (splitN s).2.1 ≠ 0 := by rw [HA.out]; exact hc
      have HC := Lib.hid (sg_codeH h s nm hno)
      have HNOX := Lib.hid hno
      go_upto_region 16 with (go_at_call 16; refine (HTX.out _ HBX.out).mono ?_; rintro e w8 ⟨ev8, rfl, he8, hb8⟩; obtain ⟨T8, y8, rfl, _, hne8⟩ := ErrAt.some5 he8 hc; have HBX := Lib.hid (HLA.out _ _ HBX.out hb8); have HB8 := Lib.hid hb8; clear he8 hb8)
      have HK8 := Lib.hid (HK7.out.below HB8.out)
      have HKO8 := Lib.hid (HKO.out.below HB8.out)
      have HP8 := Lib.hid (HP7.out.below HB8.out)
      have HX8 := Lib.hid (below_heap HB8.out HX7.out)
      clear hne8 HK7 HKO HP7 HX7 HB8 hno hc
      have x0 := cell_of HX8.out 0 (show (snC nm sec ht).toArray[0]? = some (.string ⟨nm.toArray⟩) from rfl)
      have HSG := Lib.hid (nsign_any S kb sec h 0 (Nat.zero_le _) s nm (by have := HS.out; omega) (by have := HM.out; omega) w w8 HFW.out HBX.out HKB.out HK8.out)
      by_cases hyes : nameOf nm = true ∧ mayTxt s = true
      · have HC0 := Lib.hid (show sgCode h 0 s nm = 0 by rw [HC.out, if_pos hyes])
        have HOUT := Lib.hid (sg_code1 sec (Nat.two_pow_pos h) hyes.2 HNOX.out hyes.1).2
        have hlen := noteL_len s [sgLine sec h 0 s nm] 4000 (fun x hx => by rw [List.mem_singleton.1 hx]; exact sg_len sec (by omega) s hyes.1)
        rw [List.length_singleton] at hlen
        have hKO2 := fun k2 => HKO2.out k2 hyes.2 hyes.1
        obtain ⟨N, hN⟩ : ∃ N, noteL s [sgLine sec h 0 s nm] = N := ⟨_, rfl⟩
        rw [hN] at HOUT hlen hKO2
        have HLEN := Lib.hid hlen
        have HOPN := Lib.hid hKO2
        have HMT := Lib.hid (may_len s hyes.2)
        have HSG0 := Lib.hid (HSG.out.mono (fun e w' (hh : SgPost S w w8 kb sec h 0 s nm e w') => (by
          obtain ⟨ev, rfl, h1, h2, h3, h4⟩ := hh
          rw [HC0.out] at h1 h2 ⊢
          rw [HOUT.out]
          obtain rfl := ErrAt.zero2 h1 rfl
          exact ⟨rfl, h2, h3, h4⟩ : e = .returned (.tuple #[.string ⟨N.toArray⟩, .nilIface]) ∧ KeyF w' kb sec h 1 ∧ But [kb] w8 w' ∧ Below w.heap.size w w')))
        clear HSG hN hKO2 hlen HC HOUT
        go_upto_region 19 with (go_at_call 10; refine HSG0.out.mono ?_; rintro e w9 ⟨rfl, hk9, hbut9, hb9⟩; have HBX := Lib.hid hb9; have HK9 := Lib.hid hk9; have HBT9 := Lib.hid hbut9; clear hk9 hbut9 hb9)
        have HKO9 := Lib.hid (HKO8.out.but HBT9.out HKL2.out)
        have HP9 := Lib.hid (⟨HBT9.out.heap HP8.out.1 (by rw [List.mem_singleton]; have := HKP.out; omega), HP8.out.2⟩ : HashAt w9 pb P)
        have HX9 := Lib.hid (HBT9.out.heap HX8.out (by rw [List.mem_singleton]; have := HKP.out; have := HXB.out; omega))
        clear HSG0 HKO8 HP8 HX8 HK8 HBT9 x0
        have HKS := Lib.hid (keySign_any S kb2 sec h 0 (Nat.two_pow_pos h) s (by have := HS.out; omega) w w9 HFW.out HBX.out HKB2.out HKO9.out)
        go_upto_region 22 with (go_at_call 21; refine HKS.out.mono ?_; rintro e w11 ⟨u, v, rfl, hu, hv2, _, hbut11, hb11⟩; have HU := Lib.hid hu; have HV := Lib.hid hv2; obtain ⟨_, a1, m1, rfl, _, _⟩ := hu; obtain ⟨_, a2, m2, rfl, _, _⟩ := hv2)
        have hbA := below_one w11 (.cells #[.int .i64 0, .slice a1 (signF (ownF sec 0) (msgF 0 s)).length m1, .slice a2 (kpath sec h 0).length m2] 73 (0, 0))
        have hcA := heap_one w11 (.cells #[.int .i64 0, .slice a1 (signF (ownF sec 0) (msgF 0 s)).length m1, .slice a2 (kpath sec h 0).length m2] 73 (0, 0))
        have HBX := Lib.hid (HLA.out _ _ hb11 hbA)
        have HUA := Lib.hid (HU.out.below hbA)
        have HVA := Lib.hid (HV.out.below hbA)
        have HKA := Lib.hid ((show KeyF w11 kb sec h 1 from HK9.out.butUp hbut11 HKL2.out HKO9.out).below hbA)
        have HPA := Lib.hid (HashAt.below (show HashAt w11 pb P from ⟨hbut11.heap HP9.out.1 (by rw [List.mem_singleton]; have := HKP.out; have := HKL2.out; omega), HP9.out.2⟩) hbA)
        have HXA := Lib.hid (below_heap hbA (hbut11.heap HX9.out (by rw [List.mem_singleton]; have := HKP.out; have := HXB.out; have := HKL2.out; omega)))
        clear hbA hbut11 hb11 HU HV HK9 HP9 HX9 HKO9 HKS
        generalize w11.alloc (.cells #[.int .i64 0, .slice a1 (signF (ownF sec 0) (msgF 0 s)).length m1, .slice a2 (kpath sec h 0).length m2] 73) = wA at *
        generalize w11.heap.size = sb at *
        have s0 := cell_of hcA 0 rfl
        have s1 := cell_of hcA 1 rfl
        have s2 := cell_of hcA 2 rfl
        have HKV := Lib.hid (keyVer_any S P s height ((0 : Nat) : Int) HPL.out (by have := HS.out; omega) HHE.out ⟨by decide, by decide⟩ (signF (ownF sec 0) (msgF 0 s)) (kpath sec h 0) _ _ wA (HF.out _ HBX.out) HUA.out HVA.out)
        have hthree := verF_three P height s ((0 : Nat) : Int) (signF (ownF sec 0) (msgF 0 s)) (kpath sec h 0)
        simp only [Int.natCast_zero] at HKV hthree
        obtain ⟨D, hD⟩ : ∃ D, verF P height s 0 (signF (ownF sec 0) (msgF 0 s)) (kpath sec h 0) = D := ⟨_, rfl⟩
        rw [hD] at HKV hthree HOPN
        clear hD hcA HUA HVA
        have hv0 := fun W => run_err_eq (S 2) W
        have hv1 := fun W => run_err_eq (S 12) W
        rcases hthree with rfl | rfl | rfl
        · rw [show errN S 0 = .nilIface from rfl] at HKV
          have HOPX := Lib.hid (fun (W : World) (kv : Value) (hW : Below w.heap.size w W) (hkn : KnIn W kv [(nm, P, height), (nm, K2, (h : Int))]) => (by
            refine (open_any S N kv [(nm, P, height), (nm, K2, (h : Int))] (by have := HLEN.out; have := HS.out; omega) (fun k hk => ?_) (by simp) W (HF.out _ hW) hkn).mono ?_
            · simp only [List.mem_cons, List.not_mem_nil, or_false] at hk
              rcases hk with rfl | rfl
              · exact ⟨show nm.length ≤ 1048576 from Nat.le_trans (name_len hyes.1).1 (by decide), HPL.out, HHE.out⟩
              · exact ⟨show nm.length ≤ 1048576 from Nat.le_trans (name_len hyes.1).1 (by decide), HK2L.out, show idxOk (h : Int) from ⟨by omega, by omega⟩⟩
            rw [show openN N [(nm, P, height), (nm, K2, (h : Int))] = ((s, [nm]), 0, none) from (HOPN.out (nm, K2, (h : Int))).trans (if_pos rfl)]
            rintro e w2 ⟨v, ev, rfl, h1, h2, h3⟩
            obtain rfl := ErrAt.zero2 h2 rfl
            exact ⟨v, rfl, h1 _ (fun _ _ _ => rfl), h3⟩ : Calls Tryz.prog 19 #[.string ⟨N.toArray⟩, kv] W fun e w2 => ∃ v, e = .returned (.tuple #[.string ⟨s.toArray⟩, v, .nilIface]) ∧ TextsIn w2 v [nm] ∧ Below W.heap.size W w2))
          go_upto_region 23 with (first | (refine wpList_hashLoad (by rfl) (.tmp 5) (by rfl) pb 0 (by rfl) P HPL.out HPA.out.range ?_) | (go_at_call 22; refine HKV.out.mono ?_; rintro e w12 ⟨rfl, hb12⟩))
          have hb12 := hb12.trans ((Below.refl w12.heap.size w12).drew.mono hb12.size)
          have HB12 := Lib.hid (HLA.out _ _ HBX.out hb12)
          have HK12 := Lib.hid (HKA.out.below hb12)
          have HP12 := Lib.hid (HPA.out.below hb12)
          have HX12 := Lib.hid (below_heap hb12 HXA.out)
          have HOPX := Lib.hid (fun (W : World) (kv : Value) (hW : Below w12.drew.heap.size w12.drew W) => HOPX.out W kv (HLA.out _ _ HB12.out hW))
          clear hb12 s0 s1 s2
          have t3 : (ht : Int).tmod 3 = (h : Int) := by rw [Int.tmod_eq_emod_of_nonneg t0]; exact t2
          have t4 : IntKind.i64.wrap (h : Int) = (h : Int) := by rw [IntKind.wrap_i64]; omega
          refine wp_region_till 100 (BelB w12.drew) (by kernel_rfl) (Below.refl _ _) (fun hHeld => ?_)
          refine wpAnyT_take (i := 0) (v := .string ⟨N.toArray⟩) rfl (by decide) (by kernel_rfl) (by kernel_rfl) (by kernel_rfl) (fun _ _ _ h => h) (Or.inl ⟨by rfl, fun w _ => ?_⟩) hHeld ?_
          · go_simp
          simp only [List.getElem_toArray, List.getElem_cons_zero, Act.put, List.setIfInBounds_toArray, List.set_cons_zero, List.set_cons_succ]
          refine wpAnyT_take (i := 1) (v := .pointer (some ⟨xb, 0, none⟩)) rfl (by decide) (by kernel_rfl) (by kernel_rfl) (by kernel_rfl) (fun _ _ _ h => h) (Or.inl ⟨by rfl, fun w _ => ?_⟩) hHeld ?_
          · go_simp
          simp only [List.getElem_toArray, List.getElem_cons_succ, List.getElem_cons_zero, Act.put, List.setIfInBounds_toArray, List.set_cons_zero, List.set_cons_succ]
          refine wpAnyT_take (i := 2) (v := .string ⟨nm.toArray⟩) rfl (by decide) (by kernel_rfl) (by kernel_rfl) (by kernel_rfl) (fun _ _ _ h => h) (Or.inl ⟨by rfl, fun w hSw => ?_⟩) hHeld ?_
          · obtain ⟨b, hb⟩ := hSw; have c : w.cell? ⟨xb, 0, none⟩ = some (.string ⟨nm.toArray⟩) := cell_of (below_heap (BelB.out hb) HX12.out) 0 rfl
            go_simp
          simp only [List.getElem_toArray, List.getElem_cons_succ, List.getElem_cons_zero, Act.put, List.setIfInBounds_toArray, List.set_cons_zero, List.set_cons_succ]
          refine wpAnyT_take (i := 3) (v := hv P) rfl (by decide) (by kernel_rfl) (by kernel_rfl) (by kernel_rfl) (fun _ _ _ h => h) (yieldsIf_load_mid (by rfl) 23 (.tmp 5) (by rfl) pb 0 (by rfl) (Lib.byteCells P) _ (fun w ⟨_, h⟩ => (HP12.out.below (BelB.out h)).range) Tryz.underlying23 rfl (by rw [Lib.byteCells_length, HPL.out]; exact hashInfo)) hHeld ?_
          simp only [List.getElem_toArray, List.getElem_cons_succ, List.getElem_cons_zero, Act.put, List.setIfInBounds_toArray, List.set_cons_zero, List.set_cons_succ]
          refine wpAnyT_take (i := 4) (v := .int .i64 height) rfl (by decide) (by kernel_rfl) (by kernel_rfl) (by kernel_rfl) (fun _ _ _ h => h) (Or.inl ⟨by rfl, fun w _ => ?_⟩) hHeld ?_
          · go_simp
          simp only [List.getElem_toArray, List.getElem_cons_succ, List.getElem_cons_zero, Act.put, List.setIfInBounds_toArray, List.set_cons_zero, List.set_cons_succ]
          refine wpAnyT_take (i := 5) (v := .agg (knC (nm, P, height)).toArray) rfl (by decide) (by kernel_rfl) (by kernel_rfl) (by kernel_rfl) (fun _ _ _ h => h) (yieldsIf_buildKn3 (by rfl) (.tmp 95) (.tmp 96) (.tmp 97) (by rfl) nm P height (by rfl) (by rfl) (by rfl) HPL.out) hHeld ?_
          simp only [List.getElem_toArray, List.getElem_cons_succ, List.getElem_cons_zero, Act.put, List.setIfInBounds_toArray, List.set_cons_zero, List.set_cons_succ]
          refine wpAnyT_take (i := 6) (v := .pointer (some ⟨xb, 0, none⟩)) rfl (by decide) (by kernel_rfl) (by kernel_rfl) (by kernel_rfl) (fun _ _ _ h => h) (Or.inl ⟨by rfl, fun w _ => ?_⟩) hHeld ?_
          · go_simp
          simp only [List.getElem_toArray, List.getElem_cons_succ, List.getElem_cons_zero, Act.put, List.setIfInBounds_toArray, List.set_cons_zero, List.set_cons_succ]
          refine wpAnyT_take (i := 7) (v := .string ⟨nm.toArray⟩) rfl (by decide) (by kernel_rfl) (by kernel_rfl) (by kernel_rfl) (fun _ _ _ h => h) (Or.inl ⟨by rfl, fun w hSw => ?_⟩) hHeld ?_
          · obtain ⟨b, hb⟩ := hSw; have c : w.cell? ⟨xb, 0, none⟩ = some (.string ⟨nm.toArray⟩) := cell_of (below_heap (BelB.out hb) HX12.out) 0 rfl
            go_simp
          simp only [List.getElem_toArray, List.getElem_cons_succ, List.getElem_cons_zero, Act.put, List.setIfInBounds_toArray, List.set_cons_zero, List.set_cons_succ]
          refine wpAnyT_take (i := 8) (v := .pointer (some ⟨kb, 0, none⟩)) rfl (by decide) (by kernel_rfl) (by kernel_rfl) (by kernel_rfl) (fun _ _ _ h => h) (Or.inl ⟨by rfl, fun w _ => ?_⟩) hHeld ?_
          · go_simp
          simp only [List.getElem_toArray, List.getElem_cons_succ, List.getElem_cons_zero, Act.put, List.setIfInBounds_toArray, List.set_cons_zero, List.set_cons_succ]
          refine wpAnyT_take (i := 10) (v := .pointer (some ⟨xb, 33, none⟩)) rfl (by decide) (by kernel_rfl) (by kernel_rfl) (by kernel_rfl) (fun _ _ _ h => h) (Or.inl ⟨by rfl, fun w _ => ?_⟩) hHeld ?_
          · go_simp
          simp only [List.getElem_toArray, List.getElem_cons_succ, List.getElem_cons_zero, Act.put, List.setIfInBounds_toArray, List.set_cons_zero, List.set_cons_succ]
          refine wpAnyT_take (i := 11) (v := .int .u8 (ht : Int)) rfl (by decide) (by kernel_rfl) (by kernel_rfl) (by kernel_rfl) (fun _ _ _ h => h) (Or.inl ⟨by rfl, fun w hSw => ?_⟩) hHeld ?_
          · obtain ⟨b, hb⟩ := hSw; have c : w.cell? ⟨xb, 33, none⟩ = some (.int .u8 (ht : Int)) := cell_of (below_heap (BelB.out hb) HX12.out) 33 (by rw [List.getElem?_toArray]; exact snC_ht HSEC.out)
            go_simp
          simp only [List.getElem_toArray, List.getElem_cons_succ, List.getElem_cons_zero, Act.put, List.setIfInBounds_toArray, List.set_cons_zero, List.set_cons_succ]
          refine wpAnyT_take (i := 12) (v := .int .u8 (h : Int)) rfl (by decide) (by kernel_rfl) (by kernel_rfl) (by kernel_rfl) (fun _ _ _ h => h) (Or.inl ⟨by rfl, fun w _ => ?_⟩) hHeld ?_
          · go_simp
          simp only [List.getElem_toArray, List.getElem_cons_succ, List.getElem_cons_zero, Act.put, List.setIfInBounds_toArray, List.set_cons_zero, List.set_cons_succ]
          refine wpAnyT_take (i := 13) (v := .int .i64 (h : Int)) rfl (by decide) (by kernel_rfl) (by kernel_rfl) (by kernel_rfl) (fun _ _ _ h => h) (Or.inl ⟨by rfl, fun w _ => ?_⟩) hHeld ?_
          · go_simp
          simp only [List.getElem_toArray, List.getElem_cons_succ, List.getElem_cons_zero, Act.put, List.setIfInBounds_toArray, List.set_cons_zero, List.set_cons_succ]
          refine wpAnyT_ready (rs := [9]) (by kernel_rfl) (by simp) ?_
          refine AllReadyT.cons false rfl (by kernel_rfl) (fun K hK => ?_) AllReadyT.nil
          go_simp
          refine (HP2.out _ (HK12.out.below (BelB.out hHeld))).mono ?_
          rintro e wy ⟨rfl, hy⟩
          go_wp2_with fail
          have hy := (BelB.out hHeld).trans (hy.mono (BelB.out hHeld).size)
          refine hK.out _ _ hy (fun hHeld => ?_)
          clear hy
          clear hK K
          refine wpAnyT_take (i := 14) (v := .agg (knC (nm, K2, (h : Int))).toArray) rfl (by decide) (by kernel_rfl) (by kernel_rfl) (by kernel_rfl) (fun _ _ _ h => h) (yieldsIf_buildKn3 (by rfl) (.tmp 100) (.tmp 102) (.tmp 106) (by rfl) nm K2 (h : Int) (by rfl) (by rfl) (by rfl) HK2L.out) hHeld ?_
          simp only [List.getElem_toArray, List.getElem_cons_succ, List.getElem_cons_zero, Act.put, List.setIfInBounds_toArray, List.set_cons_zero, List.set_cons_succ]
          refine wpAnyT_ready (rs := [15]) (by kernel_rfl) (by simp) ?_
          refine AllReadyT.cons false rfl (by kernel_rfl) (fun K hK => ?_) AllReadyT.nil
          refine step_sliceKn2 (by rfl) (.tmp 98) (.tmp 107) (by rfl) (nm, P, height) (nm, K2, (h : Int)) (by rfl) (by rfl) HPL.out HK2L.out ?_
          have hy := (BelB.out hHeld).alloc (BelB.out hHeld).size (.cells (knC (nm, P, height) ++ knC (nm, K2, (h : Int))).toArray 64)
          refine hK.out _ _ hy (fun hHeld => ?_)
          clear hy
          clear hK K
          refine wpAnyT_ready (rs := [16]) (by kernel_rfl) (by simp) ?_
          refine AllReadyT.cons false rfl (by kernel_rfl) (fun K hK => ?_) AllReadyT.nil
          go_simp
          refine (HOPX.out _ _ (BelB.out hHeld) (knIn_two _ (nm, P, height) (nm, K2, (h : Int)) HPL.out)).mono ?_
          rintro e wz ⟨v13, hy⟩
          obtain ⟨rfl, ht13, hy⟩ := hy
          have HT13 := Lib.hid ht13
          go_wp2_with fail
          have hy := (BelB.out hHeld).trans (hy.mono (BelB.out hHeld).size)
          have HBZ := Lib.hid (HLA.out _ _ HB12.out hy)
          refine hK.out _ _ hy (fun hHeld => ?_)
          clear hy ht13
          clear hK K
          refine wpAnyT_take (i := 17) (v := .tuple #[.string ⟨s.toArray⟩, v13, .nilIface]) rfl (by decide) (by kernel_rfl) (by kernel_rfl) (by kernel_rfl) (fun _ _ _ h => h) (Or.inl ⟨by rfl, fun w _ => ?_⟩) hHeld ?_
          · go_simp
          simp only [List.getElem_toArray, List.getElem_cons_succ, List.getElem_cons_zero, Act.put, List.setIfInBounds_toArray, List.set_cons_zero, List.set_cons_succ]
          refine wpAnyT_take (i := 18) (v := .string ⟨s.toArray⟩) rfl (by decide) (by kernel_rfl) (by kernel_rfl) (by kernel_rfl) (fun _ _ _ h => h) (Or.inl ⟨by rfl, fun w _ => ?_⟩) hHeld ?_
          · go_simp
          simp only [List.getElem_toArray, List.getElem_cons_succ, List.getElem_cons_zero, Act.put, List.setIfInBounds_toArray, List.set_cons_zero, List.set_cons_succ]
          refine wpAnyT_take (i := 19) (v := v13) rfl (by decide) (by kernel_rfl) (by kernel_rfl) (by kernel_rfl) (fun _ _ _ h => h) (Or.inl ⟨by rfl, fun w _ => ?_⟩) hHeld ?_
          · go_simp
          simp only [List.getElem_toArray, List.getElem_cons_succ, List.getElem_cons_zero, Act.put, List.setIfInBounds_toArray, List.set_cons_zero, List.set_cons_succ]
          refine wpAnyT_take (i := 20) (v := .nilIface) rfl (by decide) (by kernel_rfl) (by kernel_rfl) (by kernel_rfl) (fun _ _ _ h => h) (Or.inl ⟨by rfl, fun w _ => ?_⟩) hHeld ?_
          · go_simp
          simp only [List.getElem_toArray, List.getElem_cons_succ, List.getElem_cons_zero, Act.put, List.setIfInBounds_toArray, List.set_cons_zero, List.set_cons_succ]
          refine wpAnyT_take (i := 21) (v := .string ⟨s.toArray⟩) rfl (by decide) (by kernel_rfl) (by kernel_rfl) (by kernel_rfl) (fun _ _ _ h => h) (Or.inl ⟨by rfl, fun w _ => ?_⟩) hHeld ?_
          · go_simp
          simp only [List.getElem_toArray, List.getElem_cons_succ, List.getElem_cons_zero, Act.put, List.setIfInBounds_toArray, List.set_cons_zero, List.set_cons_succ]
          refine wpAnyT_take (i := 22) (v := v13) rfl (by decide) (by kernel_rfl) (by kernel_rfl) (by kernel_rfl) (fun _ _ _ h => h) (Or.inl ⟨by rfl, fun w _ => ?_⟩) hHeld ?_
          · go_simp
          simp only [List.getElem_toArray, List.getElem_cons_succ, List.getElem_cons_zero, Act.put, List.setIfInBounds_toArray, List.set_cons_zero, List.set_cons_succ]
          refine wpAnyT_take (i := 23) (v := .nilIface) rfl (by decide) (by kernel_rfl) (by kernel_rfl) (by kernel_rfl) (fun _ _ _ h => h) (Or.inl ⟨by rfl, fun w _ => ?_⟩) hHeld ?_
          · go_simp
          simp only [List.getElem_toArray, List.getElem_cons_succ, List.getElem_cons_zero, Act.put, List.setIfInBounds_toArray, List.set_cons_zero, List.set_cons_succ]
          refine wpAnyT_done (by kernel_rfl) ?_ _
          have HXZ := Lib.hid (below_heap (BelB.out hHeld) HX12.out)
          have x0 := cell_of HXZ.out 0 (show (snC nm sec ht).toArray[0]? = some (.string ⟨nm.toArray⟩) from rfl)
          have HST := Lib.hid (fun (W : World) (u : Value) (h1 : TextsIn W v13 [nm]) (h2 : TextsIn W u [nm]) => (by
            have h := sameTexts_any W v13 u [nm] [nm] h1 h2 (by simp) (by simp)
            rw [show decide (([nm] : List (List UInt8)) = [nm]) = true by simp] at h
            refine h.mono ?_
            rintro e w' ⟨rfl, n, rfl⟩
            exact ⟨rfl, below_drewN (Below.refl _ _) n⟩ : Calls Tryz.prog 20 #[v13, u] W fun e w' => e = .returned (.bool true) ∧ Below W.heap.size W w'))
          have HBA := Lib.hid (HLA.out _ _ HBZ.out (below_one wz (.cells #[.string ⟨nm.toArray⟩] 9 (0, 0))))
          have HTA := Lib.hid (HT13.out.below (below_one wz (.cells #[.string ⟨nm.toArray⟩] 9 (0, 0))))
          go_wp2_with (first | (go_at_call 20; refine (HST.out _ _ HTA.out (textsOne _ _)).mono ?_; rintro e w14 ⟨rfl, hb14⟩; have HB14 := Lib.hid (HLA.out _ _ HBA.out hb14)) | (go_at_call 7; refine (HAL.out _ HB14.out).mono ?_; rintro e w10 ⟨rfl, hb10⟩))
          go_ret
          exact ⟨rfl, HLA.out _ _ HB14.out hb10⟩
        · rw [show errN S 2 = .iface 251 (.pointer (some (S 2))) from rfl] at HKV
          have HOPX := Lib.hid (fun (W : World) (kv : Value) (hW : Below w.heap.size w W) (hkn : KnIn W kv [(nm, P, height), (nm, K2, (h : Int))]) => (by
            refine (open_any S N kv [(nm, P, height), (nm, K2, (h : Int))] (by have := HLEN.out; have := HS.out; omega) (fun k hk => ?_) (by simp) W (HF.out _ hW) hkn).mono ?_
            · simp only [List.mem_cons, List.not_mem_nil, or_false] at hk
              rcases hk with rfl | rfl
              · exact ⟨show nm.length ≤ 1048576 from Nat.le_trans (name_len hyes.1).1 (by decide), HPL.out, HHE.out⟩
              · exact ⟨show nm.length ≤ 1048576 from Nat.le_trans (name_len hyes.1).1 (by decide), HK2L.out, show idxOk (h : Int) from ⟨by omega, by omega⟩⟩
            rw [show openN N [(nm, P, height), (nm, K2, (h : Int))] = (([], []), 12, none) from (HOPN.out (nm, K2, (h : Int))).trans (if_neg (by decide))]
            rintro e w2 ⟨v, ev, rfl, h1, h2, h3⟩
            obtain ⟨T9, y9, rfl, hq, _⟩ := ErrAt.some5 h2 (by decide)
            obtain ⟨ao, cp, rfl, _⟩ := h1 w2 (fun _ _ _ => rfl)
            exact ⟨ao, cp, T9, y9, rfl, hq, h2, h3⟩ : Calls Tryz.prog 19 #[.string ⟨N.toArray⟩, kv] W fun e w2 => ∃ ao cp T9 y9, e = .returned (.tuple #[.string ⟨#[]⟩, .slice ao 0 cp, .iface T9 y9]) ∧ (∀ X, (binOp .neq 34 (.iface T9 y9) .nilIface).run Tryz.prog X = .ok (.bool true) X) ∧ ErrAt S w2 (.iface T9 y9) 12 none ∧ Below W.heap.size W w2))
          go_upto_region 23 with (first | (refine wpList_hashLoad (by rfl) (.tmp 5) (by rfl) pb 0 (by rfl) P HPL.out HPA.out.range ?_) | (go_at_call 22; refine HKV.out.mono ?_; rintro e w12 ⟨rfl, hb12⟩))
          have hb12 := hb12.trans ((Below.refl w12.heap.size w12).drew.mono hb12.size)
          have HB12 := Lib.hid (HLA.out _ _ HBX.out hb12)
          have HK12 := Lib.hid (HKA.out.below hb12)
          have HP12 := Lib.hid (HPA.out.below hb12)
          have HX12 := Lib.hid (below_heap hb12 HXA.out)
          have HOPX := Lib.hid (fun (W : World) (kv : Value) (hW : Below w12.drew.heap.size w12.drew W) => HOPX.out W kv (HLA.out _ _ HB12.out hW))
          clear hb12 s0 s1 s2
          have t3 : (ht : Int).tmod 3 = (h : Int) := by rw [Int.tmod_eq_emod_of_nonneg t0]; exact t2
          have t4 : IntKind.i64.wrap (h : Int) = (h : Int) := by rw [IntKind.wrap_i64]; omega
          refine wp_region_till 100 (BelB w12.drew) (by kernel_rfl) (Below.refl _ _) (fun hHeld => ?_)
          refine wpAnyT_take (i := 0) (v := .string ⟨N.toArray⟩) rfl (by decide) (by kernel_rfl) (by kernel_rfl) (by kernel_rfl) (fun _ _ _ h => h) (Or.inl ⟨by rfl, fun w _ => ?_⟩) hHeld ?_
          · go_simp
          simp only [List.getElem_toArray, List.getElem_cons_zero, Act.put, List.setIfInBounds_toArray, List.set_cons_zero, List.set_cons_succ]
          refine wpAnyT_take (i := 1) (v := .pointer (some ⟨xb, 0, none⟩)) rfl (by decide) (by kernel_rfl) (by kernel_rfl) (by kernel_rfl) (fun _ _ _ h => h) (Or.inl ⟨by rfl, fun w _ => ?_⟩) hHeld ?_
          · go_simp
          simp only [List.getElem_toArray, List.getElem_cons_succ, List.getElem_cons_zero, Act.put, List.setIfInBounds_toArray, List.set_cons_zero, List.set_cons_succ]
          refine wpAnyT_take (i := 2) (v := .string ⟨nm.toArray⟩) rfl (by decide) (by kernel_rfl) (by kernel_rfl) (by kernel_rfl) (fun _ _ _ h => h) (Or.inl ⟨by rfl, fun w hSw => ?_⟩) hHeld ?_
          · obtain ⟨b, hb⟩ := hSw; have c : w.cell? ⟨xb, 0, none⟩ = some (.string ⟨nm.toArray⟩) := cell_of (below_heap (BelB.out hb) HX12.out) 0 rfl
            go_simp
          simp only [List.getElem_toArray, List.getElem_cons_succ, List.getElem_cons_zero, Act.put, List.setIfInBounds_toArray, List.set_cons_zero, List.set_cons_succ]
          refine wpAnyT_take (i := 3) (v := hv P) rfl (by decide) (by kernel_rfl) (by kernel_rfl) (by kernel_rfl) (fun _ _ _ h => h) (yieldsIf_load_mid (by rfl) 23 (.tmp 5) (by rfl) pb 0 (by rfl) (Lib.byteCells P) _ (fun w ⟨_, h⟩ => (HP12.out.below (BelB.out h)).range) Tryz.underlying23 rfl (by rw [Lib.byteCells_length, HPL.out]; exact hashInfo)) hHeld ?_
          simp only [List.getElem_toArray, List.getElem_cons_succ, List.getElem_cons_zero, Act.put, List.setIfInBounds_toArray, List.set_cons_zero, List.set_cons_succ]
          refine wpAnyT_take (i := 4) (v := .int .i64 height) rfl (by decide) (by kernel_rfl) (by kernel_rfl) (by kernel_rfl) (fun _ _ _ h => h) (Or.inl ⟨by rfl, fun w _ => ?_⟩) hHeld ?_
          · go_simp
          simp only [List.getElem_toArray, List.getElem_cons_succ, List.getElem_cons_zero, Act.put, List.setIfInBounds_toArray, List.set_cons_zero, List.set_cons_succ]
          refine wpAnyT_take (i := 5) (v := .agg (knC (nm, P, height)).toArray) rfl (by decide) (by kernel_rfl) (by kernel_rfl) (by kernel_rfl) (fun _ _ _ h => h) (yieldsIf_buildKn3 (by rfl) (.tmp 95) (.tmp 96) (.tmp 97) (by rfl) nm P height (by rfl) (by rfl) (by rfl) HPL.out) hHeld ?_
          simp only [List.getElem_toArray, List.getElem_cons_succ, List.getElem_cons_zero, Act.put, List.setIfInBounds_toArray, List.set_cons_zero, List.set_cons_succ]
          refine wpAnyT_take (i := 6) (v := .pointer (some ⟨xb, 0, none⟩)) rfl (by decide) (by kernel_rfl) (by kernel_rfl) (by kernel_rfl) (fun _ _ _ h => h) (Or.inl ⟨by rfl, fun w _ => ?_⟩) hHeld ?_
          · go_simp
          simp only [List.getElem_toArray, List.getElem_cons_succ, List.getElem_cons_zero, Act.put, List.setIfInBounds_toArray, List.set_cons_zero, List.set_cons_succ]
          refine wpAnyT_take (i := 7) (v := .string ⟨nm.toArray⟩) rfl (by decide) (by kernel_rfl) (by kernel_rfl) (by kernel_rfl) (fun _ _ _ h => h) (Or.inl ⟨by rfl, fun w hSw => ?_⟩) hHeld ?_
          · obtain ⟨b, hb⟩ := hSw; have c : w.cell? ⟨xb, 0, none⟩ = some (.string ⟨nm.toArray⟩) := cell_of (below_heap (BelB.out hb) HX12.out) 0 rfl
            go_simp
          simp only [List.getElem_toArray, List.getElem_cons_succ, List.getElem_cons_zero, Act.put, List.setIfInBounds_toArray, List.set_cons_zero, List.set_cons_succ]
          refine wpAnyT_take (i := 8) (v := .pointer (some ⟨kb, 0, none⟩)) rfl (by decide) (by kernel_rfl) (by kernel_rfl) (by kernel_rfl) (fun _ _ _ h => h) (Or.inl ⟨by rfl, fun w _ => ?_⟩) hHeld ?_
          · go_simp
          simp only [List.getElem_toArray, List.getElem_cons_succ, List.getElem_cons_zero, Act.put, List.setIfInBounds_toArray, List.set_cons_zero, List.set_cons_succ]
          refine wpAnyT_take (i := 10) (v := .pointer (some ⟨xb, 33, none⟩)) rfl (by decide) (by kernel_rfl) (by kernel_rfl) (by kernel_rfl) (fun _ _ _ h => h) (Or.inl ⟨by rfl, fun w _ => ?_⟩) hHeld ?_
          · go_simp
          simp only [List.getElem_toArray, List.getElem_cons_succ, List.getElem_cons_zero, Act.put, List.setIfInBounds_toArray, List.set_cons_zero, List.set_cons_succ]
          refine wpAnyT_take (i := 11) (v := .int .u8 (ht : Int)) rfl (by decide) (by kernel_rfl) (by kernel_rfl) (by kernel_rfl) (fun _ _ _ h => h) (Or.inl ⟨by rfl, fun w hSw => ?_⟩) hHeld ?_
          · obtain ⟨b, hb⟩ := hSw; have c : w.cell? ⟨xb, 33, none⟩ = some (.int .u8 (ht : Int)) := cell_of (below_heap (BelB.out hb) HX12.out) 33 (by rw [List.getElem?_toArray]; exact snC_ht HSEC.out)
            go_simp
          simp only [List.getElem_toArray, List.getElem_cons_succ, List.getElem_cons_zero, Act.put, List.setIfInBounds_toArray, List.set_cons_zero, List.set_cons_succ]
          refine wpAnyT_take (i := 12) (v := .int .u8 (h : Int)) rfl (by decide) (by kernel_rfl) (by kernel_rfl) (by kernel_rfl) (fun _ _ _ h => h) (Or.inl ⟨by rfl, fun w _ => ?_⟩) hHeld ?_
          · go_simp
          simp only [List.getElem_toArray, List.getElem_cons_succ, List.getElem_cons_zero, Act.put, List.setIfInBounds_toArray, List.set_cons_zero, List.set_cons_succ]
          refine wpAnyT_take (i := 13) (v := .int .i64 (h : Int)) rfl (by decide) (by kernel_rfl) (by kernel_rfl) (by kernel_rfl) (fun _ _ _ h => h) (Or.inl ⟨by rfl, fun w _ => ?_⟩) hHeld ?_
          · go_simp
          simp only [List.getElem_toArray, List.getElem_cons_succ, List.getElem_cons_zero, Act.put, List.setIfInBounds_toArray, List.set_cons_zero, List.set_cons_succ]
          refine wpAnyT_ready (rs := [9]) (by kernel_rfl) (by simp) ?_
          refine AllReadyT.cons false rfl (by kernel_rfl) (fun K hK => ?_) AllReadyT.nil
          go_simp
          refine (HP2.out _ (HK12.out.below (BelB.out hHeld))).mono ?_
          rintro e wy ⟨rfl, hy⟩
          go_wp2_with fail
          have hy := (BelB.out hHeld).trans (hy.mono (BelB.out hHeld).size)
          refine hK.out _ _ hy (fun hHeld => ?_)
          clear hy
          clear hK K
          refine wpAnyT_take (i := 14) (v := .agg (knC (nm, K2, (h : Int))).toArray) rfl (by decide) (by kernel_rfl) (by kernel_rfl) (by kernel_rfl) (fun _ _ _ h => h) (yieldsIf_buildKn3 (by rfl) (.tmp 100) (.tmp 102) (.tmp 106) (by rfl) nm K2 (h : Int) (by rfl) (by rfl) (by rfl) HK2L.out) hHeld ?_
          simp only [List.getElem_toArray, List.getElem_cons_succ, List.getElem_cons_zero, Act.put, List.setIfInBounds_toArray, List.set_cons_zero, List.set_cons_succ]
          refine wpAnyT_ready (rs := [15]) (by kernel_rfl) (by simp) ?_
          refine AllReadyT.cons false rfl (by kernel_rfl) (fun K hK => ?_) AllReadyT.nil
          refine step_sliceKn2 (by rfl) (.tmp 98) (.tmp 107) (by rfl) (nm, P, height) (nm, K2, (h : Int)) (by rfl) (by rfl) HPL.out HK2L.out ?_
          have hy := (BelB.out hHeld).alloc (BelB.out hHeld).size (.cells (knC (nm, P, height) ++ knC (nm, K2, (h : Int))).toArray 64)
          refine hK.out _ _ hy (fun hHeld => ?_)
          clear hy
          clear hK K
          refine wpAnyT_ready (rs := [16]) (by kernel_rfl) (by simp) ?_
          refine AllReadyT.cons false rfl (by kernel_rfl) (fun K hK => ?_) AllReadyT.nil
          go_simp
          refine (HOPX.out _ _ (BelB.out hHeld) (knIn_two _ (nm, P, height) (nm, K2, (h : Int)) HPL.out)).mono ?_
          rintro e wz ⟨ao13, c13, T13, y13, hy⟩
          obtain ⟨rfl, hq13, he13, hy⟩ := hy
          have HE13 := Lib.hid he13
          go_wp2_with fail
          have hy := (BelB.out hHeld).trans (hy.mono (BelB.out hHeld).size)
          have HBZ := Lib.hid (HLA.out _ _ HB12.out hy)
          refine hK.out _ _ hy (fun hHeld => ?_)
          clear hy he13
          clear hK K
          refine wpAnyT_take (i := 17) (v := .tuple #[.string ⟨#[]⟩, .slice ao13 0 c13, .iface T13 y13]) rfl (by decide) (by kernel_rfl) (by kernel_rfl) (by kernel_rfl) (fun _ _ _ h => h) (Or.inl ⟨by rfl, fun w _ => ?_⟩) hHeld ?_
          · go_simp
          simp only [List.getElem_toArray, List.getElem_cons_succ, List.getElem_cons_zero, Act.put, List.setIfInBounds_toArray, List.set_cons_zero, List.set_cons_succ]
          refine wpAnyT_take (i := 18) (v := .string ⟨#[]⟩) rfl (by decide) (by kernel_rfl) (by kernel_rfl) (by kernel_rfl) (fun _ _ _ h => h) (Or.inl ⟨by rfl, fun w _ => ?_⟩) hHeld ?_
          · go_simp
          simp only [List.getElem_toArray, List.getElem_cons_succ, List.getElem_cons_zero, Act.put, List.setIfInBounds_toArray, List.set_cons_zero, List.set_cons_succ]
          refine wpAnyT_take (i := 19) (v := .slice ao13 0 c13) rfl (by decide) (by kernel_rfl) (by kernel_rfl) (by kernel_rfl) (fun _ _ _ h => h) (Or.inl ⟨by rfl, fun w _ => ?_⟩) hHeld ?_
          · go_simp
          simp only [List.getElem_toArray, List.getElem_cons_succ, List.getElem_cons_zero, Act.put, List.setIfInBounds_toArray, List.set_cons_zero, List.set_cons_succ]
          refine wpAnyT_take (i := 20) (v := .iface T13 y13) rfl (by decide) (by kernel_rfl) (by kernel_rfl) (by kernel_rfl) (fun _ _ _ h => h) (Or.inl ⟨by rfl, fun w _ => ?_⟩) hHeld ?_
          · go_simp
          simp only [List.getElem_toArray, List.getElem_cons_succ, List.getElem_cons_zero, Act.put, List.setIfInBounds_toArray, List.set_cons_zero, List.set_cons_succ]
          refine wpAnyT_take (i := 21) (v := .string ⟨#[]⟩) rfl (by decide) (by kernel_rfl) (by kernel_rfl) (by kernel_rfl) (fun _ _ _ h => h) (Or.inl ⟨by rfl, fun w _ => ?_⟩) hHeld ?_
          · go_simp
          simp only [List.getElem_toArray, List.getElem_cons_succ, List.getElem_cons_zero, Act.put, List.setIfInBounds_toArray, List.set_cons_zero, List.set_cons_succ]
          refine wpAnyT_take (i := 22) (v := .slice ao13 0 c13) rfl (by decide) (by kernel_rfl) (by kernel_rfl) (by kernel_rfl) (fun _ _ _ h => h) (Or.inl ⟨by rfl, fun w _ => ?_⟩) hHeld ?_
          · go_simp
          simp only [List.getElem_toArray, List.getElem_cons_succ, List.getElem_cons_zero, Act.put, List.setIfInBounds_toArray, List.set_cons_zero, List.set_cons_succ]
          refine wpAnyT_take (i := 23) (v := .iface T13 y13) rfl (by decide) (by kernel_rfl) (by kernel_rfl) (by kernel_rfl) (fun _ _ _ h => h) (Or.inl ⟨by rfl, fun w _ => ?_⟩) hHeld ?_
          · go_simp
          simp only [List.getElem_toArray, List.getElem_cons_succ, List.getElem_cons_zero, Act.put, List.setIfInBounds_toArray, List.set_cons_zero, List.set_cons_succ]
          refine wpAnyT_done (by kernel_rfl) ?_ _
          have HI12 := Lib.hid (by
            have h2 := is_any S wz (.iface T13 y13) 12 none 12 (HF.out _ HBZ.out).base HE13.out
            rwa [show isB 12 none 12 = true by decide] at h2 : Calls Tryz.prog 11 #[.iface T13 y13, .int .i64 12] wz fun e w' => e = .returned (.bool true) ∧ Below wz.heap.size wz w')
          go_wp2_with (first | (go_at_call 11; refine HI12.out.mono ?_; rintro e w14 ⟨rfl, hb14⟩; have HB14 := Lib.hid (HLA.out _ _ HBZ.out hb14)) | (go_at_call 7; refine (HAL.out _ HB14.out).mono ?_; rintro e w10 ⟨rfl, hb10⟩))
          go_ret
          exact ⟨rfl, HLA.out _ _ HB14.out hb10⟩
        · rw [show errN S 12 = .iface 251 (.pointer (some (S 12))) from rfl] at HKV
          have HOPX := Lib.hid (fun (W : World) (kv : Value) (hW : Below w.heap.size w W) (hkn : KnIn W kv [(nm, P, height), (nm, K2, (h : Int))]) => (by
            refine (open_any S N kv [(nm, P, height), (nm, K2, (h : Int))] (by have := HLEN.out; have := HS.out; omega) (fun k hk => ?_) (by simp) W (HF.out _ hW) hkn).mono ?_
            · simp only [List.mem_cons, List.not_mem_nil, or_false] at hk
              rcases hk with rfl | rfl
              · exact ⟨show nm.length ≤ 1048576 from Nat.le_trans (name_len hyes.1).1 (by decide), HPL.out, HHE.out⟩
              · exact ⟨show nm.length ≤ 1048576 from Nat.le_trans (name_len hyes.1).1 (by decide), HK2L.out, show idxOk (h : Int) from ⟨by omega, by omega⟩⟩
            rw [show openN N [(nm, P, height), (nm, K2, (h : Int))] = (([], []), 12, none) from (HOPN.out (nm, K2, (h : Int))).trans (if_neg (by decide))]
            rintro e w2 ⟨v, ev, rfl, h1, h2, h3⟩
            obtain ⟨T9, y9, rfl, hq, _⟩ := ErrAt.some5 h2 (by decide)
            obtain ⟨ao, cp, rfl, _⟩ := h1 w2 (fun _ _ _ => rfl)
            exact ⟨ao, cp, T9, y9, rfl, hq, h2, h3⟩ : Calls Tryz.prog 19 #[.string ⟨N.toArray⟩, kv] W fun e w2 => ∃ ao cp T9 y9, e = .returned (.tuple #[.string ⟨#[]⟩, .slice ao 0 cp, .iface T9 y9]) ∧ (∀ X, (binOp .neq 34 (.iface T9 y9) .nilIface).run Tryz.prog X = .ok (.bool true) X) ∧ ErrAt S w2 (.iface T9 y9) 12 none ∧ Below W.heap.size W w2))
          go_upto_region 23 with (first | (refine wpList_hashLoad (by rfl) (.tmp 5) (by rfl) pb 0 (by rfl) P HPL.out HPA.out.range ?_) | (go_at_call 22; refine HKV.out.mono ?_; rintro e w12 ⟨rfl, hb12⟩))
          have hb12 := hb12.trans ((Below.refl w12.heap.size w12).drew.mono hb12.size)
          have HB12 := Lib.hid (HLA.out _ _ HBX.out hb12)
          have HK12 := Lib.hid (HKA.out.below hb12)
          have HP12 := Lib.hid (HPA.out.below hb12)
          have HX12 := Lib.hid (below_heap hb12 HXA.out)
          have HOPX := Lib.hid (fun (W : World) (kv : Value) (hW : Below w12.drew.heap.size w12.drew W) => HOPX.out W kv (HLA.out _ _ HB12.out hW))
          clear hb12 s0 s1 s2
          have t3 : (ht : Int).tmod 3 = (h : Int) := by rw [Int.tmod_eq_emod_of_nonneg t0]; exact t2
          have t4 : IntKind.i64.wrap (h : Int) = (h : Int) := by rw [IntKind.wrap_i64]; omega
          refine wp_region_till 100 (BelB w12.drew) (by kernel_rfl) (Below.refl _ _) (fun hHeld => ?_)
          refine wpAnyT_take (i := 0) (v := .string ⟨N.toArray⟩) rfl (by decide) (by kernel_rfl) (by kernel_rfl) (by kernel_rfl) (fun _ _ _ h => h) (Or.inl ⟨by rfl, fun w _ => ?_⟩) hHeld ?_
          · go_simp
          simp only [List.getElem_toArray, List.getElem_cons_zero, Act.put, List.setIfInBounds_toArray, List.set_cons_zero, List.set_cons_succ]
          refine wpAnyT_take (i := 1) (v := .pointer (some ⟨xb, 0, none⟩)) rfl (by decide) (by kernel_rfl) (by kernel_rfl) (by kernel_rfl) (fun _ _ _ h => h) (Or.inl ⟨by rfl, fun w _ => ?_⟩) hHeld ?_
          · go_simp
          simp only [List.getElem_toArray, List.getElem_cons_succ, List.getElem_cons_zero, Act.put, List.setIfInBounds_toArray, List.set_cons_zero, List.set_cons_succ]
          refine wpAnyT_take (i := 2) (v := .string ⟨nm.toArray⟩) rfl (by decide) (by kernel_rfl) (by kernel_rfl) (by kernel_rfl) (fun _ _ _ h => h) (Or.inl ⟨by rfl, fun w hSw => ?_⟩) hHeld ?_
          · obtain ⟨b, hb⟩ := hSw; have c : w.cell? ⟨xb, 0, none⟩ = some (.string ⟨nm.toArray⟩) := cell_of (below_heap (BelB.out hb) HX12.out) 0 rfl
            go_simp
          simp only [List.getElem_toArray, List.getElem_cons_succ, List.getElem_cons_zero, Act.put, List.setIfInBounds_toArray, List.set_cons_zero, List.set_cons_succ]
          refine wpAnyT_take (i := 3) (v := hv P) rfl (by decide) (by kernel_rfl) (by kernel_rfl) (by kernel_rfl) (fun _ _ _ h => h) (yieldsIf_load_mid (by rfl) 23 (.tmp 5) (by rfl) pb 0 (by rfl) (Lib.byteCells P) _ (fun w ⟨_, h⟩ => (HP12.out.below (BelB.out h)).range) Tryz.underlying23 rfl (by rw [Lib.byteCells_length, HPL.out]; exact hashInfo)) hHeld ?_
          simp only [List.getElem_toArray, List.getElem_cons_succ, List.getElem_cons_zero, Act.put, List.setIfInBounds_toArray, List.set_cons_zero, List.set_cons_succ]
          refine wpAnyT_take (i := 4) (v := .int .i64 height) rfl (by decide) (by kernel_rfl) (by kernel_rfl) (by kernel_rfl) (fun _ _ _ h => h) (Or.inl ⟨by rfl, fun w _ => ?_⟩) hHeld ?_
          · go_simp
          simp only [List.getElem_toArray, List.getElem_cons_succ, List.getElem_cons_zero, Act.put, List.setIfInBounds_toArray, List.set_cons_zero, List.set_cons_succ]
          refine wpAnyT_take (i := 5) (v := .agg (knC (nm, P, height)).toArray) rfl (by decide) (by kernel_rfl) (by kernel_rfl) (by kernel_rfl) (fun _ _ _ h => h) (yieldsIf_buildKn3 (by rfl) (.tmp 95) (.tmp 96) (.tmp 97) (by rfl) nm P height (by rfl) (by rfl) (by rfl) HPL.out) hHeld ?_
          simp only [List.getElem_toArray, List.getElem_cons_succ, List.getElem_cons_zero, Act.put, List.setIfInBounds_toArray, List.set_cons_zero, List.set_cons_succ]
          refine wpAnyT_take (i := 6) (v := .pointer (some ⟨xb, 0, none⟩)) rfl (by decide) (by kernel_rfl) (by kernel_rfl) (by kernel_rfl) (fun _ _ _ h => h) (Or.inl ⟨by rfl, fun w _ => ?_⟩) hHeld ?_
          · go_simp
          simp only [List.getElem_toArray, List.getElem_cons_succ, List.getElem_cons_zero, Act.put, List.setIfInBounds_toArray, List.set_cons_zero, List.set_cons_succ]
          refine wpAnyT_take (i := 7) (v := .string ⟨nm.toArray⟩) rfl (by decide) (by kernel_rfl) (by kernel_rfl) (by kernel_rfl) (fun _ _ _ h => h) (Or.inl ⟨by rfl, fun w hSw => ?_⟩) hHeld ?_
          · obtain ⟨b, hb⟩ := hSw; have c : w.cell? ⟨xb, 0, none⟩ = some (.string ⟨nm.toArray⟩) := cell_of (below_heap (BelB.out hb) HX12.out) 0 rfl
            go_simp
          simp only [List.getElem_toArray, List.getElem_cons_succ, List.getElem_cons_zero, Act.put, List.setIfInBounds_toArray, List.set_cons_zero, List.set_cons_succ]
          refine wpAnyT_take (i := 8) (v := .pointer (some ⟨kb, 0, none⟩)) rfl (by decide) (by kernel_rfl) (by kernel_rfl) (by kernel_rfl) (fun _ _ _ h => h) (Or.inl ⟨by rfl, fun w _ => ?_⟩) hHeld ?_
          · go_simp
          simp only [List.getElem_toArray, List.getElem_cons_succ, List.getElem_cons_zero, Act.put, List.setIfInBounds_toArray, List.set_cons_zero, List.set_cons_succ]
          refine wpAnyT_take (i := 10) (v := .pointer (some ⟨xb, 33, none⟩)) rfl (by decide) (by kernel_rfl) (by kernel_rfl) (by kernel_rfl) (fun _ _ _ h => h) (Or.inl ⟨by rfl, fun w _ => ?_⟩) hHeld ?_
          · go_simp
          simp only [List.getElem_toArray, List.getElem_cons_succ, List.getElem_cons_zero, Act.put, List.setIfInBounds_toArray, List.set_cons_zero, List.set_cons_succ]
          refine wpAnyT_take (i := 11) (v := .int .u8 (ht : Int)) rfl (by decide) (by kernel_rfl) (by kernel_rfl) (by kernel_rfl) (fun _ _ _ h => h) (Or.inl ⟨by rfl, fun w hSw => ?_⟩) hHeld ?_
          · obtain ⟨b, hb⟩ := hSw; have c : w.cell? ⟨xb, 33, none⟩ = some (.int .u8 (ht : Int)) := cell_of (below_heap (BelB.out hb) HX12.out) 33 (by rw [List.getElem?_toArray]; exact snC_ht HSEC.out)
            go_simp
          simp only [List.getElem_toArray, List.getElem_cons_succ, List.getElem_cons_zero, Act.put, List.setIfInBounds_toArray, List.set_cons_zero, List.set_cons_succ]
          refine wpAnyT_take (i := 12) (v := .int .u8 (h : Int)) rfl (by decide) (by kernel_rfl) (by kernel_rfl) (by kernel_rfl) (fun _ _ _ h => h) (Or.inl ⟨by rfl, fun w _ => ?_⟩) hHeld ?_
          · go_simp
          simp only [List.getElem_toArray, List.getElem_cons_succ, List.getElem_cons_zero, Act.put, List.setIfInBounds_toArray, List.set_cons_zero, List.set_cons_succ]
          refine wpAnyT_take (i := 13) (v := .int .i64 (h : Int)) rfl (by decide) (by kernel_rfl) (by kernel_rfl) (by kernel_rfl) (fun _ _ _ h => h) (Or.inl ⟨by rfl, fun w _ => ?_⟩) hHeld ?_
          · go_simp
          simp only [List.getElem_toArray, List.getElem_cons_succ, List.getElem_cons_zero, Act.put, List.setIfInBounds_toArray, List.set_cons_zero, List.set_cons_succ]
          refine wpAnyT_ready (rs := [9]) (by kernel_rfl) (by simp) ?_
          refine AllReadyT.cons false rfl (by kernel_rfl) (fun K hK => ?_) AllReadyT.nil
          go_simp
          refine (HP2.out _ (HK12.out.below (BelB.out hHeld))).mono ?_
          rintro e wy ⟨rfl, hy⟩
          go_wp2_with fail
          have hy := (BelB.out hHeld).trans (hy.mono (BelB.out hHeld).size)
          refine hK.out _ _ hy (fun hHeld => ?_)
          clear hy
          clear hK K
          refine wpAnyT_take (i := 14) (v := .agg (knC (nm, K2, (h : Int))).toArray) rfl (by decide) (by kernel_rfl) (by kernel_rfl) (by kernel_rfl) (fun _ _ _ h => h) (yieldsIf_buildKn3 (by rfl) (.tmp 100) (.tmp 102) (.tmp 106) (by rfl) nm K2 (h : Int) (by rfl) (by rfl) (by rfl) HK2L.out) hHeld ?_
          simp only [List.getElem_toArray, List.getElem_cons_succ, List.getElem_cons_zero, Act.put, List.setIfInBounds_toArray, List.set_cons_zero, List.set_cons_succ]
          refine wpAnyT_ready (rs := [15]) (by kernel_rfl) (by simp) ?_
          refine AllReadyT.cons false rfl (by kernel_rfl) (fun K hK => ?_) AllReadyT.nil
          refine step_sliceKn2 (by rfl) (.tmp 98) (.tmp 107) (by rfl) (nm, P, height) (nm, K2, (h : Int)) (by rfl) (by rfl) HPL.out HK2L.out ?_
          have hy := (BelB.out hHeld).alloc (BelB.out hHeld).size (.cells (knC (nm, P, height) ++ knC (nm, K2, (h : Int))).toArray 64)
          refine hK.out _ _ hy (fun hHeld => ?_)
          clear hy
          clear hK K
          refine wpAnyT_ready (rs := [16]) (by kernel_rfl) (by simp) ?_
          refine AllReadyT.cons false rfl (by kernel_rfl) (fun K hK => ?_) AllReadyT.nil
          go_simp
          refine (HOPX.out _ _ (BelB.out hHeld) (knIn_two _ (nm, P, height) (nm, K2, (h : Int)) HPL.out)).mono ?_
          rintro e wz ⟨ao13, c13, T13, y13, hy⟩
          obtain ⟨rfl, hq13, he13, hy⟩ := hy
          have HE13 := Lib.hid he13
          go_wp2_with fail
          have hy := (BelB.out hHeld).trans (hy.mono (BelB.out hHeld).size)
          have HBZ := Lib.hid (HLA.out _ _ HB12.out hy)
          refine hK.out _ _ hy (fun hHeld => ?_)
          clear hy he13
          clear hK K
          refine wpAnyT_take (i := 17) (v := .tuple #[.string ⟨#[]⟩, .slice ao13 0 c13, .iface T13 y13]) rfl (by decide) (by kernel_rfl) (by kernel_rfl) (by kernel_rfl) (fun _ _ _ h => h) (Or.inl ⟨by rfl, fun w _ => ?_⟩) hHeld ?_
          · go_simp
          simp only [List.getElem_toArray, List.getElem_cons_succ, List.getElem_cons_zero, Act.put, List.setIfInBounds_toArray, List.set_cons_zero, List.set_cons_succ]
          refine wpAnyT_take (i := 18) (v := .string ⟨#[]⟩) rfl (by decide) (by kernel_rfl) (by kernel_rfl) (by kernel_rfl) (fun _ _ _ h => h) (Or.inl ⟨by rfl, fun w _ => ?_⟩) hHeld ?_
          · go_simp
          simp only [List.getElem_toArray, List.getElem_cons_succ, List.getElem_cons_zero, Act.put, List.setIfInBounds_toArray, List.set_cons_zero, List.set_cons_succ]
          refine wpAnyT_take (i := 19) (v := .slice ao13 0 c13) rfl (by decide) (by kernel_rfl) (by kernel_rfl) (by kernel_rfl) (fun _ _ _ h => h) (Or.inl ⟨by rfl, fun w _ => ?_⟩) hHeld ?_
          · go_simp
          simp only [List.getElem_toArray, List.getElem_cons_succ, List.getElem_cons_zero, Act.put, List.setIfInBounds_toArray, List.set_cons_zero, List.set_cons_succ]
          refine wpAnyT_take (i := 20) (v := .iface T13 y13) rfl (by decide) (by kernel_rfl) (by kernel_rfl) (by kernel_rfl) (fun _ _ _ h => h) (Or.inl ⟨by rfl, fun w _ => ?_⟩) hHeld ?_
          · go_simp
          simp only [List.getElem_toArray, List.getElem_cons_succ, List.getElem_cons_zero, Act.put, List.setIfInBounds_toArray, List.set_cons_zero, List.set_cons_succ]
          refine wpAnyT_take (i := 21) (v := .string ⟨#[]⟩) rfl (by decide) (by kernel_rfl) (by kernel_rfl) (by kernel_rfl) (fun _ _ _ h => h) (Or.inl ⟨by rfl, fun w _ => ?_⟩) hHeld ?_
          · go_simp
          simp only [List.getElem_toArray, List.getElem_cons_succ, List.getElem_cons_zero, Act.put, List.setIfInBounds_toArray, List.set_cons_zero, List.set_cons_succ]
          refine wpAnyT_take (i := 22) (v := .slice ao13 0 c13) rfl (by decide) (by kernel_rfl) (by kernel_rfl) (by kernel_rfl) (fun _ _ _ h => h) (Or.inl ⟨by rfl, fun w _ => ?_⟩) hHeld ?_
          · go_simp
          simp only [List.getElem_toArray, List.getElem_cons_succ, List.getElem_cons_zero, Act.put, List.setIfInBounds_toArray, List.set_cons_zero, List.set_cons_succ]
          refine wpAnyT_take (i := 23) (v := .iface T13 y13) rfl (by decide) (by kernel_rfl) (by kernel_rfl) (by kernel_rfl) (fun _ _ _ h => h) (Or.inl ⟨by rfl, fun w _ => ?_⟩) hHeld ?_
          · go_simp
          simp only [List.getElem_toArray, List.getElem_cons_succ, List.getElem_cons_zero, Act.put, List.setIfInBounds_toArray, List.set_cons_zero, List.set_cons_succ]
          refine wpAnyT_done (by kernel_rfl) ?_ _
          have HI12 := Lib.hid (by
            have h2 := is_any S wz (.iface T13 y13) 12 none 12 (HF.out _ HBZ.out).base HE13.out
            rwa [show isB 12 none 12 = true by decide] at h2 : Calls Tryz.prog 11 #[.iface T13 y13, .int .i64 12] wz fun e w' => e = .returned (.bool true) ∧ Below wz.heap.size wz w')
          go_wp2_with (first | (go_at_call 11; refine HI12.out.mono ?_; rintro e w14 ⟨rfl, hb14⟩; have HB14 := Lib.hid (HLA.out _ _ HBZ.out hb14)) | (go_at_call 7; refine (HAL.out _ HB14.out).mono ?_; rintro e w10 ⟨rfl, hb10⟩))
          go_ret
          exact ⟨rfl, HLA.out _ _ HB14.out hb10⟩
      · have HC2 := Lib.hid (show sgCode h 0 s nm = 2 by rw [HC.out, if_neg hyes])
        have HSG2 := Lib.hid (HSG.out.mono (fun e w' (hh : SgPost S w w8 kb sec h 0 s nm e w') => (by
          obtain ⟨ev, rfl, h1, h2, _, h4⟩ := hh
          rw [HC2.out] at h1 h2 ⊢
          obtain ⟨T9, y9, rfl, hq, _⟩ := ErrAt.some5 h1 (by decide)
          exact ⟨T9, y9, rfl, hq, h4⟩ : ∃ T9 y9, e = .returned (.tuple #[.string ⟨#[]⟩, .iface T9 y9]) ∧ (∀ W, (binOp .neq 34 (.iface T9 y9) .nilIface).run Tryz.prog W = .ok (.bool true) W) ∧ Below w.heap.size w w')))
        clear HSG hyes
        go_wp2_with (first | (go_at_call 10; refine HSG2.out.mono ?_; rintro e w9 ⟨T9, y9, rfl, hq9, hb9⟩; have HBX := Lib.hid hb9; clear hb9) | (go_at_call 7; refine (HAL.out _ HBX.out).mono ?_; rintro e w10 ⟨rfl, hb10⟩))
        go_ret
        exact ⟨rfl, HLA.out _ _ HBX.out hb10⟩
  | false =>
    go_upto_region 10 with fail
    have HPL := Lib.hid HPUB.out
    have HPC := HP4
    have HXC := HX4
    have HKC := HKF
    have HBC := HB4
    clear k68 HX4 HP4 HKF HB4
    generalize pub = P at *
    generalize w4 = wc at *
    have HK2L := Lib.hid (knode_len sec h 0)
    have HP2 := Lib.hid (fun (W : World) (hk : KeyF W kb sec h 1) => keyPublic_any kb sec h 1 W hk)
    have HKO2 := Lib.hid (fun (k2 : Kn) (hm : mayTxt s = true) (hna : nameOf nm = true) => knows_open sec s nm P h height k2 (by omega) hm hna)
    obtain ⟨K2, hK2⟩ : ∃ K, knode sec h 0 = K := ⟨_, rfl⟩
    rw [hK2] at HP2 HK2L
    clear hK2
    have x0 := cell_of HXC.out 0 (show (snC nm sec ht).toArray[0]? = some (.string ⟨nm.toArray⟩) from rfl)
    have x33 := cell_of HXC.out 33 (by rw [List.getElem?_toArray]; exact snC_ht HSEC.out)
    have HXS := Lib.hid (by have h := snC_sec (row_range HXC.out); exact h : wc.rangeAt xb 1 (Lib.byteCells sec))
    go_upto_region 13 with (first | (refine wpList_hashLoad (by rfl) (.tmp 44) (by rfl) xb 1 (by rfl) sec HSEC.out HXS.out ?_) | (go_at_call 8; refine (HK.out _ HBC.out).mono ?_; rintro e w7 ⟨kb2, lv2, rfl, hkb2, hk2, hb7⟩))
    have HBX := Lib.hid (HLA.out _ _ HBC.out hb7)
    have HK7 := Lib.hid (HKC.out.below hb7)
    have HKO := Lib.hid (show KeyF w7 kb2 sec h 0 from ⟨by omega, lv2, hk2⟩)
    have HKL2 := Lib.hid (show kb < kb2 from Nat.lt_of_lt_of_le HKC.out.lt hkb2)
    have HKB2 := Lib.hid (Nat.le_trans HBC.out.size hkb2)
    have HP7 := Lib.hid (HPC.out.below hb7)
    have HX7 := Lib.hid (below_heap hb7 HXC.out)
    clear hkb2 hk2 hb7 HKC HPC HXC HXS HBC x0 x33 HK
    obtain ⟨A, hA⟩ : ∃ A, splitN s = A := ⟨_, rfl⟩
    have HA := Lib.hid hA
    rw [hA] at HTX
    obtain ⟨⟨t, L⟩, c, p⟩ := A
    clear hA
    by_cases hc : c = 0
    · subst hc
      go_wp2_with (first | (go_at_call 16; refine (HTX.out _ HBX.out).mono ?_; rintro e w8 ⟨ev8, rfl, he8, hb8⟩; obtain rfl := ErrAt.zero2 he8 rfl; have HBX := Lib.hid (HLA.out _ _ HBX.out hb8); clear he8 hb8) | (go_at_call 7; refine (HAL.out _ HBX.out).mono ?_; rintro e w10 ⟨rfl, hb10⟩))
      go_ret
      exact ⟨rfl, HLA.out _ _ HBX.out hb10⟩
    · have hno : (splitN s).2.1 ≠ 0 := by rw [HA.out]; exact hc
      have HC := Lib.hid (sg_codeH h s nm hno)
      have HNOX := Lib.hid hno
      go_upto_region 16 with (go_at_call 16; refine (HTX.out _ HBX.out).mono ?_; rintro e w8 ⟨ev8, rfl, he8, hb8⟩; obtain ⟨T8, y8, rfl, _, hne8⟩ := ErrAt.some5 he8 hc; have HBX := Lib.hid (HLA.out _ _ HBX.out hb8); have HB8 := Lib.hid hb8; clear he8 hb8)
      have HK8 := Lib.hid (HK7.out.below HB8.out)
      have HKO8 := Lib.hid (HKO.out.below HB8.out)
      have HP8 := Lib.hid (HP7.out.below HB8.out)
      have HX8 := Lib.hid (below_heap HB8.out HX7.out)
      clear hne8 HK7 HKO HP7 HX7 HB8 hno hc
      have x0 := cell_of HX8.out 0 (show (snC nm sec ht).toArray[0]? = some (.string ⟨nm.toArray⟩) from rfl)
      have HSG := Lib.hid (nsign_any S kb sec h 0 (Nat.zero_le _) s nm (by have := HS.out; omega) (by have := HM.out; omega) w w8 HFW.out HBX.out HKB.out HK8.out)
      by_cases hyes : nameOf nm = true ∧ mayTxt s = true
      · have HC0 := Lib.hid (show sgCode h 0 s nm = 0 by rw [HC.out, if_pos hyes])
        have HOUT := Lib.hid (sg_code1 sec (Nat.two_pow_pos h) hyes.2 HNOX.out hyes.1).2
        have hlen := noteL_len s [sgLine sec h 0 s nm] 4000 (fun x hx => by rw [List.mem_singleton.1 hx]; exact sg_len sec (by omega) s hyes.1)
        rw [List.length_singleton] at hlen
        have hKO2 := fun k2 => HKO2.out k2 hyes.2 hyes.1
        obtain ⟨N, hN⟩ : ∃ N, noteL s [sgLine sec h 0 s nm] = N := ⟨_, rfl⟩
        rw [hN] at HOUT hlen hKO2
        have HLEN := Lib.hid hlen
        have HOPN := Lib.hid hKO2
        have HMT := Lib.hid (may_len s hyes.2)
        have HSG0 := Lib.hid (HSG.out.mono (fun e w' (hh : SgPost S w w8 kb sec h 0 s nm e w') => (by
          obtain ⟨ev, rfl, h1, h2, h3, h4⟩ := hh
          rw [HC0.out] at h1 h2 ⊢
          rw [HOUT.out]
          obtain rfl := ErrAt.zero2 h1 rfl
          exact ⟨rfl, h2, h3, h4⟩ : e = .returned (.tuple #[.string ⟨N.toArray⟩, .nilIface]) ∧ KeyF w' kb sec h 1 ∧ But [kb] w8 w' ∧ Below w.heap.size w w')))
        clear HSG hN hKO2 hlen HC HOUT
        go_upto_region 19 with (go_at_call 10; refine HSG0.out.mono ?_; rintro e w9 ⟨rfl, hk9, hbut9, hb9⟩; have HBX := Lib.hid hb9; have HK9 := Lib.hid hk9; have HBT9 := Lib.hid hbut9; clear hk9 hbut9 hb9)
        have HKO9 := Lib.hid (HKO8.out.but HBT9.out HKL2.out)
        have HP9 := Lib.hid (⟨HBT9.out.heap HP8.out.1 (by rw [List.mem_singleton]; have := HKP.out; omega), HP8.out.2⟩ : HashAt w9 pb P)
        have HX9 := Lib.hid (HBT9.out.heap HX8.out (by rw [List.mem_singleton]; have := HKP.out; have := HXB.out; omega))
        clear HSG0 HKO8 HP8 HX8 HK8 HBT9 x0
        have HKS := Lib.hid (keySign_any S kb2 sec h 0 (Nat.two_pow_pos h) s (by have := HS.out; omega) w w9 HFW.out HBX.out HKB2.out HKO9.out)
        go_upto_region 22 with (go_at_call 21; refine HKS.out.mono ?_; rintro e w11 ⟨u, v, rfl, hu, hv2, _, hbut11, hb11⟩; have HU := Lib.hid hu; have HV := Lib.hid hv2; obtain ⟨_, a1, m1, rfl, _, _⟩ := hu; obtain ⟨_, a2, m2, rfl, _, _⟩ := hv2)
        have hbA := below_one w11 (.cells #[.int .i64 0, .slice a1 (signF (ownF sec 0) (msgF 0 s)).length m1, .slice a2 (kpath sec h 0).length m2] 73 (0, 0))
        have hcA := heap_one w11 (.cells #[.int .i64 0, .slice a1 (signF (ownF sec 0) (msgF 0 s)).length m1, .slice a2 (kpath sec h 0).length m2] 73 (0, 0))
        have HBX := Lib.hid (HLA.out _ _ hb11 hbA)
        have HUA := Lib.hid (HU.out.below hbA)
        have HVA := Lib.hid (HV.out.below hbA)
        have HKA := Lib.hid ((show KeyF w11 kb sec h 1 from HK9.out.butUp hbut11 HKL2.out HKO9.out).below hbA)
        have HPA := Lib.hid (HashAt.below (show HashAt w11 pb P from ⟨hbut11.heap HP9.out.1 (by rw [List.mem_singleton]; have := HKP.out; have := HKL2.out; omega), HP9.out.2⟩) hbA)
        have HXA := Lib.hid (below_heap hbA (hbut11.heap HX9.out (by rw [List.mem_singleton]; have := HKP.out; have := HXB.out; have := HKL2.out; omega)))
        clear hbA hbut11 hb11 HU HV HK9 HP9 HX9 HKO9 HKS
        generalize w11.alloc (.cells #[.int .i64 0, .slice a1 (signF (ownF sec 0) (msgF 0 s)).length m1, .slice a2 (kpath sec h 0).length m2] 73) = wA at *
        generalize w11.heap.size = sb at *
        have s0 := cell_of hcA 0 rfl
        have s1 := cell_of hcA 1 rfl
        have s2 := cell_of hcA 2 rfl
        have HKV := Lib.hid (keyVer_any S P s height ((0 : Nat) : Int) HPL.out (by have := HS.out; omega) HHE.out ⟨by decide, by decide⟩ (signF (ownF sec 0) (msgF 0 s)) (kpath sec h 0) _ _ wA (HF.out _ HBX.out) HUA.out HVA.out)
        have hthree := verF_three P height s ((0 : Nat) : Int) (signF (ownF sec 0) (msgF 0 s)) (kpath sec h 0)
        simp only [Int.natCast_zero] at HKV hthree
        obtain ⟨D, hD⟩ : ∃ D, verF P height s 0 (signF (ownF sec 0) (msgF 0 s)) (kpath sec h 0) = D := ⟨_, rfl⟩
        rw [hD] at HKV hthree HOPN
        clear hD hcA HUA HVA
        have hv0 := fun W => run_err_eq (S 2) W
        have hv1 := fun W => run_err_eq (S 12) W
        rcases hthree with rfl | rfl | rfl
        · rw [show errN S 0 = .nilIface from rfl] at HKV
          have HOPX := Lib.hid (fun (W : World) (kv : Value) (hW : Below w.heap.size w W) (hkn : KnIn W kv [(nm, P, height), (nm, K2, (h : Int))]) => (by
            refine (open_any S N kv [(nm, P, height), (nm, K2, (h : Int))] (by have := HLEN.out; have := HS.out; omega) (fun k hk => ?_) (by simp) W (HF.out _ hW) hkn).mono ?_
            · simp only [List.mem_cons, List.not_mem_nil, or_false] at hk
              rcases hk with rfl | rfl
              · exact ⟨show nm.length ≤ 1048576 from Nat.le_trans (name_len hyes.1).1 (by decide), HPL.out, HHE.out⟩
              · exact ⟨show nm.length ≤ 1048576 from Nat.le_trans (name_len hyes.1).1 (by decide), HK2L.out, show idxOk (h : Int) from ⟨by omega, by omega⟩⟩
            rw [show openN N [(nm, P, height), (nm, K2, (h : Int))] = ((s, [nm]), 0, none) from (HOPN.out (nm, K2, (h : Int))).trans (if_pos rfl)]
            rintro e w2 ⟨v, ev, rfl, h1, h2, h3⟩
            obtain rfl := ErrAt.zero2 h2 rfl
            exact ⟨v, rfl, h1 _ (fun _ _ _ => rfl), h3⟩ : Calls Tryz.prog 19 #[.string ⟨N.toArray⟩, kv] W fun e w2 => ∃ v, e = .returned (.tuple #[.string ⟨s.toArray⟩, v, .nilIface]) ∧ TextsIn w2 v [nm] ∧ Below W.heap.size W w2))
          go_upto_region 23 with (first | (refine wpList_hashLoad (by rfl) (.tmp 5) (by rfl) pb 0 (by rfl) P HPL.out HPA.out.range ?_) | (go_at_call 22; refine HKV.out.mono ?_; rintro e w12 ⟨rfl, hb12⟩))
          have hb12 := hb12.trans ((Below.refl w12.heap.size w12).drew.mono hb12.size)
          have HB12 := Lib.hid (HLA.out _ _ HBX.out hb12)
          have HK12 := Lib.hid (HKA.out.below hb12)
          have HP12 := Lib.hid (HPA.out.below hb12)
          have HX12 := Lib.hid (below_heap hb12 HXA.out)
          have HOPX := Lib.hid (fun (W : World) (kv : Value) (hW : Below w12.drew.heap.size w12.drew W) => HOPX.out W kv (HLA.out _ _ HB12.out hW))
          clear hb12 s0 s1 s2
          have t3 : (ht : Int).tmod 3 = (h : Int) := by rw [Int.tmod_eq_emod_of_nonneg t0]; exact t2
          have t4 : IntKind.i64.wrap (h : Int) = (h : Int) := by rw [IntKind.wrap_i64]; omega
          refine wp_region_till 100 (BelB w12.drew) (by kernel_rfl) (Below.refl _ _) (fun hHeld => ?_)
          refine wpAnyT_take (i := 0) (v := .string ⟨N.toArray⟩) rfl (by decide) (by kernel_rfl) (by kernel_rfl) (by kernel_rfl) (fun _ _ _ h => h) (Or.inl ⟨by rfl, fun w _ => ?_⟩) hHeld ?_
          · go_simp
          simp only [List.getElem_toArray, List.getElem_cons_zero, Act.put, List.setIfInBounds_toArray, List.set_cons_zero, List.set_cons_succ]
          refine wpAnyT_take (i := 1) (v := .pointer (some ⟨xb, 0, none⟩)) rfl (by decide) (by kernel_rfl) (by kernel_rfl) (by kernel_rfl) (fun _ _ _ h => h) (Or.inl ⟨by rfl, fun w _ => ?_⟩) hHeld ?_
          · go_simp
          simp only [List.getElem_toArray, List.getElem_cons_succ, List.getElem_cons_zero, Act.put, List.setIfInBounds_toArray, List.set_cons_zero, List.set_cons_succ]
          refine wpAnyT_take (i := 2) (v := .string ⟨nm.toArray⟩) rfl (by decide) (by kernel_rfl) (by kernel_rfl) (by kernel_rfl) (fun _ _ _ h => h) (Or.inl ⟨by rfl, fun w hSw => ?_⟩) hHeld ?_
          · obtain ⟨b, hb⟩ := hSw; have c : w.cell? ⟨xb, 0, none⟩ = some (.string ⟨nm.toArray⟩) := cell_of (below_heap (BelB.out hb) HX12.out) 0 rfl
            go_simp
          simp only [List.getElem_toArray, List.getElem_cons_succ, List.getElem_cons_zero, Act.put, List.setIfInBounds_toArray, List.set_cons_zero, List.set_cons_succ]
          refine wpAnyT_take (i := 3) (v := hv P) rfl (by decide) (by kernel_rfl) (by kernel_rfl) (by kernel_rfl) (fun _ _ _ h => h) (yieldsIf_load_mid (by rfl) 23 (.tmp 5) (by rfl) pb 0 (by rfl) (Lib.byteCells P) _ (fun w ⟨_, h⟩ => (HP12.out.below (BelB.out h)).range) Tryz.underlying23 rfl (by rw [Lib.byteCells_length, HPL.out]; exact hashInfo)) hHeld ?_
          simp only [List.getElem_toArray, List.getElem_cons_succ, List.getElem_cons_zero, Act.put, List.setIfInBounds_toArray, List.set_cons_zero, List.set_cons_succ]
          refine wpAnyT_take (i := 4) (v := .int .i64 height) rfl (by decide) (by kernel_rfl) (by kernel_rfl) (by kernel_rfl) (fun _ _ _ h => h) (Or.inl ⟨by rfl, fun w _ => ?_⟩) hHeld ?_
          · go_simp
          simp only [List.getElem_toArray, List.getElem_cons_succ, List.getElem_cons_zero, Act.put, List.setIfInBounds_toArray, List.set_cons_zero, List.set_cons_succ]
          refine wpAnyT_take (i := 5) (v := .agg (knC (nm, P, height)).toArray) rfl (by decide) (by kernel_rfl) (by kernel_rfl) (by kernel_rfl) (fun _ _ _ h => h) (yieldsIf_buildKn3 (by rfl) (.tmp 95) (.tmp 96) (.tmp 97) (by rfl) nm P height (by rfl) (by rfl) (by rfl) HPL.out) hHeld ?_
          simp only [List.getElem_toArray, List.getElem_cons_succ, List.getElem_cons_zero, Act.put, List.setIfInBounds_toArray, List.set_cons_zero, List.set_cons_succ]
          refine wpAnyT_take (i := 6) (v := .pointer (some ⟨xb, 0, none⟩)) rfl (by decide) (by kernel_rfl) (by kernel_rfl) (by kernel_rfl) (fun _ _ _ h => h) (Or.inl ⟨by rfl, fun w _ => ?_⟩) hHeld ?_
          · go_simp
          simp only [List.getElem_toArray, List.getElem_cons_succ, List.getElem_cons_zero, Act.put, List.setIfInBounds_toArray, List.set_cons_zero, List.set_cons_succ]
          refine wpAnyT_take (i := 7) (v := .string ⟨nm.toArray⟩) rfl (by decide) (by kernel_rfl) (by kernel_rfl) (by kernel_rfl) (fun _ _ _ h => h) (Or.inl ⟨by rfl, fun w hSw => ?_⟩) hHeld ?_
          · obtain ⟨b, hb⟩ := hSw; have c : w.cell? ⟨xb, 0, none⟩ = some (.string ⟨nm.toArray⟩) := cell_of (below_heap (BelB.out hb) HX12.out) 0 rfl
            go_simp
          simp only [List.getElem_toArray, List.getElem_cons_succ, List.getElem_cons_zero, Act.put, List.setIfInBounds_toArray, List.set_cons_zero, List.set_cons_succ]
          refine wpAnyT_take (i := 8) (v := .pointer (some ⟨kb, 0, none⟩)) rfl (by decide) (by kernel_rfl) (by kernel_rfl) (by kernel_rfl) (fun _ _ _ h => h) (Or.inl ⟨by rfl, fun w _ => ?_⟩) hHeld ?_
          · go_simp
          simp only [List.getElem_toArray, List.getElem_cons_succ, List.getElem_cons_zero, Act.put, List.setIfInBounds_toArray, List.set_cons_zero, List.set_cons_succ]
          refine wpAnyT_take (i := 10) (v := .pointer (some ⟨xb, 33, none⟩)) rfl (by decide) (by kernel_rfl) (by kernel_rfl) (by kernel_rfl) (fun _ _ _ h => h) (Or.inl ⟨by rfl, fun w _ => ?_⟩) hHeld ?_
          · go_simp
          simp only [List.getElem_toArray, List.getElem_cons_succ, List.getElem_cons_zero, Act.put, List.setIfInBounds_toArray, List.set_cons_zero, List.set_cons_succ]
          refine wpAnyT_take (i := 11) (v := .int .u8 (ht : Int)) rfl (by decide) (by kernel_rfl) (by kernel_rfl) (by kernel_rfl) (fun _ _ _ h => h) (Or.inl ⟨by rfl, fun w hSw => ?_⟩) hHeld ?_
          · obtain ⟨b, hb⟩ := hSw; have c : w.cell? ⟨xb, 33, none⟩ = some (.int .u8 (ht : Int)) := cell_of (below_heap (BelB.out hb) HX12.out) 33 (by rw [List.getElem?_toArray]; exact snC_ht HSEC.out)
            go_simp
          simp only [List.getElem_toArray, List.getElem_cons_succ, List.getElem_cons_zero, Act.put, List.setIfInBounds_toArray, List.set_cons_zero, List.set_cons_succ]
          refine wpAnyT_take (i := 12) (v := .int .u8 (h : Int)) rfl (by decide) (by kernel_rfl) (by kernel_rfl) (by kernel_rfl) (fun _ _ _ h => h) (Or.inl ⟨by rfl, fun w _ => ?_⟩) hHeld ?_
          · go_simp
          simp only [List.getElem_toArray, List.getElem_cons_succ, List.getElem_cons_zero, Act.put, List.setIfInBounds_toArray, List.set_cons_zero, List.set_cons_succ]
          refine wpAnyT_take (i := 13) (v := .int .i64 (h : Int)) rfl (by decide) (by kernel_rfl) (by kernel_rfl) (by kernel_rfl) (fun _ _ _ h => h) (Or.inl ⟨by rfl, fun w _ => ?_⟩) hHeld ?_
          · go_simp
          simp only [List.getElem_toArray, List.getElem_cons_succ, List.getElem_cons_zero, Act.put, List.setIfInBounds_toArray, List.set_cons_zero, List.set_cons_succ]
          refine wpAnyT_ready (rs := [9]) (by kernel_rfl) (by simp) ?_
          refine AllReadyT.cons false rfl (by kernel_rfl) (fun K hK => ?_) AllReadyT.nil
          go_simp
          refine (HP2.out _ (HK12.out.below (BelB.out hHeld))).mono ?_
          rintro e wy ⟨rfl, hy⟩
          go_wp2_with fail
          have hy := (BelB.out hHeld).trans (hy.mono (BelB.out hHeld).size)
          refine hK.out _ _ hy (fun hHeld => ?_)
          clear hy
          clear hK K
          refine wpAnyT_take (i := 14) (v := .agg (knC (nm, K2, (h : Int))).toArray) rfl (by decide) (by kernel_rfl) (by kernel_rfl) (by kernel_rfl) (fun _ _ _ h => h) (yieldsIf_buildKn3 (by rfl) (.tmp 100) (.tmp 102) (.tmp 106) (by rfl) nm K2 (h : Int) (by rfl) (by rfl) (by rfl) HK2L.out) hHeld ?_
          simp only [List.getElem_toArray, List.getElem_cons_succ, List.getElem_cons_zero, Act.put, List.setIfInBounds_toArray, List.set_cons_zero, List.set_cons_succ]
          refine wpAnyT_ready (rs := [15]) (by kernel_rfl) (by simp) ?_
          refine AllReadyT.cons false rfl (by kernel_rfl) (fun K hK => ?_) AllReadyT.nil
          refine step_sliceKn2 (by rfl) (.tmp 98) (.tmp 107) (by rfl) (nm, P, height) (nm, K2, (h : Int)) (by rfl) (by rfl) HPL.out HK2L.out ?_
          have hy := (BelB.out hHeld).alloc (BelB.out hHeld).size (.cells (knC (nm, P, height) ++ knC (nm, K2, (h : Int))).toArray 64)
          refine hK.out _ _ hy (fun hHeld => ?_)
          clear hy
          clear hK K
          refine wpAnyT_ready (rs := [16]) (by kernel_rfl) (by simp) ?_
          refine AllReadyT.cons false rfl (by kernel_rfl) (fun K hK => ?_) AllReadyT.nil
          go_simp
          refine (HOPX.out _ _ (BelB.out hHeld) (knIn_two _ (nm, P, height) (nm, K2, (h : Int)) HPL.out)).mono ?_
          rintro e wz ⟨v13, hy⟩
          obtain ⟨rfl, ht13, hy⟩ := hy
          have HT13 := Lib.hid ht13
          go_wp2_with fail
          have hy := (BelB.out hHeld).trans (hy.mono (BelB.out hHeld).size)
          have HBZ := Lib.hid (HLA.out _ _ HB12.out hy)
          refine hK.out _ _ hy (fun hHeld => ?_)
          clear hy ht13
          clear hK K
          refine wpAnyT_take (i := 17) (v := .tuple #[.string ⟨s.toArray⟩, v13, .nilIface]) rfl (by decide) (by kernel_rfl) (by kernel_rfl) (by kernel_rfl) (fun _ _ _ h => h) (Or.inl ⟨by rfl, fun w _ => ?_⟩) hHeld ?_
          · go_simp
          simp only [List.getElem_toArray, List.getElem_cons_succ, List.getElem_cons_zero, Act.put, List.setIfInBounds_toArray, List.set_cons_zero, List.set_cons_succ]
          refine wpAnyT_take (i := 18) (v := .string ⟨s.toArray⟩) rfl (by decide) (by kernel_rfl) (by kernel_rfl) (by kernel_rfl) (fun _ _ _ h => h) (Or.inl ⟨by rfl, fun w _ => ?_⟩) hHeld ?_
          · go_simp
          simp only [List.getElem_toArray, List.getElem_cons_succ, List.getElem_cons_zero, Act.put, List.setIfInBounds_toArray, List.set_cons_zero, List.set_cons_succ]
          refine wpAnyT_take (i := 19) (v := v13) rfl (by decide) (by kernel_rfl) (by kernel_rfl) (by kernel_rfl) (fun _ _ _ h => h) (Or.inl ⟨by rfl, fun w _ => ?_⟩) hHeld ?_
          · go_simp
          simp only [List.getElem_toArray, List.getElem_cons_succ, List.getElem_cons_zero, Act.put, List.setIfInBounds_toArray, List.set_cons_zero, List.set_cons_succ]
          refine wpAnyT_take (i := 20) (v := .nilIface) rfl (by decide) (by kernel_rfl) (by kernel_rfl) (by kernel_rfl) (fun _ _ _ h => h) (Or.inl ⟨by rfl, fun w _ => ?_⟩) hHeld ?_
          · go_simp
          simp only [List.getElem_toArray, List.getElem_cons_succ, List.getElem_cons_zero, Act.put, List.setIfInBounds_toArray, List.set_cons_zero, List.set_cons_succ]
          refine wpAnyT_take (i := 21) (v := .string ⟨s.toArray⟩) rfl (by decide) (by kernel_rfl) (by kernel_rfl) (by kernel_rfl) (fun _ _ _ h => h) (Or.inl ⟨by rfl, fun w _ => ?_⟩) hHeld ?_
          · go_simp
          simp only [List.getElem_toArray, List.getElem_cons_succ, List.getElem_cons_zero, Act.put, List.setIfInBounds_toArray, List.set_cons_zero, List.set_cons_succ]
          refine wpAnyT_take (i := 22) (v := v13) rfl (by decide) (by kernel_rfl) (by kernel_rfl) (by kernel_rfl) (fun _ _ _ h => h) (Or.inl ⟨by rfl, fun w _ => ?_⟩) hHeld ?_
          · go_simp
          simp only [List.getElem_toArray, List.getElem_cons_succ, List.getElem_cons_zero, Act.put, List.setIfInBounds_toArray, List.set_cons_zero, List.set_cons_succ]
          refine wpAnyT_take (i := 23) (v := .nilIface) rfl (by decide) (by kernel_rfl) (by kernel_rfl) (by kernel_rfl) (fun _ _ _ h => h) (Or.inl ⟨by rfl, fun w _ => ?_⟩) hHeld ?_
          · go_simp
          simp only [List.getElem_toArray, List.getElem_cons_succ, List.getElem_cons_zero, Act.put, List.setIfInBounds_toArray, List.set_cons_zero, List.set_cons_succ]
          refine wpAnyT_done (by kernel_rfl) ?_ _
          have HXZ := Lib.hid (below_heap (BelB.out hHeld) HX12.out)
          have x0 := cell_of HXZ.out 0 (show (snC nm sec ht).toArray[0]? = some (.string ⟨nm.toArray⟩) from rfl)
          have HST := Lib.hid (fun (W : World) (u : Value) (h1 : TextsIn W v13 [nm]) (h2 : TextsIn W u [nm]) => (by
            have h := sameTexts_any W v13 u [nm] [nm] h1 h2 (by simp) (by simp)
            rw [show decide (([nm] : List (List UInt8)) = [nm]) = true by simp] at h
            refine h.mono ?_
            rintro e w' ⟨rfl, n, rfl⟩
            exact ⟨rfl, below_drewN (Below.refl _ _) n⟩ : Calls Tryz.prog 20 #[v13, u] W fun e w' => e = .returned (.bool true) ∧ Below W.heap.size W w'))
          have HBA := Lib.hid (HLA.out _ _ HBZ.out (below_one wz (.cells #[.string ⟨nm.toArray⟩] 9 (0, 0))))
          have HTA := Lib.hid (HT13.out.below (below_one wz (.cells #[.string ⟨nm.toArray⟩] 9 (0, 0))))
          go_wp2_with (first | (go_at_call 20; refine (HST.out _ _ HTA.out (textsOne _ _)).mono ?_; rintro e w14 ⟨rfl, hb14⟩; have HB14 := Lib.hid (HLA.out _ _ HBA.out hb14)) | (go_at_call 7; refine (HAL.out _ HB14.out).mono ?_; rintro e w10 ⟨rfl, hb10⟩))
          go_ret
          exact ⟨rfl, HLA.out _ _ HB14.out hb10⟩
        · rw [show errN S 2 = .iface 251 (.pointer (some (S 2))) from rfl] at HKV
          have HOPX := Lib.hid (fun (W : World) (kv : Value) (hW : Below w.heap.size w W) (hkn : KnIn W kv [(nm, P, height), (nm, K2, (h : Int))]) => (by
            refine (open_any S N kv [(nm, P, height), (nm, K2, (h : Int))] (by have := HLEN.out; have := HS.out; omega) (fun k hk => ?_) (by simp) W (HF.out _ hW) hkn).mono ?_
            · simp only [List.mem_cons, List.not_mem_nil, or_false] at hk
              rcases hk with rfl | rfl
              · exact ⟨show nm.length ≤ 1048576 from Nat.le_trans (name_len hyes.1).1 (by decide), HPL.out, HHE.out⟩
              · exact ⟨show nm.length ≤ 1048576 from Nat.le_trans (name_len hyes.1).1 (by decide), HK2L.out, show idxOk (h : Int) from ⟨by omega, by omega⟩⟩
            rw [show openN N [(nm, P, height), (nm, K2, (h : Int))] = (([], []), 12, none) from (HOPN.out (nm, K2, (h : Int))).trans (if_neg (by decide))]
            rintro e w2 ⟨v, ev, rfl, h1, h2, h3⟩
            obtain ⟨T9, y9, rfl, hq, _⟩ := ErrAt.some5 h2 (by decide)
            obtain ⟨ao, cp, rfl, _⟩ := h1 w2 (fun _ _ _ => rfl)
            exact ⟨ao, cp, T9, y9, rfl, hq, h2, h3⟩ : Calls Tryz.prog 19 #[.string ⟨N.toArray⟩, kv] W fun e w2 => ∃ ao cp T9 y9, e = .returned (.tuple #[.string ⟨#[]⟩, .slice ao 0 cp, .iface T9 y9]) ∧ (∀ X, (binOp .neq 34 (.iface T9 y9) .nilIface).run Tryz.prog X = .ok (.bool true) X) ∧ ErrAt S w2 (.iface T9 y9) 12 none ∧ Below W.heap.size W w2))
          go_upto_region 23 with (first | (refine wpList_hashLoad (by rfl) (.tmp 5) (by rfl) pb 0 (by rfl) P HPL.out HPA.out.range ?_) | (go_at_call 22; refine HKV.out.mono ?_; rintro e w12 ⟨rfl, hb12⟩))
          have hb12 := hb12.trans ((Below.refl w12.heap.size w12).drew.mono hb12.size)
          have HB12 := Lib.hid (HLA.out _ _ HBX.out hb12)
          have HK12 := Lib.hid (HKA.out.below hb12)
          have HP12 := Lib.hid (HPA.out.below hb12)
          have HX12 := Lib.hid (below_heap hb12 HXA.out)
          have HOPX := Lib.hid (fun (W : World) (kv : Value) (hW : Below w12.drew.heap.size w12.drew W) => HOPX.out W kv (HLA.out _ _ HB12.out hW))
          clear hb12 s0 s1 s2
          have t3 : (ht : Int).tmod 3 = (h : Int) := by rw [Int.tmod_eq_emod_of_nonneg t0]; exact t2
          have t4 : IntKind.i64.wrap (h : Int) = (h : Int) := by rw [IntKind.wrap_i64]; omega
          refine wp_region_till 100 (BelB w12.drew) (by kernel_rfl) (Below.refl _ _) (fun hHeld => ?_)
          refine wpAnyT_take (i := 0) (v := .string ⟨N.toArray⟩) rfl (by decide) (by kernel_rfl) (by kernel_rfl) (by kernel_rfl) (fun _ _ _ h => h) (Or.inl ⟨by rfl, fun w _ => ?_⟩) hHeld ?_
          · go_simp
          simp only [List.getElem_toArray, List.getElem_cons_zero, Act.put, List.setIfInBounds_toArray, List.set_cons_zero, List.set_cons_succ]
          refine wpAnyT_take (i := 1) (v := .pointer (some ⟨xb, 0, none⟩)) rfl (by decide) (by kernel_rfl) (by kernel_rfl) (by kernel_rfl) (fun _ _ _ h => h) (Or.inl ⟨by rfl, fun w _ => ?_⟩) hHeld ?_
          · go_simp
          simp only [List.getElem_toArray, List.getElem_cons_succ, List.getElem_cons_zero, Act.put, List.setIfInBounds_toArray, List.set_cons_zero, List.set_cons_succ]
          refine wpAnyT_take (i := 2) (v := .string ⟨nm.toArray⟩) rfl (by decide) (by kernel_rfl) (by kernel_rfl) (by kernel_rfl) (fun _ _ _ h => h) (Or.inl ⟨by rfl, fun w hSw => ?_⟩) hHeld ?_
          · obtain ⟨b, hb⟩ := hSw; have c : w.cell? ⟨xb, 0, none⟩ = some (.string ⟨nm.toArray⟩) := cell_of (below_heap (BelB.out hb) HX12.out) 0 rfl
            go_simp
          simp only [List.getElem_toArray, List.getElem_cons_succ, List.getElem_cons_zero, Act.put, List.setIfInBounds_toArray, List.set_cons_zero, List.set_cons_succ]
          refine wpAnyT_take (i := 3) (v := hv P) rfl (by decide) (by kernel_rfl) (by kernel_rfl) (by kernel_rfl) (fun _ _ _ h => h) (yieldsIf_load_mid (by rfl) 23 (.tmp 5) (by rfl) pb 0 (by rfl) (Lib.byteCells P) _ (fun w ⟨_, h⟩ => (HP12.out.below (BelB.out h)).range) Tryz.underlying23 rfl (by rw [Lib.byteCells_length, HPL.out]; exact hashInfo)) hHeld ?_
          simp only [List.getElem_toArray, List.getElem_cons_succ, List.getElem_cons_zero, Act.put, List.setIfInBounds_toArray, List.set_cons_zero, List.set_cons_succ]
          refine wpAnyT_take (i := 4) (v := .int .i64 height) rfl (by decide) (by kernel_rfl) (by kernel_rfl) (by kernel_rfl) (fun _ _ _ h => h) (Or.inl ⟨by rfl, fun w _ => ?_⟩) hHeld ?_
          · go_simp
          simp only [List.getElem_toArray, List.getElem_cons_succ, List.getElem_cons_zero, Act.put, List.setIfInBounds_toArray, List.set_cons_zero, List.set_cons_succ]
          refine wpAnyT_take (i := 5) (v := .agg (knC (nm, P, height)).toArray) rfl (by decide) (by kernel_rfl) (by kernel_rfl) (by kernel_rfl) (fun _ _ _ h => h) (yieldsIf_buildKn3 (by rfl) (.tmp 95) (.tmp 96) (.tmp 97) (by rfl) nm P height (by rfl) (by rfl) (by rfl) HPL.out) hHeld ?_
          simp only [List.getElem_toArray, List.getElem_cons_succ, List.getElem_cons_zero, Act.put, List.setIfInBounds_toArray, List.set_cons_zero, List.set_cons_succ]
          refine wpAnyT_take (i := 6) (v := .pointer (some ⟨xb, 0, none⟩)) rfl (by decide) (by kernel_rfl) (by kernel_rfl) (by kernel_rfl) (fun _ _ _ h => h) (Or.inl ⟨by rfl, fun w _ => ?_⟩) hHeld ?_
          · go_simp
          simp only [List.getElem_toArray, List.getElem_cons_succ, List.getElem_cons_zero, Act.put, List.setIfInBounds_toArray, List.set_cons_zero, List.set_cons_succ]
          refine wpAnyT_take (i := 7) (v := .string ⟨nm.toArray⟩) rfl (by decide) (by kernel_rfl) (by kernel_rfl) (by kernel_rfl) (fun _ _ _ h => h) (Or.inl ⟨by rfl, fun w hSw => ?_⟩) hHeld ?_
          · obtain ⟨b, hb⟩ := hSw; have c : w.cell? ⟨xb, 0, none⟩ = some (.string ⟨nm.toArray⟩) := cell_of (below_heap (BelB.out hb) HX12.out) 0 rfl
            go_simp
          simp only [List.getElem_toArray, List.getElem_cons_succ, List.getElem_cons_zero, Act.put, List.setIfInBounds_toArray, List.set_cons_zero, List.set_cons_succ]
          refine wpAnyT_take (i := 8) (v := .pointer (some ⟨kb, 0, none⟩)) rfl (by decide) (by kernel_rfl) (by kernel_rfl) (by kernel_rfl) (fun _ _ _ h => h) (Or.inl ⟨by rfl, fun w _ => ?_⟩) hHeld ?_
          · go_simp
          simp only [List.getElem_toArray, List.getElem_cons_succ, List.getElem_cons_zero, Act.put, List.setIfInBounds_toArray, List.set_cons_zero, List.set_cons_succ]
          refine wpAnyT_take (i := 10) (v := .pointer (some ⟨xb, 33, none⟩)) rfl (by decide) (by kernel_rfl) (by kernel_rfl) (by kernel_rfl) (fun _ _ _ h => h) (Or.inl ⟨by rfl, fun w _ => ?_⟩) hHeld ?_
          · go_simp
          simp only [List.getElem_toArray, List.getElem_cons_succ, List.getElem_cons_zero, Act.put, List.setIfInBounds_toArray, List.set_cons_zero, List.set_cons_succ]
          refine wpAnyT_take (i := 11) (v := .int .u8 (ht : Int)) rfl (by decide) (by kernel_rfl) (by kernel_rfl) (by kernel_rfl) (fun _ _ _ h => h) (Or.inl ⟨by rfl, fun w hSw => ?_⟩) hHeld ?_
          · obtain ⟨b, hb⟩ := hSw; have c : w.cell? ⟨xb, 33, none⟩ = some (.int .u8 (ht : Int)) := cell_of (below_heap (BelB.out hb) HX12.out) 33 (by rw [List.getElem?_toArray]; exact snC_ht HSEC.out)
            go_simp
          simp only [List.getElem_toArray, List.getElem_cons_succ, List.getElem_cons_zero, Act.put, List.setIfInBounds_toArray, List.set_cons_zero, List.set_cons_succ]
          refine wpAnyT_take (i := 12) (v := .int .u8 (h : Int)) rfl (by decide) (by kernel_rfl) (by kernel_rfl) (by kernel_rfl) (fun _ _ _ h => h) (Or.inl ⟨by rfl, fun w _ => ?_⟩) hHeld ?_
          · go_simp
          simp only [List.getElem_toArray, List.getElem_cons_succ, List.getElem_cons_zero, Act.put, List.setIfInBounds_toArray, List.set_cons_zero, List.set_cons_succ]
          refine wpAnyT_take (i := 13) (v := .int .i64 (h : Int)) rfl (by decide) (by kernel_rfl) (by kernel_rfl) (by kernel_rfl) (fun _ _ _ h => h) (Or.inl ⟨by rfl, fun w _ => ?_⟩) hHeld ?_
          · go_simp
          simp only [List.getElem_toArray, List.getElem_cons_succ, List.getElem_cons_zero, Act.put, List.setIfInBounds_toArray, List.set_cons_zero, List.set_cons_succ]
          refine wpAnyT_ready (rs := [9]) (by kernel_rfl) (by simp) ?_
          refine AllReadyT.cons false rfl (by kernel_rfl) (fun K hK => ?_) AllReadyT.nil
          go_simp
          refine (HP2.out _ (HK12.out.below (BelB.out hHeld))).mono ?_
          rintro e wy ⟨rfl, hy⟩
          go_wp2_with fail
          have hy := (BelB.out hHeld).trans (hy.mono (BelB.out hHeld).size)
          refine hK.out _ _ hy (fun hHeld => ?_)
          clear hy
          clear hK K
          refine wpAnyT_take (i := 14) (v := .agg (knC (nm, K2, (h : Int))).toArray) rfl (by decide) (by kernel_rfl) (by kernel_rfl) (by kernel_rfl) (fun _ _ _ h => h) (yieldsIf_buildKn3 (by rfl) (.tmp 100) (.tmp 102) (.tmp 106) (by rfl) nm K2 (h : Int) (by rfl) (by rfl) (by rfl) HK2L.out) hHeld ?_
          simp only [List.getElem_toArray, List.getElem_cons_succ, List.getElem_cons_zero, Act.put, List.setIfInBounds_toArray, List.set_cons_zero, List.set_cons_succ]
          refine wpAnyT_ready (rs := [15]) (by kernel_rfl) (by simp) ?_
          refine AllReadyT.cons false rfl (by kernel_rfl) (fun K hK => ?_) AllReadyT.nil
          refine step_sliceKn2 (by rfl) (.tmp 98) (.tmp 107) (by rfl) (nm, P, height) (nm, K2, (h : Int)) (by rfl) (by rfl) HPL.out HK2L.out ?_
          have hy := (BelB.out hHeld).alloc (BelB.out hHeld).size (.cells (knC (nm, P, height) ++ knC (nm, K2, (h : Int))).toArray 64)
          refine hK.out _ _ hy (fun hHeld => ?_)
          clear hy
          clear hK K
          refine wpAnyT_ready (rs := [16]) (by kernel_rfl) (by simp) ?_
          refine AllReadyT.cons false rfl (by kernel_rfl) (fun K hK => ?_) AllReadyT.nil
          go_simp
          refine (HOPX.out _ _ (BelB.out hHeld) (knIn_two _ (nm, P, height) (nm, K2, (h : Int)) HPL.out)).mono ?_
          rintro e wz ⟨ao13, c13, T13, y13, hy⟩
          obtain ⟨rfl, hq13, he13, hy⟩ := hy
          have HE13 := Lib.hid he13
          go_wp2_with fail
          have hy := (BelB.out hHeld).trans (hy.mono (BelB.out hHeld).size)
          have HBZ := Lib.hid (HLA.out _ _ HB12.out hy)
          refine hK.out _ _ hy (fun hHeld => ?_)
          clear hy he13
          clear hK K
          refine wpAnyT_take (i := 17) (v := .tuple #[.string ⟨#[]⟩, .slice ao13 0 c13, .iface T13 y13]) rfl (by decide) (by kernel_rfl) (by kernel_rfl) (by kernel_rfl) (fun _ _ _ h => h) (Or.inl ⟨by rfl, fun w _ => ?_⟩) hHeld ?_
          · go_simp
          simp only [List.getElem_toArray, List.getElem_cons_succ, List.getElem_cons_zero, Act.put, List.setIfInBounds_toArray, List.set_cons_zero, List.set_cons_succ]
          refine wpAnyT_take (i := 18) (v := .string ⟨#[]⟩) rfl (by decide) (by kernel_rfl) (by kernel_rfl) (by kernel_rfl) (fun _ _ _ h => h) (Or.inl ⟨by rfl, fun w _ => ?_⟩) hHeld ?_
          · go_simp
          simp only [List.getElem_toArray, List.getElem_cons_succ, List.getElem_cons_zero, Act.put, List.setIfInBounds_toArray, List.set_cons_zero, List.set_cons_succ]
          refine wpAnyT_take (i := 19) (v := .slice ao13 0 c13) rfl (by decide) (by kernel_rfl) (by kernel_rfl) (by kernel_rfl) (fun _ _ _ h => h) (Or.inl ⟨by rfl, fun w _ => ?_⟩) hHeld ?_
          · go_simp
          simp only [List.getElem_toArray, List.getElem_cons_succ, List.getElem_cons_zero, Act.put, List.setIfInBounds_toArray, List.set_cons_zero, List.set_cons_succ]
          refine wpAnyT_take (i := 20) (v := .iface T13 y13) rfl (by decide) (by kernel_rfl) (by kernel_rfl) (by kernel_rfl) (fun _ _ _ h => h) (Or.inl ⟨by rfl, fun w _ => ?_⟩) hHeld ?_
          · go_simp
          simp only [List.getElem_toArray, List.getElem_cons_succ, List.getElem_cons_zero, Act.put, List.setIfInBounds_toArray, List.set_cons_zero, List.set_cons_succ]
          refine wpAnyT_take (i := 21) (v := .string ⟨#[]⟩) rfl (by decide) (by kernel_rfl) (by kernel_rfl) (by kernel_rfl) (fun _ _ _ h => h) (Or.inl ⟨by rfl, fun w _ => ?_⟩) hHeld ?_
          · go_simp
          simp only [List.getElem_toArray, List.getElem_cons_succ, List.getElem_cons_zero, Act.put, List.setIfInBounds_toArray, List.set_cons_zero, List.set_cons_succ]
          refine wpAnyT_take (i := 22) (v := .slice ao13 0 c13) rfl (by decide) (by kernel_rfl) (by kernel_rfl) (by kernel_rfl) (fun _ _ _ h => h) (Or.inl ⟨by rfl, fun w _ => ?_⟩) hHeld ?_
          · go_simp
          simp only [List.getElem_toArray, List.getElem_cons_succ, List.getElem_cons_zero, Act.put, List.setIfInBounds_toArray, List.set_cons_zero, List.set_cons_succ]
          refine wpAnyT_take (i := 23) (v := .iface T13 y13) rfl (by decide) (by kernel_rfl) (by kernel_rfl) (by kernel_rfl) (fun _ _ _ h => h) (Or.inl ⟨by rfl, fun w _ => ?_⟩) hHeld ?_
          · go_simp
          simp only [List.getElem_toArray, List.getElem_cons_succ, List.getElem_cons_zero, Act.put, List.setIfInBounds_toArray, List.set_cons_zero, List.set_cons_succ]
          refine wpAnyT_done (by kernel_rfl) ?_ _
          have HI12 := Lib.hid (by
            have h2 := is_any S wz (.iface T13 y13) 12 none 12 (HF.out _ HBZ.out).base HE13.out
            rwa [show isB 12 none 12 = true by decide] at h2 : Calls Tryz.prog 11 #[.iface T13 y13, .int .i64 12] wz fun e w' => e = .returned (.bool true) ∧ Below wz.heap.size wz w')
          go_wp2_with (first | (go_at_call 11; refine HI12.out.mono ?_; rintro e w14 ⟨rfl, hb14⟩; have HB14 := Lib.hid (HLA.out _ _ HBZ.out hb14)) | (go_at_call 7; refine (HAL.out _ HB14.out).mono ?_; rintro e w10 ⟨rfl, hb10⟩))
          go_ret
          exact ⟨rfl, HLA.out _ _ HB14.out hb10⟩
        · rw [show errN S 12 = .iface 251 (.pointer (some (S 12))) from rfl] at HKV
          have HOPX := Lib.hid (fun (W : World) (kv : Value) (hW : Below w.heap.size w W) (hkn : KnIn W kv [(nm, P, height), (nm, K2, (h : Int))]) => (by
            refine (open_any S N kv [(nm, P, height), (nm, K2, (h : Int))] (by have := HLEN.out; have := HS.out; omega) (fun k hk => ?_) (by simp) W (HF.out _ hW) hkn).mono ?_
            · simp only [List.mem_cons, List.not_mem_nil, or_false] at hk
              rcases hk with rfl | rfl
              · exact ⟨show nm.length ≤ 1048576 from Nat.le_trans (name_len hyes.1).1 (by decide), HPL.out, HHE.out⟩
              · exact ⟨show nm.length ≤ 1048576 from Nat.le_trans (name_len hyes.1).1 (by decide), HK2L.out, show idxOk (h : Int) from ⟨by omega, by omega⟩⟩
            rw [show openN N [(nm, P, height), (nm, K2, (h : Int))] = (([], []), 12, none) from (HOPN.out (nm, K2, (h : Int))).trans (if_neg (by decide))]
            rintro e w2 ⟨v, ev, rfl, h1, h2, h3⟩
            obtain ⟨T9, y9, rfl, hq, _⟩ := ErrAt.some5 h2 (by decide)
            obtain ⟨ao, cp, rfl, _⟩ := h1 w2 (fun _ _ _ => rfl)
            exact ⟨ao, cp, T9, y9, rfl, hq, h2, h3⟩ : Calls Tryz.prog 19 #[.string ⟨N.toArray⟩, kv] W fun e w2 => ∃ ao cp T9 y9, e = .returned (.tuple #[.string ⟨#[]⟩, .slice ao 0 cp, .iface T9 y9]) ∧ (∀ X, (binOp .neq 34 (.iface T9 y9) .nilIface).run Tryz.prog X = .ok (.bool true) X) ∧ ErrAt S w2 (.iface T9 y9) 12 none ∧ Below W.heap.size W w2))
          go_upto_region 23 with (first | (refine wpList_hashLoad (by rfl) (.tmp 5) (by rfl) pb 0 (by rfl) P HPL.out HPA.out.range ?_) | (go_at_call 22; refine HKV.out.mono ?_; rintro e w12 ⟨rfl, hb12⟩))
          have hb12 := hb12.trans ((Below.refl w12.heap.size w12).drew.mono hb12.size)
          have HB12 := Lib.hid (HLA.out _ _ HBX.out hb12)
          have HK12 := Lib.hid (HKA.out.below hb12)
          have HP12 := Lib.hid (HPA.out.below hb12)
          have HX12 := Lib.hid (below_heap hb12 HXA.out)
          have HOPX := Lib.hid (fun (W : World) (kv : Value) (hW : Below w12.drew.heap.size w12.drew W) => HOPX.out W kv (HLA.out _ _ HB12.out hW))
          clear hb12 s0 s1 s2
          have t3 : (ht : Int).tmod 3 = (h : Int) := by rw [Int.tmod_eq_emod_of_nonneg t0]; exact t2
          have t4 : IntKind.i64.wrap (h : Int) = (h : Int) := by rw [IntKind.wrap_i64]; omega
          refine wp_region_till 100 (BelB w12.drew) (by kernel_rfl) (Below.refl _ _) (fun hHeld => ?_)
          refine wpAnyT_take (i := 0) (v := .string ⟨N.toArray⟩) rfl (by decide) (by kernel_rfl) (by kernel_rfl) (by kernel_rfl) (fun _ _ _ h => h) (Or.inl ⟨by rfl, fun w _ => ?_⟩) hHeld ?_
          · go_simp
          simp only [List.getElem_toArray, List.getElem_cons_zero, Act.put, List.setIfInBounds_toArray, List.set_cons_zero, List.set_cons_succ]
          refine wpAnyT_take (i := 1) (v := .pointer (some ⟨xb, 0, none⟩)) rfl (by decide) (by kernel_rfl) (by kernel_rfl) (by kernel_rfl) (fun _ _ _ h => h) (Or.inl ⟨by rfl, fun w _ => ?_⟩) hHeld ?_
          · go_simp
          simp only [List.getElem_toArray, List.getElem_cons_succ, List.getElem_cons_zero, Act.put, List.setIfInBounds_toArray, List.set_cons_zero, List.set_cons_succ]
          refine wpAnyT_take (i := 2) (v := .string ⟨nm.toArray⟩) rfl (by decide) (by kernel_rfl) (by kernel_rfl) (by kernel_rfl) (fun _ _ _ h => h) (Or.inl ⟨by rfl, fun w hSw => ?_⟩) hHeld ?_
          · obtain ⟨b, hb⟩ := hSw; have c : w.cell? ⟨xb, 0, none⟩ = some (.string ⟨nm.toArray⟩) := cell_of (below_heap (BelB.out hb) HX12.out) 0 rfl
            go_simp
          simp only [List.getElem_toArray, List.getElem_cons_succ, List.getElem_cons_zero, Act.put, List.setIfInBounds_toArray, List.set_cons_zero, List.set_cons_succ]
          refine wpAnyT_take (i := 3) (v := hv P) rfl (by decide) (by kernel_rfl) (by kernel_rfl) (by kernel_rfl) (fun _ _ _ h => h) (yieldsIf_load_mid (by rfl) 23 (.tmp 5) (by rfl) pb 0 (by rfl) (Lib.byteCells P) _ (fun w ⟨_, h⟩ => (HP12.out.below (BelB.out h)).range) Tryz.underlying23 rfl (by rw [Lib.byteCells_length, HPL.out]; exact hashInfo)) hHeld ?_
          simp only [List.getElem_toArray, List.getElem_cons_succ, List.getElem_cons_zero, Act.put, List.setIfInBounds_toArray, List.set_cons_zero, List.set_cons_succ]
          refine wpAnyT_take (i := 4) (v := .int .i64 height) rfl (by decide) (by kernel_rfl) (by kernel_rfl) (by kernel_rfl) (fun _ _ _ h => h) (Or.inl ⟨by rfl, fun w _ => ?_⟩) hHeld ?_
          · go_simp
          simp only [List.getElem_toArray, List.getElem_cons_succ, List.getElem_cons_zero, Act.put, List.setIfInBounds_toArray, List.set_cons_zero, List.set_cons_succ]
          refine wpAnyT_take (i := 5) (v := .agg (knC (nm, P, height)).toArray) rfl (by decide) (by kernel_rfl) (by kernel_rfl) (by kernel_rfl) (fun _ _ _ h => h) (yieldsIf_buildKn3 (by rfl) (.tmp 95) (.tmp 96) (.tmp 97) (by rfl) nm P height (by rfl) (by rfl) (by rfl) HPL.out) hHeld ?_
          simp only [List.getElem_toArray, List.getElem_cons_succ, List.getElem_cons_zero, Act.put, List.setIfInBounds_toArray, List.set_cons_zero, List.set_cons_succ]
          refine wpAnyT_take (i := 6) (v := .pointer (some ⟨xb, 0, none⟩)) rfl (by decide) (by kernel_rfl) (by kernel_rfl) (by kernel_rfl) (fun _ _ _ h => h) (Or.inl ⟨by rfl, fun w _ => ?_⟩) hHeld ?_
          · go_simp
          simp only [List.getElem_toArray, List.getElem_cons_succ, List.getElem_cons_zero, Act.put, List.setIfInBounds_toArray, List.set_cons_zero, List.set_cons_succ]
          refine wpAnyT_take (i := 7) (v := .string ⟨nm.toArray⟩) rfl (by decide) (by kernel_rfl) (by kernel_rfl) (by kernel_rfl) (fun _ _ _ h => h) (Or.inl ⟨by rfl, fun w hSw => ?_⟩) hHeld ?_
          · obtain ⟨b, hb⟩ := hSw; have c : w.cell? ⟨xb, 0, none⟩ = some (.string ⟨nm.toArray⟩) := cell_of (below_heap (BelB.out hb) HX12.out) 0 rfl
            go_simp
          simp only [List.getElem_toArray, List.getElem_cons_succ, List.getElem_cons_zero, Act.put, List.setIfInBounds_toArray, List.set_cons_zero, List.set_cons_succ]
          refine wpAnyT_take (i := 8) (v := .pointer (some ⟨kb, 0, none⟩)) rfl (by decide) (by kernel_rfl) (by kernel_rfl) (by kernel_rfl) (fun _ _ _ h => h) (Or.inl ⟨by rfl, fun w _ => ?_⟩) hHeld ?_
          · go_simp
          simp only [List.getElem_toArray, List.getElem_cons_succ, List.getElem_cons_zero, Act.put, List.setIfInBounds_toArray, List.set_cons_zero, List.set_cons_succ]
          refine wpAnyT_take (i := 10) (v := .pointer (some ⟨xb, 33, none⟩)) rfl (by decide) (by kernel_rfl) (by kernel_rfl) (by kernel_rfl) (fun _ _ _ h => h) (Or.inl ⟨by rfl, fun w _ => ?_⟩) hHeld ?_
          · go_simp
          simp only [List.getElem_toArray, List.getElem_cons_succ, List.getElem_cons_zero, Act.put, List.setIfInBounds_toArray, List.set_cons_zero, List.set_cons_succ]
          refine wpAnyT_take (i := 11) (v := .int .u8 (ht : Int)) rfl (by decide) (by kernel_rfl) (by kernel_rfl) (by kernel_rfl) (fun _ _ _ h => h) (Or.inl ⟨by rfl, fun w hSw => ?_⟩) hHeld ?_
          · obtain ⟨b, hb⟩ := hSw; have c : w.cell? ⟨xb, 33, none⟩ = some (.int .u8 (ht : Int)) := cell_of (below_heap (BelB.out hb) HX12.out) 33 (by rw [List.getElem?_toArray]; exact snC_ht HSEC.out)
            go_simp
          simp only [List.getElem_toArray, List.getElem_cons_succ, List.getElem_cons_zero, Act.put, List.setIfInBounds_toArray, List.set_cons_zero, List.set_cons_succ]
          refine wpAnyT_take (i := 12) (v := .int .u8 (h : Int)) rfl (by decide) (by kernel_rfl) (by kernel_rfl) (by kernel_rfl) (fun _ _ _ h => h) (Or.inl ⟨by rfl, fun w _ => ?_⟩) hHeld ?_
          · go_simp
          simp only [List.getElem_toArray, List.getElem_cons_succ, List.getElem_cons_zero, Act.put, List.setIfInBounds_toArray, List.set_cons_zero, List.set_cons_succ]
          refine wpAnyT_take (i := 13) (v := .int .i64 (h : Int)) rfl (by decide) (by kernel_rfl) (by kernel_rfl) (by kernel_rfl) (fun _ _ _ h => h) (Or.inl ⟨by rfl, fun w _ => ?_⟩) hHeld ?_
          · go_simp
          simp only [List.getElem_toArray, List.getElem_cons_succ, List.getElem_cons_zero, Act.put, List.setIfInBounds_toArray, List.set_cons_zero, List.set_cons_succ]
          refine wpAnyT_ready (rs := [9]) (by kernel_rfl) (by simp) ?_
          refine AllReadyT.cons false rfl (by kernel_rfl) (fun K hK => ?_) AllReadyT.nil
          go_simp
          refine (HP2.out _ (HK12.out.below (BelB.out hHeld))).mono ?_
          rintro e wy ⟨rfl, hy⟩
          go_wp2_with fail
          have hy := (BelB.out hHeld).trans (hy.mono (BelB.out hHeld).size)
          refine hK.out _ _ hy (fun hHeld => ?_)
          clear hy
          clear hK K
          refine wpAnyT_take (i := 14) (v := .agg (knC (nm, K2, (h : Int))).toArray) rfl (by decide) (by kernel_rfl) (by kernel_rfl) (by kernel_rfl) (fun _ _ _ h => h) (yieldsIf_buildKn3 (by rfl) (.tmp 100) (.tmp 102) (.tmp 106) (by rfl) nm K2 (h : Int) (by rfl) (by rfl) (by rfl) HK2L.out) hHeld ?_
          simp only [List.getElem_toArray, List.getElem_cons_succ, List.getElem_cons_zero, Act.put, List.setIfInBounds_toArray, List.set_cons_zero, List.set_cons_succ]
          refine wpAnyT_ready (rs := [15]) (by kernel_rfl) (by simp) ?_
          refine AllReadyT.cons false rfl (by kernel_rfl) (fun K hK => ?_) AllReadyT.nil
          refine step_sliceKn2 (by rfl) (.tmp 98) (.tmp 107) (by rfl) (nm, P, height) (nm, K2, (h : Int)) (by rfl) (by rfl) HPL.out HK2L.out ?_
          have hy := (BelB.out hHeld).alloc (BelB.out hHeld).size (.cells (knC (nm, P, height) ++ knC (nm, K2, (h : Int))).toArray 64)
          refine hK.out _ _ hy (fun hHeld => ?_)
          clear hy
          clear hK K
          refine wpAnyT_ready (rs := [16]) (by kernel_rfl) (by simp) ?_
          refine AllReadyT.cons false rfl (by kernel_rfl) (fun K hK => ?_) AllReadyT.nil
          go_simp
          refine (HOPX.out _ _ (BelB.out hHeld) (knIn_two _ (nm, P, height) (nm, K2, (h : Int)) HPL.out)).mono ?_
          rintro e wz ⟨ao13, c13, T13, y13, hy⟩
          obtain ⟨rfl, hq13, he13, hy⟩ := hy
          have HE13 := Lib.hid he13
          go_wp2_with fail
          have hy := (BelB.out hHeld).trans (hy.mono (BelB.out hHeld).size)
          have HBZ := Lib.hid (HLA.out _ _ HB12.out hy)
          refine hK.out _ _ hy (fun hHeld => ?_)
          clear hy he13
          clear hK K
          refine wpAnyT_take (i := 17) (v := .tuple #[.string ⟨#[]⟩, .slice ao13 0 c13, .iface T13 y13]) rfl (by decide) (by kernel_rfl) (by kernel_rfl) (by kernel_rfl) (fun _ _ _ h => h) (Or.inl ⟨by rfl, fun w _ => ?_⟩) hHeld ?_
          · go_simp
          simp only [List.getElem_toArray, List.getElem_cons_succ, List.getElem_cons_zero, Act.put, List.setIfInBounds_toArray, List.set_cons_zero, List.set_cons_succ]
          refine wpAnyT_take (i := 18) (v := .string ⟨#[]⟩) rfl (by decide) (by kernel_rfl) (by kernel_rfl) (by kernel_rfl) (fun _ _ _ h => h) (Or.inl ⟨by rfl, fun w _ => ?_⟩) hHeld ?_
          · go_simp
          simp only [List.getElem_toArray, List.getElem_cons_succ, List.getElem_cons_zero, Act.put, List.setIfInBounds_toArray, List.set_cons_zero, List.set_cons_succ]
          refine wpAnyT_take (i := 19) (v := .slice ao13 0 c13) rfl (by decide) (by kernel_rfl) (by kernel_rfl) (by kernel_rfl) (fun _ _ _ h => h) (Or.inl ⟨by rfl, fun w _ => ?_⟩) hHeld ?_
          · go_simp
          simp only [List.getElem_toArray, List.getElem_cons_succ, List.getElem_cons_zero, Act.put, List.setIfInBounds_toArray, List.set_cons_zero, List.set_cons_succ]
          refine wpAnyT_take (i := 20) (v := .iface T13 y13) rfl (by decide) (by kernel_rfl) (by kernel_rfl) (by kernel_rfl) (fun _ _ _ h => h) (Or.inl ⟨by rfl, fun w _ => ?_⟩) hHeld ?_
          · go_simp
          simp only [List.getElem_toArray, List.getElem_cons_succ, List.getElem_cons_zero, Act.put, List.setIfInBounds_toArray, List.set_cons_zero, List.set_cons_succ]
          refine wpAnyT_take (i := 21) (v := .string ⟨#[]⟩) rfl (by decide) (by kernel_rfl) (by kernel_rfl) (by kernel_rfl) (fun _ _ _ h => h) (Or.inl ⟨by rfl, fun w _ => ?_⟩) hHeld ?_
          · go_simp
          simp only [List.getElem_toArray, List.getElem_cons_succ, List.getElem_cons_zero, Act.put, List.setIfInBounds_toArray, List.set_cons_zero, List.set_cons_succ]
          refine wpAnyT_take (i := 22) (v := .slice ao13 0 c13) rfl (by decide) (by kernel_rfl) (by kernel_rfl) (by kernel_rfl) (fun _ _ _ h => h) (Or.inl ⟨by rfl, fun w _ => ?_⟩) hHeld ?_
          · go_simp
          simp only [List.getElem_toArray, List.getElem_cons_succ, List.getElem_cons_zero, Act.put, List.setIfInBounds_toArray, List.set_cons_zero, List.set_cons_succ]
          refine wpAnyT_take (i := 23) (v := .iface T13 y13) rfl (by decide) (by kernel_rfl) (by kernel_rfl) (by kernel_rfl) (fun _ _ _ h => h) (Or.inl ⟨by rfl, fun w _ => ?_⟩) hHeld ?_
          · go_simp
          simp only [List.getElem_toArray, List.getElem_cons_succ, List.getElem_cons_zero, Act.put, List.setIfInBounds_toArray, List.set_cons_zero, List.set_cons_succ]
          refine wpAnyT_done (by kernel_rfl) ?_ _
          have HI12 := Lib.hid (by
            have h2 := is_any S wz (.iface T13 y13) 12 none 12 (HF.out _ HBZ.out).base HE13.out
            rwa [show isB 12 none 12 = true by decide] at h2 : Calls Tryz.prog 11 #[.iface T13 y13, .int .i64 12] wz fun e w' => e = .returned (.bool true) ∧ Below wz.heap.size wz w')
          go_wp2_with (first | (go_at_call 11; refine HI12.out.mono ?_; rintro e w14 ⟨rfl, hb14⟩; have HB14 := Lib.hid (HLA.out _ _ HBZ.out hb14)) | (go_at_call 7; refine (HAL.out _ HB14.out).mono ?_; rintro e w10 ⟨rfl, hb10⟩))
          go_ret
          exact ⟨rfl, HLA.out _ _ HB14.out hb10⟩
      · have HC2 := Lib.hid (show sgCode h 0 s nm = 2 by rw [HC.out, if_neg hyes])
        have HSG2 := Lib.hid (HSG.out.mono (fun e w' (hh : SgPost S w w8 kb sec h 0 s nm e w') => (by
          obtain ⟨ev, rfl, h1, h2, _, h4⟩ := hh
          rw [HC2.out] at h1 h2 ⊢
          obtain ⟨T9, y9, rfl, hq, _⟩ := ErrAt.some5 h1 (by decide)
          exact ⟨T9, y9, rfl, hq, h4⟩ : ∃ T9 y9, e = .returned (.tuple #[.string ⟨#[]⟩, .iface T9 y9]) ∧ (∀ W, (binOp .neq 34 (.iface T9 y9) .nilIface).run Tryz.prog W = .ok (.bool true) W) ∧ Below w.heap.size w w')))
        clear HSG hyes
        go_wp2_with (first | (go_at_call 10; refine HSG2.out.mono ?_; rintro e w9 ⟨T9, y9, rfl, hq9, hb9⟩; have HBX := Lib.hid hb9; clear hb9) | (go_at_call 7; refine (HAL.out _ HBX.out).mono ?_; rintro e w10 ⟨rfl, hb10⟩))
        go_ret
        exact ⟨rfl, HLA.out _ _ HBX.out hb10⟩
end Go.Proofs.YticlgcfodlcpcaaGreatDoor
