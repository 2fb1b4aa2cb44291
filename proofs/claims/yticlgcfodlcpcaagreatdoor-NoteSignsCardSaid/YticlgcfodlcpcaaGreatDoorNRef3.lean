/- The document's keys that sign once (cartularyref22),and the leaf of the document's trees (cartularyref05. -/
import Derived.Test.YticlgcfodlcpcaaGreatDoorRefSha
import Derived.Test.YticlgcfodlcpcaaGreatDoorNOnce
import Derived.Test.YticlgcfodlcpcaaGreatDoorNNew
namespace Go.Proofs.YticlgcfodlcpcaaGreatDoor
open Go.Lib (hid byteCells)
open Go.RowKit
theorem rsumB (s:ByteArray) (l:List UInt8) (hs:s.data.toList = l) (hl:l.length ≤ 35184372088832) (w:World) :
  Calls Tryz.prog 66 #[.string s] w fun e w'=>e = .returned (hv (shaL l))∧Below w.heap.size w w':=by
 subst hs
 exact rsum_any s w (by rw [← size_list s]; exact hl)
set_option maxHeartbeats 1000000 in
set_option maxRecDepth 100000 in
theorem r22bytes_any (h:List UInt8) (hh:h.length = 32) (w:World) :
  Calls Tryz.prog 102 #[hv h] w fun e w'=>e = .returned (.string ⟨h.toArray⟩)∧Below w.heap.size w w':=by
 go_enter Tryz.func102,Tryz.ntmps102
 go_upto_region 1 with fail
 have h1:=HashAt.new w h hh
 have hb1:=below_one w (.cells (byteCells h).toArray 23)
 generalize w.alloc (.cells (byteCells h).toArray 23) = w1 at *
 have c1:=conv_hash h1
 have HB:=hid hb1
 clear h1 hb1
 go_wp2_with fail
 go_ret
 exact ⟨rfl,HB.out⟩
set_option maxHeartbeats 1000000 in
set_option maxRecDepth 100000 in
theorem r5Bytes_any (h:List UInt8) (hh:h.length = 32) (w:World) :
  Calls Tryz.prog 62 #[hv h] w fun e w'=>e = .returned (.string ⟨h.toArray⟩)∧Below w.heap.size w w':=by
 have HH:=hid hh
 go_enter Tryz.func62,Tryz.ntmps62
 go_upto_region 1 with fail
 have H1:=hid (HashAt.new w h hh)
 have HB:=hid (below_one w (.cells (byteCells h).toArray 23))
 generalize w.alloc (.cells (byteCells h).toArray 23) = w1 at *
 go_wp2_with (first | (refine wpList_ldH (by rfl) (.tmp 1) (by rfl) (by rfl) H1.out ?_) | (go_at_call 101; refine (rbytes_any h HH.out w1).mono ?_; rintro e w2 ⟨rfl,hb2⟩))
 go_ret
 exact ⟨rfl,HB.out.trans (hb2.mono HB.out.size)⟩
set_option maxHeartbeats 2000000 in
set_option maxRecDepth 100000 in
theorem r22On_any (n:Nat) (hn:n ≤ 255) (h:List UInt8) (hh:h.length = 32) (w:World) :
  Calls Tryz.prog 63 #[hv h,.int .i64 (n:Int)] w fun e w'=>e = .returned (hv (chainF n h))∧Below w.heap.size w w':=by
 obtain ⟨z32,hz32,hzs⟩:=z32_ex2
 have HZS:=hid hzs
 have HCL:=hid (fun k=>chainF_len k h hh)
 have n1:(n:Int) ≤ 255:=by omega
 go_enter Tryz.func63,Tryz.ntmps63
 go_upto_region 1 with fail
 have h2:=HashAt.new w h hh
 have hb2:=below_one w (.cells (byteCells h).toArray 23)
 have hs2:(w.alloc (.cells (byteCells h).toArray 23)).heap.size = w.heap.size + 1:=by simp
 generalize w.alloc (.cells (byteCells h).toArray 23) = w2 at *
 have h4:=HashAt.new w2 z32 HZS.out
 have hb4:=below_one w2 (.cells (byteCells z32).toArray 23)
 rw [hs2] at h4
 have H2:=hid (h2.below hb4)
 have H4:=hid h4
 have HB:=hid (hb2.trans (hb4.mono hb2.size))
 have HNE:=hid (show w.heap.size ≠ w.heap.size + 1 by omega)
 generalize w2.alloc (.cells (byteCells z32).toArray 23) = wo at *
 have HG2:=hid (Nat.le_refl w.heap.size)
 have HG4:=hid (Nat.le_succ w.heap.size)
 clear h2 hb2 hs2 h4 hb4 hz32 hh hzs
 go_wp2_with fail
 go_loopw [5] (fun iv wr=>∃ k:Nat,k ≤ n∧iv = .int .i64 (k:Int)∧HashAt wr w.heap.size (chainF k h)∧HashAt wr (w.heap.size + 1) z32∧Below w.heap.size w wr) (fun iv _=>n - (intOf iv).toNat)
 case atStart=>exact ⟨0,Nat.zero_le _,rfl,H2.out,H4.out,HB.out⟩
 case round=>
  obtain ⟨k,hk,rfl,hc,hz,hbel⟩:=hrel
  rename World=>wA
  have i0:(0:Int) ≤ (k:Int):=by omega
  have HC:=hid hc
  have HZ:=hid hz
  have HBE:=hid hbel
  clear hc hz hbel
  by_cases hlt:k < n
  ·have i1:(k:Int) < (n:Int):=by omega
   have HLT:=hid hlt
   have HNX:=hid (show chainF (k + 1) h = shaL (2 :: chainF k h) from rfl)
   have HNL:=hid (HCL.out (k + 1))
   obtain ⟨C,hC⟩:∃ C,chainF k h = C:=⟨_,rfl⟩
   obtain ⟨D,hD⟩:∃ D,chainF (k + 1) h = D:=⟨_,rfl⟩
   have HL:=hid (HCL.out k)
   rw [hC] at HC HNX HL
   rw [hD] at HNX HNL
   have HDE:=hid hD
   have HSM:=hid (fun (W:World)=>(by
    have h:=rsumB (⟨#[2]⟩ ++ ⟨C.toArray⟩) (2 :: C) (by simp [ByteArray.data_append]) (by rw [List.length_cons,HL.out]; decide) W
    rw [← HNX.out] at h
    exact h:Calls Tryz.prog 66 #[.string (⟨#[2]⟩ ++ ⟨C.toArray⟩)] W fun e w'=>e = .returned (hv D)∧Below W.heap.size W w'))
   have q1:¬ 9223372036854775807 < 1 + C.length:=by rw [HL.out]; decide
   clear hC hD hlt hk
   go_wp2_with (first | (refine wpList_ldH (by rfl) (.tmp 2) (by rfl) (by rfl) HC.out ?_) | (go_at_call 102; refine (r22bytes_any C HL.out wA).mono ?_; rintro e wB ⟨rfl,hbB⟩; have HCB:=hid (HC.out.below hbB); have HZB:=hid (HZ.out.below hbB); have HBB:=hid (HBE.out.trans (hbB.mono HBE.out.size)); clear hbB) | (go_at_call 66; refine (HSM.out wB).mono ?_; rintro e wC ⟨rfl,hbC⟩; have HCC:=hid (HCB.out.below hbC); have HZC:=hid (HZB.out.below hbC); have HBC:=hid (HBB.out.trans (hbC.mono HBB.out.size)); clear hbC) | (refine wpList_stH (by rfl) (.tmp 2) (.tmp 14) (by rfl) (by rfl) (by rfl) HCC.out HNL.out ?_))
   refine ⟨⟨k + 1,HLT.out,by go_num,?_,?_,below_setRow HBC.out HG2.out _⟩,by have:=HLT.out; simp [intOf]; omega⟩
   ·rw [HDE.out]
    exact HCC.out.set HNL.out
   ·exact HZC.out.other _ (Ne.symm HNE.out)
  ·obtain rfl:k = n:=by omega
   have i1:¬ (k:Int) < (k:Int):=by omega
   have HNL:=hid (HCL.out k)
   obtain ⟨C,hC⟩:∃ C,chainF k h = C:=⟨_,rfl⟩
   rw [hC] at HC HNL
   have HCE:=hid hC
   clear hC hk hlt
   go_wp2_with (first | (refine wpList_ldH (by rfl) (.tmp 2) (by rfl) (by rfl) HC.out ?_) | (refine wpList_stH (by rfl) (.tmp 4) (.tmp 15) (by rfl) (by rfl) (by rfl) HZ.out HNL.out ?_))
   have H4D:=hid (HZ.out.set HNL.out)
   have HBD:=hid (below_setRow HBE.out HG4.out (byteCells C).toArray)
   generalize wA.setRow (w.heap.size + 1) (byteCells C).toArray = wD at *
   go_wp2_with fail
   exact bodyPost_ret (results_H rfl _ _ _ _ rfl H4D.out) rfl ⟨by rw [HCE.out],HBD.out⟩
def BelT (w0 w1:World):Bool→World→Prop:=fun b W=>if b then Below w0.heap.size w0 W else Below w1.heap.size w1 W
theorem BelT.no {w0 w1 W:World} (h:BelT w0 w1 false W):Below w1.heap.size w1 W:=h
theorem BelT.yes {w0 w1 W:World} (h:Below w0.heap.size w0 W):BelT w0 w1 true W:=h
theorem BelT.start {w0:World} (w1:World):BelT w0 w1 false w1:=Below.refl _ _
set_option maxHeartbeats 2000000 in
set_option maxRecDepth 100000 in
theorem r22Begin_any (i:Nat) (hi:i < 67) (s:List UInt8) (hs:s.length = 32) (w:World) :
  Calls Tryz.prog 64 #[hv s,.int .i64 (i:Int)] w fun e w'=>e = .returned (hv (beginF s i))∧Below w.heap.size w w':=by
 obtain ⟨z32,hz32,hzs⟩:=z32_ex2
 have HSL:=hid hs
 have HZS:=hid hzs
 have i0:(0:Int) ≤ (i:Int):=by omega
 have i1:(i:Int) / 256 = 0:=by omega
 have i1t:(i:Int).tdiv 256 = 0:=by rw [Int.tdiv_eq_ediv_of_nonneg i0]; exact i1
 have i2:(i:Int) < 256:=by omega
 have i3:(i:Int) % 256 = (i:Int):=by omega
 have i3t:(i:Int).tmod 256 = (i:Int):=by rw [Int.tmod_eq_emod_of_nonneg i0]; exact i3
 have w1:IntKind.u8.wrap (i:Int) = (i:Int):=by rw [IntKind.wrap_u8]; omega
 have w0:IntKind.u8.wrap 0 = 0:=by rw [IntKind.wrap_u8]; rfl
 have w00:IntKind.i64.wrap 0 = 0:=by rw [IntKind.wrap_i64]; rfl
 have q1:¬ 9223372036854775807 < 1 + s.length:=by omega
 have q2:¬ 9223372036854775807 < 1 + s.length + 2:=by omega
 clear hs hzs
 go_enter Tryz.func64,Tryz.ntmps64
 go_upto_region 1 with fail
 have h2:=HashAt.new w s HSL.out
 have hb2:=below_one w (.cells (byteCells s).toArray 23)
 have hs2:(w.alloc (.cells (byteCells s).toArray 23)).heap.size = w.heap.size + 1:=by simp
 generalize w.alloc (.cells (byteCells s).toArray 23) = w2 at *
 have h4:=HashAt.new w2 z32 HZS.out
 have hb4:=below_one w2 (.cells (byteCells z32).toArray 23)
 rw [hs2] at h4
 have H2:=hid ((h2.below hb4).below (w':=(w2.alloc (.cells (byteCells z32).toArray 23)).drew) (Below.refl _ _).drew)
 have H4:=hid (h4.below (w':=(w2.alloc (.cells (byteCells z32).toArray 23)).drew) (Below.refl _ _).drew)
 have HB:=hid ((hb2.trans (hb4.mono hb2.size)).drew)
 have HNE:=hid (show w.heap.size ≠ w.heap.size + 1 by omega)
 generalize w2.alloc (.cells (byteCells z32).toArray 23) = wo at *
 have HG4:=hid (Nat.le_succ w.heap.size)
 clear h2 hb2 hs2 h4 hb4 hz32
 have hcs:byteCells [0,UInt8.ofNat i] = [.int .u8 0,.int .u8 (i:Int)]:=by
  simp [byteCells]
  omega
 have HCS:=hid (fun (W:World)=>(fun j v hv=>by
  rw [hcs] at hv
  rw [Nat.zero_add]
  exact cell_of (heap_one W _) j (by rw [List.getElem?_toArray]; exact hv):(W.alloc (.cells #[.int .u8 0,.int .u8 (i:Int)] 5)).rangeAt W.heap.size 0 (byteCells [0,UInt8.ofNat i])))
 have HBG:=hid (show shaL (3 :: (s ++ [0,UInt8.ofNat i])) = beginF s i by rw [beginF]; unfold be2; rw [show i / 256 = 0 by omega]; rfl)
 have HBL:=hid (beginF_len s i)
 obtain ⟨B,hB⟩:∃ B,beginF s i = B:=⟨_,rfl⟩
 rw [hB] at HBG HBL
 have HBEQ:=hid hB
 have HSM:=hid (fun (W:World)=>(by
  have h:=rsumB (⟨#[3]⟩ ++ ⟨s.toArray⟩ ++ ⟨#[0,UInt8.ofNat i]⟩) (3 :: (s ++ [0,UInt8.ofNat i])) (by simp [ByteArray.data_append]) (by simp [HSL.out]) W
  rw [HBG.out] at h
  exact h:Calls Tryz.prog 66 #[.string (⟨#[3]⟩ ++ ⟨s.toArray⟩ ++ ⟨#[0,UInt8.ofNat i]⟩)] W fun e w'=>e = .returned (hv B)∧Below W.heap.size W w'))
 clear hcs hB
 refine wp_region_till 13 (BelT w wo.drew) (by kernel_rfl) (BelT.start _) (fun hHeld=>?_)
 generalize wo.drew = wd at *
 refine wF (i:=0) (v:=hv s) rfl (yieldsIf_load_mid (by rfl) 23 (.tmp 2) (by rfl) w.heap.size 0 (by rfl) (byteCells s) _ (fun W h=>(H2.out.below (BelT.no h)).range) Tryz.underlying23 rfl (by rw [Lib.byteCells_length,HSL.out]; exact hashInfo)) hHeld ?_
 simp only [List.getElem_toArray,List.getElem_cons_zero,Act.put,List.setIfInBounds_toArray,List.set_cons_zero,List.set_cons_succ]
 refine wT (i:=3) (v:=.int .i64 (i:Int)) rfl (Or.inl ⟨by rfl,fun w _=>?_⟩) hHeld ?_
 ·go_simp
 simp only [List.getElem_toArray,List.getElem_cons_succ,List.getElem_cons_zero,Act.put,List.setIfInBounds_toArray,List.set_cons_zero,List.set_cons_succ]
 refine wT (i:=4) (v:=.int .i64 0) rfl (Or.inl ⟨by rfl,fun w _=>?_⟩) hHeld ?_
 ·go_simp
 simp only [List.getElem_toArray,List.getElem_cons_succ,List.getElem_cons_zero,Act.put,List.setIfInBounds_toArray,List.set_cons_zero,List.set_cons_succ]
 refine wT (i:=5) (v:=.int .u8 0) rfl (Or.inl ⟨by rfl,fun w _=>?_⟩) hHeld ?_
 ·go_simp
 simp only [List.getElem_toArray,List.getElem_cons_succ,List.getElem_cons_zero,Act.put,List.setIfInBounds_toArray,List.set_cons_zero,List.set_cons_succ]
 refine wT (i:=6) (v:=.int .i64 (i:Int)) rfl (Or.inl ⟨by rfl,fun w _=>?_⟩) hHeld ?_
 ·go_simp
 simp only [List.getElem_toArray,List.getElem_cons_succ,List.getElem_cons_zero,Act.put,List.setIfInBounds_toArray,List.set_cons_zero,List.set_cons_succ]
 refine wT (i:=7) (v:=.int .i64 (i:Int)) rfl (Or.inl ⟨by rfl,fun w _=>?_⟩) hHeld ?_
 ·go_simp
 simp only [List.getElem_toArray,List.getElem_cons_succ,List.getElem_cons_zero,Act.put,List.setIfInBounds_toArray,List.set_cons_zero,List.set_cons_succ]
 refine wT (i:=8) (v:=.int .u8 (i:Int)) rfl (Or.inl ⟨by rfl,fun w _=>?_⟩) hHeld ?_
 ·go_simp
 simp only [List.getElem_toArray,List.getElem_cons_succ,List.getElem_cons_zero,Act.put,List.setIfInBounds_toArray,List.set_cons_zero,List.set_cons_succ]
 refine wpAnyT_ready (rs:=[1,9]) (by kernel_rfl) (by simp) ?_
 refine AllReadyT.cons false rfl (by kernel_rfl) (fun K hK=>?_) (AllReadyT.cons false rfl (by kernel_rfl) (fun K hK=>?_) (AllReadyT.nil))
 ·go_simp
  refine (r22bytes_any s HSL.out _).mono ?_
  rintro e wy ⟨rfl,hy⟩
  go_wp2_with fail
  have hy:=(BelT.no hHeld).trans (hy.mono (BelT.no hHeld).size)
  refine hK.out _ _ hy (fun hHeld=>?_)
  clear hy
  clear hK K
  refine wT (i:=2) (v:=.string (⟨#[3]⟩ ++ ⟨s.toArray⟩)) rfl (Or.inl ⟨by rfl,fun w _=>?_⟩) hHeld ?_
  ·go_simp
  simp only [List.getElem_toArray,List.getElem_cons_succ,List.getElem_cons_zero,Act.put,List.setIfInBounds_toArray,List.set_cons_zero,List.set_cons_succ]
  refine wpAnyT_ready (rs:=[9]) (by kernel_rfl) (by simp) ?_
  refine AllReadyT.cons false rfl (by kernel_rfl) (fun K hK=>?_) AllReadyT.nil
  go_simp
  have hy:=(BelT.no hHeld).alloc (BelT.no hHeld).size (.cells #[.int .u8 0,.int .u8 (i:Int)] 5)
  have HBUF:=hid (HCS.out wy)
  refine hK.out _ _ hy (fun hHeld=>?_)
  clear hy
  obtain ⟨gb,hgb⟩:∃ b,wy.heap.size = b:=⟨_,rfl⟩
  simp only [hgb] at HBUF ⊢
  clear hK K
  refine wpAnyT_ready (rs:=[10]) (by kernel_rfl) (by simp) ?_
  refine AllReadyT.cons false rfl (by kernel_rfl) (fun K hK=>?_) AllReadyT.nil
  have hc2:=conv_range (l:=[0,UInt8.ofNat i]) 2 HBUF.out
  rw [show ([0,UInt8.ofNat i]:List UInt8).length = 2 from rfl] at hc2
  go_simp
  refine hK.out _ _ (BelT.no hHeld) (fun hHeld=>?_)
  clear hc2
  clear hK K
  refine wT (i:=11) (v:=.string (⟨#[3]⟩ ++ ⟨s.toArray⟩ ++ ⟨#[0,UInt8.ofNat i]⟩)) rfl (Or.inl ⟨by rfl,fun w _=>?_⟩) hHeld ?_
  ·go_simp
  simp only [List.getElem_toArray,List.getElem_cons_succ,List.getElem_cons_zero,Act.put,List.setIfInBounds_toArray,List.set_cons_zero,List.set_cons_succ]
  refine wpAnyT_ready (rs:=[12]) (by kernel_rfl) (by simp) ?_
  refine AllReadyT.cons false rfl (by kernel_rfl) (fun K hK=>?_) AllReadyT.nil
  go_simp
  refine (HSM.out _).mono ?_
  rintro e wz ⟨rfl,hz⟩
  go_wp2_with fail
  have hz:=(BelT.no hHeld).trans (hz.mono (BelT.no hHeld).size)
  have HBZ:=hid hz
  refine hK.out _ _ hz (fun hHeld=>?_)
  clear hz
  clear hK K
  refine wpAnyT_ready (rs:=[13]) (by kernel_rfl) (by simp) ?_
  refine AllReadyT.cons true rfl (by kernel_rfl) (fun K hK=>?_) AllReadyT.nil
  refine wp_store_mid 23 (.tmp 4) (.tmp 17) (by rfl) (w.heap.size + 1) 0 (byteCells B).toArray (by rfl) (by rfl) (show wz.there (w.heap.size + 1) 0 (byteCells B).toArray.size by rw [hash_size HBL.out]; exact (H4.out.below HBZ.out).there) (by rw [hash_size HBL.out]; exact hashInfo) (byteCells_all _) ?_
  rw [(H4.out.below HBZ.out).setCells HBL.out]
  refine hK.out _ _ (BelT.yes (below_setRow (HB.out.trans (HBZ.out.mono HB.out.size)) HG4.out (byteCells B).toArray)) (fun hHeld=>?_)
  clear hK K
  refine wpAnyT_done (by kernel_rfl) ?_ _
  have HE:=hid ((H4.out.below HBZ.out).set HBL.out)
  have HBE:=hid (below_setRow (HB.out.trans (HBZ.out.mono HB.out.size)) HG4.out (byteCells B).toArray)
  generalize wz.setRow (w.heap.size + 1) (byteCells B).toArray = wJ at *
  go_wp2_with fail
  exact bodyPost_ret (results_H rfl _ _ _ _ rfl HE.out) rfl ⟨by rw [HBEQ.out],HBE.out⟩
 ·go_simp
  have hy:=(BelT.no hHeld).alloc (BelT.no hHeld).size (.cells #[.int .u8 0,.int .u8 (i:Int)] 5)
  have HBUF:=hid (HCS.out wd)
  refine hK.out _ _ hy (fun hHeld=>?_)
  clear hy
  obtain ⟨gb,hgb⟩:∃ b,wd.heap.size = b:=⟨_,rfl⟩
  simp only [hgb] at HBUF ⊢
  clear hK K
  refine wpAnyT_ready (rs:=[1,10]) (by kernel_rfl) (by simp) ?_
  refine AllReadyT.cons false rfl (by kernel_rfl) (fun K hK=>?_) (AllReadyT.cons false rfl (by kernel_rfl) (fun K hK=>?_) (AllReadyT.nil))
  ·go_simp
   refine (r22bytes_any s HSL.out _).mono ?_
   rintro e wy ⟨rfl,hy⟩
   go_wp2_with fail
   have HBUF:=hid (range_below hy HBUF.out)
   have hy:=(BelT.no hHeld).trans (hy.mono (BelT.no hHeld).size)
   refine hK.out _ _ hy (fun hHeld=>?_)
   clear hy
   clear hK K
   refine wT (i:=2) (v:=.string (⟨#[3]⟩ ++ ⟨s.toArray⟩)) rfl (Or.inl ⟨by rfl,fun w _=>?_⟩) hHeld ?_
   ·go_simp
   simp only [List.getElem_toArray,List.getElem_cons_succ,List.getElem_cons_zero,Act.put,List.setIfInBounds_toArray,List.set_cons_zero,List.set_cons_succ]
   refine wpAnyT_ready (rs:=[10]) (by kernel_rfl) (by simp) ?_
   refine AllReadyT.cons false rfl (by kernel_rfl) (fun K hK=>?_) AllReadyT.nil
   have hc2:=conv_range (l:=[0,UInt8.ofNat i]) 2 HBUF.out
   rw [show ([0,UInt8.ofNat i]:List UInt8).length = 2 from rfl] at hc2
   go_simp
   refine hK.out _ _ (BelT.no hHeld) (fun hHeld=>?_)
   clear hc2
   clear hK K
   refine wT (i:=11) (v:=.string (⟨#[3]⟩ ++ ⟨s.toArray⟩ ++ ⟨#[0,UInt8.ofNat i]⟩)) rfl (Or.inl ⟨by rfl,fun w _=>?_⟩) hHeld ?_
   ·go_simp
   simp only [List.getElem_toArray,List.getElem_cons_succ,List.getElem_cons_zero,Act.put,List.setIfInBounds_toArray,List.set_cons_zero,List.set_cons_succ]
   refine wpAnyT_ready (rs:=[12]) (by kernel_rfl) (by simp) ?_
   refine AllReadyT.cons false rfl (by kernel_rfl) (fun K hK=>?_) AllReadyT.nil
   go_simp
   refine (HSM.out _).mono ?_
   rintro e wz ⟨rfl,hz⟩
   go_wp2_with fail
   have hz:=(BelT.no hHeld).trans (hz.mono (BelT.no hHeld).size)
   have HBZ:=hid hz
   refine hK.out _ _ hz (fun hHeld=>?_)
   clear hz
   clear hK K
   refine wpAnyT_ready (rs:=[13]) (by kernel_rfl) (by simp) ?_
   refine AllReadyT.cons true rfl (by kernel_rfl) (fun K hK=>?_) AllReadyT.nil
   refine wp_store_mid 23 (.tmp 4) (.tmp 17) (by rfl) (w.heap.size + 1) 0 (byteCells B).toArray (by rfl) (by rfl) (show wz.there (w.heap.size + 1) 0 (byteCells B).toArray.size by rw [hash_size HBL.out]; exact (H4.out.below HBZ.out).there) (by rw [hash_size HBL.out]; exact hashInfo) (byteCells_all _) ?_
   rw [(H4.out.below HBZ.out).setCells HBL.out]
   refine hK.out _ _ (BelT.yes (below_setRow (HB.out.trans (HBZ.out.mono HB.out.size)) HG4.out (byteCells B).toArray)) (fun hHeld=>?_)
   clear hK K
   refine wpAnyT_done (by kernel_rfl) ?_ _
   have HE:=hid ((H4.out.below HBZ.out).set HBL.out)
   have HBE:=hid (below_setRow (HB.out.trans (HBZ.out.mono HB.out.size)) HG4.out (byteCells B).toArray)
   generalize wz.setRow (w.heap.size + 1) (byteCells B).toArray = wJ at *
   go_wp2_with fail
   exact bodyPost_ret (results_H rfl _ _ _ _ rfl HE.out) rfl ⟨by rw [HBEQ.out],HBE.out⟩
  ·have hc2:=conv_range (l:=[0,UInt8.ofNat i]) 2 HBUF.out
   rw [show ([0,UInt8.ofNat i]:List UInt8).length = 2 from rfl] at hc2
   go_simp
   refine hK.out _ _ (BelT.no hHeld) (fun hHeld=>?_)
   clear hc2
   clear hK K
   refine wpAnyT_ready (rs:=[1]) (by kernel_rfl) (by simp) ?_
   refine AllReadyT.cons false rfl (by kernel_rfl) (fun K hK=>?_) AllReadyT.nil
   go_simp
   refine (r22bytes_any s HSL.out _).mono ?_
   rintro e wy ⟨rfl,hy⟩
   go_wp2_with fail
   have HBUF:=hid (range_below hy HBUF.out)
   have hy:=(BelT.no hHeld).trans (hy.mono (BelT.no hHeld).size)
   refine hK.out _ _ hy (fun hHeld=>?_)
   clear hy
   clear hK K
   refine wT (i:=2) (v:=.string (⟨#[3]⟩ ++ ⟨s.toArray⟩)) rfl (Or.inl ⟨by rfl,fun w _=>?_⟩) hHeld ?_
   ·go_simp
   simp only [List.getElem_toArray,List.getElem_cons_succ,List.getElem_cons_zero,Act.put,List.setIfInBounds_toArray,List.set_cons_zero,List.set_cons_succ]
   refine wT (i:=11) (v:=.string (⟨#[3]⟩ ++ ⟨s.toArray⟩ ++ ⟨#[0,UInt8.ofNat i]⟩)) rfl (Or.inl ⟨by rfl,fun w _=>?_⟩) hHeld ?_
   ·go_simp
   simp only [List.getElem_toArray,List.getElem_cons_succ,List.getElem_cons_zero,Act.put,List.setIfInBounds_toArray,List.set_cons_zero,List.set_cons_succ]
   refine wpAnyT_ready (rs:=[12]) (by kernel_rfl) (by simp) ?_
   refine AllReadyT.cons false rfl (by kernel_rfl) (fun K hK=>?_) AllReadyT.nil
   go_simp
   refine (HSM.out _).mono ?_
   rintro e wz ⟨rfl,hz⟩
   go_wp2_with fail
   have hz:=(BelT.no hHeld).trans (hz.mono (BelT.no hHeld).size)
   have HBZ:=hid hz
   refine hK.out _ _ hz (fun hHeld=>?_)
   clear hz
   clear hK K
   refine wpAnyT_ready (rs:=[13]) (by kernel_rfl) (by simp) ?_
   refine AllReadyT.cons true rfl (by kernel_rfl) (fun K hK=>?_) AllReadyT.nil
   refine wp_store_mid 23 (.tmp 4) (.tmp 17) (by rfl) (w.heap.size + 1) 0 (byteCells B).toArray (by rfl) (by rfl) (show wz.there (w.heap.size + 1) 0 (byteCells B).toArray.size by rw [hash_size HBL.out]; exact (H4.out.below HBZ.out).there) (by rw [hash_size HBL.out]; exact hashInfo) (byteCells_all _) ?_
   rw [(H4.out.below HBZ.out).setCells HBL.out]
   refine hK.out _ _ (BelT.yes (below_setRow (HB.out.trans (HBZ.out.mono HB.out.size)) HG4.out (byteCells B).toArray)) (fun hHeld=>?_)
   clear hK K
   refine wpAnyT_done (by kernel_rfl) ?_ _
   have HE:=hid ((H4.out.below HBZ.out).set HBL.out)
   have HBE:=hid (below_setRow (HB.out.trans (HBZ.out.mono HB.out.size)) HG4.out (byteCells B).toArray)
   generalize wz.setRow (w.heap.size + 1) (byteCells B).toArray = wJ at *
   go_wp2_with fail
   exact bodyPost_ret (results_H rfl _ _ _ _ rfl HE.out) rfl ⟨by rw [HBEQ.out],HBE.out⟩
def CatR (L:List (List UInt8)) (w:World) (sv iv:Value) (wr:World):Prop:=
 ∃ k:Nat,k ≤ L.length∧iv = .int .i64 (k:Int)∧sv = .string ⟨(4 :: (L.take k).flatten).toArray⟩∧Below w.heap.size w wr
theorem cat_arr (a b:List UInt8):(⟨a.toArray⟩:ByteArray) ++ ⟨b.toArray⟩ = ⟨(a ++ b).toArray⟩:=by
 apply ByteArray.ext
 simp
set_option maxHeartbeats 2000000 in
set_option maxRecDepth 100000 in
theorem r22Close_any (L:List (List UInt8)) (v:Value) (w:World) (hL:HsIn w v L) (hn:L.length ≤ 1000) :
  Calls Tryz.prog 65 #[v] w fun e w'=>e = .returned (hv (endF L))∧Below w.heap.size w w':=by
 obtain ⟨z32,hz32,hzs⟩:=z32_ex2
 obtain ⟨h32,ao,cap,rfl,_,hr⟩:=hL
 have HZS:=hid hzs
 have HR:=hid hr
 have H32:=hid h32
 have HFL:=hid fun (k:Nat)=>flat_len32 (L.take k) fun x hx=>h32 x (List.mem_of_mem_take hx)
 have n1:(L.length:Int) ≤ 1000:=by omega
 clear hr h32 hzs
 go_enter Tryz.func65,Tryz.ntmps65
 go_upto_region 1 with fail
 have HWO:=hid (HashAt.new w z32 HZS.out)
 have HBO:=hid (below_one w (.cells (byteCells z32).toArray 23))
 generalize w.alloc (.cells (byteCells z32).toArray 23) = wo at *
 clear hz32
 go_wp2_with fail
 go_loopw [3,4] (fun sv iv wr=>CatR L wo sv iv wr) (fun _ iv _=>L.length - (intOf iv).toNat)
 case atStart=>exact ⟨0,Nat.zero_le _,rfl,rfl,Below.refl _ _⟩
 case round=>
  obtain ⟨k,hk,rfl,rfl,hbel⟩:=hrel
  rename World=>wA
  have HBE:=hid hbel
  have i0:(0:Int) ≤ (k:Int):=by omega
  by_cases hlt:k < L.length
  ·have i1:(k:Int) < (L.length:Int):=by omega
   obtain ⟨x,hx⟩:∃ x,L[k]? = some x:=⟨_,List.getElem?_eq_getElem hlt⟩
   obtain ⟨g,o,rfl,hrow⟩:=HR.out (fun e=>by rw [e] at hlt; simp at hlt)
   have HRX:=hid (range_below (HBO.out.trans (hbel.mono HBO.out.size)) (HsIn.at H32.out hrow hx))
   have HXL:=hid (H32.out x (List.mem_of_getElem? hx))
   have HNX:=hid (flat_next hx)
   have hfl:=HFL.out k
   have HKL:=hid hlt
   obtain ⟨P,hP⟩:∃ P,(L.take k).flatten = P:=⟨_,rfl⟩
   rw [hP] at HNX hfl ⊢
   have q1:¬ 9223372036854775807 < (4 :: P).length + x.length:=by rw [List.length_cons,HXL.out,hfl,List.length_take]; omega
   have q2:¬ 9223372036854775807 < P.length + 1 + x.length:=by rw [HXL.out,hfl,List.length_take]; omega
   clear hrow hx hbel hP hfl hlt hk
   go_wp2_with (first | (refine wpList_hashLoad2 (by rfl) (.tmp 14) (by rfl) g (o + k * 32) (by rfl) x HXL.out HRX.out ?_) | (go_at_call 102; refine (r22bytes_any x HXL.out wA).mono ?_; rintro e wB ⟨rfl,hbB⟩))
   exact ⟨⟨k + 1,HKL.out,by go_num,by rw [HNX.out,← List.cons_append,← cat_arr],HBE.out.trans (hbB.mono HBE.out.size)⟩,by have:=HKL.out; simp [intOf]; omega⟩
  ·obtain rfl:k = L.length:=by omega
   have i1:¬ (L.length:Int) < (L.length:Int):=by omega
   have hfl:=HFL.out L.length
   rw [List.take_length] at hfl ⊢
   have HSM:=hid (fun (W:World)=>rsumB ⟨(4 :: L.flatten).toArray⟩ (4 :: L.flatten) rfl (by rw [List.length_cons,hfl]; omega) W)
   have HEE:=hid (show shaL (4 :: L.flatten) = endF L from rfl)
   rw [HEE.out] at HSM
   have HEL:=hid (show (endF L).length = 32 from shaL_len _)
   have HZ:=hid (HWO.out.below hbel)
   have HBW:=hid (HBO.out.trans (hbel.mono HBO.out.size))
   clear hbel hfl hk hlt
   go_wp2_with (first | (go_at_call 66; refine (HSM.out wA).mono ?_; rintro e wy ⟨rfl,hbg⟩) | (refine wpList_stH (by rfl) (.tmp 2) (.tmp 19) (by rfl) (by rfl) (by rfl) (HZ.out.below hbg) HEL.out ?_))
   have HRE:=hid ((HZ.out.below hbg).set HEL.out)
   have HBR:=hid (below_setRow (HBW.out.trans (hbg.mono HBW.out.size)) (Nat.le_refl _) (byteCells (endF L)).toArray)
   generalize wy.setRow w.heap.size (byteCells (endF L)).toArray = wJ at *
   go_wp2_with fail
   exact bodyPost_ret (results_H rfl _ _ _ _ rfl HRE.out) rfl ⟨rfl,HBR.out⟩
set_option maxRecDepth 100000 in
theorem infoIntA:(Tryz.prog.info? 3).map (fun i=>(i.zero,i.size,i.bytes)) = some (some (.int .i64 0),1,8):=by kernel_rfl
theorem wpList_appendI {ops:Array Oper} {rest:List Oper} {o:Oper} {a:Act} {W:World} {Q:Exit→Act→World→Prop} (hgd:o.guard = none) (s x:Operand)
  (ho:o.op = .call { callee:=.builtin .append,args:=#[s,x],argTypes:=#[215,215] }) {B m g cap:Nat} {v:Value} {xs:List Value} {n:Int}
  (hs:a.eval s = v) (hown:W.ownsRow B 3 1 v m xs) (hx:a.eval x = .slice (some ⟨g,0,none⟩) 1 cap) (hr:W.heap[g]? = some (.cells #[.int .i64 n] 3 (0,0))) (hm:m ≤ 1000) (hB:B ≤ W.heap.size)
  (h:∀ v' W',W'.ownsRow B 3 1 v' (m + 1) (xs ++ [.int .i64 n])→W.grownBy W' v.ownBlock→wpList Tryz.prog ops Q rest (a.put o.dst v') W'):wpList Tryz.prog ops Q (o :: rest) a W:=
 wpList_plain hgd fun K hK=>by
  obtain ⟨i0,hi,hz⟩:=Option.map_eq_some_iff.1 infoIntA
  simp only [Prod.mk.injEq] at hz
  obtain ⟨hz0,hz1,hz2⟩:=hz
  obtain ⟨v',W',hr2,h2,h3,_,_⟩:=run_append_own_at (P:=Tryz.prog) W B 215 o.type 3 i0 _ 1 8 Tryz.underlying215 hi hz0 hz1 hz2 rfl (by decide) v m xs hown ⟨g,0,none⟩ 1 cap [.int .i64 n] rfl (fun j u hj=>by
   rw [Addr.add_mid,Nat.zero_add]
   exact cell_of hr j (by rw [← hj]; simp)) (by intro u hu; simp at hu; subst hu; rfl) (by unfold maxLen; omega) (by omega) hB
  unfold Oper.wp execOp
  simp only [ho,resolve,invoke,builtin,Sem.run_bind,Sem.run_pure,Result.andThen_ok,List.map_toArray,List.map_cons,List.map_nil,hs,hx,hr2]
  exact hK _ _ (h v' W' h2 h3)
def nibs (m:List UInt8) (k:Nat):List Nat:=(List.range k).map (nib m)
theorem nibs_succ (m:List UInt8) (k:Nat):nibs m (k + 1) = nibs m k ++ [nib m k]:=by simp [nibs,List.range_succ]
theorem icells_snoc (l:List Nat) (n:Nat):icells (l ++ [n]) = icells l ++ [.int .i64 (n:Int)]:=by simp [icells]
theorem nib_even {m:List UInt8} {i:Nat} {x:UInt8} (h:m[i]? = some x):nib m (2 * i) = x.toNat / 16:=by
 unfold nib
 rw [if_pos (by omega),show 2 * i / 2 = i by omega,List.getD_eq_getElem?_getD,h]
 rfl
theorem nib_odd {m:List UInt8} {i:Nat} {x:UInt8} (h:m[i]? = some x):nib m (2 * i + 1) = x.toNat % 16:=by
 unfold nib
 rw [if_neg (by omega),show (2 * i + 1) / 2 = i by omega,List.getD_eq_getElem?_getD,h]
 rfl
theorem digL_three (m:List UInt8):digL m = nibs m 64 ++ [nibSum m 64 / 256] ++ [nibSum m 64 / 16 % 16] ++ [nibSum m 64 % 16]:=by
 have h:digL m = nibs m 64 ++ [dig m 64] ++ [dig m 65] ++ [dig m 66]:=by
  unfold digL nibs
  rw [show (67:Nat) = 64 + 1 + 1 + 1 from rfl,List.range_succ,List.range_succ,List.range_succ]
  simp only [List.map_append,List.map_cons,List.map_nil]
  congr 3
 have hs:=nibSum_le m 64
 rw [h]
 unfold dig
 rw [if_neg (by omega),if_neg (by omega),if_neg (by omega)]
 have e:nibSum m 64 / 16 ^ (66 - 64) % 16 = nibSum m 64 / 256:=by
  rw [show (16:Nat) ^ (66 - 64) = 256 from rfl]
  omega
 have e2:nibSum m 64 / 16 ^ (66 - 66) % 16 = nibSum m 64 % 16:=by
  rw [show (16:Nat) ^ (66 - 66) = 1 from rfl,Nat.div_one]
 rw [e,e2]
def DigR (m:List UInt8) (w:World) (v iv:Value) (wr:World):Prop:=
 ∃ i:Nat,i ≤ 32∧iv = .int .i64 (i:Int)∧wr.ownsRow w.heap.size 3 1 v (2 * i) (icells (nibs m (2 * i)))∧Below w.heap.size w wr
theorem own_formI {W:World} {B k n:Nat} {T:TypeId} {v:Value} {xs:List Value} (h:W.ownsRow B T k v n xs):∃ ao c,v = .slice ao n c:=by
 rcases h.2 with ⟨rfl,rfl⟩ | ⟨g,cap,cur,rfl,_⟩
 ·exact ⟨none,0,rfl⟩
 ·exact ⟨_,cap,rfl⟩
theorem ownI_cell {W:World} {B n:Nat} {T:TypeId} {v:Value} {xs:List Value} (h:W.ownsRow B T 1 v n xs) {i:Nat} {u:Value} (hu:xs[i]? = some u):∃ g cap,v = .slice (some ⟨g,0,none⟩) n cap∧W.cell? ⟨g,i,none⟩ = some u:=by
 rcases h.2 with ⟨rfl,rfl⟩ | ⟨g,cap,cur,rfl,_,hg,_,_,_,htk⟩
 ·have:=h.1
  rw [Nat.zero_mul] at this
  rw [List.eq_nil_of_length_eq_zero this] at hu
  simp at hu
 ·refine ⟨g,cap,rfl,cell_of hg i ?_⟩
  rw [← htk,List.getElem?_take] at hu
  split at hu
  ·rw [← Array.getElem?_toList]; exact hu
  ·cases hu
theorem ownBelowI {w w':World} {B:Nat} {e:TypeId} {size:Nat} {v:Value} {n:Nat} {xs:List Value} (h:w.ownsRow B e size v n xs) (hb:Below w.heap.size w w'):w'.ownsRow B e size v n xs:=rowKeepK h fun g hg=>hb.block g (h.lt g hg).2
theorem ownLow {w:World} {B C:Nat} {e:TypeId} {size:Nat} {v:Value} {n:Nat} {xs:List Value} (h:w.ownsRow B e size v n xs) (hC:C ≤ B):w.ownsRow C e size v n xs:=by
 refine ⟨h.1,?_⟩
 rcases h.2 with h' | ⟨g,cap,cur,rfl,hg,hh⟩
 ·exact .inl h'
 ·exact .inr ⟨g,cap,cur,rfl,Nat.le_trans hC hg,hh⟩
set_option maxHeartbeats 4000000 in
set_option maxRecDepth 100000 in
theorem r22Digits_any (m:List UInt8) (hm:m.length = 32) (w:World) :
  Calls Tryz.prog 124 #[hv m] w fun e w'=>(∃ v,e = .returned v∧w'.ownsRow w.heap.size 3 1 v 67 (icells (digL m)))∧Below w.heap.size w w':=by
 have HML:=hid hm
 go_enter Tryz.func124,Tryz.ntmps124
 go_upto_region 1 with fail
 have H2:=hid (HashAt.new w m HML.out)
 have HB:=hid (below_one w (.cells (byteCells m).toArray 23))
 have HS:=hid (show (w.alloc (.cells (byteCells m).toArray 23)).heap.size = w.heap.size + 1 by simp)
 generalize w.alloc (.cells (byteCells m).toArray 23) = w1 at *
 clear hm
 go_wp2_with fail
 go_loopw [3,5] (fun v iv wr=>DigR m w1 v iv wr) (fun _ iv _=>32 - (intOf iv).toNat)
 case atStart=>exact ⟨0,Nat.zero_le _,rfl,World.ownsRow_nil _ _ _ _,Below.refl _ _⟩
 case round=>
  obtain ⟨i,hi,rfl,hown,hbel⟩:=hrel
  rename World=>wA
  obtain ⟨ao,cp,rfl⟩:=own_formI hown
  have HO:=hid hown
  have HBE:=hid hbel
  have i0:(0:Int) ≤ (i:Int):=by omega
  by_cases hlt:i < 32
  ·have i1:(i:Int) < 32:=by omega
   have HLT:=hid hlt
   obtain ⟨x,hx⟩:∃ x,m[i]? = some x:=⟨_,List.getElem?_eq_getElem (by have:=HML.out; omega)⟩
   have HE:=hid (nib_even hx)
   have HOD:=hid (nib_odd hx)
   have hxl:=x.toNat_lt
   have HC:=hid (fun (W:World) (hW:Below w1.heap.size w1 W)=>hash_cell (H2.out.below hW) hx)
   have c0:=HC.out _ hbel
   have x0:(0:Int) ≤ (x.toNat:Int):=by omega
   have x1:(x.toNat:Int) ≤ 255:=by omega
   have xd:(x.toNat:Int) / 16 = ((x.toNat / 16:Nat):Int):=by omega
   have xm:(x.toNat:Int) % 16 = ((x.toNat % 16:Nat):Int):=by omega
   have xdt:(x.toNat:Int).tdiv 16 = ((x.toNat / 16:Nat):Int):=by rw [Int.tdiv_eq_ediv_of_nonneg x0]; exact xd
   have xmt:(x.toNat:Int).tmod 16 = ((x.toNat % 16:Nat):Int):=by rw [Int.tmod_eq_emod_of_nonneg x0]; exact xm
   have xw:IntKind.i64.wrap (x.toNat:Int) = (x.toNat:Int):=by rw [IntKind.wrap_i64]; omega
   clear hx hown hbel hlt hi
   obtain ⟨P,hP⟩:∃ P,x.toNat / 16 = P:=⟨_,rfl⟩
   obtain ⟨R,hR⟩:∃ R,x.toNat % 16 = R:=⟨_,rfl⟩
   rw [hP] at HE xd xdt
   rw [hR] at HOD xm xmt
   have P0:(0:Int) ≤ (P:Int):=by omega
   have P1:(P:Int) ≤ 255:=by omega
   have R0:(0:Int) ≤ (R:Int):=by omega
   have R1:(R:Int) ≤ 255:=by omega
   clear hP hR
   go_upto_region 7 with (refine wpList_appendI (by rfl) (.tmp 11) (.tmp 17) (by rfl) (by rfl) (ownBelowI HO.out (below_one wA (.cells #[.int .i64 (P:Int)] 3 (0,0)))) (by rfl) (heap_one wA _) (by omega) (HBE.out.alloc HBE.out.size (.cells #[.int .i64 (P:Int)] 3 (0,0))).size ?_; intro vB wB h2 h3; have HBB:=hid ((HBE.out.alloc HBE.out.size (.cells #[.int .i64 (P:Int)] 3 (0,0))).grown h3 (HBE.out.alloc HBE.out.size (.cells #[.int .i64 (P:Int)] 3 (0,0))).size (fun g hg=>(HO.out.lt g hg).1)); obtain ⟨ao2,cp2,rfl⟩:=own_formI h2; have HOB:=hid h2; clear h2 h3)
   have c0:=HC.out _ HBB.out
   go_upto_region 5 with (refine wpList_appendI (by rfl) (.tmp 19) (.tmp 25) (by rfl) (by rfl) (ownBelowI HOB.out (below_one wB (.cells #[.int .i64 (R:Int)] 3 (0,0)))) (by rfl) (heap_one wB _) (by omega) (HBB.out.alloc HBB.out.size (.cells #[.int .i64 (R:Int)] 3 (0,0))).size ?_; intro vC wC h2 h3; have HBC:=hid ((HBB.out.alloc HBB.out.size (.cells #[.int .i64 (R:Int)] 3 (0,0))).grown h3 (HBB.out.alloc HBB.out.size (.cells #[.int .i64 (R:Int)] 3 (0,0))).size (fun g hg=>(HOB.out.lt g hg).1)); have HOC:=hid h2; clear h2 h3)
   clear c0
   go_wp2_with fail
   refine ⟨⟨i + 1,HLT.out,by go_num,?_,HBC.out⟩,by have:=HLT.out; simp [intOf]; omega⟩
   rw [show 2 * (i + 1) = 2 * i + 1 + 1 by omega,nibs_succ,nibs_succ,icells_snoc,icells_snoc,HE.out,HOD.out]
   exact HOC.out
  ·obtain rfl:i = 32:=by omega
   have i1:¬ ((32:Nat):Int) < 32:=by decide
   clear hown hbel hi hlt
   have HO:=hid (show wA.ownsRow w1.heap.size 3 1 (.slice ao 64 cp) 64 (icells (nibs m 64)) from HO.out)
   go_wp2_with fail
   go_loopw [4,6] (fun sv jv wr=>∃ j:Nat,j ≤ 64∧jv = .int .i64 (j:Int)∧sv = .int .i64 ((nibSum m j:Nat):Int)∧wA = wr) (fun _ jv _=>64 - (intOf jv).toNat)
   case atStart=>exact ⟨0,Nat.zero_le _,rfl,rfl,rfl⟩
   case round=>
    obtain ⟨j,hj,rfl,rfl,rfl⟩:=hrel
    have j0:(0:Int) ≤ (j:Int):=by omega
    have hsl:=nibSum_le m j
    have s0:(0:Int) ≤ ((nibSum m j:Nat):Int):=by omega
    have s1:((nibSum m j:Nat):Int) ≤ 960:=by omega
    by_cases hlt:j < 64
    ·have j1:(j:Int) < 64:=by omega
     have hn:=nib_le m j
     obtain ⟨g,cap,he,hc⟩:=ownI_cell HO.out (i:=j) (u:=.int .i64 ((nib m j:Nat):Int)) (by unfold icells nibs; rw [List.getElem?_map,List.getElem?_map,List.getElem?_range hlt]; rfl)
     cases he
     have HLT:=hid hlt
     have HNS:=hid (show nibSum m (j + 1) = nibSum m j + (15 - nib m j) from rfl)
     obtain ⟨N,hN⟩:∃ N,nib m j = N:=⟨_,rfl⟩
     obtain ⟨T,hT⟩:∃ T,nibSum m j = T:=⟨_,rfl⟩
     rw [hN] at hn hc HNS
     rw [hT] at HNS s0 s1 ⊢
     have N0:(0:Int) ≤ (N:Int):=by omega
     have N1:(N:Int) ≤ 15:=by omega
     clear hN hT hn hlt hj hsl
     go_wp2_with fail
     refine ⟨⟨j + 1,HLT.out,by go_num,?_,by first | rfl | trivial⟩,by have:=HLT.out; simp [intOf]; omega⟩
     rw [HNS.out]
     congr 1
     omega
    ·obtain rfl:j = 64:=by omega
     have j1:¬ ((64:Nat):Int) < 64:=by decide
     have HD3:=hid (digL_three m)
     obtain ⟨T,hT⟩:∃ T,nibSum m 64 = T:=⟨_,rfl⟩
     rw [hT] at HD3 s0 s1 ⊢
     obtain ⟨a,ha⟩:∃ a,T / 256 = a:=⟨_,rfl⟩
     obtain ⟨b,hb⟩:∃ b,T / 16 % 16 = b:=⟨_,rfl⟩
     obtain ⟨c,hc⟩:∃ c,T % 16 = c:=⟨_,rfl⟩
     have d1:(T:Int) / 256 = (a:Int):=by omega
     have d1t:(T:Int).tdiv 256 = (a:Int):=by rw [Int.tdiv_eq_ediv_of_nonneg s0]; exact d1
     have d2:(T:Int) / 16 % 16 = (b:Int):=by omega
     have d20:(0:Int) ≤ (T:Int) / 16:=by omega
     have d2t:((T:Int).tdiv 16).tmod 16 = (b:Int):=by rw [Int.tdiv_eq_ediv_of_nonneg s0,Int.tmod_eq_emod_of_nonneg d20]; exact d2
     have d2u:((T:Int) / 16).tmod 16 = (b:Int):=by rw [Int.tmod_eq_emod_of_nonneg d20]; exact d2
     have d3:(T:Int) % 16 = (c:Int):=by omega
     have d3t:(T:Int).tmod 16 = (c:Int):=by rw [Int.tmod_eq_emod_of_nonneg s0]; exact d3
     rw [ha,hb,hc] at HD3
     clear ha hb hc hT hj hlt hsl
     go_upto_region 13 with (refine wpList_appendI (by rfl) (.tmp 40) (.tmp 43) (by rfl) (by rfl) (ownBelowI HO.out (below_one wA (.cells #[.int .i64 (a:Int)] 3 (0,0)))) (by rfl) (heap_one wA _) (by omega) (HBE.out.alloc HBE.out.size (.cells #[.int .i64 (a:Int)] 3 (0,0))).size ?_; intro vB wB h2 h3; have HBB:=hid ((HBE.out.alloc HBE.out.size (.cells #[.int .i64 (a:Int)] 3 (0,0))).grown h3 (HBE.out.alloc HBE.out.size (.cells #[.int .i64 (a:Int)] 3 (0,0))).size (fun g hg=>(HO.out.lt g hg).1)); obtain ⟨ao2,cp2,rfl⟩:=own_formI h2; have HOB:=hid h2; clear h2 h3)
     go_upto_region 14 with (refine wpList_appendI (by rfl) (.tmp 45) (.tmp 49) (by rfl) (by rfl) (ownBelowI HOB.out (below_one wB (.cells #[.int .i64 (b:Int)] 3 (0,0)))) (by rfl) (heap_one wB _) (by omega) (HBB.out.alloc HBB.out.size (.cells #[.int .i64 (b:Int)] 3 (0,0))).size ?_; intro vC wC h2 h3; have HBC:=hid ((HBB.out.alloc HBB.out.size (.cells #[.int .i64 (b:Int)] 3 (0,0))).grown h3 (HBB.out.alloc HBB.out.size (.cells #[.int .i64 (b:Int)] 3 (0,0))).size (fun g hg=>(HOB.out.lt g hg).1)); obtain ⟨ao3,cp3,rfl⟩:=own_formI h2; have HOC:=hid h2; clear h2 h3)
     go_wp2_with (refine wpList_appendI (by rfl) (.tmp 51) (.tmp 54) (by rfl) (by rfl) (ownBelowI HOC.out (below_one wC (.cells #[.int .i64 (c:Int)] 3 (0,0)))) (by rfl) (heap_one wC _) (by omega) (HBC.out.alloc HBC.out.size (.cells #[.int .i64 (c:Int)] 3 (0,0))).size ?_; intro vD wD h2 h3; have HBD:=hid ((HBC.out.alloc HBC.out.size (.cells #[.int .i64 (c:Int)] 3 (0,0))).grown h3 (HBC.out.alloc HBC.out.size (.cells #[.int .i64 (c:Int)] 3 (0,0))).size (fun g hg=>(HOC.out.lt g hg).1)); have HOD:=hid h2; clear h2 h3)
     go_ret
     refine ⟨⟨_,rfl,?_⟩,HB.out.trans (HBD.out.mono HB.out.size)⟩
     have h:=ownLow HOD.out (show w.heap.size ≤ w1.heap.size from HB.out.size)
     rw [HD3.out,icells_snoc,icells_snoc,icells_snoc]
     exact h
theorem wpList_sliceH {ops:Array Oper} {rest:List Oper} {o:Oper} {a:Act} {W:World} {Q:Exit→Act→World→Prop} (zl:List UInt8) (hz:∀ w:World,(zeroValue 23).run Tryz.prog w = .ok (.agg (byteCells zl).toArray) w) (hgd:o.guard = none) (x:Operand) (ho:o.op = .buildSlice 41 1 #[(0,x)])
  (H:List UInt8) (hx:a.eval x = .agg (byteCells H).toArray) (hH:H.length = 32)
  (h:wpList Tryz.prog ops Q rest (a.put o.dst (.slice (some ⟨W.heap.size,0,none⟩) 1 1)) (W.alloc (.cells (byteCells H).toArray 23))):wpList Tryz.prog ops Q (o :: rest) a W:=
 wpList_plain hgd fun K hK=>by
  have hr:=run_buildSlice_hash zl hz H hH W
  unfold Oper.wp execOp
  simp only [ho,List.map_toArray,List.map_cons,List.map_nil,hx,Sem.run_bind,hr,Result.andThen_ok,Sem.run_pure]
  exact hK _ _ h
set_option maxRecDepth 100000 in
theorem wpList_appendH {ops:Array Oper} {rest:List Oper} {o:Oper} {a:Act} {W:World} {Q:Exit→Act→World→Prop} (hgd:o.guard = none) (s x:Operand)
  (ho:o.op = .call { callee:=.builtin .append,args:=#[s,x],argTypes:=#[41,41] }) {B m g:Nat} {v:Value} {xs:List Value} {H:List UInt8}
  (hs:a.eval s = v) (hown:W.ownsRow B 23 32 v m xs) (hx:a.eval x = .slice (some ⟨g,0,none⟩) 1 1) (hH:HashAt W g H) (hm:m ≤ 1000) (hB:B ≤ W.heap.size)
  (h:∀ v' W',W'.ownsRow B 23 32 v' (m + 1) (xs ++ byteCells H)→W.grownBy W' v.ownBlock→wpList Tryz.prog ops Q rest (a.put o.dst v') W'):wpList Tryz.prog ops Q (o :: rest) a W:=
 wpList_plain hgd fun K hK=>by
  obtain ⟨z,hzl,hinf⟩:=Tryz.infoHash
  obtain ⟨i0,hi,hz⟩:=Option.map_eq_some_iff.1 hinf
  simp only [Prod.mk.injEq] at hz
  obtain ⟨hz0,hz1,hz2⟩:=hz
  obtain ⟨v',W',hr,h2,h3,_,h5⟩:=run_append_own_at (P:=Tryz.prog) W B 41 o.type 23 i0 _ 32 32 Tryz.underlying41 hi hz0 hz1 hz2 (by show (byteCells z).toArray.size = 32; rw [hz_cells]; exact hzl) (by decide) v m xs hown ⟨g,0,none⟩ 1 1 (byteCells H) (by rw [Lib.byteCells_length,hH.2]) (fun j u hj=>by
   have ha:(⟨g,0,none⟩:Addr).add j = ⟨g,j,none⟩:=by simp [Addr.add]; intro h; exact h.symm
   rw [ha]
   exact cell_of hH.1 j (by rw [List.getElem?_toArray]; exact hj)) (cells_oneC H) (by unfold maxLen; omega) (by omega) hB
  unfold Oper.wp execOp
  simp only [ho,resolve,invoke,builtin,Sem.run_bind,Sem.run_pure,Result.andThen_ok,List.map_toArray,List.map_cons,List.map_nil,hs,hx,hr]
  exact hK _ _ (h v' W' h2 h3)
def fstL (F:Nat→List UInt8) (k:Nat):List (List UInt8):=(List.range k).map F
theorem fstL_succ (F:Nat→List UInt8) (k:Nat):fstL F (k + 1) = fstL F k ++ [F k]:=by simp [fstL,List.range_succ]
theorem fstL_len (F:Nat→List UInt8) (k:Nat):(fstL F k).length = k:=by simp [fstL]
theorem fstL_32 {F:Nat→List UInt8} (hF:∀ i,(F i).length = 32) (k:Nat):∀ x ∈ fstL F k,x.length = 32:=fun x hx=>by
 simp only [fstL,List.mem_map] at hx
 obtain ⟨i,_,rfl⟩:=hx
 exact hF i
theorem hsIn_own {W:World} {B:Nat} {v:Value} {L:List (List UInt8)} (h:W.ownsRow B 23 32 v L.length (hcells L)) (hl:∀ x ∈ L,x.length = 32):HsIn W v L:=by
 refine ⟨hl,?_⟩
 rcases h.2 with ⟨rfl,h0⟩ | ⟨g,cap,cur,rfl,_,hg,hc,_,_,htk⟩
 ·refine ⟨none,0,by rw [h0],by omega,fun hne=>absurd (List.eq_nil_of_length_eq_zero h0) hne⟩
 ·refine ⟨_,cap,rfl,hc,fun _=>⟨g,0,rfl,fun j u hj=>?_⟩⟩
  rw [Nat.zero_add]
  refine cell_of hg j ?_
  rw [← htk,List.getElem?_take] at hj
  split at hj
  ·rw [← Array.getElem?_toList]; exact hj
  ·cases hj
def BelK (w0:World):Bool→World→Prop:=fun _ W=>Below w0.heap.size w0 W
theorem BelK.out {w0 W:World} {b:Bool} (h:BelK w0 b W):Below w0.heap.size w0 W:=h
def RowR (F:Nat→List UInt8) (n:Nat) (w:World) (v iv:Value) (wr:World):Prop:=
 ∃ k:Nat,k ≤ n∧iv = .int .i64 (k:Int)∧wr.ownsRow w.heap.size 23 32 v k (hcells (fstL F k))∧Below w.heap.size w wr
set_option maxHeartbeats 4000000 in
set_option maxRecDepth 100000 in
theorem r22Public_any (s:List UInt8) (hs:s.length = 32) (w:World) :
  Calls Tryz.prog 30 #[hv s] w fun e w'=>e = .returned (hv (publicF s))∧Below w.heap.size w w':=by
 obtain ⟨z32,hz32,hzs⟩:=z32_ex2
 obtain ⟨zl,hzll,hzl⟩:=zeroHash
 have HZL:=hid hzl
 have HSL:=hid hs
 have HZS:=hid hzs
 obtain ⟨F,hF⟩:∃ F:Nat→List UInt8,F = fun i=>chainF 15 (beginF s i):=⟨_,rfl⟩
 have HF32:=hid (show ∀ i,(F i).length = 32 by intro i; rw [hF]; exact chainF_len 15 _ (beginF_len s i))
 have HFE:=hid (show publicF s = endF (fstL F 67) by rw [hF]; rfl)
 have HON:=hid (fun (i:Nat) (W:World)=>(by
  have h:=r22On_any 15 (by decide) (beginF s i) (beginF_len s i) W
  rw [show chainF 15 (beginF s i) = F i by rw [hF]] at h
  exact h:Calls Tryz.prog 63 #[hv (beginF s i),.int .i64 15] W fun e w'=>e = .returned (hv (F i))∧Below W.heap.size W w'))
 clear hzl hs hzs hF
 go_enter Tryz.func30,Tryz.ntmps30
 go_upto_region 1 with fail
 have h2:=HashAt.new w s HSL.out
 have hb2:=below_one w (.cells (byteCells s).toArray 23)
 have hs2:(w.alloc (.cells (byteCells s).toArray 23)).heap.size = w.heap.size + 1:=by simp
 generalize w.alloc (.cells (byteCells s).toArray 23) = w2 at *
 have h4:=HashAt.new w2 z32 HZS.out
 have hb4:=below_one w2 (.cells (byteCells z32).toArray 23)
 rw [hs2] at h4
 have H2:=hid (h2.below hb4)
 have H4:=hid h4
 have HB:=hid (hb2.trans (hb4.mono hb2.size))
 generalize w2.alloc (.cells (byteCells z32).toArray 23) = wo at *
 have HG4:=hid (Nat.le_succ w.heap.size)
 clear h2 hb2 hs2 h4 hb4 hz32
 go_wp2_with fail
 go_loopw [3,4] (fun v iv wr=>RowR F 67 wo v iv wr) (fun _ iv _=>67 - (intOf iv).toNat)
 case atStart=>exact ⟨0,Nat.zero_le _,rfl,World.ownsRow_nil _ _ _ _,Below.refl _ _⟩
 case round=>
  obtain ⟨i,hi,rfl,hown,hbel⟩:=hrel
  rename World=>wA
  obtain ⟨ao,cp,rfl⟩:=own_formI hown
  have HO:=hid hown
  have HBE:=hid hbel
  have i0:(0:Int) ≤ (i:Int):=by omega
  by_cases hlt:i < 67
  ·have i1:(i:Int) < 67:=by omega
   have HLT:=hid hlt
   have HSA:=hid (H2.out.below hbel)
   have HBG:=hid (r22Begin_any i hlt s HSL.out wA)
   have HONI:=hid (HON.out i)
   have HFL:=hid (HF32.out i)
   have HNX:=hid (fstL_succ F i)
   obtain ⟨b,hb⟩:∃ b,beginF s i = b:=⟨_,rfl⟩
   rw [hb] at HBG HONI
   obtain ⟨f,hf⟩:∃ f,F i = f:=⟨_,rfl⟩
   rw [hf] at HONI HFL HNX
   clear hown hbel hlt hi hb hf
   go_upto_region 4 with (first | (refine wpList_ldH (by rfl) (.tmp 1) (by rfl) (by rfl) HSA.out ?_) | (go_at_call 64; refine HBG.out.mono ?_; rintro e wB ⟨rfl,hbB⟩; have HBB:=hid (HBE.out.trans (hbB.mono HBE.out.size)); have HOB:=hid (ownBelowI HO.out hbB); clear hbB) | (go_at_call 63; refine (HONI.out _).mono ?_; rintro e wC ⟨rfl,hbC⟩; have HBC:=hid (HBB.out.trans (hbC.mono HBB.out.size)); have HOC:=hid (ownBelowI HOB.out hbC); clear hbC) | (refine wpList_sliceH zl HZL.out (by rfl) (.tmp 13) (by rfl) f (by rfl) HFL.out ?_) | (refine wpList_appendH (by rfl) (.tmp 9) (.tmp 14) (by rfl) (by rfl) (ownBelowI HOC.out (below_one wC _)) (by rfl) (HashAt.new wC f HFL.out) (by omega) (HBC.out.alloc HBC.out.size (.cells (byteCells f).toArray 23 (0,0))).size ?_; intro vD wD h2 h3; have HBD:=hid ((HBC.out.alloc HBC.out.size (.cells (byteCells f).toArray 23 (0,0))).grown h3 (HBC.out.alloc HBC.out.size (.cells (byteCells f).toArray 23 (0,0))).size (fun g hg=>(HOC.out.lt g hg).1)); have HOD:=hid h2; clear h2 h3))
   go_wp2_with fail
   refine ⟨⟨i + 1,HLT.out,by go_num,?_,HBD.out⟩,by have:=HLT.out; simp [intOf]; omega⟩
   rw [HNX.out,hcells_snoc]
   exact HOD.out
  ·obtain rfl:i = 67:=by omega
   have i1:¬ ((67:Nat):Int) < 67:=by decide
   have HIN:=hid (hsIn_own (L:=fstL F 67) (by rw [fstL_len]; exact hown) (fstL_32 HF32.out 67))
   have HCL:=hid (r22Close_any (fstL F 67) _ wA HIN.out (by rw [fstL_len]; decide))
   rw [← HFE.out] at HCL
   have HEL:=hid (publicF_len s)
   have HZ:=hid (H4.out.below hbel)
   have HBW:=hid (HB.out.trans (hbel.mono HB.out.size))
   clear hown hbel hi hlt
   go_wp2_with (first | (go_at_call 65; refine HCL.out.mono ?_; rintro e wy ⟨rfl,hbg⟩) | (refine wpList_stH (by rfl) (.tmp 2) (.tmp 17) (by rfl) (by rfl) (by rfl) (HZ.out.below hbg) HEL.out ?_))
   have HRE:=hid ((HZ.out.below hbg).set HEL.out)
   have HBR:=hid (below_setRow (HBW.out.trans (hbg.mono HBW.out.size)) HG4.out (byteCells (publicF s)).toArray)
   generalize wy.setRow (w.heap.size + 1) (byteCells (publicF s)).toArray = wJ at *
   go_wp2_with fail
   exact bodyPost_ret (results_H rfl _ _ _ _ rfl HRE.out) rfl ⟨rfl,HBR.out⟩
set_option maxHeartbeats 4000000 in
set_option maxRecDepth 100000 in
theorem r22Sign_any (s m:List UInt8) (hs:s.length = 32) (hm:m.length = 32) (w:World) :
  Calls Tryz.prog 87 #[hv s,hv m] w fun e w'=>(∃ v,e = .returned v∧w'.ownsRow w.heap.size 23 32 v 67 (hcells (signF s m)))∧Below w.heap.size w w':=by
 obtain ⟨zl,hzll,hzl⟩:=zeroHash
 have HZL:=hid hzl
 have HSL:=hid hs
 have HML:=hid hm
 obtain ⟨D,hD⟩:∃ D:Nat→Nat,D = dig m:=⟨_,rfl⟩
 obtain ⟨F,hF⟩:∃ F:Nat→List UInt8,F = fun i=>chainF (D i) (beginF s i):=⟨_,rfl⟩
 have HF32:=hid (show ∀ i,(F i).length = 32 by intro i; rw [hF]; exact chainF_len _ _ (beginF_len s i))
 have HFE:=hid (show signF s m = fstL F 67 by rw [hF,hD]; rfl)
 have HDL:=hid (show digL m = (List.range 67).map D by rw [hD]; rfl)
 have HD15:=hid (show ∀ i,D i ≤ 15 by intro i; rw [hD]; exact dig_le m i)
 have HON:=hid (fun (i:Nat) (W:World)=>(by
  have h:=r22On_any (D i) (by have:=HD15.out i; omega) (beginF s i) (beginF_len s i) W
  rw [show chainF (D i) (beginF s i) = F i by rw [hF]] at h
  exact h:Calls Tryz.prog 63 #[hv (beginF s i),.int .i64 ((D i:Nat):Int)] W fun e w'=>e = .returned (hv (F i))∧Below W.heap.size W w'))
 clear hzl hs hm hF hD
 go_enter Tryz.func87,Tryz.ntmps87
 go_upto_region 1 with fail
 have h2:=HashAt.new w s HSL.out
 have hb2:=below_one w (.cells (byteCells s).toArray 23)
 have hs2:(w.alloc (.cells (byteCells s).toArray 23)).heap.size = w.heap.size + 1:=by simp
 generalize w.alloc (.cells (byteCells s).toArray 23) = w2 at *
 have h4:=HashAt.new w2 m HML.out
 have hb4:=below_one w2 (.cells (byteCells m).toArray 23)
 rw [hs2] at h4
 have H2:=hid (h2.below hb4)
 have H4:=hid h4
 have HB:=hid (hb2.trans (hb4.mono hb2.size))
 generalize w2.alloc (.cells (byteCells m).toArray 23) = wo at *
 clear h2 hb2 hs2 h4 hb4
 go_upto_region 2 with (first | (refine wpList_ldH (by rfl) (.tmp 3) (by rfl) (by rfl) H4.out ?_) | (go_at_call 124; refine (r22Digits_any m HML.out wo).mono ?_; rintro e wd ⟨⟨dv,rfl,hdv⟩,hbd⟩; have HDV:=hid hdv; have HBD0:=hid (HB.out.trans (hbd.mono HB.out.size)); have HSD:=hid (H2.out.below hbd); clear hdv hbd))
 rw [HDL.out] at HDV
 obtain ⟨dao,dcp,rfl⟩:=own_formI HDV.out
 go_wp2_with fail
 go_loopw [6,7] (fun v iv wr=>RowR F 67 wd v iv wr) (fun _ iv _=>67 - (intOf iv).toNat)
 case atStart=>exact ⟨0,Nat.zero_le _,rfl,World.ownsRow_nil _ _ _ _,Below.refl _ _⟩
 case round=>
  obtain ⟨i,hi,rfl,hown,hbel⟩:=hrel
  rename World=>wA
  obtain ⟨ao,cp,rfl⟩:=own_formI hown
  have i0:(0:Int) ≤ (i:Int):=by omega
  by_cases hlt:i < 67
  ·have i1:(i:Int) < 67:=by omega
   have HLT:=hid hlt
   have hdr:=Below.drew (Below.refl wA.heap.size wA)
   have hbD:=hbel.trans (hdr.mono hbel.size)
   have HOD:=hid (ownBelowI hown hdr)
   have HBD:=hid hbD
   obtain ⟨gd,cd,he,hcd⟩:=ownI_cell HDV.out (i:=i) (u:=.int .i64 ((D i:Nat):Int)) (by unfold icells; rw [List.getElem?_map,List.getElem?_map,List.getElem?_range hlt]; rfl)
   cases he
   have HCD:=hid hcd
   have HBG:=hid (r22Begin_any i hlt s HSL.out)
   have HONI:=hid (HON.out i)
   have HFL:=hid (HF32.out i)
   have HNX:=hid (fstL_succ F i)
   obtain ⟨b,hb⟩:∃ b,beginF s i = b:=⟨_,rfl⟩
   rw [hb] at HBG HONI
   obtain ⟨f,hf⟩:∃ f,F i = f:=⟨_,rfl⟩
   rw [hf] at HONI HFL HNX
   clear hown hbel hlt hi hb hf hdr hbD hcd
   go_wp2_with fail
   refine wp_region_till 100 (BelK wd) (by kernel_rfl) HBD.out (fun hHeld=>?_)
   refine wT (i:=0) (v:=.slice ao i cp) rfl (Or.inl ⟨by rfl,fun w _=>?_⟩) hHeld ?_
   ·go_simp
   simp only [List.getElem_toArray,List.getElem_cons_zero,Act.put,List.setIfInBounds_toArray,List.set_cons_zero,List.set_cons_succ]
   refine wT (i:=1) (v:=hv s) rfl (yieldsIf_load_mid (by rfl) 23 (.tmp 2) (by rfl) w.heap.size 0 (by rfl) (byteCells s) _ (fun W ⟨_,h⟩=>(HSD.out.below (BelK.out h)).range) Tryz.underlying23 rfl (by rw [Lib.byteCells_length,HSL.out]; exact hashInfo)) hHeld ?_
   simp only [List.getElem_toArray,List.getElem_cons_succ,List.getElem_cons_zero,Act.put,List.setIfInBounds_toArray,List.set_cons_zero,List.set_cons_succ]
   refine wT (i:=2) (v:=.int .i64 (i:Int)) rfl (Or.inl ⟨by rfl,fun w _=>?_⟩) hHeld ?_
   ·go_simp
   simp only [List.getElem_toArray,List.getElem_cons_succ,List.getElem_cons_zero,Act.put,List.setIfInBounds_toArray,List.set_cons_zero,List.set_cons_succ]
   refine wT (i:=4) (v:=.slice (some ⟨gd,0,none⟩) 67 dcp) rfl (Or.inl ⟨by rfl,fun w _=>?_⟩) hHeld ?_
   ·go_simp
   simp only [List.getElem_toArray,List.getElem_cons_succ,List.getElem_cons_zero,Act.put,List.setIfInBounds_toArray,List.set_cons_zero,List.set_cons_succ]
   refine wT (i:=5) (v:=.int .i64 (i:Int)) rfl (Or.inl ⟨by rfl,fun w _=>?_⟩) hHeld ?_
   ·go_simp
   simp only [List.getElem_toArray,List.getElem_cons_succ,List.getElem_cons_zero,Act.put,List.setIfInBounds_toArray,List.set_cons_zero,List.set_cons_succ]
   refine wT (i:=6) (v:=.pointer (some ⟨gd,i,none⟩)) rfl (Or.inl ⟨by rfl,fun w _=>?_⟩) hHeld ?_
   ·go_simp
   simp only [List.getElem_toArray,List.getElem_cons_succ,List.getElem_cons_zero,Act.put,List.setIfInBounds_toArray,List.set_cons_zero,List.set_cons_succ]
   refine wT (i:=7) (v:=.int .i64 ((D i:Nat):Int)) rfl (Or.inl ⟨by rfl,fun w hSw=>?_⟩) hHeld ?_
   ·obtain ⟨_,hb⟩:=hSw; have c:=below_cell (BelK.out hb) HCD.out
    go_simp
   simp only [List.getElem_toArray,List.getElem_cons_succ,List.getElem_cons_zero,Act.put,List.setIfInBounds_toArray,List.set_cons_zero,List.set_cons_succ]
   refine wpAnyT_ready (rs:=[3]) (by kernel_rfl) (by simp) ?_
   refine AllReadyT.cons false rfl (by kernel_rfl) (fun K hK=>?_) AllReadyT.nil
   go_simp
   refine (HBG.out _).mono ?_
   rintro e wB ⟨rfl,hy⟩
   have HOB:=hid (ownBelowI HOD.out hy)
   go_wp2_with fail
   have hy:=(BelK.out hHeld).trans (hy.mono (BelK.out hHeld).size)
   refine hK.out _ _ hy (fun hHeld=>?_)
   clear hy
   clear hK K
   refine wpAnyT_ready (rs:=[8]) (by kernel_rfl) (by simp) ?_
   refine AllReadyT.cons false rfl (by kernel_rfl) (fun K hK=>?_) AllReadyT.nil
   go_simp
   refine (HONI.out _).mono ?_
   rintro e wC ⟨rfl,hy⟩
   have HOC:=hid (ownBelowI HOB.out hy)
   go_wp2_with fail
   have hy:=(BelK.out hHeld).trans (hy.mono (BelK.out hHeld).size)
   have HBC:=hid hy
   refine hK.out _ _ hy (fun hHeld=>?_)
   clear hy
   clear hK K
   refine wpAnyT_ready (rs:=[9]) (by kernel_rfl) (by simp) ?_
   refine AllReadyT.cons false rfl (by kernel_rfl) (fun K hK=>?_) AllReadyT.nil
   refine step_buildHash zl HZL.out (by rfl) (.tmp 22) (by rfl) f (by rfl) HFL.out ?_
   have hy:=(BelK.out hHeld).alloc (BelK.out hHeld).size (.cells (byteCells f).toArray 23)
   refine hK.out _ _ hy (fun hHeld=>?_)
   clear hy
   clear hK K
   refine wpAnyT_ready (rs:=[10]) (by kernel_rfl) (by simp) ?_
   refine AllReadyT.cons false rfl (by kernel_rfl) (fun K hK=>?_) AllReadyT.nil
   refine step_append_hash (by rfl) (.tmp 14) (.tmp 23) (by rfl) (by rfl) (ownBelowI HOC.out (below_one wC _)) (by rfl) (HashAt.new wC f HFL.out) (by omega) (HBC.out.alloc HBC.out.size (.cells (byteCells f).toArray 23 (0,0))).size ?_
   intro vD wD h2 h3 _
   have HBE2:=hid ((HBC.out.alloc HBC.out.size (.cells (byteCells f).toArray 23 (0,0))).grown h3 (HBC.out.alloc HBC.out.size (.cells (byteCells f).toArray 23 (0,0))).size (fun g hg=>(HOC.out.lt g hg).1))
   have HOE:=hid h2
   clear h2 h3
   refine hK.out _ _ HBE2.out (fun hHeld=>?_)
   clear hK K
   refine wT (i:=11) (v:=vD) rfl (Or.inl ⟨by rfl,fun w _=>?_⟩) hHeld ?_
   ·go_simp
   simp only [List.getElem_toArray,List.getElem_cons_succ,List.getElem_cons_zero,Act.put,List.setIfInBounds_toArray,List.set_cons_zero,List.set_cons_succ]
   refine wpAnyT_done (by kernel_rfl) ?_ _
   go_wp2_with fail
   refine ⟨⟨i + 1,HLT.out,by go_num,?_,HBE2.out⟩,by have:=HLT.out; simp [intOf]; omega⟩
   rw [HNX.out,hcells_snoc]
   exact HOE.out
  ·obtain rfl:i = 67:=by omega
   have i1:¬ ((67:Nat):Int) < 67:=by decide
   have HO:=hid hown
   have HBE:=hid (HBD0.out.trans (hbel.mono HBD0.out.size))
   clear hown hbel hlt hi
   go_wp2_with fail
   go_ret
   refine ⟨⟨_,rfl,?_⟩,HBE.out⟩
   rw [HFE.out]
   exact ownLow HO.out HBD0.out.size
end Go.Proofs.YticlgcfodlcpcaaGreatDoor
