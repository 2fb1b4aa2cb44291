/- cartularyref05. -/
import Derived.Test.YticlgcfodlcpcaaGreatDoorNRef3
import Derived.Test.YticlgcfodlcpcaaGreatDoorRefFH
import Derived.Test.YticlgcfodlcpcaaGreatDoorNoteP
import Derived.Test.YticlgcfodlcpcaaGreatDoorNKeys
namespace Go.Proofs.YticlgcfodlcpcaaGreatDoor
open Go.Lib (hid byteCells)
open Go.RowKit
set_option maxRecDepth 100000 in
theorem make4 (W:World):(Instr.makeSlice 117 (.int .i64 4) (.int .i64 4)).run Tryz.prog W = .ok (.slice (some ⟨W.heap.size,0,none⟩) 4 4) (W.alloc (.cells #[.int .u8 0,.int .u8 0,.int .u8 0,.int .u8 0] 5)):=by kernel_rfl
def fixC (n:Nat) (k:Nat):Array Value:=#[.int .u8 0,.int .u8 0,.int .u8 0,.int .u8 (if k = 0 then 0 else (n:Int))]
def FixR (n:Nat) (g:Nat) (w:World) (nv iv:Value) (wr:World):Prop:=
 ∃ k:Nat,k ≤ 4∧iv = .int .i64 (3 - (k:Int))∧nv = .int .u64 (if k = 0 then (n:Int) else 0)∧wr.heap[g]? = some (.cells (fixC n k) 5 (0,0))∧faultRow wr w.heap.size 0 0∧Below w.heap.size w wr
set_option maxHeartbeats 4000000 in
set_option maxRecDepth 100000 in
theorem r2Fixed_any (n:Nat) (hn:n < 256) (w:World) :
  Calls Tryz.prog 107 #[.int .u64 (n:Int),.int .i64 4] w fun e w'=>e = .returned (.tuple #[.string ⟨(be4 n).toArray⟩,.agg #[.int .i64 0,.int .i64 0]])∧Below w.heap.size w w':=by
 have n0:(0:Int) ≤ (n:Int):=by omega
 have n1:(n:Int) < 256:=by omega
 have n2:(n:Int) % 256 = (n:Int):=by omega
 have n3:(n:Int) / 256 = 0:=by omega
 have n4:IntKind.u8.wrap (n:Int) = (n:Int):=by rw [IntKind.wrap_u8]; omega
 have n5:IntKind.u8.wrap 0 = 0:=by rw [IntKind.wrap_u8]; rfl
 have hcs:byteCells [0,0,0,UInt8.ofNat n] = [.int .u8 0,.int .u8 0,.int .u8 0,.int .u8 (n:Int)]:=by
  simp [byteCells]
  omega
 have HCS:=hid hcs
 have HBE:=hid (be4_small n hn)
 have hmk:=make4
 clear hcs hn
 go_enter Tryz.func107,Tryz.ntmps107
 go_upto_region 4 with fail
 have HF0:=hid ((fW_row w).below (below_one (fW w) (.cells #[.int .u8 0,.int .u8 0,.int .u8 0,.int .u8 0] 5)))
 have HB0:=hid (fW_below (below_one (fW w) (.cells #[.int .u8 0,.int .u8 0,.int .u8 0,.int .u8 0] 5)))
 have HR0:=hid (heap_one (fW w) (.cells #[.int .u8 0,.int .u8 0,.int .u8 0,.int .u8 0] 5 (0,0)))
 have hsz:=fW_size w
 rw [hsz] at HR0
 have hfw:w.alloc (.cells #[.int .i64 0,.int .i64 0] 38) = fW w:=rfl
 simp only [hfw,hsz] at *
 generalize (fW w).alloc (.cells #[.int .u8 0,.int .u8 0,.int .u8 0,.int .u8 0] 5) = w1 at *
 clear hmk hfw hsz
 go_wp2_with fail
 go_loopw [0,7] (fun nv iv wr=>FixR n (w.heap.size + 1) w nv iv wr) (fun _ iv _=>(intOf iv + 1).toNat)
 case atStart=>exact ⟨0,by decide,rfl,rfl,HR0.out,HF0.out,HB0.out⟩
 case round=>
  obtain ⟨k,hk,rfl,rfl,hrow,hft,hbel⟩:=hrel
  rename World=>wA
  have HRW:=hid hrow
  have HFT:=hid hft
  have HBE2:=hid hbel
  clear hrow hft hbel
  have hcl:=HRW.out
  match k,hk with
  | 0,_=>
   have c3:=cell_of hcl 3 (v:=.int .u8 0) rfl
   have f3:=frozen_row hcl 3
   clear hcl
   go_wp2_with fail
   refine ⟨⟨1,by decide,rfl,rfl,?_,?_,HBE2.out.setCell (p:=⟨w.heap.size + 1,3,none⟩) (by simp) _⟩,by simp [intOf]⟩
   ·have h:=heap_setCell_same wA (w.heap.size + 1) 3 _ _ (.int .u8 (n:Int)) HRW.out
    exact h
   ·exact (Below.heap_setCell wA ⟨w.heap.size + 1,3,none⟩ _ w.heap.size (by simp)).trans HFT.out
  | 1,_=>
   have c2:=cell_of hcl 2 (v:=.int .u8 0) rfl
   have f2:=frozen_row hcl 2
   clear hcl
   go_wp2_with fail
   refine ⟨⟨2,by decide,rfl,rfl,?_,?_,HBE2.out.setCell (p:=⟨w.heap.size + 1,2,none⟩) (by simp) _⟩,by simp [intOf]⟩
   ·have h:=heap_setCell_same wA (w.heap.size + 1) 2 _ _ (.int .u8 0) HRW.out
    exact h
   ·exact (Below.heap_setCell wA ⟨w.heap.size + 1,2,none⟩ _ w.heap.size (by simp)).trans HFT.out
  | 2,_=>
   have c1:=cell_of hcl 1 (v:=.int .u8 0) rfl
   have f1:=frozen_row hcl 1
   clear hcl
   go_wp2_with fail
   refine ⟨⟨3,by decide,rfl,rfl,?_,?_,HBE2.out.setCell (p:=⟨w.heap.size + 1,1,none⟩) (by simp) _⟩,by simp [intOf]⟩
   ·have h:=heap_setCell_same wA (w.heap.size + 1) 1 _ _ (.int .u8 0) HRW.out
    exact h
   ·exact (Below.heap_setCell wA ⟨w.heap.size + 1,1,none⟩ _ w.heap.size (by simp)).trans HFT.out
  | 3,_=>
   have c0:=cell_of hcl 0 (v:=.int .u8 0) rfl
   have f0:=frozen_row hcl 0
   clear hcl
   go_wp2_with fail
   refine ⟨⟨4,by decide,rfl,rfl,?_,?_,HBE2.out.setCell (p:=⟨w.heap.size + 1,0,none⟩) (by simp) _⟩,by simp [intOf]⟩
   ·have h:=heap_setCell_same wA (w.heap.size + 1) 0 _ _ (.int .u8 0) HRW.out
    exact h
   ·exact (Below.heap_setCell wA ⟨w.heap.size + 1,0,none⟩ _ w.heap.size (by simp)).trans HFT.out
  | 4,_=>
   have hc2:(convert 117 9 (.slice (some ⟨w.heap.size + 1,0,none⟩) 4 4)).run Tryz.prog wA = .ok (.string ⟨#[0,0,0,UInt8.ofNat n]⟩) wA:=by
    refine conv_range (l:=[0,0,0,UInt8.ofNat n]) 4 fun j v hv=>?_
    rw [HCS.out] at hv
    rw [Nat.zero_add]
    exact cell_of hcl j (by rw [← List.getElem?_toArray] at hv; exact hv)
   obtain ⟨d0,d1,g0,g1⟩:=HFT.out.cells
   clear hcl
   go_wp2_with fail
   refine ret_told rfl w.heap.size 0 0 (.string ⟨#[0,0,0,UInt8.ofNat n]⟩) (fault_set HFT.out _ _) rfl rfl rfl ⟨by rw [HBE.out],end_below HBE2.out 0 0⟩
  | k + 5,hk=>exact absurd hk (by omega)
set_option maxHeartbeats 1000000 in
set_option maxRecDepth 100000 in
theorem r23four_any (i:Nat) (hi:i < 256) (w:World) :
  Calls Tryz.prog 67 #[.int .i64 (i:Int)] w fun e w'=>e = .returned (.string ⟨(be4 i).toArray⟩)∧Below w.heap.size w w':=by
 have i0:(0:Int) ≤ (i:Int):=by omega
 have i1:(i:Int) < 256:=by omega
 have w1:IntKind.u64.wrap (i:Int) = (i:Int):=by rw [IntKind.wrap_u64]; omega
 have HFX:=hid (r2Fixed_any i hi w)
 clear hi
 go_enter Tryz.func67,Tryz.ntmps67
 go_wp2_with (go_at_call 107; refine HFX.out.mono ?_; rintro e w2 ⟨rfl,hb2⟩; have HB2:=hid hb2; clear hb2)
 go_ret
 exact ⟨rfl,(HB2.out.alloc HB2.out.size _)⟩
set_option maxHeartbeats 1000000 in
set_option maxRecDepth 100000 in
theorem r23Secret_any (i:Nat) (hi:i < 256) (s:List UInt8) (hs:s.length = 32) (w:World) :
  Calls Tryz.prog 31 #[hv s,.int .i64 (i:Int)] w fun e w'=>e = .returned (hv (ownF s i))∧Below w.heap.size w w':=by
 obtain ⟨z32,hz32,hzs⟩:=z32_ex2
 have HSL:=hid hs
 have HZS:=hid hzs
 have HFO:=hid (r23four_any i hi)
 have HBL:=hid (show (ownF s i).length = 32 from shaL_len _)
 have h4:(be4 i).length = 4:=rfl
 obtain ⟨B4,hB4⟩:∃ B,be4 i = B:=⟨_,rfl⟩
 have HO:=hid (show ownF s i = shaL (5 :: (s ++ B4)) by rw [← hB4]; rfl)
 rw [hB4] at HFO h4
 have HSM:=hid (fun (W:World)=>(by
  have h:=rsumB (⟨#[5]⟩ ++ ⟨s.toArray⟩ ++ ⟨B4.toArray⟩) (5 :: (s ++ B4)) (by simp [ByteArray.data_append]) (by simp [HSL.out,h4]) W
  rw [← HO.out] at h
  exact h:Calls Tryz.prog 66 #[.string (⟨#[5]⟩ ++ ⟨s.toArray⟩ ++ ⟨B4.toArray⟩)] W fun e w'=>e = .returned (hv (ownF s i))∧Below W.heap.size W w'))
 have q1:¬ 9223372036854775807 < 1 + s.length:=by omega
 have q2:¬ 9223372036854775807 < 1 + s.length + B4.length:=by omega
 obtain ⟨B,hB⟩:∃ B,ownF s i = B:=⟨_,rfl⟩
 rw [hB] at HSM HBL
 have HBEQ:=hid hB
 clear hs hzs hi hB4 hB
 go_enter Tryz.func31,Tryz.ntmps31
 go_upto_region 1 with fail
 have h2:=HashAt.new w s HSL.out
 have hb2:=below_one w (.cells (byteCells s).toArray 23)
 have hs2:(w.alloc (.cells (byteCells s).toArray 23)).heap.size = w.heap.size + 1:=by simp
 generalize w.alloc (.cells (byteCells s).toArray 23) = w2 at *
 have h4:=HashAt.new w2 z32 HZS.out
 have hb4:=below_one w2 (.cells (byteCells z32).toArray 23)
 rw [hs2] at h4
 have H2:=hid (h2.below hb4)
 have H4:=hid h4
 have HB:=hid (hb2.trans (hb4.mono hb2.size))
 generalize w2.alloc (.cells (byteCells z32).toArray 23) = wo at *
 have HG4:=hid (Nat.le_succ w.heap.size)
 clear h2 hb2 hs2 h4 hb4 hz32
 go_wp2_with (first | (refine wpList_ldH (by rfl) (.tmp 2) (by rfl) (by rfl) H2.out ?_) | (go_at_call 62; refine (r5Bytes_any s HSL.out wo).mono ?_; rintro e wA ⟨rfl,hbA⟩; have HBA:=hid (HB.out.trans (hbA.mono HB.out.size)); have H4A:=hid (H4.out.below hbA); clear hbA) | (go_at_call 67; refine (HFO.out wA).mono ?_; rintro e wB ⟨rfl,hbB⟩; have HBB:=hid (HBA.out.trans (hbB.mono HBA.out.size)); have H4B:=hid (H4A.out.below hbB); clear hbB) | (go_at_call 66; refine (HSM.out wB).mono ?_; rintro e wC ⟨rfl,hbC⟩; have HBC:=hid (HBB.out.trans (hbC.mono HBB.out.size)); have H4C:=hid (H4B.out.below hbC); clear hbC) | (refine wpList_stH (by rfl) (.tmp 4) (.tmp 11) (by rfl) (by rfl) (by rfl) H4C.out HBL.out ?_))
 have HE:=hid (H4C.out.set HBL.out)
 have HBE:=hid (below_setRow HBC.out HG4.out (byteCells B).toArray)
 generalize wC.setRow (w.heap.size + 1) (byteCells B).toArray = wJ at *
 go_wp2_with fail
 exact bodyPost_ret (results_H rfl _ _ _ _ rfl HE.out) rfl ⟨by rw [HBEQ.out],HBE.out⟩
set_option maxHeartbeats 1000000 in
set_option maxRecDepth 100000 in
theorem r23Message_any (i:Nat) (hi:i < 256) (t:List UInt8) (ht:t.length ≤ 35184372088000) (w:World) :
  Calls Tryz.prog 88 #[.int .i64 (i:Int),.string ⟨t.toArray⟩] w fun e w'=>e = .returned (hv (msgF i t))∧Below w.heap.size w w':=by
 obtain ⟨z32,hz32,hzs⟩:=z32_ex2
 have HZS:=hid hzs
 have HFO:=hid (r23four_any i hi)
 have HBL:=hid (show (msgF i t).length = 32 from shaL_len _)
 have h4:(be4 i).length = 4:=rfl
 obtain ⟨B4,hB4⟩:∃ B,be4 i = B:=⟨_,rfl⟩
 have HO:=hid (show msgF i t = shaL (6 :: (B4 ++ t)) by rw [← hB4]; rfl)
 rw [hB4] at HFO h4
 have HSM:=hid (fun (W:World)=>(by
  have h:=rsumB (⟨#[6]⟩ ++ ⟨B4.toArray⟩ ++ ⟨t.toArray⟩) (6 :: (B4 ++ t)) (by simp [ByteArray.data_append]) (by simp [h4]; omega) W
  rw [← HO.out] at h
  exact h:Calls Tryz.prog 66 #[.string (⟨#[6]⟩ ++ ⟨B4.toArray⟩ ++ ⟨t.toArray⟩)] W fun e w'=>e = .returned (hv (msgF i t))∧Below W.heap.size W w'))
 have q1:¬ 9223372036854775807 < 1 + B4.length:=by omega
 have q2:¬ 9223372036854775807 < 1 + B4.length + t.length:=by omega
 obtain ⟨B,hB⟩:∃ B,msgF i t = B:=⟨_,rfl⟩
 rw [hB] at HSM HBL
 have HBEQ:=hid hB
 clear hzs hi hB4 hB ht
 go_enter Tryz.func88,Tryz.ntmps88
 go_upto_region 1 with fail
 have H4:=hid (HashAt.new w z32 HZS.out)
 have HB:=hid (below_one w (.cells (byteCells z32).toArray 23))
 generalize w.alloc (.cells (byteCells z32).toArray 23) = wo at *
 clear hz32
 go_wp2_with (first | (go_at_call 67; refine (HFO.out wo).mono ?_; rintro e wB ⟨rfl,hbB⟩; have HBB:=hid (HB.out.trans (hbB.mono HB.out.size)); have H4B:=hid (H4.out.below hbB); clear hbB) | (go_at_call 66; refine (HSM.out wB).mono ?_; rintro e wC ⟨rfl,hbC⟩; have HBC:=hid (HBB.out.trans (hbC.mono HBB.out.size)); have H4C:=hid (H4B.out.below hbC); clear hbC) | (refine wpList_stH (by rfl) (.tmp 4) (.tmp 10) (by rfl) (by rfl) (by rfl) H4C.out HBL.out ?_))
 have HE:=hid (H4C.out.set HBL.out)
 have HBE:=hid (below_setRow HBC.out (Nat.le_refl _) (byteCells B).toArray)
 generalize wC.setRow w.heap.size (byteCells B).toArray = wJ at *
 go_wp2_with fail
 exact bodyPost_ret (results_H rfl _ _ _ _ rfl HE.out) rfl ⟨by rw [HBEQ.out],HBE.out⟩
set_option maxHeartbeats 1000000 in
set_option maxRecDepth 100000 in
theorem r5LeafText_any (s:ByteArray) (hs:s.size ≤ 35184372088000) (w:World) :
  Calls Tryz.prog 100 #[.string s] w fun e w'=>e = .returned (.string (⟨#[0]⟩ ++ s))∧w = w':=by
 have q1:¬ 9223372036854775807 < 1 + s.size:=by omega
 go_enter Tryz.func100,Tryz.ntmps100
 go_wp2_with fail
 go_ret
 exact ⟨rfl,rfl⟩
set_option maxHeartbeats 1000000 in
set_option maxRecDepth 100000 in
theorem r5Leaf_any (s:ByteArray) (hs:s.size ≤ 35184372088000) (w:World) :
  Calls Tryz.prog 61 #[.string s] w fun e w'=>e = .returned (hv (shaL (0 :: s.data.toList)))∧Below w.heap.size w w':=by
 obtain ⟨z32,hz32,hzs⟩:=z32_ex2
 have HZS:=hid hzs
 have HLT:=hid (r5LeafText_any s hs)
 have HBL:=hid (show (shaL (0 :: s.data.toList)).length = 32 from shaL_len _)
 have hsz:=size_list s
 have HSM:=hid (fun (W:World)=>rsumB (⟨#[0]⟩ ++ s) (0 :: s.data.toList) (by simp [ByteArray.data_append]) (by rw [List.length_cons]; omega) W)
 obtain ⟨B,hB⟩:∃ B,shaL (0 :: s.data.toList) = B:=⟨_,rfl⟩
 rw [hB] at HSM HBL
 have HBEQ:=hid hB
 clear hzs hB hs hsz
 go_enter Tryz.func61,Tryz.ntmps61
 go_upto_region 1 with fail
 have H4:=hid (HashAt.new w z32 HZS.out)
 have HB:=hid (below_one w (.cells (byteCells z32).toArray 23))
 generalize w.alloc (.cells (byteCells z32).toArray 23) = wo at *
 clear hz32
 go_wp2_with (first | (go_at_call 100; refine (HLT.out wo).mono ?_; rintro e wB ⟨rfl,rfl⟩) | (go_at_call 66; refine (HSM.out wo).mono ?_; rintro e wC ⟨rfl,hbC⟩; have HBC:=hid (HB.out.trans (hbC.mono HB.out.size)); have H4C:=hid (H4.out.below hbC); clear hbC) | (refine wpList_stH (by rfl) (.tmp 2) (.tmp 5) (by rfl) (by rfl) (by rfl) H4C.out HBL.out ?_))
 have HE:=hid (H4C.out.set HBL.out)
 have HBE:=hid (below_setRow HBC.out (Nat.le_refl _) (byteCells B).toArray)
 generalize wC.setRow w.heap.size (byteCells B).toArray = wJ at *
 go_wp2_with fail
 exact bodyPost_ret (results_H rfl _ _ _ _ rfl HE.out) rfl ⟨by rw [HBEQ.out],HBE.out⟩
set_option maxHeartbeats 1000000 in
set_option maxRecDepth 100000 in
theorem r23Leaf_any (p:List UInt8) (hp:p.length = 32) (w:World) :
  Calls Tryz.prog 29 #[hv p] w fun e w'=>e = .returned (hv (shaL (0 :: p)))∧Below w.heap.size w w':=by
 obtain ⟨z32,hz32,hzs⟩:=z32_ex2
 have HSL:=hid hp
 have HZS:=hid hzs
 have HBL:=hid (show (shaL (0 :: p)).length = 32 from shaL_len _)
 have HSM:=hid (fun (W:World)=>r5Leaf_any ⟨p.toArray⟩ (by show p.toArray.size ≤ _; rw [List.size_toArray]; omega) W)
 rw [show (⟨p.toArray⟩:ByteArray).data.toList = p from rfl] at HSM
 obtain ⟨B,hB⟩:∃ B,shaL (0 :: p) = B:=⟨_,rfl⟩
 rw [hB] at HSM HBL
 have HBEQ:=hid hB
 clear hp hzs hB
 go_enter Tryz.func29,Tryz.ntmps29
 go_upto_region 1 with fail
 have h2:=HashAt.new w p HSL.out
 have hb2:=below_one w (.cells (byteCells p).toArray 23)
 have hs2:(w.alloc (.cells (byteCells p).toArray 23)).heap.size = w.heap.size + 1:=by simp
 generalize w.alloc (.cells (byteCells p).toArray 23) = w2 at *
 have h4:=HashAt.new w2 z32 HZS.out
 have hb4:=below_one w2 (.cells (byteCells z32).toArray 23)
 rw [hs2] at h4
 have H2:=hid (h2.below hb4)
 have H4:=hid h4
 have HB:=hid (hb2.trans (hb4.mono hb2.size))
 generalize w2.alloc (.cells (byteCells z32).toArray 23) = wo at *
 have HG4:=hid (Nat.le_succ w.heap.size)
 clear h2 hb2 hs2 h4 hb4 hz32
 go_wp2_with (first | (refine wpList_ldH (by rfl) (.tmp 1) (by rfl) (by rfl) H2.out ?_) | (go_at_call 62; refine (r5Bytes_any p HSL.out wo).mono ?_; rintro e wA ⟨rfl,hbA⟩; have HBA:=hid (HB.out.trans (hbA.mono HB.out.size)); have H4A:=hid (H4.out.below hbA); clear hbA) | (go_at_call 61; refine (HSM.out wA).mono ?_; rintro e wC ⟨rfl,hbC⟩; have HBC:=hid (HBA.out.trans (hbC.mono HBA.out.size)); have H4C:=hid (H4A.out.below hbC); clear hbC) | (refine wpList_stH (by rfl) (.tmp 2) (.tmp 5) (by rfl) (by rfl) (by rfl) H4C.out HBL.out ?_))
 have HE:=hid (H4C.out.set HBL.out)
 have HBE:=hid (below_setRow HBC.out HG4.out (byteCells B).toArray)
 generalize wC.setRow (w.heap.size + 1) (byteCells B).toArray = wJ at *
 go_wp2_with fail
 exact bodyPost_ret (results_H rfl _ _ _ _ rfl HE.out) rfl ⟨by rw [HBEQ.out],HBE.out⟩
def rkC (s:List UInt8) (h nx:Int) (lv:Value):List Value:=byteCells s ++ [.int .i64 h,.int .i64 nx,lv]
theorem rkC_at {s:List UInt8} {h nx:Int} {lv:Value} (hs:s.length = 32) (j:Nat):(rkC s h nx lv).toArray[32 + j]? = [Value.int .i64 h,.int .i64 nx,lv][j]?:=by
 unfold rkC
 rw [List.getElem?_toArray,List.getElem?_append_right (by rw [Lib.byteCells_length,hs]; omega),Lib.byteCells_length,hs,Nat.add_sub_cancel_left]
theorem rkC_set2 {s:List UInt8} {h nx:Int} {lv:Value} (hs:s.length = 32) (v:Value):(rkC s h nx lv).toArray.setIfInBounds 34 v = (rkC s h nx v).toArray:=by
 have hl:(byteCells s).length = 32:=by rw [Lib.byteCells_length,hs]
 unfold rkC
 rw [List.setIfInBounds_toArray,List.set_append_right _ _ (by omega),hl]
 rfl
theorem rkC_set1 {s:List UInt8} {h nx:Int} {lv:Value} (hs:s.length = 32) (n:Int):(rkC s h nx lv).toArray.setIfInBounds 33 (.int .i64 n) = (rkC s h n lv).toArray:=by
 have hl:(byteCells s).length = 32:=by rw [Lib.byteCells_length,hs]
 unfold rkC
 rw [List.setIfInBounds_toArray,List.set_append_right _ _ (by omega),hl]
 rfl
theorem rk_ne_hash:¬ (84:TypeId) = 23:=by decide
structure RK (w:World) (rb:Nat) (s:List UInt8) (h nx k:Nat) (lv:Value):Prop where
 row:w.heap[rb]? = some (.cells (rkC s (h:Int) (nx:Int) lv).toArray 84 (0,0))
 ls:s.length = 32
 own:w.ownsRow (rb + 1) 23 32 lv k (hcells (fstL (knode s 0) k))
theorem RK.below {w w':World} {rb:Nat} {s:List UInt8} {h nx k:Nat} {lv:Value} (hk:RK w rb s h nx k lv) (hb:Below w.heap.size w w'):RK w' rb s h nx k lv:=⟨below_heap hb hk.row,hk.ls,ownBelowI hk.own hb⟩
theorem RK.lt {w:World} {rb:Nat} {s:List UInt8} {h nx k:Nat} {lv:Value} (hk:RK w rb s h nx k lv):rb < w.heap.size:=lt_of_heap hk.row
theorem RK.next {w:World} {rb:Nat} {s:List UInt8} {h nx k:Nat} {lv:Value} (hk:RK w rb s h nx k lv):w.cell? ⟨rb,33,none⟩ = some (.int .i64 (nx:Int)):=cell_of hk.row 33 (rkC_at hk.ls 1)
theorem RK.leaves {w:World} {rb:Nat} {s:List UInt8} {h nx k:Nat} {lv:Value} (hk:RK w rb s h nx k lv):w.cell? ⟨rb,34,none⟩ = some lv:=cell_of hk.row 34 (rkC_at hk.ls 2)
theorem RK.sec {w:World} {rb:Nat} {s:List UInt8} {h nx k:Nat} {lv:Value} (hk:RK w rb s h nx k lv):w.rangeAt rb 0 (byteCells s):=fun j v hj=>by
 rw [Nat.zero_add]
 refine cell_of hk.row j ?_
 rw [List.getElem?_toArray]
 unfold rkC
 rw [List.getElem?_append_left (List.getElem?_eq_some_iff.1 hj).1]
 exact hj
set_option maxRecDepth 100000 in
theorem built_rkey (s:List UInt8) (hs:s.length = 32) (h:Int):Tryz.prog.built 84 (#[(0,hv s),(1,.int .i64 h)]:Array (Nat × Value)).toList = some (rkC s h 0 (.slice none 0 0)).toArray:=by
 match s,hs with
 | [a0,a1,a2,a3,a4,a5,a6,a7,a8,a9,a10,a11,a12,a13,a14,a15,a16,a17,a18,a19,a20,a21,a22,a23,a24,a25,a26,a27,a28,a29,a30,a31],_=>show Tryz.prog.built 84 _ = some _; kernel_rfl
theorem wpList_buildRK {ops:Array Oper} {rest:List Oper} {o:Oper} {a:Act} {W:World} {Q:Exit→Act→World→Prop} (hgd:o.guard = none) (x y:Operand) (ho:o.op = .build 84 #[(0,x),(1,y)])
  {s:List UInt8} {h:Int} (hx:a.eval x = hv s) (hy:a.eval y = .int .i64 h) (hs:s.length = 32)
  (hh:wpList Tryz.prog ops Q rest (a.put o.dst (.agg (rkC s h 0 (.slice none 0 0)).toArray)) W):wpList Tryz.prog ops Q (o :: rest) a W:=
 wpList_plain hgd fun K hK=>by
  have hr:=run_build (P:=Tryz.prog) W 84 _ _ (built_rkey s hs h)
  unfold Oper.wp execOp
  simp only [ho,List.map_toArray,List.map_cons,List.map_nil,hx,hy,Sem.run_bind,hr,Result.andThen_ok,Sem.run_pure]
  exact hK _ _ hh
theorem rk_new (w:World) (s:List UInt8) (hs:s.length = 32) (h:Nat):RK (w.alloc (.cells (rkC s (h:Int) 0 (.slice none 0 0)).toArray 84)) w.heap.size s h 0 0 (.slice none 0 0):=
 ⟨heap_one w _,hs,World.ownsRow_nil _ _ _ _⟩
theorem rk_push {w w1 w2:World} {rb:Nat} {s:List UInt8} {h nx k:Nat} {lv v':Value} (hk:RK w rb s h nx k lv) (hb:Below w.heap.size w w1)
  (h2:w2.ownsRow (rb + 1) 23 32 v' (k + 1) (hcells (fstL (knode s 0) (k + 1)))) (h3:w1.grownBy w2 lv.ownBlock) :
  RK (w2.setCell ⟨rb,34,none⟩ v') rb s h nx (k + 1) v'∧(∃ u,w2.cell? ⟨rb,34,none⟩ = some u)∧w2.frozen? ⟨rb,34,none⟩ = false:=by
 have hk1:=hk.below hb
 have hrow:w2.heap[rb]? = some (.cells (rkC s (h:Int) (nx:Int) lv).toArray 84 (0,0)):=(h3.block rb hk1.lt (fun e=>by
  have:=((hk1.own.lt rb e.symm).1)
  omega)).trans hk1.row
 refine ⟨⟨?_,hk.ls,?_⟩,⟨lv,cell_of hrow 34 (rkC_at hk.ls 2)⟩,frozen_row hrow 34⟩
 ·have h:=heap_setCell_same w2 rb 34 _ _ v' hrow
  rwa [rkC_set2 hk.ls] at h
 ·exact rowKeepK h2 fun g hg=>Below.heap_setCell w2 ⟨rb,34,none⟩ v' g (by
   have:=(h2.lt g hg).1
   show g ≠ rb
   omega)
theorem RK.setC {w:World} {rb g o:Nat} {s:List UInt8} {h nx k:Nat} {lv:Value} (hk:RK w rb s h nx k lv) (v:Value) (hg:g < rb):RK (w.setCell ⟨g,o,none⟩ v) rb s h nx k lv:=
 ⟨(Below.heap_setCell w ⟨g,o,none⟩ v rb (by show rb ≠ g; omega)).trans hk.row,hk.ls,rowKeepK hk.own fun g' hg'=>Below.heap_setCell w ⟨g,o,none⟩ v g' (by
  have:=(hk.own.lt g' hg').1
  show g' ≠ g
  omega)⟩
def NewRR (s:List UInt8) (h:Nat) (N:Nat) (rb:Nat) (w:World) (iv:Value) (wr:World):Prop:=
 ∃ (k:Nat) (lv:Value),k ≤ N∧iv = .int .i64 (k:Int)∧RK wr rb s h 0 k lv∧HashAt wr w.heap.size s∧faultRow wr (w.heap.size + 1) 0 0∧Below w.heap.size w wr
def SinceR (wA:World) (R:World→Prop):Bool→World→Prop:=fun b W=>(b = false→Below wA.heap.size wA W)∧R W
set_option maxHeartbeats 8000000 in
set_option maxRecDepth 100000 in
theorem r23New_any (s:List UInt8) (h:Nat) (hs:s.length = 32) (hh:h ≤ 6) (w:World) :
  Calls Tryz.prog 9 #[hv s,.int .i64 (h:Int)] w fun e w'=>∃ (rb:Nat) (lv:Value),e = .returned (.tuple #[.pointer (some ⟨rb,0,none⟩),.agg #[.int .i64 0,.int .i64 0]])∧w.heap.size ≤ rb∧RK w' rb s h 0 (2 ^ h) lv∧Below w.heap.size w w':=by
 have HSL:=hid hs
 have i0:¬ (h:Int) < 0:=by omega
 have i00:(0:Int) ≤ (h:Int):=by omega
 have i1:¬ (6:Int) < (h:Int):=by omega
 have i2:(h:Int) ≤ 6:=by omega
 have hw64:IntKind.u64.wrap (h:Int) = (h:Int):=by rw [IntKind.wrap_u64]; omega
 obtain ⟨hpw,hp64⟩:=pow_h hh
 obtain ⟨zl,_,hzl⟩:=zeroHash
 have HZL:=hid hzl
 clear hs hzl
 go_enter Tryz.func9,Tryz.ntmps9
 go_upto_region 3 with fail
 have h1:=HashAt.new w s HSL.out
 have hb1:=below_one w (.cells (byteCells s).toArray 23)
 have hs1:(w.alloc (.cells (byteCells s).toArray 23)).heap.size = w.heap.size + 1:=by simp
 generalize w.alloc (.cells (byteCells s).toArray 23) = w1 at *
 have hf:=fW_row w1
 have hbf:=below_one w1 (.cells #[.int .i64 0,.int .i64 0] 38)
 rw [hs1] at hf
 have hs2:(w1.alloc (.cells #[.int .i64 0,.int .i64 0] 38)).heap.size = w.heap.size + 1 + 1:=by simp [hs1]
 have H1:=hid (h1.below hbf)
 have HF:=hid (show faultRow (w1.alloc (.cells #[.int .i64 0,.int .i64 0] 38)) (w.heap.size + 1) 0 0 from hf)
 have HB:=hid (hb1.trans (hbf.mono hb1.size))
 generalize w1.alloc (.cells #[.int .i64 0,.int .i64 0] 38) = w2 at *
 clear h1 hb1 hs1 hf hbf
 go_upto_region 4 with (first | (refine wpList_ldH (by rfl) (.tmp 2) (by rfl) (by rfl) H1.out ?_) | (refine wpList_buildRK (by rfl) (.tmp 15) (.tmp 16) (by rfl) (by rfl) (by rfl) HSL.out ?_))
 have HK:=hid (rk_new w2 s HSL.out h)
 have hb3:=below_one w2 (.cells (rkC s (h:Int) 0 (.slice none 0 0)).toArray 84)
 have H1:=hid (H1.out.below hb3)
 have HF:=hid (HF.out.below hb3)
 have HRB:=hid (show w.heap.size + 1 < w2.heap.size by rw [hs2]; omega)
 have HB:=hid (HB.out.trans (hb3.mono HB.out.size))
 generalize w2.alloc (.cells (rkC s (h:Int) 0 (.slice none 0 0)).toArray 84) = w3 at *
 rw [hs2] at HK HRB
 clear hb3 hs2
 generalize w.heap.size + 1 + 1 = rb at *
 obtain ⟨N,hN⟩:∃ N,2 ^ h = N:=⟨_,rfl⟩
 rw [hN] at hpw hp64
 have HNN:=hid hN
 have HN64:=hid hp64
 clear hN hp64
 go_wp2_with fail
 go_loopw [7] (fun iv wr=>NewRR s h N rb w iv wr) (fun iv _=>N - (intOf iv).toNat)
 case atStart=>exact ⟨0,_,Nat.zero_le _,rfl,HK.out,H1.out,HF.out,HB.out⟩
 case round=>
  obtain ⟨k,lv,hk,rfl,hkw,hha,hft,hbel⟩:=hrel
  rename World=>wA
  obtain ⟨lao,lcp,rfl⟩:=own_formI hkw.own
  have k0:(0:Int) ≤ (k:Int):=by omega
  have k6:(k:Int) ≤ 64:=by have:=HN64.out; omega
  by_cases hlt:k < N
  ·have k2:(k:Int) < (N:Int):=by omega
   have hdr:=Below.drew (Below.refl wA.heap.size wA)
   have HLT:=hid hlt
   have HKL:=hid (show k < 64 by have:=HN64.out; omega)
   have HKA:=hid (hkw.below hdr)
   have HHA:=hid (hha.below hdr)
   have HFT:=hid (hft.below hdr)
   have HAB:=hid (hbel.trans (hdr.mono hbel.size))
   obtain ⟨X1,hX1⟩:∃ X,ownF s k = X:=⟨_,rfl⟩
   obtain ⟨X2,hX2⟩:∃ X,publicF X1 = X:=⟨_,rfl⟩
   obtain ⟨X3,hX3⟩:∃ X,shaL (0 :: X2) = X:=⟨_,rfl⟩
   have l1:X1.length = 32:=by rw [← hX1]; exact shaL_len _
   have l2:X2.length = 32:=by rw [← hX2]; exact publicF_len _
   have HX3:=hid (show X3.length = 32 by rw [← hX3]; exact shaL_len _)
   have HKN:=hid (show hcells (fstL (knode s 0) (k + 1)) = hcells (fstL (knode s 0) k) ++ byteCells X3 by rw [fstL_succ,hcells_snoc,← hX3,← hX2,← hX1]; rfl)
   have HOW:=hid fun (W:World)=>(by
    have h:=r23Secret_any k (by have:=HKL.out; omega) s HSL.out W
    rw [hX1] at h
    exact h)
   have HPU:=hid fun (W:World)=>(by
    have h:=r22Public_any X1 l1 W
    rw [hX2] at h
    exact h)
   have HLE:=hid fun (W:World)=>(by
    have h:=r23Leaf_any X2 l2 W
    rw [hX3] at h
    exact h)
   clear hX1 hX2 hX3 l1 l2 hlt hkw hha hft hbel hk hdr
   go_wp2_with fail
   refine wp_region_till 11 (SinceR wA.drew fun W=>HashAt W w.heap.size s) (by kernel_rfl) ⟨fun _=>Below.refl _ _,HHA.out⟩ (fun hHeld=>?_)
   generalize wA.drew = wD at *
   refine wT (i:=0) (v:=.pointer (some ⟨rb,0,none⟩)) rfl (Or.inl ⟨by rfl,fun w _=>?_⟩) hHeld ?_
   ·go_simp
   simp only [List.getElem_toArray,List.getElem_cons_zero,Act.put,List.setIfInBounds_toArray,List.set_cons_zero,List.set_cons_succ]
   refine wT (i:=1) (v:=.pointer (some ⟨rb,0,none⟩)) rfl (Or.inl ⟨by rfl,fun w _=>?_⟩) hHeld ?_
   ·go_simp
   simp only [List.getElem_toArray,List.getElem_cons_succ,List.getElem_cons_zero,Act.put,List.setIfInBounds_toArray,List.set_cons_zero,List.set_cons_succ]
   refine wT (i:=2) (v:=.pointer (some ⟨rb,0,none⟩)) rfl (Or.inl ⟨by rfl,fun w _=>?_⟩) hHeld ?_
   ·go_simp
   simp only [List.getElem_toArray,List.getElem_cons_succ,List.getElem_cons_zero,Act.put,List.setIfInBounds_toArray,List.set_cons_zero,List.set_cons_succ]
   refine wT (i:=3) (v:=.pointer (some ⟨rb,34,none⟩)) rfl (Or.inl ⟨by rfl,fun w _=>?_⟩) hHeld ?_
   ·go_simp
   simp only [List.getElem_toArray,List.getElem_cons_succ,List.getElem_cons_zero,Act.put,List.setIfInBounds_toArray,List.set_cons_zero,List.set_cons_succ]
   refine wF (i:=4) (v:=.slice lao k lcp) rfl (Or.inl ⟨by rfl,fun w hSw=>?_⟩) hHeld ?_
   ·have c:w.cell? ⟨rb,34,none⟩ = some (.slice lao k lcp):=(HKA.out.below (hSw.1 rfl)).leaves
    go_simp
   simp only [List.getElem_toArray,List.getElem_cons_succ,List.getElem_cons_zero,Act.put,List.setIfInBounds_toArray,List.set_cons_zero,List.set_cons_succ]
   refine wT (i:=5) (v:=hv s) rfl (yieldsIf_load_mid (by rfl) 23 (.tmp 2) (by rfl) w.heap.size 0 (by rfl) (byteCells s) _ (fun W ⟨_,h⟩=>h.2.range) Tryz.underlying23 rfl (by rw [Lib.byteCells_length,HSL.out]; exact hashInfo)) hHeld ?_
   simp only [List.getElem_toArray,List.getElem_cons_succ,List.getElem_cons_zero,Act.put,List.setIfInBounds_toArray,List.set_cons_zero,List.set_cons_succ]
   refine wT (i:=6) (v:=.int .i64 (k:Int)) rfl (Or.inl ⟨by rfl,fun w _=>?_⟩) hHeld ?_
   ·go_simp
   simp only [List.getElem_toArray,List.getElem_cons_succ,List.getElem_cons_zero,Act.put,List.setIfInBounds_toArray,List.set_cons_zero,List.set_cons_succ]
   refine wpAnyT_ready (rs:=[7]) (by kernel_rfl) (by simp) ?_
   refine AllReadyT.cons false rfl (by kernel_rfl) (fun K hK=>?_) AllReadyT.nil
   go_simp
   refine (HOW.out _).mono ?_
   rintro e wy ⟨rfl,hy⟩
   go_wp2_with fail
   have hr:=hHeld.2.below hy
   have hy:=(hHeld.1 rfl).trans (hy.mono (hHeld.1 rfl).size)
   refine hK.out _ _ ⟨fun _=>hy,hr⟩ (fun hHeld=>?_)
   clear hy hr
   clear hK K
   refine wpAnyT_ready (rs:=[8]) (by kernel_rfl) (by simp) ?_
   refine AllReadyT.cons false rfl (by kernel_rfl) (fun K hK=>?_) AllReadyT.nil
   go_simp
   refine (HPU.out _).mono ?_
   rintro e wz ⟨rfl,hy⟩
   go_wp2_with fail
   have hr:=hHeld.2.below hy
   have hy:=(hHeld.1 rfl).trans (hy.mono (hHeld.1 rfl).size)
   refine hK.out _ _ ⟨fun _=>hy,hr⟩ (fun hHeld=>?_)
   clear hy hr
   clear hK K
   refine wpAnyT_ready (rs:=[9]) (by kernel_rfl) (by simp) ?_
   refine AllReadyT.cons false rfl (by kernel_rfl) (fun K hK=>?_) AllReadyT.nil
   go_simp
   refine (HLE.out _).mono ?_
   rintro e wq ⟨rfl,hy⟩
   go_wp2_with fail
   have hr:=hHeld.2.below hy
   have hy:=(hHeld.1 rfl).trans (hy.mono (hHeld.1 rfl).size)
   refine hK.out _ _ ⟨fun _=>hy,hr⟩ (fun hHeld=>?_)
   clear hy hr
   clear hK K
   refine wpAnyT_ready (rs:=[10]) (by kernel_rfl) (by simp) ?_
   refine AllReadyT.cons false rfl (by kernel_rfl) (fun K hK=>?_) AllReadyT.nil
   refine step_buildHash zl HZL.out (by rfl) (.tmp 35) (by rfl) X3 (by rfl) HX3.out ?_
   have hy:=(hHeld.1 rfl).alloc (hHeld.1 rfl).size (.cells (byteCells X3).toArray 23)
   have hr:=hHeld.2.below (below_one wq (.cells (byteCells X3).toArray 23))
   refine hK.out _ _ ⟨fun _=>hy,hr⟩ (fun hHeld=>?_)
   clear hy hr
   clear hK K
   refine wpAnyT_ready (rs:=[11]) (by kernel_rfl) (by simp) ?_
   refine AllReadyT.cons true rfl (by kernel_rfl) (fun K hK=>?_) AllReadyT.nil
   have HSI:=hid (hHeld.1 rfl)
   refine step_append_hash (by rfl) (.tmp 30) (.tmp 36) (by rfl) (by rfl) (HKA.out.below HSI.out).own (by rfl) (HashAt.new wq X3 HX3.out) (by have:=HKL.out; omega) (HKA.out.below HSI.out).lt ?_
   intro v' W5 h2 h3 h5
   rw [← HKN.out] at h2
   obtain ⟨vo,vq,rfl⟩:=own_formI h2
   obtain ⟨q1,⟨u,q2⟩,q3⟩:=rk_push HKA.out HSI.out h2 h3
   have HQ1:=hid q1
   have hr:HashAt W5 w.heap.size s:=⟨(h3.block w.heap.size hHeld.2.lt (fun e=>by have:=((HKA.out.below HSI.out).own.lt _ e.symm).1; have:=HRB.out; omega)).trans hHeld.2.1,hHeld.2.2⟩
   have HFT5:=hid (show faultRow W5 (w.heap.size + 1) 0 0 from (h3.block (w.heap.size + 1) (lt_of_heap (HFT.out.below HSI.out)) (fun e=>by have:=((HKA.out.below HSI.out).own.lt _ e.symm).1; have:=HRB.out; omega)).trans (HFT.out.below HSI.out))
   have HHA5:=hid hr
   have HB5:=hid ((HAB.out.trans (HSI.out.mono HAB.out.size)).grown h3 (HAB.out.trans (HSI.out.mono HAB.out.size)).size (fun g hg=>by have:=((HKA.out.below HSI.out).own.lt g hg).1; have:=HRB.out; omega))
   clear q1 h2 h3 h5
   refine hK.out _ _ ⟨fun h=>(by cases h),hr⟩ (fun hHeld=>?_)
   clear hr
   clear hK K
   refine wT (i:=12) (v:=.pointer (some ⟨rb,0,none⟩)) rfl (Or.inl ⟨by rfl,fun w _=>?_⟩) hHeld ?_
   ·go_simp
   simp only [List.getElem_toArray,List.getElem_cons_succ,List.getElem_cons_zero,Act.put,List.setIfInBounds_toArray,List.set_cons_zero,List.set_cons_succ]
   refine wT (i:=13) (v:=.pointer (some ⟨rb,34,none⟩)) rfl (Or.inl ⟨by rfl,fun w _=>?_⟩) hHeld ?_
   ·go_simp
   simp only [List.getElem_toArray,List.getElem_cons_succ,List.getElem_cons_zero,Act.put,List.setIfInBounds_toArray,List.set_cons_zero,List.set_cons_succ]
   refine wpAnyT_ready (rs:=[14]) (by kernel_rfl) (by simp) ?_
   refine AllReadyT.cons true rfl (by kernel_rfl) (fun K hK=>?_) AllReadyT.nil
   go_simp
   refine hK.out _ _ ⟨fun h=>(by cases h),HHA5.out.setC (by have:=HRB.out; omega)⟩ (fun hHeld=>?_)
   clear hK K
   refine wpAnyT_done (by kernel_rfl) ?_ _
   go_wp2_with fail
   have hrb:=HRB.out
   refine ⟨⟨k + 1,_,HLT.out,by go_num,HQ1.out,HHA5.out.setC (by omega),?_,HB5.out.setCell (p:=⟨rb,34,none⟩) (by show w.heap.size ≤ rb; omega) _⟩,by have:=HLT.out; simp [intOf]; omega⟩
   exact (Below.heap_setCell W5 ⟨rb,34,none⟩ _ (w.heap.size + 1) (by show w.heap.size + 1 ≠ rb; omega)).trans HFT5.out
  ·obtain rfl:k = N:=by omega
   have k2:¬ (k:Int) < (k:Int):=by omega
   obtain ⟨d0,d1,g0,g1⟩:=hft.cells
   have HKE:=hid hkw
   have HFT:=hid hft
   have HBE:=hid hbel
   clear hkw hha hft hbel hlt hk
   go_wp2_with fail
   have hne:rb ≠ w.heap.size + 1:=by have:=HRB.out; omega
   refine ret_told rfl (w.heap.size + 1) 0 0 (.pointer (some ⟨rb,0,none⟩)) (fault_set HFT.out _ _) rfl rfl rfl ?_
   have hbf:=(HBE.out.setCell (p:=⟨w.heap.size + 1,0,none⟩) (by simp) (.int .i64 0)).setCell (p:=⟨w.heap.size + 1,1,none⟩) (by simp) (.int .i64 0)
   refine ⟨rb,rfl,by have:=HRB.out; omega,⟨.slice lao k lcp,?_⟩,hbf⟩
   rw [HNN.out]
   exact (HKE.out.setC (g:=w.heap.size + 1) (o:=0) (.int .i64 0) (by have:=HRB.out; omega)).setC (g:=w.heap.size + 1) (o:=1) (.int .i64 0) (by have:=HRB.out; omega)
def LeavesAt (w:World) (s:List UInt8) (g o k b:Nat):Prop:=∀ i,i < 2 ^ k→w.rangeAt g (o + i * 32) (byteCells (knode s 0 (b * 2 ^ k + i)))
theorem LeavesAt.below {w w':World} {s:List UInt8} {g o k b:Nat} (h:LeavesAt w s g o k b) (hb:Below w.heap.size w w'):LeavesAt w' s g o k b:=fun i hi=>range_below hb (h i hi)
theorem leaves_left {w:World} {s:List UInt8} {g o k b:Nat} (h:LeavesAt w s g o (k + 1) b):LeavesAt w s g o k (2 * b):=fun i hi=>by
 have:=h i (by rw [Nat.pow_succ]; omega)
 rwa [show b * 2 ^ (k + 1) + i = 2 * b * 2 ^ k + i by rw [Nat.pow_succ,Nat.mul_comm (2 ^ k) 2,← Nat.mul_assoc,Nat.mul_comm b 2]] at this
theorem leaves_right {w:World} {s:List UInt8} {g o k b:Nat} (h:LeavesAt w s g o (k + 1) b):LeavesAt w s g (o + 2 ^ k * 32) k (2 * b + 1):=fun i hi=>by
 have:=h (2 ^ k + i) (by rw [Nat.pow_succ]; omega)
 rw [show b * 2 ^ (k + 1) + (2 ^ k + i) = (2 * b + 1) * 2 ^ k + i by rw [Nat.pow_succ,Nat.mul_comm (2 ^ k) 2,← Nat.mul_assoc,Nat.mul_comm b 2,Nat.add_mul,Nat.one_mul,Nat.add_assoc]] at this
 rwa [show o + (2 ^ k + i) * 32 = o + 2 ^ k * 32 + i * 32 by omega] at this
theorem r23tree_zero (l:List UInt8) (g o cap:Nat) (w:World) (hl:l.length = 32) (hr:w.rangeAt g o (byteCells l)) :
  Calls Tryz.prog 125 #[.slice (some ⟨g,o,none⟩) 1 cap] w fun e w'=>e = .returned (hv l)∧Below w.heap.size w w':=by
 obtain ⟨z32,hz32,hzs⟩:=z32_ex2
 have HL:=hid hl
 have HR:=hid hr
 have HZS:=hid hzs
 clear hl hr hzs
 go_enter Tryz.func125,Tryz.ntmps125
 go_upto_region 1 with fail
 have H4:=hid (HashAt.new w z32 HZS.out)
 have HB:=hid (below_one w (.cells (byteCells z32).toArray 23))
 generalize w.alloc (.cells (byteCells z32).toArray 23) = wo at *
 have HR1:=hid (range_below HB.out HR.out)
 clear hz32
 go_wp2_with (first | (refine wpList_hashLoad2 (by rfl) (.tmp 7) (by rfl) g o (by rfl) l HL.out HR1.out ?_) | (refine wpList_stH (by rfl) (.tmp 2) (.tmp 8) (by rfl) (by rfl) (by rfl) H4.out HL.out ?_))
 have HE:=hid (H4.out.set HL.out)
 have HBE:=hid (below_setRow HB.out (Nat.le_refl _) (byteCells l).toArray)
 generalize wo.setRow w.heap.size (byteCells l).toArray = wJ at *
 go_wp2_with fail
 exact bodyPost_ret (results_H rfl _ _ _ _ rfl HE.out) rfl ⟨rfl,HBE.out⟩
set_option maxHeartbeats 4000000 in
set_option maxRecDepth 100000 in
theorem r23tree_step (c m:Nat) (A B T:List UInt8) (g o cap:Nat) (w:World) (hc:c = 2 * m) (hm1:1 ≤ m) (hm:m ≤ 128) (hcap:c ≤ cap) (hgw:g < w.heap.size) (hA:A.length = 32) (hB:B.length = 32) (hT:nodeF A B = T)
  (h1:∀ W,Below w.heap.size w W→Calls Tryz.prog 125 #[.slice (some ⟨g,o,none⟩) m cap] W fun e w'=>e = .returned (.agg (byteCells A).toArray)∧Below W.heap.size W w')
  (h2:∀ W,Below w.heap.size w W→Calls Tryz.prog 125 #[.slice (some ⟨g,o + m * 32,none⟩) m (cap - m)] W fun e w'=>e = .returned (.agg (byteCells B).toArray)∧Below W.heap.size W w') :
  Calls Tryz.prog 125 #[.slice (some ⟨g,o,none⟩) c cap] w fun e w'=>e = .returned (.agg (byteCells T).toArray)∧Below w.heap.size w w':=by
 have H1:=hid h1
 have H2:=hid h2
 have HND:=hid fun W=>(by
  have h:=rnode_any A B hA hB W
  rw [hT] at h
  exact h:Calls Tryz.prog 148 #[.agg (byteCells A).toArray,.agg (byteCells B).toArray] W fun e w'=>e = .returned (.agg (byteCells T).toArray)∧Below W.heap.size W w')
 obtain ⟨z32,hz32,hzs⟩:=z32_ex2
 have HZS:=hid hzs
 have HTL:=hid (show T.length = 32 by rw [← hT]; exact nodeF_len A B)
 have f1:((c:Int) == 1) = false:=by
  rw [beq_eq_false_iff_ne]
  omega
 have f2:(c:Int) / 2 = (m:Int):=by omega
 have f3:(0:Int) ≤ (m:Int):=by omega
 have f4:(m:Int) ≤ (cap:Int):=by omega
 have f5:(m:Int) ≤ (c:Int):=by omega
 have f6:¬ cap - m = 0:=by omega
 have f7:c - m = m:=by omega
 have f8:(c:Int) ≤ 256:=by omega
 have f9:(c:Int) ≤ (cap:Int):=by omega
 clear hA hB h1 h2 hT hc hm hzs
 go_enter Tryz.func125,Tryz.ntmps125
 go_upto_region 1 with fail
 have HO:=hid (HashAt.new w z32 HZS.out)
 have HBO:=hid (below_one w (.cells (byteCells z32).toArray 23))
 generalize w.alloc (.cells (byteCells z32).toArray 23) = w1 at *
 clear hz32
 have hg1:g < w1.heap.size:=Nat.lt_of_lt_of_le hgw HBO.out.size
 go_wp2_with fail
 refine wp_region_kept_tail 13 (by kernel_rfl) (by kernel_rfl) ?_
 simp only [List.take_succ_cons,List.take_zero,List.drop_succ_cons,List.drop_zero]
 iterate 5 go_big_quiet_step (fail)
 go_big_quiet_step ((go_at_call 125; rename Kept _=>x; exact Kept.call (H1.out x.w (HBO.out.trans (x.below.mono HBO.out.size)))))
 iterate 5 go_big_quiet_step (fail)
 go_big_quiet_step ((go_at_call 125; rename Kept _=>x; exact Kept.call (H2.out x.w (HBO.out.trans (x.below.mono HBO.out.size)))))
 go_big_quiet_step ((go_at_call 148; rename Kept _=>x; exact Kept.call (HND.out x.w)))
 refine wpQuiet_nil ?_
 intro x
 have HOX:=hid (HO.out.below x.below)
 have HBX:=hid (HBO.out.trans (x.below.mono HBO.out.size))
 generalize x.w = wX at *
 have HRE:=hid (HOX.out.set HTL.out)
 have HBR:=hid (below_setRow HBX.out (Nat.le_refl _) (byteCells T).toArray)
 go_wp2_with (refine wpList_stH (by rfl) (.tmp 2) (.tmp 21) (by rfl) (by rfl) (by rfl) HOX.out HTL.out ?_)
 generalize wX.setRow w.heap.size (byteCells T).toArray = wJ at *
 go_wp2_with fail
 exact bodyPost_ret (results_H rfl _ _ _ _ rfl HRE.out) rfl ⟨rfl,HBR.out⟩
theorem r23tree_any (s:List UInt8):∀ (k:Nat),k ≤ 6→∀ (b g o cap:Nat) (w:World),LeavesAt w s g o k b→g < w.heap.size→2 ^ k ≤ cap →
  Calls Tryz.prog 125 #[.slice (some ⟨g,o,none⟩) (2 ^ k) cap] w fun e w'=>e = .returned (hv (knode s k b))∧Below w.heap.size w w'
 | 0,_,b,g,o,cap,w,hl,_,_=>by
  have h:=hl 0 (by decide)
  rw [show b * 2 ^ 0 + 0 = b by omega,show o + 0 * 32 = o by omega] at h
  exact r23tree_zero (knode s 0 b) g o cap w (knode_len s 0 b) h
 | k + 1,hk,b,g,o,cap,w,hl,hgw,hcap=>by
  have h2:2 ^ (k + 1) = 2 * 2 ^ k:=by rw [Nat.pow_succ]; omega
  have h1:1 ≤ 2 ^ k:=Nat.one_le_two_pow
  have h128:2 ^ k ≤ 128:=Nat.le_trans (Nat.pow_le_pow_right (by omega) (show k ≤ 7 by omega)) (by decide)
  refine r23tree_step (2 ^ (k + 1)) (2 ^ k) (knode s k (2 * b)) (knode s k (2 * b + 1)) _ g o cap w h2 h1 h128 hcap hgw (knode_len _ _ _) (knode_len _ _ _) rfl (fun W hW=>?_) (fun W hW=>?_)
  ·exact r23tree_any s k (by omega) (2 * b) g o cap W (leaves_left (hl.below hW)) (Nat.lt_of_lt_of_le hgw hW.size) (by omega)
  ·exact r23tree_any s k (by omega) (2 * b + 1) g (o + 2 ^ k * 32) (cap - 2 ^ k) W (leaves_right (hl.below hW)) (Nat.lt_of_lt_of_le hgw hW.size) (by omega)
def pathF (s:List UInt8) (k b i:Nat):List (List UInt8):=(List.range k).map fun j=>knode s j (sib ((b * 2 ^ k + i) / 2 ^ j))
theorem kpath_F (s:List UInt8) (h i:Nat):kpath s h i = pathF s h 0 i:=by simp [kpath,pathF]
theorem pathF_left (s:List UInt8) (k b i:Nat) (hi:i < 2 ^ k):pathF s (k + 1) b i = pathF s k (2 * b) i ++ [knode s k (2 * b + 1)]:=by
 have e:b * 2 ^ (k + 1) + i = 2 * b * 2 ^ k + i:=by rw [Nat.pow_succ,Nat.mul_comm (2 ^ k) 2,← Nat.mul_assoc,Nat.mul_comm b 2]
 unfold pathF
 rw [List.range_succ,List.map_append,e,List.map_cons,List.map_nil]
 congr 2
 have h1:(2 * b * 2 ^ k + i) / 2 ^ k = 2 * b:=by
  rw [Nat.mul_comm (2 * b),Nat.mul_add_div (Nat.two_pow_pos k),Nat.div_eq_of_lt hi,Nat.add_zero]
 rw [h1]
 unfold sib
 rw [if_pos (by omega)]
theorem pathF_right (s:List UInt8) (k b i:Nat) (hi:i < 2 ^ k):pathF s (k + 1) b (2 ^ k + i) = pathF s k (2 * b + 1) i ++ [knode s k (2 * b)]:=by
 have e:b * 2 ^ (k + 1) + (2 ^ k + i) = (2 * b + 1) * 2 ^ k + i:=by rw [Nat.pow_succ,Nat.mul_comm (2 ^ k) 2,← Nat.mul_assoc,Nat.mul_comm b 2,Nat.add_mul,Nat.one_mul,Nat.add_assoc]
 unfold pathF
 rw [List.range_succ,List.map_append,e,List.map_cons,List.map_nil]
 congr 2
 have h1:((2 * b + 1) * 2 ^ k + i) / 2 ^ k = 2 * b + 1:=by
  rw [Nat.mul_comm (2 * b + 1),Nat.mul_add_div (Nat.two_pow_pos k),Nat.div_eq_of_lt hi,Nat.add_zero]
 rw [h1]
 unfold sib
 rw [if_neg (by omega)]
 rfl
theorem r23path_zero (g o cap:Nat) (w:World) :
  Calls Tryz.prog 89 #[.int .i64 0,.slice (some ⟨g,o,none⟩) 1 cap] w fun e w'=>e = .returned (.slice none 0 0)∧Below w.heap.size w w':=by
 go_enter Tryz.func89,Tryz.ntmps89
 go_wp2_with fail
 go_ret
 exact ⟨rfl,Below.refl _ _⟩
set_option maxHeartbeats 4000000 in
set_option maxRecDepth 100000 in
theorem r23path_left (c m i k:Nat) (P:List (List UInt8)) (B:List UInt8) (g o cap:Nat) (w:World) (hc:c = 2 * m) (hm1:1 ≤ m) (hm:m ≤ 128) (hi:i < m) (hcap:c ≤ cap) (hk:k ≤ 6) (hB:B.length = 32)
  (h1:∀ W,Below w.heap.size w W→Calls Tryz.prog 89 #[.int .i64 (i:Int),.slice (some ⟨g,o,none⟩) m cap] W fun e w'=>(∃ v,e = .returned v∧w'.ownsRow W.heap.size 23 32 v k (hcells P))∧Below W.heap.size W w')
  (h2:∀ W,Below w.heap.size w W→Calls Tryz.prog 125 #[.slice (some ⟨g,o + m * 32,none⟩) m (cap - m)] W fun e w'=>e = .returned (hv B)∧Below W.heap.size W w') :
  Calls Tryz.prog 89 #[.int .i64 (i:Int),.slice (some ⟨g,o,none⟩) c cap] w fun e w'=>(∃ v,e = .returned v∧w'.ownsRow w.heap.size 23 32 v (k + 1) (hcells (P ++ [B])))∧Below w.heap.size w w':=by
 have H1:=hid h1
 have H2:=hid h2
 obtain ⟨zl,_,hzl⟩:=zeroHash
 have HZL:=hid hzl
 have HBL:=hid hB
 have f1:((c:Int) == 1) = false:=by
  rw [beq_eq_false_iff_ne]
  omega
 have f1b:¬ (c:Int) = 1:=by omega
 have f2:(c:Int) / 2 = (m:Int):=by omega
 have f3:(0:Int) ≤ (m:Int):=by omega
 have f4:(m:Int) ≤ (cap:Int):=by omega
 have f5:(m:Int) ≤ (c:Int):=by omega
 have f6:¬ cap - m = 0:=by omega
 have f6b:¬ cap = m:=by omega
 have fw:IntKind.i64.wrap ((i:Int) - (m:Int)) = (i:Int) - (m:Int):=by rw [IntKind.wrap_i64]; omega
 have f7:c - m = m:=by omega
 have f8:(c:Int) ≤ 256:=by omega
 have f9:(c:Int) ≤ (cap:Int):=by omega
 have f10:(i:Int) < (m:Int):=by omega
 have f11:(0:Int) ≤ (i:Int):=by omega
 have f12:(i:Int) ≤ 256:=by omega
 have f13:(m:Int) ≤ 128:=by omega
 have HW1:=hid (show w.heap.size ≤ w.drew.heap.size from Nat.le_refl _)
 clear hB h1 h2 hzl hc
 go_enter Tryz.func89,Tryz.ntmps89
 go_wp2_with fail
 refine wp_region_till 100 (BelK w) (by kernel_rfl) (Below.refl _ _).drew (fun hHeld=>?_)
 generalize w.drew = wd at *
 refine wT (i:=0) (v:=.int .i64 (i:Int)) rfl (Or.inl ⟨by rfl,fun w _=>?_⟩) hHeld ?_
 ·go_simp
 simp only [List.getElem_toArray,List.getElem_cons_zero,Act.put,List.setIfInBounds_toArray,List.set_cons_zero,List.set_cons_succ]
 refine wT (i:=1) (v:=.slice (some ⟨g,o,none⟩) c cap) rfl (Or.inl ⟨by rfl,fun w _=>?_⟩) hHeld ?_
 ·go_simp
 simp only [List.getElem_toArray,List.getElem_cons_succ,List.getElem_cons_zero,Act.put,List.setIfInBounds_toArray,List.set_cons_zero,List.set_cons_succ]
 refine wT (i:=2) (v:=.int .i64 (m:Int)) rfl (Or.inl ⟨by rfl,fun w _=>?_⟩) hHeld ?_
 ·go_simp
 simp only [List.getElem_toArray,List.getElem_cons_succ,List.getElem_cons_zero,Act.put,List.setIfInBounds_toArray,List.set_cons_zero,List.set_cons_succ]
 refine wT (i:=3) (v:=.slice (some ⟨g,o,none⟩) m cap) rfl (Or.inl ⟨by rfl,fun w _=>?_⟩) hHeld ?_
 ·go_simp
 simp only [List.getElem_toArray,List.getElem_cons_succ,List.getElem_cons_zero,Act.put,List.setIfInBounds_toArray,List.set_cons_zero,List.set_cons_succ]
 refine wT (i:=5) (v:=.slice (some ⟨g,o,none⟩) c cap) rfl (Or.inl ⟨by rfl,fun w _=>?_⟩) hHeld ?_
 ·go_simp
 simp only [List.getElem_toArray,List.getElem_cons_succ,List.getElem_cons_zero,Act.put,List.setIfInBounds_toArray,List.set_cons_zero,List.set_cons_succ]
 refine wT (i:=6) (v:=.int .i64 (m:Int)) rfl (Or.inl ⟨by rfl,fun w _=>?_⟩) hHeld ?_
 ·go_simp
 simp only [List.getElem_toArray,List.getElem_cons_succ,List.getElem_cons_zero,Act.put,List.setIfInBounds_toArray,List.set_cons_zero,List.set_cons_succ]
 refine wT (i:=7) (v:=.slice (some ⟨g,o + m * 32,none⟩) m (cap - m)) rfl (Or.inl ⟨by rfl,fun w _=>?_⟩) hHeld ?_
 ·go_simp
 simp only [List.getElem_toArray,List.getElem_cons_succ,List.getElem_cons_zero,Act.put,List.setIfInBounds_toArray,List.set_cons_zero,List.set_cons_succ]
 refine wpAnyT_ready (rs:=[4]) (by kernel_rfl) (by simp) ?_
 refine AllReadyT.cons false rfl (by kernel_rfl) (fun K hK=>?_) AllReadyT.nil
 go_simp
 refine (H1.out _ (BelK.out hHeld)).mono ?_
 rintro e wy ⟨⟨pv,rfl,hp⟩,hy⟩
 obtain ⟨pao,pcp,rfl⟩:=own_formI hp
 have HPV:=hid hp
 clear hp
 go_wp2_with fail
 have HBY:=hid (BelK.out hHeld).size
 have hy:=(BelK.out hHeld).trans (hy.mono (BelK.out hHeld).size)
 refine hK.out _ _ hy (fun hHeld=>?_)
 clear hy
 clear hK K
 refine wpAnyT_ready (rs:=[8]) (by kernel_rfl) (by simp) ?_
 refine AllReadyT.cons false rfl (by kernel_rfl) (fun K hK=>?_) AllReadyT.nil
 go_simp
 refine (H2.out _ (BelK.out hHeld)).mono ?_
 rintro e wz ⟨rfl,hy⟩
 have HPZ:=hid (ownBelowI HPV.out hy)
 go_wp2_with fail
 have hy:=(BelK.out hHeld).trans (hy.mono (BelK.out hHeld).size)
 have HBZ:=hid hy
 refine hK.out _ _ hy (fun hHeld=>?_)
 clear hy
 clear hK K
 refine wpAnyT_ready (rs:=[9]) (by kernel_rfl) (by simp) ?_
 refine AllReadyT.cons false rfl (by kernel_rfl) (fun K hK=>?_) AllReadyT.nil
 refine step_buildHash zl HZL.out (by rfl) (.tmp 23) (by rfl) B (by rfl) HBL.out ?_
 have hy:=(BelK.out hHeld).alloc (BelK.out hHeld).size (.cells (byteCells B).toArray 23)
 refine hK.out _ _ hy (fun hHeld=>?_)
 clear hy
 clear hK K
 refine wpAnyT_ready (rs:=[10]) (by kernel_rfl) (by simp) ?_
 refine AllReadyT.cons false rfl (by kernel_rfl) (fun K hK=>?_) AllReadyT.nil
 refine step_append_hash (by rfl) (.tmp 19) (.tmp 24) (by rfl) (by rfl) (ownLow (ownBelowI HPZ.out (below_one wz (.cells (byteCells B).toArray 23 (0,0)))) HW1.out) (by rfl) (HashAt.new wz B HBL.out) (by omega) (BelK.out hHeld).size ?_
 intro v' W5 h2 h3 _
 have HQ:=hid h2
 have HB5:=hid ((BelK.out hHeld).grown h3 (BelK.out hHeld).size (fun g hg=>(ownLow (ownBelowI HPZ.out (below_one wz (.cells (byteCells B).toArray 23 (0,0)))) HW1.out).lt g hg |>.1))
 clear h2 h3
 refine hK.out _ _ HB5.out (fun hHeld=>?_)
 clear hK K
 refine wT (i:=11) (v:=v') rfl (Or.inl ⟨by rfl,fun w _=>?_⟩) hHeld ?_
 ·go_simp
 simp only [List.getElem_toArray,List.getElem_cons_succ,List.getElem_cons_zero,Act.put,List.setIfInBounds_toArray,List.set_cons_zero,List.set_cons_succ]
 refine wpAnyT_done (by kernel_rfl) ?_ _
 go_wp2_with fail
 go_ret
 refine ⟨⟨_,rfl,?_⟩,HB5.out⟩
 have h:=HQ.out
 rwa [← hcells_snoc] at h
set_option maxHeartbeats 4000000 in
set_option maxRecDepth 100000 in
theorem r23path_right (c m i k:Nat) (P:List (List UInt8)) (B:List UInt8) (g o cap:Nat) (w:World) (hc:c = 2 * m) (hm1:1 ≤ m) (hm:m ≤ 128) (hi:m ≤ i) (hic:i < c) (hcap:c ≤ cap) (hk:k ≤ 6) (hB:B.length = 32)
  (h1:∀ W,Below w.heap.size w W→Calls Tryz.prog 89 #[.int .i64 ((i:Int) - (m:Int)),.slice (some ⟨g,o + m * 32,none⟩) m (cap - m)] W fun e w'=>(∃ v,e = .returned v∧w'.ownsRow W.heap.size 23 32 v k (hcells P))∧Below W.heap.size W w')
  (h2:∀ W,Below w.heap.size w W→Calls Tryz.prog 125 #[.slice (some ⟨g,o,none⟩) m cap] W fun e w'=>e = .returned (hv B)∧Below W.heap.size W w') :
  Calls Tryz.prog 89 #[.int .i64 (i:Int),.slice (some ⟨g,o,none⟩) c cap] w fun e w'=>(∃ v,e = .returned v∧w'.ownsRow w.heap.size 23 32 v (k + 1) (hcells (P ++ [B])))∧Below w.heap.size w w':=by
 have H1:=hid h1
 have H2:=hid h2
 obtain ⟨zl,_,hzl⟩:=zeroHash
 have HZL:=hid hzl
 have HBL:=hid hB
 have f1:((c:Int) == 1) = false:=by
  rw [beq_eq_false_iff_ne]
  omega
 have f1b:¬ (c:Int) = 1:=by omega
 have f2:(c:Int) / 2 = (m:Int):=by omega
 have f3:(0:Int) ≤ (m:Int):=by omega
 have f4:(m:Int) ≤ (cap:Int):=by omega
 have f5:(m:Int) ≤ (c:Int):=by omega
 have f6:¬ cap - m = 0:=by omega
 have f6b:¬ cap = m:=by omega
 have fw:IntKind.i64.wrap ((i:Int) - (m:Int)) = (i:Int) - (m:Int):=by rw [IntKind.wrap_i64]; omega
 have f7:c - m = m:=by omega
 have f8:(c:Int) ≤ 256:=by omega
 have f9:(c:Int) ≤ (cap:Int):=by omega
 have f10:¬ (i:Int) < (m:Int):=by omega
 have f11:(0:Int) ≤ (i:Int):=by omega
 have f12:(i:Int) ≤ 256:=by omega
 have f13:(m:Int) ≤ 128:=by omega
 have HW1:=hid (show w.heap.size ≤ w.drew.heap.size from Nat.le_refl _)
 clear hB h1 h2 hzl hc
 go_enter Tryz.func89,Tryz.ntmps89
 go_wp2_with fail
 refine wp_region_till 100 (BelK w) (by kernel_rfl) (Below.refl _ _).drew (fun hHeld=>?_)
 generalize w.drew = wd at *
 refine wT (i:=0) (v:=.int .i64 (i:Int)) rfl (Or.inl ⟨by rfl,fun w _=>?_⟩) hHeld ?_
 ·go_simp
 simp only [List.getElem_toArray,List.getElem_cons_zero,Act.put,List.setIfInBounds_toArray,List.set_cons_zero,List.set_cons_succ]
 refine wT (i:=1) (v:=.int .i64 (m:Int)) rfl (Or.inl ⟨by rfl,fun w _=>?_⟩) hHeld ?_
 ·go_simp
 simp only [List.getElem_toArray,List.getElem_cons_succ,List.getElem_cons_zero,Act.put,List.setIfInBounds_toArray,List.set_cons_zero,List.set_cons_succ]
 refine wT (i:=2) (v:=.int .i64 ((i:Int) - (m:Int))) rfl (Or.inl ⟨by rfl,fun w _=>?_⟩) hHeld ?_
 ·go_simp
 simp only [List.getElem_toArray,List.getElem_cons_succ,List.getElem_cons_zero,Act.put,List.setIfInBounds_toArray,List.set_cons_zero,List.set_cons_succ]
 refine wT (i:=3) (v:=.slice (some ⟨g,o,none⟩) c cap) rfl (Or.inl ⟨by rfl,fun w _=>?_⟩) hHeld ?_
 ·go_simp
 simp only [List.getElem_toArray,List.getElem_cons_succ,List.getElem_cons_zero,Act.put,List.setIfInBounds_toArray,List.set_cons_zero,List.set_cons_succ]
 refine wT (i:=4) (v:=.int .i64 (m:Int)) rfl (Or.inl ⟨by rfl,fun w _=>?_⟩) hHeld ?_
 ·go_simp
 simp only [List.getElem_toArray,List.getElem_cons_succ,List.getElem_cons_zero,Act.put,List.setIfInBounds_toArray,List.set_cons_zero,List.set_cons_succ]
 refine wT (i:=5) (v:=.slice (some ⟨g,o + m * 32,none⟩) m (cap - m)) rfl (Or.inl ⟨by rfl,fun w _=>?_⟩) hHeld ?_
 ·go_simp
 simp only [List.getElem_toArray,List.getElem_cons_succ,List.getElem_cons_zero,Act.put,List.setIfInBounds_toArray,List.set_cons_zero,List.set_cons_succ]
 refine wT (i:=7) (v:=.slice (some ⟨g,o,none⟩) c cap) rfl (Or.inl ⟨by rfl,fun w _=>?_⟩) hHeld ?_
 ·go_simp
 simp only [List.getElem_toArray,List.getElem_cons_succ,List.getElem_cons_zero,Act.put,List.setIfInBounds_toArray,List.set_cons_zero,List.set_cons_succ]
 refine wT (i:=8) (v:=.int .i64 (m:Int)) rfl (Or.inl ⟨by rfl,fun w _=>?_⟩) hHeld ?_
 ·go_simp
 simp only [List.getElem_toArray,List.getElem_cons_succ,List.getElem_cons_zero,Act.put,List.setIfInBounds_toArray,List.set_cons_zero,List.set_cons_succ]
 refine wT (i:=9) (v:=.slice (some ⟨g,o,none⟩) m cap) rfl (Or.inl ⟨by rfl,fun w _=>?_⟩) hHeld ?_
 ·go_simp
 simp only [List.getElem_toArray,List.getElem_cons_succ,List.getElem_cons_zero,Act.put,List.setIfInBounds_toArray,List.set_cons_zero,List.set_cons_succ]
 refine wpAnyT_ready (rs:=[6]) (by kernel_rfl) (by simp) ?_
 refine AllReadyT.cons false rfl (by kernel_rfl) (fun K hK=>?_) AllReadyT.nil
 go_simp
 refine (H1.out _ (BelK.out hHeld)).mono ?_
 rintro e wy ⟨⟨pv,rfl,hp⟩,hy⟩
 obtain ⟨pao,pcp,rfl⟩:=own_formI hp
 have HPV:=hid hp
 clear hp
 go_wp2_with fail
 have HBY:=hid (BelK.out hHeld).size
 have hy:=(BelK.out hHeld).trans (hy.mono (BelK.out hHeld).size)
 refine hK.out _ _ hy (fun hHeld=>?_)
 clear hy
 clear hK K
 refine wpAnyT_ready (rs:=[10]) (by kernel_rfl) (by simp) ?_
 refine AllReadyT.cons false rfl (by kernel_rfl) (fun K hK=>?_) AllReadyT.nil
 go_simp
 refine (H2.out _ (BelK.out hHeld)).mono ?_
 rintro e wz ⟨rfl,hy⟩
 have HPZ:=hid (ownBelowI HPV.out hy)
 go_wp2_with fail
 have hy:=(BelK.out hHeld).trans (hy.mono (BelK.out hHeld).size)
 have HBZ:=hid hy
 refine hK.out _ _ hy (fun hHeld=>?_)
 clear hy
 clear hK K
 refine wpAnyT_ready (rs:=[11]) (by kernel_rfl) (by simp) ?_
 refine AllReadyT.cons false rfl (by kernel_rfl) (fun K hK=>?_) AllReadyT.nil
 refine step_buildHash zl HZL.out (by rfl) (.tmp 36) (by rfl) B (by rfl) HBL.out ?_
 have hy:=(BelK.out hHeld).alloc (BelK.out hHeld).size (.cells (byteCells B).toArray 23)
 refine hK.out _ _ hy (fun hHeld=>?_)
 clear hy
 clear hK K
 refine wpAnyT_ready (rs:=[12]) (by kernel_rfl) (by simp) ?_
 refine AllReadyT.cons false rfl (by kernel_rfl) (fun K hK=>?_) AllReadyT.nil
 refine step_append_hash (by rfl) (.tmp 32) (.tmp 37) (by rfl) (by rfl) (ownLow (ownBelowI HPZ.out (below_one wz (.cells (byteCells B).toArray 23 (0,0)))) HW1.out) (by rfl) (HashAt.new wz B HBL.out) (by omega) (BelK.out hHeld).size ?_
 intro v' W5 h2 h3 _
 have HQ:=hid h2
 have HB5:=hid ((BelK.out hHeld).grown h3 (BelK.out hHeld).size (fun g hg=>(ownLow (ownBelowI HPZ.out (below_one wz (.cells (byteCells B).toArray 23 (0,0)))) HW1.out).lt g hg |>.1))
 clear h2 h3
 refine hK.out _ _ HB5.out (fun hHeld=>?_)
 clear hK K
 refine wT (i:=13) (v:=v') rfl (Or.inl ⟨by rfl,fun w _=>?_⟩) hHeld ?_
 ·go_simp
 simp only [List.getElem_toArray,List.getElem_cons_succ,List.getElem_cons_zero,Act.put,List.setIfInBounds_toArray,List.set_cons_zero,List.set_cons_succ]
 refine wpAnyT_done (by kernel_rfl) ?_ _
 go_wp2_with fail
 go_ret
 refine ⟨⟨_,rfl,?_⟩,HB5.out⟩
 have h:=HQ.out
 rwa [← hcells_snoc] at h
theorem r23path_any (s:List UInt8):∀ (k:Nat),k ≤ 6→∀ (b i g o cap:Nat) (w:World),i < 2 ^ k→LeavesAt w s g o k b→g < w.heap.size→2 ^ k ≤ cap →
  Calls Tryz.prog 89 #[.int .i64 (i:Int),.slice (some ⟨g,o,none⟩) (2 ^ k) cap] w fun e w'=>(∃ v,e = .returned v∧w'.ownsRow w.heap.size 23 32 v k (hcells (pathF s k b i)))∧Below w.heap.size w w'
 | 0,_,b,i,g,o,cap,w,hi,_,_,_=>by
  obtain rfl:i = 0:=by simpa using hi
  refine (r23path_zero g o cap w).mono ?_
  rintro e w' ⟨rfl,hb⟩
  exact ⟨⟨_,rfl,World.ownsRow_nil _ _ _ _⟩,hb⟩
 | k + 1,hk,b,i,g,o,cap,w,hi,hl,hgw,hcap=>by
  have h2:2 ^ (k + 1) = 2 * 2 ^ k:=by rw [Nat.pow_succ]; omega
  have h1:1 ≤ 2 ^ k:=Nat.one_le_two_pow
  have h128:2 ^ k ≤ 128:=Nat.le_trans (Nat.pow_le_pow_right (by omega) (show k ≤ 7 by omega)) (by decide)
  by_cases hlt:i < 2 ^ k
  ·rw [pathF_left s k b i hlt]
   refine r23path_left (2 ^ (k + 1)) (2 ^ k) i k _ _ g o cap w h2 h1 h128 hlt hcap (by omega) (knode_len _ _ _) (fun W hW=>?_) (fun W hW=>?_)
   ·exact r23path_any s k (by omega) (2 * b) i g o cap W hlt (leaves_left (hl.below hW)) (Nat.lt_of_lt_of_le hgw hW.size) (by omega)
   ·exact r23tree_any s k (by omega) (2 * b + 1) g (o + 2 ^ k * 32) (cap - 2 ^ k) W (leaves_right (hl.below hW)) (Nat.lt_of_lt_of_le hgw hW.size) (by omega)
  ·obtain ⟨j,rfl⟩:∃ j,i = 2 ^ k + j:=⟨i - 2 ^ k,by omega⟩
   rw [pathF_right s k b j (by omega)]
   refine r23path_right (2 ^ (k + 1)) (2 ^ k) (2 ^ k + j) k _ _ g o cap w h2 h1 h128 (by omega) hi hcap (by omega) (knode_len _ _ _) (fun W hW=>?_) (fun W hW=>?_)
   ·rw [show (((2 ^ k + j:Nat):Int) - ((2 ^ k:Nat):Int)) = (j:Int) by omega]
    exact r23path_any s k (by omega) (2 * b + 1) j g (o + 2 ^ k * 32) (cap - 2 ^ k) W (by omega) (leaves_right (hl.below hW)) (Nat.lt_of_lt_of_le hgw hW.size) (by omega)
   ·exact r23tree_any s k (by omega) (2 * b) g o cap W (leaves_left (hl.below hW)) (Nat.lt_of_lt_of_le hgw hW.size) (by omega)
theorem RK.leavesAt {w:World} {rb:Nat} {s:List UInt8} {h nx:Nat} {lv:Value} (hk:RK w rb s h nx (2 ^ h) lv):∃ g cap,lv = .slice (some ⟨g,0,none⟩) (2 ^ h) cap∧2 ^ h ≤ cap∧g < w.heap.size∧rb < g∧LeavesAt w s g 0 h 0:=by
 have hpos:0 < 2 ^ h:=Nat.two_pow_pos h
 rcases hk.own.2 with ⟨rfl,h0⟩ | ⟨g,cap,cur,rfl,hg,hh,hc,_,_,htk⟩
 ·omega
 ·refine ⟨g,cap,rfl,hc,lt_of_heap hh,hg,fun i hi=>?_⟩
  intro j v hj
  have h1:=hcells_at (fstL (knode s 0) (2 ^ h)) i (knode s 0 i) (fstL_32 (fun i=>knode_len s 0 i) _) (by unfold fstL; rw [List.getElem?_map,List.getElem?_range hi]; rfl) j v (by rwa [show 0 * 2 ^ h + i = i by omega] at hj)
  rw [Nat.zero_add]
  refine cell_of hh (i * 32 + j) ?_
  rw [← htk,List.getElem?_take] at h1
  split at h1
  ·rw [← Array.getElem?_toList]; exact h1
  ·cases h1
set_option maxHeartbeats 1000000 in
set_option maxRecDepth 100000 in
theorem r23Left_any (rb:Nat) (s:List UInt8) (h nx:Nat) (lv:Value) (hn:nx ≤ 2 ^ h) (hh:h ≤ 6) (w:World) (hk:RK w rb s h nx (2 ^ h) lv) :
  Calls Tryz.prog 15 #[.pointer (some ⟨rb,0,none⟩)] w fun e w'=>e = .returned (.int .i64 ((2 ^ h - nx:Nat):Int))∧Below w.heap.size w w':=by
 obtain ⟨lao,lcp,rfl⟩:=own_formI hk.own
 have c1:=hk.leaves
 have c2:=hk.next
 have hlt:=hk.lt
 have hp64:=(pow_h hh).2
 obtain ⟨N,hN⟩:∃ N,2 ^ h = N:=⟨_,rfl⟩
 rw [hN] at c1 hn hp64 ⊢
 have n0:(0:Int) ≤ (nx:Int):=by omega
 have n1:(nx:Int) ≤ (N:Int):=by omega
 have n2:(N:Int) ≤ 64:=by omega
 have HE:=hid (show ((N - nx:Nat):Int) = (N:Int) - (nx:Int) by omega)
 clear hk hN hn hp64
 go_enter Tryz.func15,Tryz.ntmps15
 go_wp2_with fail
 go_quiet (fail)
 go_wp2_with fail
 go_ret
 exact ⟨by rw [HE.out]; rfl,below_drewN (Below.refl _ _) _⟩
theorem wpList_appendB {ops:Array Oper} {rest:List Oper} {o:Oper} {a:Act} {W:World} {Q:Exit→Act→World→Prop} (hgd:o.guard = none) (s x:Operand)
  (ho:o.op = .call { callee:=.builtin .append,args:=#[s,x],argTypes:=#[117,117] }) {B m g cap:Nat} {v:Value} {xs:List Value} {n:Int}
  (hs:a.eval s = v) (hown:W.ownsRow B 5 1 v m xs) (hx:a.eval x = .slice (some ⟨g,0,none⟩) 1 cap) (hr:W.heap[g]? = some (.cells #[.int .u8 n] 5 (0,0))) (hm:m ≤ 1000) (hB:B ≤ W.heap.size)
  (h:∀ v' W',W'.ownsRow B 5 1 v' (m + 1) (xs ++ [.int .u8 n])→W.grownBy W' v.ownBlock→wpList Tryz.prog ops Q rest (a.put o.dst v') W'):wpList Tryz.prog ops Q (o :: rest) a W:=
 wpList_plain hgd fun K hK=>by
  obtain ⟨i0,hi,hz⟩:=Option.map_eq_some_iff.1 infoU8
  simp only [Prod.mk.injEq] at hz
  obtain ⟨hz0,hz1,hz2⟩:=hz
  obtain ⟨v',W',hr2,h2,h3,_,_⟩:=run_append_own_at (P:=Tryz.prog) W B 117 o.type 5 i0 _ 1 1 Tryz.underlying117 hi hz0 hz1 hz2 rfl (by decide) v m xs hown ⟨g,0,none⟩ 1 cap [.int .u8 n] rfl (fun j u hj=>by
   rw [Addr.add_mid,Nat.zero_add]
   exact cell_of hr j (by rw [← hj]; simp)) (by intro u hu; simp at hu; subst hu; rfl) (by unfold maxLen; omega) (by omega) hB
  unfold Oper.wp execOp
  simp only [ho,resolve,invoke,builtin,Sem.run_bind,Sem.run_pure,Result.andThen_ok,List.map_toArray,List.map_cons,List.map_nil,hs,hx,hr2]
  exact hK _ _ (h v' W' h2 h3)
set_option maxHeartbeats 2000000 in
set_option maxRecDepth 100000 in
theorem r2Var_any (n:Nat) (hn:n < 128) (w:World) :
  Calls Tryz.prog 91 #[.int .u64 (n:Int)] w fun e w'=>e = .returned (.string ⟨#[UInt8.ofNat n]⟩)∧Below w.heap.size w w':=by
 have n0:(0:Int) ≤ (n:Int):=by omega
 have n1:¬ (128:Int) ≤ (n:Int):=by omega
 have n2:IntKind.u8.wrap (n:Int) = (n:Int):=by rw [IntKind.wrap_u8]; omega
 have HN:=hid hn
 clear hn
 go_enter Tryz.func91,Tryz.ntmps91
 go_wp2_with fail
 go_loopw [0,3] (fun nv v wr=>nv = .int .u64 (n:Int)∧v = .slice none 0 0∧w = wr) (fun _ _ _=>0)
 case atStart=>exact ⟨rfl,rfl,rfl⟩
 case round=>
  obtain ⟨rfl,rfl,rfl⟩:=hrel
  go_upto_region 6 with (refine wpList_appendB (by rfl) (.tmp 15) (.tmp 18) (by rfl) (by rfl) (ownBelowI (World.ownsRow_nil w w.heap.size 5 1) (below_one w (.cells #[.int .u8 (n:Int)] 5 (0,0)))) (by rfl) (heap_one w _) (by omega) (by simp) ?_; intro v' W5 g2 g3; have HB5:=hid ((below_one w (.cells #[.int .u8 (n:Int)] 5 (0,0))).grown g3 (by simp) (fun j hj=>by cases hj)); have HG:=hid g2; clear g2 g3)
  have hbc:byteCells [UInt8.ofNat n] = [.int .u8 (n:Int)]:=by
   have:=HN.out
   simp [byteCells]
   omega
  have g2:W5.ownsRow w.heap.size 5 1 v' [UInt8.ofNat n].length (byteCells [UInt8.ofNat n]):=by
   rw [hbc]
   exact HG.out
  obtain ⟨bo,bc,rfl⟩:∃ ao c,v' = .slice ao 1 c:=own_formI HG.out
  have hcv:(convert 117 9 (.slice bo 1 bc)).run Tryz.prog W5 = .ok (.string ⟨#[UInt8.ofNat n]⟩) W5:=conv_own (l:=[UInt8.ofNat n]) g2
  clear g2 hbc
  go_wp2_with fail
  go_ret
  exact ⟨rfl,HB5.out⟩
set_option maxHeartbeats 2000000 in
set_option maxRecDepth 100000 in
theorem r23May_any (i:Nat) (hi:i ≤ 63) (uo vo:Option Addr) (uc vk vc:Nat) (hv:vk ≤ 6) (w:World) :
  Calls Tryz.prog 90 #[.agg #[.int .i64 (i:Int),.slice uo 67 uc,.slice vo vk vc]] w fun e w'=>e = .returned (.bool true)∧Below w.heap.size w w':=by
 have i0:(0:Int) ≤ (i:Int):=by omega
 have i1:(i:Int) ≤ 63:=by omega
 have v0:(vk:Int) ≤ 6:=by omega
 have v1:(0:Int) ≤ (vk:Int):=by omega
 have hb:=below_one w (.cells #[.int .i64 (i:Int),.slice uo 67 uc,.slice vo vk vc] 73)
 have HB:=hid hb
 clear hb hi hv
 go_enter Tryz.func90,Tryz.ntmps90
 go_wp2_with fail
 go_ret
 exact ⟨rfl,HB.out⟩
def EncR (X:List UInt8) (c:List (List UInt8)) (w:World) (sv iv:Value) (wr:World):Prop:=
 ∃ k:Nat,k ≤ c.length∧iv = .int .i64 (k:Int)∧sv = .string ⟨(X ++ (c.take k).flatten).toArray⟩∧Below w.heap.size w wr
set_option maxHeartbeats 4000000 in
set_option maxRecDepth 100000 in
theorem r23Encode_any (i:Nat) (hi:i ≤ 63) (C P:List (List UInt8)) (u v:Value) (w:World) (hu:HsIn w u C) (hv:HsIn w v P) (hC:C.length = 67) (hP:P.length ≤ 6) :
  Calls Tryz.prog 44 #[.agg #[.int .i64 (i:Int),u,v]] w fun e w'=>e = .returned (.tuple #[.string ⟨(encF i C P).toArray⟩,.agg #[.int .i64 0,.int .i64 0]])∧Below w.heap.size w w':=by
 obtain ⟨uo,uc,rfl⟩:∃ ao c,u = .slice ao 67 c:=by obtain ⟨_,ao,c,h,_⟩:=hu; exact ⟨ao,c,by rw [h,hC]⟩
 obtain ⟨vo,vc,rfl⟩:∃ ao c,v = .slice ao P.length c:=by obtain ⟨_,ao,c,h,_⟩:=hv; exact ⟨ao,c,h⟩
 have C32:=hu.1
 have P32:=hv.1
 have HC32:=hid C32
 have HP32:=hid P32
 have HCF:=hid fun (k:Nat)=>flat_len32 (C.take k) fun x hx=>C32 x (List.mem_of_mem_take hx)
 have HPF:=hid fun (k:Nat)=>flat_len32 (P.take k) fun x hx=>P32 x (List.mem_of_mem_take hx)
 have HCL:=hid hC
 have HPL:=hid hP
 have i0:(0:Int) ≤ (i:Int):=by omega
 have i1:(i:Int) ≤ 63:=by omega
 have iw:IntKind.u64.wrap (i:Int) = (i:Int):=by rw [IntKind.wrap_u64]; omega
 have p0:(0:Int) ≤ (P.length:Int):=by omega
 have p1:(P.length:Int) ≤ 6:=by omega
 have pw:IntKind.u64.wrap (P.length:Int) = (P.length:Int):=by rw [IntKind.wrap_u64]; omega
 have HMY:=hid (r23May_any i hi uo vo uc P.length vc hP)
 have HV1:=hid (r2Var_any i (by omega))
 have HV2:=hid (r2Var_any P.length (by omega))
 have HEF:=hid (show encF i C P = (UInt8.ofNat i :: (C.flatten ++ [UInt8.ofNat P.length])) ++ P.flatten by unfold encF; simp)
 go_enter Tryz.func44,Tryz.ntmps44
 go_upto_region 1 with fail
 have hS:=heap_one w (.cells #[.int .i64 (i:Int),.slice uo 67 uc,.slice vo P.length vc] 73 (0,0))
 have hbS:=below_one w (.cells #[.int .i64 (i:Int),.slice uo 67 uc,.slice vo P.length vc] 73 (0,0))
 have hsz:(w.alloc (.cells #[.int .i64 (i:Int),.slice uo 67 uc,.slice vo P.length vc] 73)).heap.size = w.heap.size + 1:=by simp
 generalize w.alloc (.cells #[.int .i64 (i:Int),.slice uo 67 uc,.slice vo P.length vc] 73) = w1 at *
 have hf:=fW_row w1
 have hbf:=below_one w1 (.cells #[.int .i64 0,.int .i64 0] 38)
 rw [hsz] at hf
 have HS2:=hid (below_heap hbf hS)
 have HF2:=hid (show faultRow (w1.alloc (.cells #[.int .i64 0,.int .i64 0] 38)) (w.heap.size + 1) 0 0 from hf)
 have HB2:=hid (hbS.trans (hbf.mono hbS.size))
 generalize w1.alloc (.cells #[.int .i64 0,.int .i64 0] 38) = w2 at *
 clear hS hbS hsz hf hbf
 have HU:=hid (hu.below HB2.out)
 have HVV:=hid (hv.below HB2.out)
 have HSC:=hid (fun (W:World) (hW:Below w2.heap.size w2 W)=>(by
  have h:=below_heap hW HS2.out
  exact ⟨cell_of h 0 rfl,cell_of h 1 rfl,cell_of h 2 rfl⟩:W.cell? ⟨w.heap.size,0,none⟩ = some (.int .i64 (i:Int))∧W.cell? ⟨w.heap.size,1,none⟩ = some (.slice uo 67 uc)∧W.cell? ⟨w.heap.size,2,none⟩ = some (.slice vo P.length vc)))
 clear hi hC hP C32 P32 hu hv
 obtain ⟨a0,a1,a2⟩:=HSC.out _ (Below.refl _ _)
 go_upto_region 3 with (go_at_call 90; refine (HMY.out _).mono ?_; rintro e w3 ⟨rfl,hb3⟩; have HB3:=hid hb3; clear hb3)
 clear a0 a1 a2
 obtain ⟨a0,a1,a2⟩:=HSC.out _ HB3.out
 go_upto_region 4 with (go_at_call 91; refine (HV1.out _).mono ?_; rintro e w4 ⟨rfl,hb4⟩; have HB4:=hid (HB3.out.trans (hb4.mono HB3.out.size)); clear hb4)
 clear a0 a1 a2
 go_wp2_with fail
 go_loopw [4,5] (fun sv iv wr=>EncR [UInt8.ofNat i] C w4 sv iv wr) (fun _ iv _=>C.length - (intOf iv).toNat)
 case atStart=>exact ⟨0,Nat.zero_le _,rfl,rfl,Below.refl _ _⟩
 case round=>
  obtain ⟨k,hk,rfl,rfl,hbel⟩:=hrel
  rename World=>wA
  have HBE:=hid hbel
  have k0:(0:Int) ≤ (k:Int):=by omega
  have HBA:=hid (HB4.out.trans (hbel.mono HB4.out.size))
  obtain ⟨a0,a1,a2⟩:=HSC.out _ HBA.out
  by_cases hlt:k < C.length
  ·have k1:(k:Int) < 67:=by have:=HCL.out; omega
   obtain ⟨x,hx⟩:∃ x,C[k]? = some x:=⟨_,List.getElem?_eq_getElem hlt⟩
   obtain ⟨_,ao,cp,he,_,hr⟩:=HU.out
   obtain ⟨g,o,rfl,hrow⟩:=hr (fun e=>by rw [e] at hlt; simp at hlt)
   obtain ⟨he1,he2,he3⟩:=(Value.slice.injEq ..).mp he
   subst he1
   subst he3
   clear he he2
   have HRX:=hid (range_below HBA.out (HsIn.at HC32.out hrow hx))
   have HXL:=hid (HC32.out x (List.mem_of_getElem? hx))
   have HNX:=hid (flat_next hx)
   have hfl:=HCF.out k
   have HKL:=hid hlt
   obtain ⟨Q,hQ⟩:∃ Q,(C.take k).flatten = Q:=⟨_,rfl⟩
   rw [hQ] at HNX hfl ⊢
   have q1:¬ 9223372036854775807 < ([UInt8.ofNat i] ++ Q).length + x.length:=by rw [List.length_append,HXL.out,hfl,List.length_take,List.length_singleton]; have:=HCL.out; omega
   have q2:¬ 9223372036854775807 < 1 + Q.length + x.length:=by rw [HXL.out,hfl,List.length_take]; have:=HCL.out; omega
   have q3:¬ 9223372036854775807 < Q.length + 1 + x.length:=by rw [HXL.out,hfl,List.length_take]; have:=HCL.out; omega
   clear hrow hx hbel hQ hfl hlt hk hr
   go_wp2_with (first | (refine wpList_hashLoad2 (by rfl) (.tmp 26) (by rfl) g (o + k * 32) (by rfl) x HXL.out HRX.out ?_) | (go_at_call 62; refine (r5Bytes_any x HXL.out wA).mono ?_; rintro e wB ⟨rfl,hbB⟩))
   exact ⟨⟨k + 1,HKL.out,by go_num,by rw [HNX.out,← List.append_assoc,← cat_arr]; rfl,HBE.out.trans (hbB.mono HBE.out.size)⟩,by have:=HKL.out; simp [intOf]; omega⟩
  ·obtain rfl:k = C.length:=by omega
   have k1:¬ (C.length:Int) < 67:=by have:=HCL.out; omega
   have hfl:=HCF.out C.length
   rw [List.take_length] at hfl ⊢
   have HFL:=hid hfl
   obtain ⟨Q,hQ⟩:∃ Q,C.flatten = Q:=⟨_,rfl⟩
   rw [hQ] at HEF HFL ⊢
   have q1:¬ 9223372036854775807 < ([UInt8.ofNat i] ++ Q).length + 1:=by rw [List.length_append,HFL.out,List.length_singleton]; have:=HCL.out; omega
   have q2:¬ 9223372036854775807 < 1 + Q.length + 1:=by rw [HFL.out]; have:=HCL.out; omega
   have q3:¬ 9223372036854775807 < Q.length + 1 + 1:=by rw [HFL.out]; have:=HCL.out; omega
   clear hbel hfl hlt hk hQ
   go_upto_region 9 with (go_at_call 91; refine (HV2.out _).mono ?_; rintro e w5 ⟨rfl,hb5⟩; have HB5:=hid (HBA.out.trans (hb5.mono HBA.out.size)); clear hb5)
   clear a0 a1 a2
   have hcat:(⟨(UInt8.ofNat i :: Q).toArray⟩:ByteArray) ++ ⟨#[UInt8.ofNat P.length]⟩ = ⟨(UInt8.ofNat i :: (Q ++ [UInt8.ofNat P.length])).toArray⟩:=by
    apply ByteArray.ext
    simp
   rw [hcat]
   obtain ⟨X,hX⟩:∃ X,UInt8.ofNat i :: (Q ++ [UInt8.ofNat P.length]) = X:=⟨_,rfl⟩
   have HXL:=hid (show X.length ≤ 3000 by rw [← hX,List.length_cons,List.length_append,HFL.out,List.length_singleton]; have:=HCL.out; omega)
   rw [hX] at HEF ⊢
   clear hX hcat q1 q2 q3
   go_wp2_with fail
   go_loopw [4,6] (fun sv iv wr=>EncR X P w5 sv iv wr) (fun _ iv _=>P.length - (intOf iv).toNat)
   case atStart=>exact ⟨0,Nat.zero_le _,rfl,by simp,Below.refl _ _⟩
   case round=>
    obtain ⟨k,hk,rfl,rfl,hbel⟩:=hrel
    rename World=>wC
    have HBE:=hid hbel
    have k0:(0:Int) ≤ (k:Int):=by omega
    have HBA:=hid (HB5.out.trans (hbel.mono HB5.out.size))
    obtain ⟨a0,a1,a2⟩:=HSC.out _ HBA.out
    by_cases hlt:k < P.length
    ·have k1:(k:Int) < (P.length:Int):=by omega
     obtain ⟨x,hx⟩:∃ x,P[k]? = some x:=⟨_,List.getElem?_eq_getElem hlt⟩
     obtain ⟨_,ao,cp,he,_,hr⟩:=HVV.out
     obtain ⟨g,o,rfl,hrow⟩:=hr (fun e=>by rw [e] at hlt; simp at hlt)
     cases he
     have HRX:=hid (range_below HBA.out (HsIn.at HP32.out hrow hx))
     have HXL2:=hid (HP32.out x (List.mem_of_getElem? hx))
     have HNX:=hid (flat_next hx)
     have hfl:=HPF.out k
     have HKL:=hid hlt
     obtain ⟨Q2,hQ⟩:∃ Q,(P.take k).flatten = Q:=⟨_,rfl⟩
     rw [hQ] at HNX hfl ⊢
     have q1:¬ 9223372036854775807 < (X ++ Q2).length + x.length:=by rw [List.length_append,HXL2.out,hfl,List.length_take]; have:=HXL.out; have:=HPL.out; omega
     have q2:¬ 9223372036854775807 < X.length + Q2.length + x.length:=by rw [HXL2.out,hfl,List.length_take]; have:=HXL.out; have:=HPL.out; omega
     clear hrow hx hbel hQ hfl hlt hk hr
     go_wp2_with (first | (refine wpList_hashLoad2 (by rfl) (.tmp 48) (by rfl) g (o + k * 32) (by rfl) x HXL2.out HRX.out ?_) | (go_at_call 62; refine (r5Bytes_any x HXL2.out wC).mono ?_; rintro e wD ⟨rfl,hbD⟩))
     exact ⟨⟨k + 1,HKL.out,by go_num,by rw [HNX.out]; congr 1; apply ByteArray.ext; simp,HBE.out.trans (hbD.mono HBE.out.size)⟩,by have:=HKL.out; simp [intOf]; omega⟩
    ·obtain rfl:k = P.length:=by omega
     have k1:¬ (P.length:Int) < (P.length:Int):=by omega
     rw [List.take_length]
     have HFT:=hid (HF2.out.below HBA.out)
     obtain ⟨d0,d1,g0,g1⟩:=HFT.out.cells
     have HBF:=hid (HB2.out.trans (HBA.out.mono HB2.out.size))
     clear hbel hlt hk
     go_wp2_with fail
     refine ret_told rfl (w.heap.size + 1) 0 0 (.string ⟨(X ++ P.flatten).toArray⟩) (fault_set HFT.out _ _) rfl rfl rfl ⟨by rw [HEF.out],(HBF.out.setCell (p:=⟨w.heap.size + 1,0,none⟩) (by simp) _).setCell (p:=⟨w.heap.size + 1,1,none⟩) (by simp) _⟩
theorem results_rowsS {P:Program} {fn:Func} {u p:Tmp} {ty ty2:TypeId} (h:fn.results = #[.cell p ty,.cell u ty2]) (tmps:Array Value) (w:World) (g g2:Nat) (t t2:TypeId) (cs cs2:Array Value) (fr fr2:Nat × Nat) (d d2:TypeDesc)
  (hp:tmps.getD p undef = .pointer (some ⟨g,0,none⟩)) (hg:w.heap[g]? = some (.cells cs t fr)) (hp2:tmps.getD u undef = .pointer (some ⟨g2,0,none⟩)) (hg2:w.heap[g2]? = some (.cells cs2 t2 fr2))
  (hu:P.underlying ty = some d) (hd:(match d with | .struct _ | .array _ _=>true | _=>false) = true) (hi:(P.info? ty).map (·.size) = some cs.size)
  (hu2:P.underlying ty2 = some d2) (hd2:(match d2 with | .struct _ | .array _ _=>true | _=>false) = true) (hi2:(P.info? ty2).map (·.size) = some cs2.size) :
  (results fn tmps).run P w = .ok (.tuple #[.agg cs,.agg cs2]) w:=by
 have hp':tmps[p]?.getD undef = .pointer (some ⟨g,0,none⟩):=by simpa using hp
 have hp2':tmps[u]?.getD undef = .pointer (some ⟨g2,0,none⟩):=by simpa using hp2
 simp [results,h,hp',hp2',asAddr,run_loadVar_row w g t ty cs fr d hg hu hd hi,run_loadVar_row w g2 t2 ty2 cs2 fr2 d2 hg2 hu2 hd2 hi2,Result.andThen]
theorem sgInfo3:(Tryz.prog.info? 73).map (·.size) = some 3:=by kernel_rfl
theorem ret_sf {fn:Func} {u p:Tmp} (hf:fn.results = #[.cell p 73,.cell u 38]) {Q:Ending→World→Prop} {a:Act} {w:World} (g g2:Nat) (cs:Array Value) (c z:Int)
  (hg:w.heap[g]? = some (.cells cs 73 (0,0))) (hcs:cs.size = 3) (hg2:faultRow w g2 c z) (hd:a.defers = []) (hp:a.tmps.getD p undef = .pointer (some ⟨g,0,none⟩)) (hv:a.tmps.getD u undef = .pointer (some ⟨g2,0,none⟩))
  (hQ:Q (.returned (.tuple #[.agg cs,.agg #[.int .i64 c,.int .i64 z]])) w):bodyPost Tryz.prog fn Q .ret a w:=by
 refine bodyPost_ret (v:=.tuple #[.agg cs,.agg #[.int .i64 c,.int .i64 z]]) ?_ hd hQ
 exact results_rowsS hf _ _ g g2 73 38 _ _ (0,0) (0,0) _ _ hp hg hv hg2 Tryz.underlying73 rfl (by rw [hcs]; exact sgInfo3) Tryz.underlying38 rfl faultInfo
theorem RK.same {w w':World} {rb B:Nat} {s:List UInt8} {h nx k:Nat} {lv:Value} (hk:RK w rb s h nx k lv) (hrb:rb < B) (hlv:∀ g,lv.ownBlock = some g→g < B) (he:∀ g,g < B→w'.heap[g]? = w.heap[g]?):RK w' rb s h nx k lv:=
 ⟨(he rb hrb).trans hk.row,hk.ls,rowKeepK hk.own fun g hg=>he g (hlv g hg)⟩
theorem RK.step {w:World} {rb:Nat} {s:List UInt8} {h nx k:Nat} {lv:Value} (hk:RK w rb s h nx k lv):RK (w.setCell ⟨rb,33,none⟩ (.int .i64 ((nx:Int) + 1))) rb s h (nx + 1) k lv:=by
 refine ⟨?_,hk.ls,rowKeepK hk.own fun g hg=>Below.heap_setCell w ⟨rb,33,none⟩ _ g (by
  have:=(hk.own.lt g hg).1
  show g ≠ rb
  omega)⟩
 have h:=heap_setCell_same w rb 33 _ _ (.int .i64 ((nx:Int) + 1)) hk.row
 rw [rkC_set1 hk.ls] at h
 rw [h]
 rfl
set_option maxHeartbeats 2000000 in
set_option maxRecDepth 100000 in
theorem r23Sign_spent (rb:Nat) (s:List UInt8) (h:Nat) (hh:h ≤ 6) (lv:Value) (t:List UInt8) (w:World) (hk:RK w rb s h (2 ^ h) (2 ^ h) lv) :
  Calls Tryz.prog 43 #[.pointer (some ⟨rb,0,none⟩),.string ⟨t.toArray⟩] w fun e w'=>e = .returned (.tuple #[.agg #[.int .i64 0,.slice none 0 0,.slice none 0 0],.agg #[.int .i64 11,.int .i64 (-1)]])∧Below w.heap.size w w':=by
 obtain ⟨lao,lcp,rfl⟩:=own_formI hk.own
 have hlt:=hk.lt
 have hp64:=(pow_h hh).2
 obtain ⟨N,hN⟩:∃ N,2 ^ h = N:=⟨_,rfl⟩
 rw [hN] at hk hp64
 have n2:(N:Int) ≤ 64:=by omega
 have n0:(0:Int) ≤ (N:Int):=by omega
 have HK:=hid hk
 have HPL:=hid (faultPlain_any 11 (by decide))
 clear hk hN hp64
 go_enter Tryz.func43,Tryz.ntmps43
 go_upto_region 1 with fail
 have hS:=heap_one w (.cells #[.int .i64 0,.slice none 0 0,.slice none 0 0] 73 (0,0))
 have hbS:=below_one w (.cells #[.int .i64 0,.slice none 0 0,.slice none 0 0] 73 (0,0))
 have hsz:(w.alloc (.cells #[.int .i64 0,.slice none 0 0,.slice none 0 0] 73)).heap.size = w.heap.size + 1:=by simp
 generalize w.alloc (.cells #[.int .i64 0,.slice none 0 0,.slice none 0 0] 73) = w1 at *
 have hf:=fW_row w1
 have hbf:=below_one w1 (.cells #[.int .i64 0,.int .i64 0] 38)
 rw [hsz] at hf
 have HS2:=hid (below_heap hbf hS)
 have HF2:=hid (show faultRow (w1.alloc (.cells #[.int .i64 0,.int .i64 0] 38)) (w.heap.size + 1) 0 0 from hf)
 have HB2:=hid (hbS.trans (hbf.mono hbS.size))
 generalize w1.alloc (.cells #[.int .i64 0,.int .i64 0] 38) = w2 at *
 clear hS hbS hsz hf hbf
 have HK2:=hid (HK.out.below HB2.out)
 have c1:=HK2.out.leaves
 have c2:=HK2.out.next
 have hlt2:=HK2.out.lt
 go_wp2_with fail
 go_quiet (fail)
 clear c1 c2 hlt2
 rename_i nq _
 have hbd:=below_drewN (Below.refl w2.heap.size w2) nq
 have HS2d:=hid (below_heap hbd HS2.out)
 have HF2d:=hid (HF2.out.below hbd)
 have HB2d:=hid (HB2.out.trans (hbd.mono HB2.out.size))
 generalize w2.drewN nq = w2d at *
 clear hbd
 go_wp2_with (go_at_call 28; refine (HPL.out _).mono ?_; rintro e w3 ⟨rfl,hb3⟩; have HS3:=hid (below_heap hb3 HS2d.out); have HF3:=hid (HF2d.out.below hb3); have HB3:=hid (HB2d.out.trans (hb3.mono HB2d.out.size)); have a0:=cell_of HS3.out 0 rfl; have a1:=cell_of HS3.out 1 rfl; have a2:=cell_of HS3.out 2 rfl; have e0:=frozen_row HS3.out 0; have e1:=frozen_row HS3.out 1; have e2:=frozen_row HS3.out 2; obtain ⟨d0,d1,g0,g1⟩:=HF3.out.cells; clear hb3)
 have hcs:=heap_set3 HS3.out (.int .i64 0) (.slice none 0 0) (.slice none 0 0)
 have hfo:faultRow (w3.setCells w.heap.size 0 [.int .i64 0,.slice none 0 0,.slice none 0 0]) (w.heap.size + 1) 0 0:=(setCells_other _ _ _ _ _ (by omega)).trans HF3.out
 have hbe:Below w.heap.size w (w3.setCells w.heap.size 0 [.int .i64 0,.slice none 0 0,.slice none 0 0]):=below_setCellsN (Nat.le_refl _) _ _ _ HB3.out
 refine ret_sf rfl w.heap.size (w.heap.size + 1) #[.int .i64 0,.slice none 0 0,.slice none 0 0] 11 (-1) ?_ rfl (fault_set hfo 11 (-1)) rfl rfl rfl ⟨rfl,(hbe.setCell (p:=⟨w.heap.size + 1,0,none⟩) (by simp) _).setCell (p:=⟨w.heap.size + 1,1,none⟩) (by simp) _⟩
 exact ((Below.heap_setCell _ ⟨w.heap.size + 1,1,none⟩ _ w.heap.size (by simp)).trans (Below.heap_setCell _ ⟨w.heap.size + 1,0,none⟩ _ w.heap.size (by simp))).trans hcs
set_option maxHeartbeats 4000000 in
set_option maxRecDepth 100000 in
theorem r23Sign_any (rb:Nat) (s:List UInt8) (h nx:Nat) (hn:nx < 2 ^ h) (hh:h ≤ 6) (lv:Value) (t:List UInt8) (ht:t.length ≤ 35184372088000) (w0 w:World) (hB0:Below w0.heap.size w0 w) (hrb:w0.heap.size ≤ rb) (hk:RK w rb s h nx (2 ^ h) lv) :
  Calls Tryz.prog 43 #[.pointer (some ⟨rb,0,none⟩),.string ⟨t.toArray⟩] w fun e w'=>∃ u v:Value,e = .returned (.tuple #[.agg #[.int .i64 (nx:Int),u,v],.agg #[.int .i64 0,.int .i64 0]])∧w'.ownsRow w.heap.size 23 32 u 67 (hcells (signF (ownF s nx) (msgF nx t)))∧w'.ownsRow w.heap.size 23 32 v h (hcells (kpath s h nx))∧RK w' rb s h (nx + 1) (2 ^ h) lv∧But [rb] w w'∧Below w0.heap.size w0 w':=by
 obtain ⟨g,lcp,rfl,hcap,hgl,hrg,hla⟩:=hk.leavesAt
 have hlt:=hk.lt
 have hp64:=(pow_h hh).2
 have HHH:=hid hh
 have HPT:=hid (fun (W:World) (hl:LeavesAt W s g 0 h 0) (hg:g < W.heap.size)=>(by
  have h:=r23path_any s h hh 0 nx g 0 lcp W hn hl hg hcap
  rw [← kpath_F] at h
  exact h))
 obtain ⟨N,hN⟩:∃ N,2 ^ h = N:=⟨_,rfl⟩
 have HNN:=hid hN
 rw [hN] at hk hp64 hn hcap HPT ⊢
 have n2:(N:Int) ≤ 64:=by omega
 have n0:(0:Int) ≤ (nx:Int):=by omega
 have n1:¬ (N:Int) ≤ (nx:Int):=by omega
 have n3:(nx:Int) < (N:Int):=by omega
 have HKW:=hid hk
 have HRB:=hid hlt
 have HCP:=hid hcap
 have HSL:=hid hk.ls
 have HSZ0:=hid hB0.size
 have HTL:=hid ht
 have HOW:=hid (r23Secret_any nx (by omega) s hk.ls)
 have HMS:=hid (r23Message_any nx (by omega) t ht)
 have HSG:=hid (r22Sign_any (ownF s nx) (msgF nx t) (shaL_len _) (shaL_len _))
 obtain ⟨X1,hX1⟩:∃ X,ownF s nx = X:=⟨_,rfl⟩
 obtain ⟨X2,hX2⟩:∃ X,msgF nx t = X:=⟨_,rfl⟩
 rw [hX1] at HOW HSG
 rw [hX2] at HMS HSG
 rw [hX1,hX2]
 clear hk hN hp64 hn hcap hh ht hX1 hX2 hlt
 go_enter Tryz.func43,Tryz.ntmps43
 go_upto_region 1 with fail
 have hS:=heap_one w (.cells #[.int .i64 0,.slice none 0 0,.slice none 0 0] 73 (0,0))
 have hbS:=below_one w (.cells #[.int .i64 0,.slice none 0 0,.slice none 0 0] 73 (0,0))
 have hsz:(w.alloc (.cells #[.int .i64 0,.slice none 0 0,.slice none 0 0] 73)).heap.size = w.heap.size + 1:=by simp
 generalize w.alloc (.cells #[.int .i64 0,.slice none 0 0,.slice none 0 0] 73) = w1 at *
 have hf:=fW_row w1
 have hbf:=below_one w1 (.cells #[.int .i64 0,.int .i64 0] 38)
 rw [hsz] at hf
 have hs2:(w1.alloc (.cells #[.int .i64 0,.int .i64 0] 38)).heap.size = w.heap.size + 1 + 1:=by simp [hsz]
 have HS2:=hid (below_heap hbf hS)
 have HF2:=hid (show faultRow (w1.alloc (.cells #[.int .i64 0,.int .i64 0] 38)) (w.heap.size + 1) 0 0 from hf)
 have HB2:=hid (hbS.trans (hbf.mono hbS.size))
 generalize w1.alloc (.cells #[.int .i64 0,.int .i64 0] 38) = w2 at *
 clear hS hbS hsz hf hbf
 have HK2:=hid (HKW.out.below HB2.out)
 have c1:=HK2.out.leaves
 have c2:=HK2.out.next
 have hlt2:=HK2.out.lt
 go_wp2_with fail
 go_quiet (fail)
 clear c1 c2 hlt2
 rename_i nq _
 have hbd:=below_drewN (Below.refl w2.heap.size w2) nq
 have HS3:=hid (below_heap hbd HS2.out)
 have HF3:=hid (HF2.out.below hbd)
 have HK3:=hid (HK2.out.below hbd)
 have HB3:=hid (HB2.out.trans (hbd.mono HB2.out.size))
 have HS23:=hid (show (w2.drewN nq).heap.size = w.heap.size + 1 + 1 from hs2)
 generalize w2.drewN nq = w3 at *
 clear hbd hs2
 have c2:=HK3.out.next
 have f2:=frozen_row HK3.out.row 33
 have hlt3:=HK3.out.lt
 go_upto_region 5 with fail
 have hK4:=HK3.out.step
 have hne:=HRB.out
 have hS4:(w3.setCell ⟨rb,33,none⟩ (.int .i64 ((nx:Int) + 1))).heap[w.heap.size]? = _:=(Below.heap_setCell w3 ⟨rb,33,none⟩ (.int .i64 ((nx:Int) + 1)) w.heap.size (by show w.heap.size ≠ rb; omega)).trans HS3.out
 have hF4:faultRow (w3.setCell ⟨rb,33,none⟩ (.int .i64 ((nx:Int) + 1))) (w.heap.size + 1) 0 0:=(Below.heap_setCell w3 ⟨rb,33,none⟩ (.int .i64 ((nx:Int) + 1)) (w.heap.size + 1) (by show w.heap.size + 1 ≠ rb; omega)).trans HF3.out
 have hla4:LeavesAt (w3.setCell ⟨rb,33,none⟩ (.int .i64 ((nx:Int) + 1))) s g 0 h 0:=by
  have hk:=hK4
  rw [← HNN.out] at hk
  obtain ⟨g2,c2,e,_,_,_,h4⟩:=hk.leavesAt
  cases e
  exact h4
 have hbut:But [rb] w (w3.setCell ⟨rb,33,none⟩ (.int .i64 ((nx:Int) + 1))):=(But.of_below HB3.out).setCell (p:=⟨rb,33,none⟩) (by simp) _
 have hb04:Below w0.heap.size w0 (w3.setCell ⟨rb,33,none⟩ (.int .i64 ((nx:Int) + 1))):=(hB0.trans (HB3.out.mono hB0.size)).setCell (p:=⟨rb,33,none⟩) hrb _
 have hs4:(w3.setCell ⟨rb,33,none⟩ (.int .i64 ((nx:Int) + 1))).heap.size = w.heap.size + 1 + 1:=by rw [World.size_setCell]; exact HS23.out
 clear c2 f2 hlt3
 generalize w3.setCell ⟨rb,33,none⟩ (.int .i64 ((nx:Int) + 1)) = w3b at *
 have hdr:=Below.drew (Below.refl w3b.heap.size w3b)
 have HK4:=hid (hK4.below hdr)
 have HS4:=hid (below_heap hdr hS4)
 have HF4:=hid (hF4.below hdr)
 have HLA:=hid (hla4.below hdr)
 have HBUT:=hid (hbut.drew)
 have HB04:=hid (hb04.drew)
 have HS24:=hid (show w3b.drew.heap.size = w.heap.size + 1 + 1 from hs4)
 have HGL:=hid (show g < w3b.drew.heap.size by rw [HS24.out]; omega)
 refine wp_region_till 19 (SinceR w3b.drew fun _=>True) (by kernel_rfl) ⟨fun _=>Below.refl _ _,trivial⟩ (fun hHeld=>?_)
 generalize w3b.drew = w4 at *
 clear hK4 hS4 hF4 hla4 hbut hb04 hs4 hdr
 refine wT (i:=0) (v:=.int .i64 (nx:Int)) rfl (Or.inl ⟨by rfl,fun w _=>?_⟩) hHeld ?_
 ·go_simp
 simp only [List.getElem_toArray,List.getElem_cons_zero,Act.put,List.setIfInBounds_toArray,List.set_cons_zero,List.set_cons_succ]
 refine wT (i:=1) (v:=.pointer (some ⟨rb,0,none⟩)) rfl (Or.inl ⟨by rfl,fun w _=>?_⟩) hHeld ?_
 ·go_simp
 simp only [List.getElem_toArray,List.getElem_cons_succ,List.getElem_cons_zero,Act.put,List.setIfInBounds_toArray,List.set_cons_zero,List.set_cons_succ]
 refine wT (i:=2) (v:=.pointer (some ⟨rb,0,none⟩)) rfl (Or.inl ⟨by rfl,fun w _=>?_⟩) hHeld ?_
 ·go_simp
 simp only [List.getElem_toArray,List.getElem_cons_succ,List.getElem_cons_zero,Act.put,List.setIfInBounds_toArray,List.set_cons_zero,List.set_cons_succ]
 refine wT (i:=3) (v:=.pointer (some ⟨rb,0,none⟩)) rfl (Or.inl ⟨by rfl,fun w _=>?_⟩) hHeld ?_
 ·go_simp
 simp only [List.getElem_toArray,List.getElem_cons_succ,List.getElem_cons_zero,Act.put,List.setIfInBounds_toArray,List.set_cons_zero,List.set_cons_succ]
 refine wF (i:=4) (v:=hv s) rfl (yieldsIf_load_mid (by rfl) 23 (.tmp 33) (by rfl) rb 0 (by rfl) (byteCells s) _ (fun W h=>(HK4.out.below (h.1 rfl)).sec) Tryz.underlying23 rfl (by rw [Lib.byteCells_length,HK4.out.ls]; exact hashInfo)) hHeld ?_
 simp only [List.getElem_toArray,List.getElem_cons_succ,List.getElem_cons_zero,Act.put,List.setIfInBounds_toArray,List.set_cons_zero,List.set_cons_succ]
 refine wT (i:=5) (v:=.int .i64 (nx:Int)) rfl (Or.inl ⟨by rfl,fun w _=>?_⟩) hHeld ?_
 ·go_simp
 simp only [List.getElem_toArray,List.getElem_cons_succ,List.getElem_cons_zero,Act.put,List.setIfInBounds_toArray,List.set_cons_zero,List.set_cons_succ]
 refine wT (i:=7) (v:=.int .i64 (nx:Int)) rfl (Or.inl ⟨by rfl,fun w _=>?_⟩) hHeld ?_
 ·go_simp
 simp only [List.getElem_toArray,List.getElem_cons_succ,List.getElem_cons_zero,Act.put,List.setIfInBounds_toArray,List.set_cons_zero,List.set_cons_succ]
 refine wT (i:=8) (v:=.string ⟨t.toArray⟩) rfl (Or.inl ⟨by rfl,fun w _=>?_⟩) hHeld ?_
 ·go_simp
 simp only [List.getElem_toArray,List.getElem_cons_succ,List.getElem_cons_zero,Act.put,List.setIfInBounds_toArray,List.set_cons_zero,List.set_cons_succ]
 refine wT (i:=11) (v:=.int .i64 (nx:Int)) rfl (Or.inl ⟨by rfl,fun w _=>?_⟩) hHeld ?_
 ·go_simp
 simp only [List.getElem_toArray,List.getElem_cons_succ,List.getElem_cons_zero,Act.put,List.setIfInBounds_toArray,List.set_cons_zero,List.set_cons_succ]
 refine wT (i:=12) (v:=.pointer (some ⟨rb,0,none⟩)) rfl (Or.inl ⟨by rfl,fun w _=>?_⟩) hHeld ?_
 ·go_simp
 simp only [List.getElem_toArray,List.getElem_cons_succ,List.getElem_cons_zero,Act.put,List.setIfInBounds_toArray,List.set_cons_zero,List.set_cons_succ]
 refine wT (i:=13) (v:=.pointer (some ⟨rb,0,none⟩)) rfl (Or.inl ⟨by rfl,fun w _=>?_⟩) hHeld ?_
 ·go_simp
 simp only [List.getElem_toArray,List.getElem_cons_succ,List.getElem_cons_zero,Act.put,List.setIfInBounds_toArray,List.set_cons_zero,List.set_cons_succ]
 refine wT (i:=14) (v:=.pointer (some ⟨rb,34,none⟩)) rfl (Or.inl ⟨by rfl,fun w _=>?_⟩) hHeld ?_
 ·go_simp
 simp only [List.getElem_toArray,List.getElem_cons_succ,List.getElem_cons_zero,Act.put,List.setIfInBounds_toArray,List.set_cons_zero,List.set_cons_succ]
 refine wF (i:=15) (v:=.slice (some ⟨g,0,none⟩) N lcp) rfl (Or.inl ⟨by rfl,fun w hSw=>?_⟩) hHeld ?_
 ·have c:w.cell? ⟨rb,34,none⟩ = some (.slice (some ⟨g,0,none⟩) N lcp):=(HK4.out.below (hSw.1 rfl)).leaves
  go_simp
 simp only [List.getElem_toArray,List.getElem_cons_succ,List.getElem_cons_zero,Act.put,List.setIfInBounds_toArray,List.set_cons_zero,List.set_cons_succ]
 refine wT (i:=18) (v:=.agg #[.int .i64 0,.int .i64 0]) rfl (Or.inl ⟨by rfl,fun w _=>?_⟩) hHeld ?_
 ·go_simp
 simp only [List.getElem_toArray,List.getElem_cons_succ,List.getElem_cons_zero,Act.put,List.setIfInBounds_toArray,List.set_cons_zero,List.set_cons_succ]
 refine wpAnyT_ready (rs:=[6]) (by kernel_rfl) (by simp) ?_
 refine AllReadyT.cons false rfl (by kernel_rfl) (fun K hK=>?_) AllReadyT.nil
 go_simp
 refine (HOW.out _).mono ?_
 rintro e wx ⟨rfl,hy⟩
 go_wp2_with fail
 have hy:=(hHeld.1 rfl).trans (hy.mono (hHeld.1 rfl).size)
 refine hK.out _ _ ⟨fun _=>hy,trivial⟩ (fun hHeld=>?_)
 clear hy
 clear hK K
 refine wpAnyT_ready (rs:=[9]) (by kernel_rfl) (by simp) ?_
 refine AllReadyT.cons false rfl (by kernel_rfl) (fun K hK=>?_) AllReadyT.nil
 go_simp
 refine (HMS.out _).mono ?_
 rintro e wy ⟨rfl,hy⟩
 go_wp2_with fail
 have hy:=(hHeld.1 rfl).trans (hy.mono (hHeld.1 rfl).size)
 refine hK.out _ _ ⟨fun _=>hy,trivial⟩ (fun hHeld=>?_)
 clear hy
 clear hK K
 refine wpAnyT_ready (rs:=[10]) (by kernel_rfl) (by simp) ?_
 refine AllReadyT.cons false rfl (by kernel_rfl) (fun K hK=>?_) AllReadyT.nil
 go_simp
 have HSZ1:=hid (hHeld.1 rfl).size
 refine (HSG.out _).mono ?_
 rintro e wq ⟨⟨uv,rfl,hu⟩,hy⟩
 obtain ⟨uo,uc,rfl⟩:=own_formI hu
 have HU:=hid hu
 clear hu
 go_wp2_with fail
 have hy:=(hHeld.1 rfl).trans (hy.mono (hHeld.1 rfl).size)
 have HBQ:=hid hy
 refine hK.out _ _ ⟨fun _=>hy,trivial⟩ (fun hHeld=>?_)
 clear hy
 clear hK K
 refine wpAnyT_ready (rs:=[16]) (by kernel_rfl) (by simp) ?_
 refine AllReadyT.cons false rfl (by kernel_rfl) (fun K hK=>?_) AllReadyT.nil
 go_simp
 have HLQ:=hid (HLA.out.below HBQ.out)
 refine (HPT.out wq HLQ.out (Nat.lt_of_lt_of_le HGL.out HBQ.out.size)).mono ?_
 rintro e wr ⟨⟨pv,rfl,hp⟩,hy⟩
 obtain ⟨po,pc,rfl⟩:=own_formI hp
 have HP:=hid hp
 have HUR:=hid (ownBelowI HU.out hy)
 clear hp
 go_wp2_with fail
 have hy:=(hHeld.1 rfl).trans (hy.mono (hHeld.1 rfl).size)
 have HBR:=hid hy
 refine hK.out _ _ ⟨fun _=>hy,trivial⟩ (fun hHeld=>?_)
 clear hy
 clear hK K
 refine wT (i:=17) (v:=.agg #[.int .i64 (nx:Int),.slice uo 67 uc,.slice po h pc]) rfl (Or.inl ⟨by rfl,fun w _=>?_⟩) hHeld ?_
 ·go_simp
 simp only [List.getElem_toArray,List.getElem_cons_succ,List.getElem_cons_zero,Act.put,List.setIfInBounds_toArray,List.set_cons_zero,List.set_cons_succ]
 refine wpAnyT_ready (rs:=[19]) (by kernel_rfl) (by simp) ?_
 refine AllReadyT.cons true rfl (by kernel_rfl) (fun K hK=>?_) AllReadyT.nil
 have HSR:=hid (below_heap HBR.out HS4.out)
 have HFR:=hid (HF4.out.below HBR.out)
 refine wp_store_mid 73 (.tmp 4) (.tmp 47) (by rfl) w.heap.size 0 #[.int .i64 (nx:Int),.slice uo 67 uc,.slice po h pc] (by rfl) (by rfl) (there_row HSR.out (Nat.le_refl _)) sgInfo3 (by rw [List.all_toArray]; rfl) ?_
 have HS5:=hid (heap_set3 HSR.out (.int .i64 (nx:Int)) (.slice uo 67 uc) (.slice po h pc))
 have HE5:=hid (fun k (hk:k ≠ w.heap.size)=>(setCells_other [.int .i64 (nx:Int),.slice uo 67 uc,.slice po h pc] 0 wr w.heap.size k hk))
 have HF5:=hid (show faultRow (wr.setCells w.heap.size 0 [.int .i64 (nx:Int),.slice uo 67 uc,.slice po h pc]) (w.heap.size + 1) 0 0 from (HE5.out (w.heap.size + 1) (by omega)).trans HFR.out)
 have HB5:=hid (show ∀ (B:Nat) (w0:World),B ≤ w.heap.size→Below B w0 wr→Below B w0 (wr.setCells w.heap.size 0 [.int .i64 (nx:Int),.slice uo 67 uc,.slice po h pc]) from fun B w0 hB hb=>below_setCellsN hB _ _ _ hb)
 refine hK.out _ _ ⟨fun h=>(by cases h),trivial⟩ (fun hHeld=>?_)
 generalize wr.setCells w.heap.size 0 [.int .i64 (nx:Int),.slice uo 67 uc,.slice po h pc] = w5 at *
 clear hK K
 refine wpAnyT_ready (rs:=[20]) (by kernel_rfl) (by simp) ?_
 refine AllReadyT.cons true rfl (by kernel_rfl) (fun K hK=>?_) AllReadyT.nil
 refine wp_store_mid 38 (.tmp 5) (.tmp 48) (by rfl) (w.heap.size + 1) 0 #[.int .i64 0,.int .i64 0] (by rfl) (by rfl) (there_row HF5.out (Nat.le_refl _)) faultInfo (by rw [List.all_toArray]; rfl) ?_
 have HF6:=hid (fault_set HF5.out 0 0)
 have HE6:=hid (fun k (hk:k ≠ w.heap.size + 1)=>(setCells_other [.int .i64 0,.int .i64 0] 0 w5 (w.heap.size + 1) k hk))
 have HB6:=hid (show ∀ (B:Nat) (w0:World),B ≤ w.heap.size→Below B w0 w5→Below B w0 (w5.setCells (w.heap.size + 1) 0 [.int .i64 0,.int .i64 0]) from fun B w0 hB hb=>below_setCellsN (by omega) _ _ _ hb)
 refine hK.out _ _ ⟨fun h=>(by cases h),trivial⟩ (fun hHeld=>?_)
 have HF6:=hid (show faultRow (w5.setCells (w.heap.size + 1) 0 [.int .i64 0,.int .i64 0]) (w.heap.size + 1) 0 0 from HF6.out)
 generalize w5.setCells (w.heap.size + 1) 0 [.int .i64 0,.int .i64 0] = w6 at *
 clear hK K
 refine wpAnyT_done (by kernel_rfl) ?_ _
 go_wp2_with fail
 have hE:∀ k,k ≠ w.heap.size→k ≠ w.heap.size + 1→w6.heap[k]? = wr.heap[k]?:=fun k h1 h2=>(HE6.out k h2).trans (HE5.out k h1)
 refine ret_sf rfl w.heap.size (w.heap.size + 1) #[.int .i64 (nx:Int),.slice uo 67 uc,.slice po h pc] 0 0 ((HE6.out w.heap.size (by omega)).trans HS5.out) rfl HF6.out rfl rfl rfl ⟨_,_,rfl,?_,?_,?_,?_,?_⟩
 ·exact ownLow (rowKeepK (ownLow HUR.out HSZ1.out) fun g hg=>hE g (by have:=(HUR.out.lt g hg).1; have:=HSZ1.out; have:=HS24.out; omega) (by have:=(HUR.out.lt g hg).1; have:=HSZ1.out; have:=HS24.out; omega)) (by have:=HS24.out; omega)
 ·exact ownLow (rowKeepK HP.out fun g hg=>hE g (by have:=(HP.out.lt g hg).1; have:=HBQ.out.size; have:=HS24.out; omega) (by have:=(HP.out.lt g hg).1; have:=HBQ.out.size; have:=HS24.out; omega)) (by have:=HBQ.out.size; have:=HS24.out; omega)
 ·exact (HK4.out.below HBR.out).same (B:=w.heap.size) HRB.out (fun g hg=>(HKW.out.own.lt g hg).2) fun g hg=>hE g (by omega) (by omega)
 ·exact (HBUT.out.trans (But.of_below HBR.out)).of_new (HB6.out _ _ (Nat.le_refl _) (HB5.out _ _ (Nat.le_refl _) (Below.refl _ _)))
 ·exact HB6.out _ _ HSZ0.out (HB5.out _ _ HSZ0.out (HB04.out.trans (HBR.out.mono HB04.out.size)))
end Go.Proofs.YticlgcfodlcpcaaGreatDoor
