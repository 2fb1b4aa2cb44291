/- note's line. -/
import Derived.Test.YticlgcfodlcpcaaGreatDoorNSplit
import Derived.Test.YticlgcfodlcpcaaGreatDoorNDec
namespace Go.Proofs.YticlgcfodlcpcaaGreatDoor
open Go.Lib (hid byteCells)
open Go.RowKit
abbrev Kn:=List UInt8 × List UInt8 × Int
def knC (k:Kn):List Value:=.string ⟨k.1.toArray⟩ :: (byteCells k.2.1 ++ [.int .i64 k.2.2])
abbrev knV (k:Kn):Value:=.agg (knC k).toArray
def knOk (k:Kn):Prop:=k.1.length ≤ 1048576∧k.2.1.length = 32∧idxOk k.2.2
theorem knC_len {k:Kn} (h:k.2.1.length = 32):(knC k).length = 34:=by unfold knC; simp [Lib.byteCells_length,h]
theorem knC_size {k:Kn} (h:k.2.1.length = 32):(knC k).toArray.size = 34:=by rw [List.size_toArray,knC_len h]
theorem knC_one (k:Kn):(knC k).toArray.all (·.oneCell') = true:=by
 rw [List.all_toArray,List.all_eq_true]
 intro x hx
 unfold knC at hx
 simp only [List.mem_cons,List.mem_append,List.not_mem_nil,or_false] at hx
 rcases hx with rfl | hx | rfl
 ·rfl
 ·exact cells_oneC _ x hx
 ·rfl
theorem knC_zero (k:Kn):(knC k).toArray[0]? = some (.string ⟨k.1.toArray⟩):=by unfold knC; simp
theorem knC_height {k:Kn} (h:k.2.1.length = 32):(knC k).toArray[33]? = some (.int .i64 k.2.2):=by
 rw [List.getElem?_toArray]
 unfold knC
 rw [List.getElem?_cons_succ,List.getElem?_append_right (by rw [Lib.byteCells_length,h]; decide),Lib.byteCells_length,h]
 rfl
theorem knC_pub {W:World} {g o:Nat} {k:Kn} (h0:k.2.1.length = 32) (hr:W.rangeAt g o (knC k)):W.rangeAt g (o + 1) (byteCells k.2.1):=fun j v hj=>by
 have e:(knC k)[1 + j]? = some v:=by
  unfold knC
  rw [Nat.add_comm,List.getElem?_cons_succ,List.getElem?_append_left (by have:=(List.getElem?_eq_some_iff.1 hj).1; exact this)]
  exact hj
 have _:=h0
 have:=hr (1 + j) v e
 rwa [← Nat.add_assoc] at this
set_option maxRecDepth 100000 in
theorem infoKn:(Tryz.prog.info? 64).map (·.size) = some 34:=by kernel_rfl
theorem kn_row {W:World} {g:Nat} {k:Kn} (h:W.heap[g]? = some (.cells (knC k).toArray 64 (0,0))):W.rangeAt g 0 (knC k):=fun j v hj=>by
 rw [Nat.zero_add]
 exact cell_of h j (by rw [List.getElem?_toArray]; exact hj)
theorem run_err_eq (a:Addr) (w:World):(binOp .eql 34 (.iface 251 (.pointer (some a))) .nilIface).run Tryz.prog w = .ok (.bool false) w:=by kernel_rfl
def holdsF (signed:List UInt8) (k:Kn) (b:List UInt8):Bool:=
 match decF b with
 | none=>false
 | some x=>decide (verF k.2.1 k.2.2 signed (x.1:Int) x.2.1 x.2.2 = 0)
theorem decF_bound {b:List UInt8} {x:Nat × List (List UInt8) × List (List UInt8)} (h:decF b = some x):x.1 ≤ 63:=by
 unfold decF at h
 cases h1:rdVar 0 b with
 | none=>rw [h1] at h; cases h
 | some a=>
  rw [h1] at h
  simp only [Option.bind_some] at h
  cases h2:rdHs 67 a.2 with
  | none=>rw [h2] at h; cases h
  | some c=>
   rw [h2] at h
   simp only [Option.bind_some] at h
   cases h3:rdVar 0 c.2 with
   | none=>rw [h3] at h; cases h
   | some d=>
    rw [h3] at h
    simp only [Option.bind_some] at h
    split at h
    ·cases h
    ·cases h4:rdHs d.1 d.2 with
     | none=>rw [h4] at h; cases h
     | some e=>
      rw [h4] at h
      simp only [Option.bind_some] at h
      split at h
      ·rename_i hc
       cases h
       exact hc.2
      ·cases h
theorem verF_three (pub:List UInt8) (height:Int) (t:List UInt8) (idx:Int) (c p:List (List UInt8)):verF pub height t idx c p = 0 ∨ verF pub height t idx c p = 2 ∨ verF pub height t idx c p = 12:=by
 unfold verF
 split
 ·exact .inr (.inl rfl)
 ·split
  ·exact .inl rfl
  ·exact .inr (.inr rfl)
theorem heap_alloc (w:World) (o:Obj):(w.alloc o).heap[w.heap.size]? = some o:=by
 show (w.heap.push o)[w.heap.size]? = some o
 rw [Array.getElem?_push,if_pos rfl]
theorem two_allocs (w:World) (a b:Obj):((w.alloc a).alloc b).heap[w.heap.size]? = some a∧((w.alloc a).alloc b).heap[w.heap.size + 1]? = some b∧((w.alloc a).alloc b).heap.size = w.heap.size + 2∧Below w.heap.size w ((w.alloc a).alloc b):=by
 have h1:(w.alloc a).heap.size = w.heap.size + 1:=Array.size_push ..
 refine ⟨?_,?_,?_,(below_one w a).trans ((below_one (w.alloc a) b).mono (by omega))⟩
 ·show ((w.heap.push a).push b)[w.heap.size]? = some a
  rw [Array.getElem?_push,if_neg (by rw [Array.size_push]; omega),Array.getElem?_push,if_pos rfl]
 ·show ((w.heap.push a).push b)[w.heap.size + 1]? = some b
  rw [Array.getElem?_push,if_pos (by rw [Array.size_push])]
 ·show ((w.heap.push a).push b).size = _
  rw [Array.size_push,Array.size_push]
set_option maxHeartbeats 8000000 in
set_option maxRecDepth 100000 in
theorem holds_any (S:Nat→Addr) (nm b signed:List UInt8) (k:Kn) (hk:knOk k) (hb:b.length ≤ 4611686018427386000) (hs:signed.length ≤ 4611686018427386000) (w:World) (hF:FW S w) :
  Calls Tryz.prog 49 #[.agg #[.string ⟨nm.toArray⟩,.string ⟨b.toArray⟩],.string ⟨signed.toArray⟩,knV k] w fun e w'=>e = .returned (.bool (holdsF signed k b))∧Below w.heap.size w w':=by
 have HF:=hid hF
 have HK:=hid hk
 have HS:=hid hs
 have HD:=hid fun (W:World) (hW:Below w.heap.size w W)=>decode_any S b (by omega) W (HF.out.below hW)
 obtain ⟨H,hH⟩:∃ H,holdsF signed k b = H:=⟨_,rfl⟩
 rw [hH]
 have hcs:(knC k).toArray.size = 34:=knC_size hk.2.1
 have hPL:=hk.2.1
 have HPL:=hid hPL
 obtain ⟨KC,hKC⟩:∃ C,(knC k).toArray = C:=⟨_,rfl⟩
 have HKC:=hid hKC
 have k33:KC[33]? = some (.int .i64 k.2.2):=by rw [← hKC]; exact knC_height hk.2.1
 obtain ⟨nk,pub,height⟩:=k
 show Calls Tryz.prog 49 #[.agg #[.string ⟨nm.toArray⟩,.string ⟨b.toArray⟩],.string ⟨signed.toArray⟩,.agg (knC (nk,pub,height)).toArray] w _
 rw [hKC]
 have hA:=two_allocs w (.cells #[.string ⟨nm.toArray⟩,.string ⟨b.toArray⟩] 92 (0,0)) (.cells KC 64 (0,0))
 have HA:=hid hA
 clear hF hk hs hKC hPL hA
 go_enter Tryz.func49,Tryz.ntmps49
 go_upto_region 1 with fail
 generalize (w.alloc (.cells #[.string ⟨nm.toArray⟩,.string ⟨b.toArray⟩] 92 (0,0))).alloc (.cells KC 64 (0,0)) = wA at *
 obtain ⟨c1,c2,hsz,hBA⟩:=HA.out
 have HBA:=hid hBA
 have cb:=cell_of c1 1 (show #[Value.string ⟨nm.toArray⟩,.string ⟨b.toArray⟩][1]? = some (.string ⟨b.toArray⟩) from rfl)
 have ch:=cell_of c2 33 k33
 have hrg:=knC_pub (k:=(nk,pub,height)) HPL.out (kn_row (W:=wA) (k:=(nk,pub,height)) (by rw [HKC.out]; exact c2))
 have HRG:=hid hrg
 have HSZ:=hid hsz
 have HCH:=hid ch
 clear c1 c2 hsz hBA HA hrg k33 ch
 have HD:=hid (HD.out wA HBA.out)
 obtain ⟨X,hX⟩:∃ X,decF b = X:=⟨_,rfl⟩
 have HX:=hid hX
 have HDB:=hid fun (x:Nat × List (List UInt8) × List (List UInt8)) (h:X = some x)=>decF_bound (b:=b) (x:=x) (by rw [hX,h])
 clear hX
 unfold DecPost at HD
 rw [HX.out] at HD
 have hne:=fun w=>run_err_eq (S 3) w
 have hne12:=fun w=>run_err_eq (S 12) w
 have hne2:=fun w=>run_err_eq (S 2) w
 cases X with
 | none=>
  have HH:=hid (show false = H by rw [← hH]; unfold holdsF; rw [HX.out])
  simp only [sgZ,errV] at HD
  go_upto_region 2 with (go_at_call 93; refine HD.out.mono ?_; rintro e w2 ⟨rfl,hb2⟩)
  have HW:=hid (hb2.trans ((below_one w2 (.cells #[.int .i64 0,.slice none 0 0,.slice none 0 0] 73 (0,0))).mono hb2.size))
  generalize w2.alloc (.cells #[.int .i64 0,.slice none 0 0,.slice none 0 0] 73) = w3 at *
  go_wp2_with fail
  go_ret
  exact ⟨by rw [← HH.out]; rfl,HBA.out.trans (HW.out.mono HBA.out.size)⟩
 | some x=>
  obtain ⟨i,hs,gs⟩:=x
  have HI:=hid (HDB.out _ rfl)
  have hcd:∃ D,verF pub height signed (i:Int) hs gs = D∧(D = 0 ∨ D = 2 ∨ D = 12)∧decide (D = 0) = H:=⟨_,rfl,verF_three ..,by rw [← hH]; unfold holdsF; rw [HX.out]⟩
  obtain ⟨D,hD,hDl,hDH⟩:=hcd
  have HDH:=hid hDH
  have HKV:=hid fun (W:World) (hW:FW S W) (u v:Value) (hu:HsIn W u hs) (hv:HsIn W v gs)=>keyVer_any S pub signed height (i:Int) HPL.out (by have:=HS.out; omega) HK.out.2.2 (by have:=HI.out; unfold idxOk; constructor <;> omega) hs gs u v W hW hu hv
  rw [hD] at HKV
  clear hD hDH
  go_upto_region 2 with (go_at_call 93; refine HD.out.mono ?_; rintro e w2 ⟨⟨u,v,rfl,hu,hv⟩,hb2⟩; have HU:=hid hu; have HV:=hid hv; obtain ⟨_,a1,m1,rfl,_,_⟩:=hu; obtain ⟨_,a2,m2,rfl,_,_⟩:=hv)
  have HW:=hid (hb2.trans ((below_one w2 (.cells #[.int .i64 (i:Int),.slice a1 hs.length m1,.slice a2 gs.length m2] 73 (0,0))).mono hb2.size))
  have HU3:=hid (HU.out.below (below_one w2 (.cells #[.int .i64 (i:Int),.slice a1 hs.length m1,.slice a2 gs.length m2] 73 (0,0))))
  have HV3:=hid (HV.out.below (below_one w2 (.cells #[.int .i64 (i:Int),.slice a1 hs.length m1,.slice a2 gs.length m2] 73 (0,0))))
  have hc:=(show (w2.alloc (.cells #[.int .i64 (i:Int),.slice a1 hs.length m1,.slice a2 gs.length m2] 73 (0,0))).heap[w2.heap.size]? = _ from heap_alloc _ _)
  generalize w2.alloc (.cells #[.int .i64 (i:Int),.slice a1 hs.length m1,.slice a2 gs.length m2] 73) = w3 at *
  have s0:=cell_of hc 0 rfl
  have s1:=cell_of hc 1 rfl
  have s2:=cell_of hc 2 rfl
  have hch:=below_cell HW.out HCH.out
  have HRG3:=hid (range_below HW.out HRG.out)
  have HB3:=hid (HBA.out.trans (HW.out.mono HBA.out.size))
  have HKV:=hid (HKV.out w3 (HF.out.below HB3.out) _ _ HU3.out HV3.out)
  clear hb2 hc
  rcases hDl with rfl | rfl | rfl
  ·have HH:=hid (show true = H from HDH.out)
   rw [show errN S 0 = .nilIface from rfl] at HKV
   go_wp2_with (first | (refine wpList_hashLoad (by rfl) (.tmp 18) (by rfl) (w.heap.size + 1) 1 (by rfl) pub HPL.out HRG3.out ?_) | (go_at_call 22; refine HKV.out.mono ?_; rintro e w4 ⟨rfl,hb4⟩))
   go_ret
   exact ⟨by rw [← HH.out]; rfl,HB3.out.trans (hb4.mono HB3.out.size)⟩
  ·have HH:=hid (show false = H from HDH.out)
   rw [show errN S 2 = .iface 251 (.pointer (some (S 2))) from rfl] at HKV
   go_wp2_with (first | (refine wpList_hashLoad (by rfl) (.tmp 18) (by rfl) (w.heap.size + 1) 1 (by rfl) pub HPL.out HRG3.out ?_) | (go_at_call 22; refine HKV.out.mono ?_; rintro e w4 ⟨rfl,hb4⟩))
   go_ret
   exact ⟨by rw [← HH.out]; rfl,HB3.out.trans (hb4.mono HB3.out.size)⟩
  ·have HH:=hid (show false = H from HDH.out)
   rw [show errN S 12 = .iface 251 (.pointer (some (S 12))) from rfl] at HKV
   go_wp2_with (first | (refine wpList_hashLoad (by rfl) (.tmp 18) (by rfl) (w.heap.size + 1) 1 (by rfl) pub HPL.out HRG3.out ?_) | (go_at_call 22; refine HKV.out.mono ?_; rintro e w4 ⟨rfl,hb4⟩))
   go_ret
   exact ⟨by rw [← HH.out]; rfl,HB3.out.trans (hb4.mono HB3.out.size)⟩
set_option maxHeartbeats 4000000 in
set_option maxRecDepth 100000 in
theorem keySign_spent (S:Nat→Addr) (kb:Nat) (s:List UInt8) (h:Nat) (t:ByteArray) (w:World) (hF:Base S w) (hk:KeyF w kb s h (2 ^ h)) :
  Calls Tryz.prog 21 #[.pointer (some ⟨kb,0,none⟩),.string t] w fun e w'=>e = .returned (.tuple #[.agg sgZ,errV S 11])∧Below w.heap.size w w':=by
 have HF:=hid hF
 have HK:=hid hk
 obtain ⟨c1,c2,c3,f3⟩:=hk.cells
 have HLE:=hid (fun (W:World) (hW:Below w.heap.size w W)=>keyLeft_any kb s h (2 ^ h) (Nat.le_refl _) W (hk.below hW))
 rw [Nat.sub_self] at HLE
 clear hF hk c2 c3 f3
 go_enter Tryz.func21,Tryz.ntmps21
 go_upto_region 1 with fail
 have HP9:=hid (heap_one w (.cells #[.int .i64 0,.slice none 0 0,.slice none 0 0] 73 (0,0)))
 have HB9:=hid (below_one w (.cells #[.int .i64 0,.slice none 0 0,.slice none 0 0] 73 (0,0)))
 generalize w.alloc (.cells #[.int .i64 0,.slice none 0 0,.slice none 0 0] 73 (0,0)) = w9 at *
 have c1:=below_cell HB9.out c1
 go_upto_region 4 with (go_at_call 14; refine (HLE.out _ HB9.out).mono ?_; rintro x w2 ⟨rfl,hb2⟩)
 have HP9:=hid (below_heap hb2 HP9.out)
 have HB9:=hid (HB9.out.trans (hb2.mono HB9.out.size))
 clear hb2 c1
 have HV9:=hid ((HF.out.below HB9.out).var 11 (by decide) (by decide))
 have HV9L:=hid (show errG 11 < w.heap.size from lt_of_cell (HF.out.var 11 (by decide) (by decide)))
 refine wp_region_till 100 (CellB (errG 11) (errV S 11)) (by kernel_rfl) ((Below.cell (Below.refl w2.heap.size w2).drew (p:=⟨errG 11,0,none⟩) (lt_of_cell HV9.out)).trans HV9.out) (fun hHeld=>?_)
 have HPD:=hid (below_heap (Below.refl w2.heap.size w2).drew HP9.out)
 have HBD:=hid (HB9.out.trans ((Below.refl w2.heap.size w2).drew.mono HB9.out.size))
 generalize w2.drew = wc at *
 refine wT (i:=0) (v:=.agg #[.int .i64 0,.slice none 0 0,.slice none 0 0]) rfl (Or.inl ⟨by rfl,fun w _=>?_⟩) hHeld ?_
 ·go_simp
 simp only [List.getElem_toArray,List.getElem_cons_zero,Act.put,List.setIfInBounds_toArray,List.set_cons_zero,List.set_cons_succ]
 refine wT (i:=1) (v:=errV S 11) rfl (Or.inl ⟨by rfl,fun w hSw=>?_⟩) hHeld ?_
 ·have c:=hSw.choose_spec; simp only [CellB,errG,errV] at c ⊢
  go_simp
 simp only [List.getElem_toArray,List.getElem_cons_succ,List.getElem_cons_zero,Act.put,List.setIfInBounds_toArray,List.set_cons_zero,List.set_cons_succ]
 refine wpAnyT_ready (rs:=[2]) (by kernel_rfl) (by simp) ?_
 refine AllReadyT.cons false rfl (by kernel_rfl) (fun K hK=>?_) AllReadyT.nil
 refine step_store3 (by rfl) (.tmp 4) (.tmp 25) (by rfl) (by rfl) (by rfl) HPD.out rfl rfl rfl HBD.out (Nat.le_refl _) ?_
 intro we hn hy hoth
 have HWE:=hid hn
 have HBE:=hid hy
 have HOT:=hid hoth
 refine hK.out _ _ ((World.cell?_of_block (a:=⟨errG 11,0,none⟩) (hoth _ (show errG 11 ≠ w.heap.size by have:=HV9L.out; omega))).trans hHeld) (fun hHeld=>?_)
 clear hn hy hoth
 clear hK K
 refine wT (i:=3) (v:=errV S 11) rfl (Or.inl ⟨by rfl,fun w _=>?_⟩) hHeld ?_
 ·go_simp
 simp only [List.getElem_toArray,List.getElem_cons_succ,List.getElem_cons_zero,Act.put,List.setIfInBounds_toArray,List.set_cons_zero,List.set_cons_succ]
 refine wpAnyT_done (by kernel_rfl) ?_ _
 clear hHeld
 go_wp2_with fail
 refine bodyPost_ret (results_row_tmp rfl _ we w.heap.size 73 _ (0,0) _ _ rfl rfl HWE.out Tryz.underlying73 rfl (by kernel_rfl)) rfl ⟨rfl,HBE.out⟩
set_option maxHeartbeats 4000000 in
set_option maxRecDepth 100000 in
theorem keySign_nil (S:Nat→Addr) (t:ByteArray) (w:World) (hF:Base S w) :
  Calls Tryz.prog 21 #[.pointer none,.string t] w fun e w'=>e = .returned (.tuple #[.agg sgZ,errV S 1])∧Below w.heap.size w w':=by
 have HF:=hid hF
 clear hF
 go_enter Tryz.func21,Tryz.ntmps21
 go_upto_region 1 with fail
 have HP9:=hid (heap_one w (.cells #[.int .i64 0,.slice none 0 0,.slice none 0 0] 73 (0,0)))
 have HB9:=hid (below_one w (.cells #[.int .i64 0,.slice none 0 0,.slice none 0 0] 73 (0,0)))
 generalize w.alloc (.cells #[.int .i64 0,.slice none 0 0,.slice none 0 0] 73 (0,0)) = w9 at *
 go_upto_region 2 with fail
 have HV9:=hid ((HF.out.below HB9.out).var 1 (by decide) (by decide))
 have HV9L:=hid (show errG 1 < w.heap.size from lt_of_cell (HF.out.var 1 (by decide) (by decide)))
 refine wp_region_till 100 (CellB (errG 1) (errV S 1)) (by kernel_rfl) ((Below.cell (Below.refl w9.heap.size w9).drew (p:=⟨errG 1,0,none⟩) (lt_of_cell HV9.out)).trans HV9.out) (fun hHeld=>?_)
 have HPD:=hid (below_heap (Below.refl w9.heap.size w9).drew HP9.out)
 have HBD:=hid (HB9.out.trans ((Below.refl w9.heap.size w9).drew.mono HB9.out.size))
 generalize w9.drew = wc at *
 refine wT (i:=0) (v:=.agg #[.int .i64 0,.slice none 0 0,.slice none 0 0]) rfl (Or.inl ⟨by rfl,fun w _=>?_⟩) hHeld ?_
 ·go_simp
 simp only [List.getElem_toArray,List.getElem_cons_zero,Act.put,List.setIfInBounds_toArray,List.set_cons_zero,List.set_cons_succ]
 refine wT (i:=1) (v:=errV S 1) rfl (Or.inl ⟨by rfl,fun w hSw=>?_⟩) hHeld ?_
 ·have c:=hSw.choose_spec; simp only [CellB,errG,errV] at c ⊢
  go_simp
 simp only [List.getElem_toArray,List.getElem_cons_succ,List.getElem_cons_zero,Act.put,List.setIfInBounds_toArray,List.set_cons_zero,List.set_cons_succ]
 refine wpAnyT_ready (rs:=[2]) (by kernel_rfl) (by simp) ?_
 refine AllReadyT.cons false rfl (by kernel_rfl) (fun K hK=>?_) AllReadyT.nil
 refine step_store3 (by rfl) (.tmp 4) (.tmp 19) (by rfl) (by rfl) (by rfl) HPD.out rfl rfl rfl HBD.out (Nat.le_refl _) ?_
 intro we hn hy hoth
 have HWE:=hid hn
 have HBE:=hid hy
 have HOT:=hid hoth
 refine hK.out _ _ ((World.cell?_of_block (a:=⟨errG 1,0,none⟩) (hoth _ (show errG 1 ≠ w.heap.size by have:=HV9L.out; omega))).trans hHeld) (fun hHeld=>?_)
 clear hn hy hoth
 clear hK K
 refine wT (i:=3) (v:=errV S 1) rfl (Or.inl ⟨by rfl,fun w _=>?_⟩) hHeld ?_
 ·go_simp
 simp only [List.getElem_toArray,List.getElem_cons_succ,List.getElem_cons_zero,Act.put,List.setIfInBounds_toArray,List.set_cons_zero,List.set_cons_succ]
 refine wpAnyT_done (by kernel_rfl) ?_ _
 clear hHeld
 go_wp2_with fail
 refine bodyPost_ret (results_row_tmp rfl _ we w.heap.size 73 _ (0,0) _ _ rfl rfl HWE.out Tryz.underlying73 rfl (by kernel_rfl)) rfl ⟨rfl,HBE.out⟩
set_option maxHeartbeats 4000000 in
set_option maxRecDepth 100000 in
theorem keySign_zero (S:Nat→Addr) (kb:Nat) (t:ByteArray) (w:World) (hF:Base S w) (hz:w.cell? ⟨kb,41,none⟩ = some (.bool false)) :
  Calls Tryz.prog 21 #[.pointer (some ⟨kb,0,none⟩),.string t] w fun e w'=>e = .returned (.tuple #[.agg sgZ,errV S 1])∧Below w.heap.size w w':=by
 have HF:=hid hF
 clear hF
 go_enter Tryz.func21,Tryz.ntmps21
 go_upto_region 1 with fail
 have HP9:=hid (heap_one w (.cells #[.int .i64 0,.slice none 0 0,.slice none 0 0] 73 (0,0)))
 have HB9:=hid (below_one w (.cells #[.int .i64 0,.slice none 0 0,.slice none 0 0] 73 (0,0)))
 generalize w.alloc (.cells #[.int .i64 0,.slice none 0 0,.slice none 0 0] 73 (0,0)) = w9 at *
 have hz:=below_cell HB9.out hz
 go_upto_region 2 with fail
 clear hz
 have HV9:=hid ((HF.out.below HB9.out).var 1 (by decide) (by decide))
 have HV9L:=hid (show errG 1 < w.heap.size from lt_of_cell (HF.out.var 1 (by decide) (by decide)))
 refine wp_region_till 100 (CellB (errG 1) (errV S 1)) (by kernel_rfl) ((Below.cell (Below.refl w9.heap.size w9).drew (p:=⟨errG 1,0,none⟩) (lt_of_cell HV9.out)).trans HV9.out) (fun hHeld=>?_)
 have HPD:=hid (below_heap (Below.refl w9.heap.size w9).drew HP9.out)
 have HBD:=hid (HB9.out.trans ((Below.refl w9.heap.size w9).drew.mono HB9.out.size))
 generalize w9.drew = wc at *
 refine wT (i:=0) (v:=.agg #[.int .i64 0,.slice none 0 0,.slice none 0 0]) rfl (Or.inl ⟨by rfl,fun w _=>?_⟩) hHeld ?_
 ·go_simp
 simp only [List.getElem_toArray,List.getElem_cons_zero,Act.put,List.setIfInBounds_toArray,List.set_cons_zero,List.set_cons_succ]
 refine wT (i:=1) (v:=errV S 1) rfl (Or.inl ⟨by rfl,fun w hSw=>?_⟩) hHeld ?_
 ·have c:=hSw.choose_spec; simp only [CellB,errG,errV] at c ⊢
  go_simp
 simp only [List.getElem_toArray,List.getElem_cons_succ,List.getElem_cons_zero,Act.put,List.setIfInBounds_toArray,List.set_cons_zero,List.set_cons_succ]
 refine wpAnyT_ready (rs:=[2]) (by kernel_rfl) (by simp) ?_
 refine AllReadyT.cons false rfl (by kernel_rfl) (fun K hK=>?_) AllReadyT.nil
 refine step_store3 (by rfl) (.tmp 4) (.tmp 19) (by rfl) (by rfl) (by rfl) HPD.out rfl rfl rfl HBD.out (Nat.le_refl _) ?_
 intro we hn hy hoth
 have HWE:=hid hn
 have HBE:=hid hy
 have HOT:=hid hoth
 refine hK.out _ _ ((World.cell?_of_block (a:=⟨errG 1,0,none⟩) (hoth _ (show errG 1 ≠ w.heap.size by have:=HV9L.out; omega))).trans hHeld) (fun hHeld=>?_)
 clear hn hy hoth
 clear hK K
 refine wT (i:=3) (v:=errV S 1) rfl (Or.inl ⟨by rfl,fun w _=>?_⟩) hHeld ?_
 ·go_simp
 simp only [List.getElem_toArray,List.getElem_cons_succ,List.getElem_cons_zero,Act.put,List.setIfInBounds_toArray,List.set_cons_zero,List.set_cons_succ]
 refine wpAnyT_done (by kernel_rfl) ?_ _
 clear hHeld
 go_wp2_with fail
 refine bodyPost_ret (results_row_tmp rfl _ we w.heap.size 73 _ (0,0) _ _ rfl rfl HWE.out Tryz.underlying73 rfl (by kernel_rfl)) rfl ⟨rfl,HBE.out⟩
def splitL (note:List UInt8):Option (List UInt8 × List UInt8 × Lines):=
 if (splitN note).2.1 = 0 then some (note,(splitN note).1.1,(splitN note).1.2) else if mayTxt note = true then some (note ++ [10],note,[]) else none
def sgCode (h nx:Nat) (note name:List UInt8):Nat:=
 if nameOf name = false then 2 else match splitL note with
 | none=>2
 | some (_,_,L)=>if (L.any fun y=>decide (y.1 = name)) = true then 2 else if L.length = 16 then 4 else if nx = 2 ^ h then 11 else 0
def sgLine (s:List UInt8) (h nx:Nat) (t name:List UInt8):List UInt8 × List UInt8:=(name,encF nx (signF (ownF s nx) (msgF nx t)) (kpath s h nx))
def sgOut (s:List UInt8) (h nx:Nat) (note name:List UInt8):List UInt8:=
 match splitL note with
 | none=>[]
 | some (b,t,_)=>b ++ lineL (sgLine s h nx t name)
theorem linesN_le:∀ (f p:Nat) (l:List UInt8) (acc R:Lines),acc.length ≤ 16→linesN f p l acc = .ok R→R.length ≤ 16
 | 0,p,l,acc,R,h,e=>by
  unfold linesN at e
  split at e
  ·cases e; exact h
  ·cases e
 | f + 1,p,l,acc,R,h,e=>by
  unfold linesN at e
  split at e
  ·cases e; exact h
  ·split at e
   ·cases e
   ·split at e
    ·cases e
    ·rename_i hn
     exact linesN_le f _ _ _ R (by
      rw [List.length_append,List.length_singleton]
      have:acc.length ≠ 16:=fun h=>hn (.inr (.inr h))
      omega) e
theorem toldN_le {n:Nat} {t:List UInt8} {E:Except Nat Lines} {t2:List UInt8} {L:Lines} {c:Nat} {p:Option Int} (h:toldN n t E = ((t2,L),c,p)) (hE:∀ R,E = .ok R→R.length ≤ 16):L.length ≤ 16:=by
 cases E with
 | error i=>
  simp only [toldN,Prod.mk.injEq] at h
  rw [← h.1.2]; decide
 | ok l=>
  have:=hE l rfl
  cases l with
  | nil=>
   simp only [toldN,Prod.mk.injEq] at h
   rw [← h.1.2]; decide
  | cons x r=>
   simp only [toldN,Prod.mk.injEq] at h
   rw [← h.1.2]; exact this
theorem splitN_le (note:List UInt8) {t:List UInt8} {L:Lines} {c:Nat} {p:Option Int} (h:splitN note = ((t,L),c,p)):L.length ≤ 16:=by
 unfold splitN at h
 split at h
 ·simp only [Prod.mk.injEq] at h
  rw [← h.1.2]; decide
 ·split at h
  ·simp only [Prod.mk.injEq] at h
   rw [← h.1.2]; decide
  ·split at h
   ·simp only [Prod.mk.injEq] at h
    rw [← h.1.2]; decide
   ·exact toldN_le h fun R hR=>linesN_le _ _ _ _ R (by decide) hR
theorem toldN_bound {n:Nat} {t:List UInt8} {E:Except Nat Lines} {t2:List UInt8} {L:Lines} {c:Nat} {p:Option Int} (h:toldN n t E = ((t2,L),c,p)):(c = 0→t2 = t)∧(c ≠ 0→L = []):=by
 cases E with
 | error i=>
  simp only [toldN,Prod.mk.injEq] at h
  obtain ⟨⟨_,rfl⟩,rfl,_⟩:=h
  exact ⟨fun h=>by omega,fun _=>rfl⟩
 | ok l=>
  cases l with
  | nil=>
   simp only [toldN,Prod.mk.injEq] at h
   obtain ⟨⟨_,rfl⟩,rfl,_⟩:=h
   exact ⟨fun h=>by omega,fun _=>rfl⟩
  | cons x r=>
   simp only [toldN,Prod.mk.injEq] at h
   obtain ⟨⟨rfl,_⟩,rfl,_⟩:=h
   exact ⟨fun _=>rfl,fun h=>absurd rfl h⟩
theorem splitN_bound (note:List UInt8) {t:List UInt8} {L:Lines} {c:Nat} {p:Option Int} (h:splitN note = ((t,L),c,p)):(c = 0→note.length ≤ 1048576∧t.length ≤ 524288)∧(c ≠ 0→L = []):=by
 unfold splitN at h
 split at h
 ·simp only [Prod.mk.injEq] at h
  obtain ⟨⟨_,rfl⟩,rfl,_⟩:=h
  exact ⟨fun h=>by omega,fun _=>rfl⟩
 ·rename_i hl
  split at h
  ·simp only [Prod.mk.injEq] at h
   obtain ⟨⟨_,rfl⟩,rfl,_⟩:=h
   exact ⟨fun h=>by omega,fun _=>rfl⟩
  ·split at h
   ·simp only [Prod.mk.injEq] at h
    obtain ⟨⟨_,rfl⟩,rfl,_⟩:=h
    exact ⟨fun h=>by omega,fun _=>rfl⟩
   ·rename_i he
    obtain ⟨h1,h2⟩:=toldN_bound h
    refine ⟨fun hc=>⟨by omega,?_⟩,h2⟩
    rw [h1 hc,List.length_take]
    omega
theorem mayTxt_len (l:List UInt8) (h:mayTxt l = true):l.length ≤ 524288:=by
 unfold mayTxt at h
 simp only [Bool.and_eq_true,decide_eq_true_eq] at h
 exact h.1.1.2
def SgPost (S:Nat→Addr) (w0 w:World) (kb:Nat) (s:List UInt8) (h nx:Nat) (note name:List UInt8) (e:Ending) (w':World):Prop:=
 ∃ ev,e = .returned (.tuple #[.string ⟨(if sgCode h nx note name = 0 then sgOut s h nx note name else []).toArray⟩,ev])∧ErrAt S w' ev (sgCode h nx note name) none∧KeyF w' kb s h (if sgCode h nx note name = 0 then nx + 1 else nx)∧But [kb] w w'∧Below w0.heap.size w0 w'
theorem SgPost.no {S:Nat→Addr} {w0 w w':World} {kb:Nat} {s:List UInt8} {h nx:Nat} {note name:List UInt8} (c:Nat) (hc:sgCode h nx note name = c) (h1:1 ≤ c) (h2:c ≤ 16) (hk:KeyF w kb s h nx) (hb:Below w.heap.size w w') (hB0:Below w0.heap.size w0 w) :
  SgPost S w0 w kb s h nx note name (.returned (.tuple #[.string ⟨#[]⟩,errV S c])) w':=by
 have h0:¬ sgCode h nx note name = 0:=by omega
 unfold SgPost
 rw [if_neg h0,if_neg h0]
 exact ⟨_,rfl,by rw [hc]; exact .inr (.inl ⟨h1,h2,rfl,rfl⟩),hk.below hb,But.of_below hb,hB0.trans (hb.mono hB0.size)⟩
theorem SgPost.yes {S:Nat→Addr} {w0 w w':World} {kb:Nat} {s:List UInt8} {h nx:Nat} {note name out:List UInt8} (hc:sgCode h nx note name = 0) (ho:sgOut s h nx note name = out) (hk:KeyF w' kb s h (nx + 1)) (hbut:But [kb] w w') (hb:Below w0.heap.size w0 w') :
  SgPost S w0 w kb s h nx note name (.returned (.tuple #[.string ⟨out.toArray⟩,.nilIface])) w':=by
 unfold SgPost
 rw [if_pos hc,if_pos hc,hc,ho]
 exact ⟨_,rfl,ErrAt.nil S _,hk,hbut,hb⟩
theorem line_cat (b nm B:List UInt8):(⟨b.toArray⟩:ByteArray) ++ ⟨#[226,128,148,32]⟩ ++ ⟨nm.toArray⟩ ++ ⟨#[32]⟩ ++ ⟨B.toArray⟩ ++ ⟨#[10]⟩ = ⟨(b ++ (dashL ++ (nm ++ 32 :: (B ++ [10])))).toArray⟩:=by
 refine ByteArray.ext ?_
 simp [dashL]
theorem line_cat2 (b nm B:List UInt8):(⟨b.toArray⟩:ByteArray) ++ ⟨#[10]⟩ ++ ⟨#[226,128,148,32]⟩ ++ ⟨nm.toArray⟩ ++ ⟨#[32]⟩ ++ ⟨B.toArray⟩ ++ ⟨#[10]⟩ = ⟨((b ++ [10]) ++ (dashL ++ (nm ++ 32 :: (B ++ [10])))).toArray⟩:=by
 refine ByteArray.ext ?_
 simp [dashL]
theorem str_eqL (a b:List UInt8):((⟨a.toArray⟩:ByteArray).toList == (⟨b.toArray⟩:ByteArray).toList) = decide (a = b):=by rw [str_eq]
def SLRel (L:Lines) (name:List UInt8) (w1:World) (iv:Value) (wr:World):Prop:=
 ∃ i:Nat,iv = .int .i64 (i:Int)∧i ≤ L.length∧(∀ j x,j < i→L[j]? = some x→x.1 ≠ name)∧Below w1.heap.size w1 wr
theorem any_no {L:Lines} {name:List UInt8} (h:∀ j x,j < L.length→L[j]? = some x→x.1 ≠ name):(L.any fun y=>decide (y.1 = name)) = false:=by
 rw [List.any_eq_false]
 intro x hx
 obtain ⟨j,hj,rfl⟩:=List.getElem_of_mem hx
 have:=h j _ hj (List.getElem?_eq_getElem hj)
 simpa using this
theorem any_yes {L:Lines} {name:List UInt8} {i:Nat} {x:List UInt8 × List UInt8} (h:L[i]? = some x) (hx:x.1 = name):(L.any fun y=>decide (y.1 = name)) = true:=by
 rw [List.any_eq_true]
 exact ⟨x,List.mem_of_getElem? h,by simpa using hx⟩
set_option maxHeartbeats 8000000 in
set_option maxRecDepth 100000 in
theorem nsign_spent (S:Nat→Addr) (kb:Nat) (s:List UInt8) (h nx:Nat) (hn:nx = 2 ^ h) (note name:List UInt8) (hnl:note.length ≤ 4611686018427386000) (hml:name.length ≤ 4611686018427386000) (w0 w:World) (hF:FW S w0) (hB0:Below w0.heap.size w0 w) (hkb:w0.heap.size ≤ kb) (hk:KeyF w kb s h nx) :
  Calls Tryz.prog 10 #[.string ⟨note.toArray⟩,.string ⟨name.toArray⟩,.pointer (some ⟨kb,0,none⟩)] w fun e w'=>SgPost S w0 w kb s h nx note name e w':=by
 have HF0:=hid (hF.below hB0)
 have HFW0:=hid hF
 have HB0:=hid hB0
 have HKB:=hid hkb
 have HK:=hid hk
 have HN:=hid hn
 have HCODE:=hid (show sgCode h nx note name = if nameOf name = false then 2 else match splitL note with
  | none=>2
  | some (_,_,L)=>if (L.any fun y=>decide (y.1 = name)) = true then 2 else if L.length = 16 then 4 else if nx = 2 ^ h then 11 else 0 from rfl)
 have HSL:=hid (show splitL note = if (splitN note).2.1 = 0 then some (note,(splitN note).1.1,(splitN note).1.2) else if mayTxt note = true then some (note ++ [10],note,[]) else none from rfl)
 have HNA:=hid fun (W:World) (hW:Below w.heap.size w W)=>name_any S ⟨name.toArray⟩ W (by show name.toArray.size ≤ _; simp; omega) (HF0.out.below hW).base
 have HSP:=hid fun (W:World) (hW:Below w.heap.size w W)=>split_any S note hnl W (HF0.out.below hW).base
 have HMY:=hid fun (W:World)=>nmay_any ⟨note.toArray⟩ (by show note.toArray.size ≤ _; simp; omega) W
 rw [show (⟨name.toArray⟩:ByteArray).data.toList = name from rfl] at HNA
 rw [show (⟨note.toArray⟩:ByteArray).data.toList = note from rfl] at HMY
 obtain ⟨N,hN⟩:∃ N,nameOf name = N:=⟨_,rfl⟩
 rw [hN] at HNA HCODE
 have HNLEN:=hid (fun h:N = true=>(name_len (hN.trans h)).1)
 obtain ⟨A,hA⟩:∃ A,splitN note = A:=⟨_,rfl⟩
 rw [hA] at HSP HSL
 obtain ⟨⟨txt,L⟩,c,p⟩:=A
 have HAL:=hid (splitN_bound note hA)
 have hl16:=splitN_le note hA
 obtain ⟨M,hM⟩:∃ M,mayTxt note = M:=⟨_,rfl⟩
 rw [hM] at HMY HSL
 have HML:=hid (fun hm:M = true=>mayTxt_len note (hM.trans hm))
 have HLE:=hid (fun (W:World) (hW:Below w.heap.size w W)=>keyLeft_any kb s h nx (by omega) W (HK.out.below hW))
 have HSS:=hid (fun (t:ByteArray) (W:World) (hW:Below w.heap.size w W)=>keySign_spent S kb s h t W (HF0.out.below hW).base (hn ▸ HK.out.below hW))
 simp only [sgZ,errV] at HSS
 have hd0:2 ^ h - nx = 0:=by omega
 rw [hd0] at HLE
 clear hF hB0 hkb hk hN hA hM hnl hml hn hd0
 go_enter Tryz.func10,Tryz.ntmps10
 go_upto_region 3 with (first | (go_at_call 14; refine (HLE.out _ (Below.refl _ _)).mono ?_; rintro e w1 ⟨rfl,hb1⟩) | (go_at_call 21; refine (HSS.out _ _ hb1).mono ?_; rintro e w2 ⟨rfl,hb2⟩))
 have hb3:=(hb1.trans (hb2.mono hb1.size)).trans ((below_one w2 (.cells #[.int .i64 0,.slice none 0 0,.slice none 0 0] 73 (0,0))).mono (hb1.trans (hb2.mono hb1.size)).size)
 generalize w2.alloc (.cells #[.int .i64 0,.slice none 0 0,.slice none 0 0] 73) = wA at *
 have HBA:=hid hb3
 have g1:=(HF0.out.below HBA.out).base.var 1 (by decide) (by decide)
 have hIS:=is_code (S:=S) (w:=wA) (v:=errV S 11) (c:=11) (p:=none) (HF0.out.below HBA.out).base (.inr (.inl ⟨by decide,by decide,rfl,rfl⟩)) (by decide) 1 (by decide) (by decide)
 simp only [errV] at hIS
 have HIS:=hid hIS
 simp only [errG,errV] at g1
 clear hb1 hb2 hb3 hIS
 go_upto_region 5 with (go_at_call 32; refine HIS.out.mono ?_; rintro e w4 ⟨rfl,rfl⟩)
 clear g1 HIS
 cases N with
 | false=>
  have HC2:=hid (show sgCode h nx note name = 2 from HCODE.out)
  go_upto_region 6 with (go_at_call 17; refine (HNA.out _ HBA.out).mono ?_; rintro e w5 ⟨rfl,hb5⟩; have HBA:=hid (HBA.out.trans (hb5.mono HBA.out.size)); clear hb5)
  have gg:=(HF0.out.below HBA.out).base.var 2 (by decide) (by decide)
  simp only [errG,errV] at gg
  go_wp2_with fail
  go_quiet (fail)
  go_wp2_with fail
  go_ret2
  exact SgPost.no 2 HC2.out (by decide) (by decide) HK.out (Below.trans HBA.out ⟨rfl,rfl,rfl,Nat.le_refl _,fun _ _=>rfl⟩) HB0.out
 | true=>
  go_upto_region 8 with (first | (go_at_call 17; refine (HNA.out _ HBA.out).mono ?_; rintro e w5 ⟨rfl,hb5⟩; have HBA:=hid (HBA.out.trans (hb5.mono HBA.out.size)); clear hb5) | (go_at_call 33; refine (HSP.out _ HBA.out).mono ?_; rintro e w6 ⟨v6,ev,rfl,hln,hev,hb6⟩; have HBA:=hid (HBA.out.trans (hb6.mono HBA.out.size)); have HLN:=hid hln; have HEV:=hid hev; clear hb6 hln hev))
  by_cases hc:c = 0
  ·obtain rfl:ev = .nilIface:=ErrAt.zero2 HEV.out hc
   have HSO:=hid (show splitL note = some (note,txt,L) by rw [HSL.out,if_pos hc])
   have HCO:=hid (show sgCode h nx note name = if (L.any fun y=>decide (y.1 = name)) = true then 2 else if L.length = 16 then 4 else if nx = 2 ^ h then 11 else 0 by rw [HCODE.out,HSO.out]; rfl)
   have HTL:=hid (HAL.out.1 hc)
   obtain ⟨lao,lcap,rfl,hlcap,hlr⟩:=HLN.out
   have HLR:=hid hlr
   clear hc HLN HEV hlr hlcap
   go_wp2_with fail
   have HW1:=hid HBA.out
   go_loopw [50] (fun iv wr=>SLRel L name w6 iv wr) (fun iv _=>L.length - (intOf iv).toNat)
   case atStart=>exact ⟨0,rfl,Nat.zero_le _,fun j x hj=>absurd hj (by omega),Below.refl _ _⟩
   case round=>
    obtain ⟨i,rfl,hi,hno,hbel⟩:=hrel
    rename World=>wr
    have HNO:=hid hno
    have HBR:=hid (HBA.out.trans (hbel.mono HBA.out.size))
    have i0:(0:Int) ≤ (i:Int):=by omega
    by_cases hlt:i < L.length
    ·have i1:(i:Int) < (L.length:Int):=by omega
     obtain ⟨x,hx⟩:∃ x,L[i]? = some x:=⟨_,List.getElem?_eq_getElem hlt⟩
     obtain ⟨g,hao,hr⟩:=HLR.out (fun e=>by rw [e] at hlt; simp at hlt)
     subst hao
     have hl2:=lcells_at L i x hx
     have c0:=below_cell hbel (by have h:=hr _ _ hl2.1; rwa [Nat.zero_add] at h)
     have c1:=below_cell hbel (by have h:=hr _ _ hl2.2; rwa [Nat.zero_add] at h)
     have HX:=hid hx
     have HBW:=hid hbel
     have HLT:=hid hlt
     obtain ⟨nm,bs⟩:=x
     clear hr hl2 hx hno hbel hlt hi
     go_upto_region 16 with fail
     have hb8:=below_one wr (.cells #[.string ⟨nm.toArray⟩,.string ⟨bs.toArray⟩] 92 (0,0))
     have hc8:=heap_one wr (.cells #[.string ⟨nm.toArray⟩,.string ⟨bs.toArray⟩] 92 (0,0))
     have HB8:=hid (HBR.out.trans (hb8.mono HBR.out.size))
     have HBW8:=hid (HBW.out.trans (hb8.mono HBW.out.size))
     generalize wr.alloc (.cells #[.string ⟨nm.toArray⟩,.string ⟨bs.toArray⟩] 92) = w8 at *
     generalize wr.heap.size = xb at *
     clear c0 c1 hb8
     have c0:=cell_of hc8 0 rfl
     clear hc8
     have hq:=str_eqL nm name
     by_cases hnm:nm = name
     ·have hq2:((⟨nm.toArray⟩:ByteArray).toList == (⟨name.toArray⟩:ByteArray).toList) = true:=by rw [hq]; exact decide_eq_true hnm
      have hq3:(nm == name) = true:=by simpa using hnm
      have HC2:=hid (show sgCode h nx note name = 2 by rw [HCO.out,if_pos (any_yes HX.out hnm)])
      clear hq hnm
      go_upto_region 17 with fail
      have gg:=(HF0.out.below HB8.out).base.var 2 (by decide) (by decide)
      simp only [errG,errV] at gg
      go_wp2_with fail
      go_quiet (fail)
      go_wp2_with fail
      go_ret2
      exact SgPost.no 2 HC2.out (by decide) (by decide) HK.out (Below.trans HB8.out ⟨rfl,rfl,rfl,Nat.le_refl _,fun _ _=>rfl⟩) HB0.out
     ·have hq2:((⟨nm.toArray⟩:ByteArray).toList == (⟨name.toArray⟩:ByteArray).toList) = false:=by rw [hq]; exact decide_eq_false hnm
      have hq3:(nm == name) = false:=by simpa using hnm
      have HNM:=hid hnm
      clear hq hnm
      go_wp2_with fail
      refine ⟨⟨i + 1,by go_num,HLT.out,fun j y hj hy=>?_,HBW8.out⟩,by have:=HLT.out; simp [intOf]; omega⟩
      by_cases hji:j = i
      ·subst hji
       rw [HX.out] at hy
       cases hy
       exact HNM.out
      ·exact HNO.out j y (by omega) hy
    ·obtain rfl:i = L.length:=by omega
     have i1:¬ (L.length:Int) < (L.length:Int):=by omega
     have HANY:=hid (any_no HNO.out)
     clear hi hno hbel hlt HBA
     have HBA:=hid HBR.out
     by_cases h16:L.length = 16
     ·have l16:(L.length:Int) = 16:=by omega
      have l16b:((L.length:Int) == 16) = true:=by rw [beq_iff_eq]; exact l16
      have HC4:=hid (show sgCode h nx note name = 4 by rw [HCO.out,if_neg (by rw [HANY.out]; simp),if_pos h16])
      clear h16
      go_upto_region 20 with fail
      have gg:=(HF0.out.below HBA.out).base.var 4 (by decide) (by decide)
      simp only [errG,errV] at gg
      go_wp2_with fail
      go_quiet (fail)
      go_wp2_with fail
      go_ret2
      exact SgPost.no 4 HC4.out (by decide) (by decide) HK.out (Below.trans HBA.out ⟨rfl,rfl,rfl,Nat.le_refl _,fun _ _=>rfl⟩) HB0.out
     ·have l16:¬ (L.length:Int) = 16:=by omega
      have l16b:((L.length:Int) == 16) = false:=by rw [beq_eq_false_iff_ne]; exact l16
      have HCE:=hid (show sgCode h nx note name = if nx = 2 ^ h then 11 else 0 by rw [HCO.out,if_neg (by rw [HANY.out]; simp),if_neg h16])
      clear h16
      have HC11:=hid (show sgCode h nx note name = 11 by rw [HCE.out,if_pos HN.out])
      have hne11:=fun W=>run_err_neq (S 11) W
      go_wp2_with (go_at_call 21; refine (HSS.out _ _ HBA.out).mono ?_; rintro e w9 ⟨rfl,hb9⟩; have HB9:=hid (HBA.out.trans (hb9.mono HBA.out.size)); clear hb9)
      go_ret2
      exact SgPost.no 11 HC11.out (by decide) (by decide) HK.out (HB9.out.trans ((below_one _ _).mono HB9.out.size)) HB0.out
  ·obtain ⟨TT,xx,rfl,hne⟩:=ErrAt.some2 HEV.out hc
   cases M with
   | false=>
    have HC2:=hid (show sgCode h nx note name = 2 by rw [HCODE.out,HSL.out,if_neg hc]; rfl)
    clear hc HLN HEV
    go_upto_region 10 with (go_at_call 34; refine (HMY.out _).mono ?_; rintro e w7 ⟨rfl,hb7⟩; have HBA:=hid (HBA.out.trans (hb7.mono HBA.out.size)); clear hb7)
    have gg:=(HF0.out.below HBA.out).base.var 2 (by decide) (by decide)
    simp only [errG,errV] at gg
    go_wp2_with fail
    go_quiet (fail)
    go_wp2_with fail
    go_ret2
    exact SgPost.no 2 HC2.out (by decide) (by decide) HK.out (Below.trans HBA.out ⟨rfl,rfl,rfl,Nat.le_refl _,fun _ _=>rfl⟩) HB0.out
   | true=>
    have HSO:=hid (show splitL note = some (note ++ [10],note,[]) by rw [HSL.out,if_neg hc]; rfl)
    have HCE:=hid (show sgCode h nx note name = if nx = 2 ^ h then 11 else 0 by rw [HCODE.out,HSO.out]; rfl)
    have HTL:=hid (HML.out rfl)
    have HERR:=hid hne
    obtain rfl:L = []:=HAL.out.2 hc
    obtain ⟨lao,lcap,rfl,_,_⟩:=HLN.out
    have hnil0:([]:Lines).length = 0:=rfl
    clear hc HLN
    have k0:¬ 9223372036854775807 < note.length + 1:=by have:=HTL.out; omega
    go_wp2_with (go_at_call 34; refine (HMY.out _).mono ?_; rintro e w7 ⟨rfl,hb7⟩; have HBA:=hid (HBA.out.trans (hb7.mono HBA.out.size)); clear hb7)
    clear k0
    go_loopw [50] (fun iv wr=>iv = .int .i64 0∧w7 = wr) (fun _ _=>0)
    case atStart=>exact ⟨rfl,rfl⟩
    case round=>
     obtain ⟨rfl,rfl⟩:=hrel
     have HC11:=hid (show sgCode h nx note name = 11 by rw [HCE.out,if_pos HN.out])
     have hne11:=fun W=>run_err_neq (S 11) W
     go_wp2_with (go_at_call 21; refine (HSS.out _ _ HBA.out).mono ?_; rintro e w9 ⟨rfl,hb9⟩; have HB9:=hid (HBA.out.trans (hb9.mono HBA.out.size)); clear hb9)
     go_ret2
     exact SgPost.no 11 HC11.out (by decide) (by decide) HK.out (HB9.out.trans ((below_one _ _).mono HB9.out.size)) HB0.out
set_option maxHeartbeats 8000000 in
set_option maxRecDepth 100000 in
theorem nsign_go (S:Nat→Addr) (kb:Nat) (s:List UInt8) (h nx:Nat) (hn:nx < 2 ^ h) (note name:List UInt8) (hnl:note.length ≤ 4611686018427386000) (hml:name.length ≤ 4611686018427386000) (w0 w:World) (hF:FW S w0) (hB0:Below w0.heap.size w0 w) (hkb:w0.heap.size ≤ kb) (hk:KeyF w kb s h nx) :
  Calls Tryz.prog 10 #[.string ⟨note.toArray⟩,.string ⟨name.toArray⟩,.pointer (some ⟨kb,0,none⟩)] w fun e w'=>SgPost S w0 w kb s h nx note name e w':=by
 have HF0:=hid (hF.below hB0)
 have HFW0:=hid hF
 have HB0:=hid hB0
 have HKB:=hid hkb
 have HK:=hid hk
 have HN:=hid hn
 have HCODE:=hid (show sgCode h nx note name = if nameOf name = false then 2 else match splitL note with
  | none=>2
  | some (_,_,L)=>if (L.any fun y=>decide (y.1 = name)) = true then 2 else if L.length = 16 then 4 else if nx = 2 ^ h then 11 else 0 from rfl)
 have HSL:=hid (show splitL note = if (splitN note).2.1 = 0 then some (note,(splitN note).1.1,(splitN note).1.2) else if mayTxt note = true then some (note ++ [10],note,[]) else none from rfl)
 have HNA:=hid fun (W:World) (hW:Below w.heap.size w W)=>name_any S ⟨name.toArray⟩ W (by show name.toArray.size ≤ _; simp; omega) (HF0.out.below hW).base
 have HSP:=hid fun (W:World) (hW:Below w.heap.size w W)=>split_any S note hnl W (HF0.out.below hW).base
 have HMY:=hid fun (W:World)=>nmay_any ⟨note.toArray⟩ (by show note.toArray.size ≤ _; simp; omega) W
 rw [show (⟨name.toArray⟩:ByteArray).data.toList = name from rfl] at HNA
 rw [show (⟨note.toArray⟩:ByteArray).data.toList = note from rfl] at HMY
 obtain ⟨N,hN⟩:∃ N,nameOf name = N:=⟨_,rfl⟩
 rw [hN] at HNA HCODE
 have HNLEN:=hid (fun h:N = true=>(name_len (hN.trans h)).1)
 obtain ⟨A,hA⟩:∃ A,splitN note = A:=⟨_,rfl⟩
 rw [hA] at HSP HSL
 obtain ⟨⟨txt,L⟩,c,p⟩:=A
 have HAL:=hid (splitN_bound note hA)
 have hl16:=splitN_le note hA
 obtain ⟨M,hM⟩:∃ M,mayTxt note = M:=⟨_,rfl⟩
 rw [hM] at HMY HSL
 have HML:=hid (fun hm:M = true=>mayTxt_len note (hM.trans hm))
 have HLE:=hid (fun (W:World) (hW:Below w.heap.size w W)=>keyLeft_any kb s h nx (by omega) W (HK.out.below hW))
 obtain ⟨D,hD⟩:∃ D,2 ^ h - nx = D:=⟨_,rfl⟩
 rw [hD] at HLE
 have d0:¬ (D:Int) = 0:=by omega
 have d0b:((D:Int) == 0) = false:=by rw [beq_eq_false_iff_ne]; exact d0
 clear hF hB0 hkb hk hN hA hM hnl hml hn hD
 go_enter Tryz.func10,Tryz.ntmps10
 go_upto_region 5 with (go_at_call 14; refine (HLE.out _ (Below.refl _ _)).mono ?_; rintro e wA ⟨rfl,hb1⟩)
 have HBA:=hid hb1
 clear hb1 d0 d0b
 cases N with
 | false=>
  have HC2:=hid (show sgCode h nx note name = 2 from HCODE.out)
  go_upto_region 6 with (go_at_call 17; refine (HNA.out _ HBA.out).mono ?_; rintro e w5 ⟨rfl,hb5⟩; have HBA:=hid (HBA.out.trans (hb5.mono HBA.out.size)); clear hb5)
  have gg:=(HF0.out.below HBA.out).base.var 2 (by decide) (by decide)
  simp only [errG,errV] at gg
  go_wp2_with fail
  go_quiet (fail)
  go_wp2_with fail
  go_ret2
  exact SgPost.no 2 HC2.out (by decide) (by decide) HK.out (Below.trans HBA.out ⟨rfl,rfl,rfl,Nat.le_refl _,fun _ _=>rfl⟩) HB0.out
 | true=>
  go_upto_region 8 with (first | (go_at_call 17; refine (HNA.out _ HBA.out).mono ?_; rintro e w5 ⟨rfl,hb5⟩; have HBA:=hid (HBA.out.trans (hb5.mono HBA.out.size)); clear hb5) | (go_at_call 33; refine (HSP.out _ HBA.out).mono ?_; rintro e w6 ⟨v6,ev,rfl,hln,hev,hb6⟩; have HBA:=hid (HBA.out.trans (hb6.mono HBA.out.size)); have HLN:=hid hln; have HEV:=hid hev; clear hb6 hln hev))
  by_cases hc:c = 0
  ·obtain rfl:ev = .nilIface:=ErrAt.zero2 HEV.out hc
   have HSO:=hid (show splitL note = some (note,txt,L) by rw [HSL.out,if_pos hc])
   have HCO:=hid (show sgCode h nx note name = if (L.any fun y=>decide (y.1 = name)) = true then 2 else if L.length = 16 then 4 else if nx = 2 ^ h then 11 else 0 by rw [HCODE.out,HSO.out]; rfl)
   have HTL:=hid (HAL.out.1 hc)
   obtain ⟨lao,lcap,rfl,hlcap,hlr⟩:=HLN.out
   have HLR:=hid hlr
   clear hc HLN HEV hlr hlcap
   go_wp2_with fail
   have HW1:=hid HBA.out
   go_loopw [50] (fun iv wr=>SLRel L name w6 iv wr) (fun iv _=>L.length - (intOf iv).toNat)
   case atStart=>exact ⟨0,rfl,Nat.zero_le _,fun j x hj=>absurd hj (by omega),Below.refl _ _⟩
   case round=>
    obtain ⟨i,rfl,hi,hno,hbel⟩:=hrel
    rename World=>wr
    have HNO:=hid hno
    have HBR:=hid (HBA.out.trans (hbel.mono HBA.out.size))
    have i0:(0:Int) ≤ (i:Int):=by omega
    by_cases hlt:i < L.length
    ·have i1:(i:Int) < (L.length:Int):=by omega
     obtain ⟨x,hx⟩:∃ x,L[i]? = some x:=⟨_,List.getElem?_eq_getElem hlt⟩
     obtain ⟨g,hao,hr⟩:=HLR.out (fun e=>by rw [e] at hlt; simp at hlt)
     subst hao
     have hl2:=lcells_at L i x hx
     have c0:=below_cell hbel (by have h:=hr _ _ hl2.1; rwa [Nat.zero_add] at h)
     have c1:=below_cell hbel (by have h:=hr _ _ hl2.2; rwa [Nat.zero_add] at h)
     have HX:=hid hx
     have HBW:=hid hbel
     have HLT:=hid hlt
     obtain ⟨nm,bs⟩:=x
     clear hr hl2 hx hno hbel hlt hi
     go_upto_region 16 with fail
     have hb8:=below_one wr (.cells #[.string ⟨nm.toArray⟩,.string ⟨bs.toArray⟩] 92 (0,0))
     have hc8:=heap_one wr (.cells #[.string ⟨nm.toArray⟩,.string ⟨bs.toArray⟩] 92 (0,0))
     have HB8:=hid (HBR.out.trans (hb8.mono HBR.out.size))
     have HBW8:=hid (HBW.out.trans (hb8.mono HBW.out.size))
     generalize wr.alloc (.cells #[.string ⟨nm.toArray⟩,.string ⟨bs.toArray⟩] 92) = w8 at *
     generalize wr.heap.size = xb at *
     clear c0 c1 hb8
     have c0:=cell_of hc8 0 rfl
     clear hc8
     have hq:=str_eqL nm name
     by_cases hnm:nm = name
     ·have hq2:((⟨nm.toArray⟩:ByteArray).toList == (⟨name.toArray⟩:ByteArray).toList) = true:=by rw [hq]; exact decide_eq_true hnm
      have hq3:(nm == name) = true:=by simpa using hnm
      have HC2:=hid (show sgCode h nx note name = 2 by rw [HCO.out,if_pos (any_yes HX.out hnm)])
      clear hq hnm
      go_upto_region 17 with fail
      have gg:=(HF0.out.below HB8.out).base.var 2 (by decide) (by decide)
      simp only [errG,errV] at gg
      go_wp2_with fail
      go_quiet (fail)
      go_wp2_with fail
      go_ret2
      exact SgPost.no 2 HC2.out (by decide) (by decide) HK.out (Below.trans HB8.out ⟨rfl,rfl,rfl,Nat.le_refl _,fun _ _=>rfl⟩) HB0.out
     ·have hq2:((⟨nm.toArray⟩:ByteArray).toList == (⟨name.toArray⟩:ByteArray).toList) = false:=by rw [hq]; exact decide_eq_false hnm
      have hq3:(nm == name) = false:=by simpa using hnm
      have HNM:=hid hnm
      clear hq hnm
      go_wp2_with fail
      refine ⟨⟨i + 1,by go_num,HLT.out,fun j y hj hy=>?_,HBW8.out⟩,by have:=HLT.out; simp [intOf]; omega⟩
      by_cases hji:j = i
      ·subst hji
       rw [HX.out] at hy
       cases hy
       exact HNM.out
      ·exact HNO.out j y (by omega) hy
    ·obtain rfl:i = L.length:=by omega
     have i1:¬ (L.length:Int) < (L.length:Int):=by omega
     have HANY:=hid (any_no HNO.out)
     clear hi hno hbel hlt HBA
     have HBA:=hid HBR.out
     by_cases h16:L.length = 16
     ·have l16:(L.length:Int) = 16:=by omega
      have l16b:((L.length:Int) == 16) = true:=by rw [beq_iff_eq]; exact l16
      have HC4:=hid (show sgCode h nx note name = 4 by rw [HCO.out,if_neg (by rw [HANY.out]; simp),if_pos h16])
      clear h16
      go_upto_region 20 with fail
      have gg:=(HF0.out.below HBA.out).base.var 4 (by decide) (by decide)
      simp only [errG,errV] at gg
      go_wp2_with fail
      go_quiet (fail)
      go_wp2_with fail
      go_ret2
      exact SgPost.no 4 HC4.out (by decide) (by decide) HK.out (Below.trans HBA.out ⟨rfl,rfl,rfl,Nat.le_refl _,fun _ _=>rfl⟩) HB0.out
     ·have l16:¬ (L.length:Int) = 16:=by omega
      have l16b:((L.length:Int) == 16) = false:=by rw [beq_eq_false_iff_ne]; exact l16
      have HCE:=hid (show sgCode h nx note name = if nx = 2 ^ h then 11 else 0 by rw [HCO.out,if_neg (by rw [HANY.out]; simp),if_neg h16])
      clear h16
      have HC0:=hid (show sgCode h nx note name = 0 by rw [HCE.out,if_neg (by have:=HN.out; omega)])
      have HOUT:=hid (show sgOut s h nx note name = note ++ lineL (sgLine s h nx txt name) by unfold sgOut; rw [HSO.out])
      have HSIG:=hid (keySign_any S kb s h nx HN.out txt (by have:=HTL.out; omega) w0 wr HFW0.out (HB0.out.trans (HBA.out.mono HB0.out.size)) HKB.out (HK.out.below HBA.out))
      have hlt2:=(pow_h HK.out.1).2
      have n0:(0:Int) ≤ (nx:Int):=by omega
      have n63:(nx:Int) ≤ 63:=by have:=HN.out; omega
      go_upto_region 24 with (go_at_call 21; refine HSIG.out.mono ?_; rintro e w9 ⟨u,v,rfl,hu,hv,hk',hbut,hb9⟩; have HU:=hid hu; have HV:=hid hv; have HK9:=hid hk'; have HBU:=hid hbut; have HB9:=hid hb9; obtain ⟨_,uo,uc,hue,_,_⟩:=hu; obtain ⟨_,vo,vc,hve,_,_⟩:=hv; rw [signF_length] at hue; rw [kpath_length] at hve; subst hue; subst hve; clear hk' hbut hb9)
      have hb10:=below_one w9 (.cells #[.int .i64 (nx:Int),.slice uo 67 uc,.slice vo h vc] 73 (0,0))
      have hc10:=heap_one w9 (.cells #[.int .i64 (nx:Int),.slice uo 67 uc,.slice vo h vc] 73 (0,0))
      have HU:=hid (HU.out.below hb10)
      have HV:=hid (HV.out.below hb10)
      have HK9:=hid (HK9.out.below hb10)
      have HB10:=hid (HB9.out.trans (hb10.mono HB9.out.size))
      have HBU10:=hid (HBU.out.trans (But.of_below (bs:=[kb]) hb10))
      clear hb10
      generalize w9.alloc (.cells #[.int .i64 (nx:Int),.slice uo 67 uc,.slice vo h vc] 73) = w10 at *
      generalize w9.heap.size = sb at *
      have c0:=cell_of hc10 0 rfl
      have c1:=cell_of hc10 1 rfl
      have c2:=cell_of hc10 2 rfl
      have HENC:=hid (encode_any nx (by omega) (signF (ownF s nx) (msgF nx txt)) (kpath s h nx) _ _ w10 HU.out HV.out (signF_length _ _) (by rw [kpath_length]; exact HK.out.1))
      have HEL:=hid (encF_length nx (signF (ownF s nx) (msgF nx txt)) (kpath s h nx) (signF_length _ _) (signF_len _ _) (kpath_len s h nx))
      obtain ⟨E,hE⟩:∃ E,encF nx (signF (ownF s nx) (msgF nx txt)) (kpath s h nx) = E:=⟨_,rfl⟩
      have HE:=hid hE
      rw [hE] at HENC HEL
      have HB64:=hid fun (W:World)=>base64_any ⟨E.toArray⟩ W (by
       show (E.toArray.size + 2) / 3 * 4 ≤ _
       have:=HEL.out
       rw [kpath_length] at this
       have:=HK.out.1
       simp only [List.size_toArray]
       omega)
      rw [show (⟨E.toArray⟩:ByteArray).data.toList = E from rfl] at HB64
      have hb64l:=b64_length E
      have hel:=HEL.out
      rw [kpath_length] at hel
      have hh6:=HK.out.1
      have hnl64:name.length ≤ 64:=by first | exact HNLEN.out rfl | exact HNLEN.out trivial
      have k1:¬ 9223372036854775807 < note.length + 4:=by have:=HTL.out.1; omega
      have k2:¬ 9223372036854775807 < note.length + 4 + name.length:=by have:=HTL.out.1; omega
      have k3:¬ 9223372036854775807 < note.length + 4 + name.length + 1:=by have:=HTL.out.1; omega
      have k4:¬ 9223372036854775807 < note.length + 4 + name.length + 1 + (b64 E).length:=by have:=HTL.out.1; omega
      have k5:¬ 9223372036854775807 < note.length + 4 + name.length + 1 + (b64 E).length + 1:=by have:=HTL.out.1; omega
      have HBL:=hid hb64l
      clear hE hc10 HSIG hb64l hel hh6 hnl64
      obtain ⟨B64,hB64⟩:∃ B,b64 E = B:=⟨_,rfl⟩
      have HBE:=hid hB64
      rw [hB64] at HB64 k4 k5
      clear hB64
      go_wp2_with (first | (go_at_call 35; refine HENC.out.mono ?_; rintro e w11 ⟨rfl,hb11⟩) | (go_at_call 36; refine (HB64.out _).mono ?_; rintro e w12 ⟨rfl,hb12⟩))
      go_ret2
      have hb13:=hb11.trans (hb12.mono hb11.size)
      have ho:sgOut s h nx note name = note ++ (dashL ++ (name ++ 32 :: (B64 ++ [10]))):=by
       rw [HOUT.out,← HBE.out,← HE.out]
       rfl
      have hp:=SgPost.yes (S:=S) (w0:=w0) (w:=w) HC0.out ho (HK9.out.below hb13) ((But.of_below HBA.out).trans (HBU10.out.trans (But.of_below hb13))) (HB10.out.trans (hb13.mono HB10.out.size))
      rw [← line_cat] at hp
      exact hp
  ·obtain ⟨TT,xx,rfl,hne⟩:=ErrAt.some2 HEV.out hc
   cases M with
   | false=>
    have HC2:=hid (show sgCode h nx note name = 2 by rw [HCODE.out,HSL.out,if_neg hc]; rfl)
    clear hc HLN HEV
    go_upto_region 10 with (go_at_call 34; refine (HMY.out _).mono ?_; rintro e w7 ⟨rfl,hb7⟩; have HBA:=hid (HBA.out.trans (hb7.mono HBA.out.size)); clear hb7)
    have gg:=(HF0.out.below HBA.out).base.var 2 (by decide) (by decide)
    simp only [errG,errV] at gg
    go_wp2_with fail
    go_quiet (fail)
    go_wp2_with fail
    go_ret2
    exact SgPost.no 2 HC2.out (by decide) (by decide) HK.out (Below.trans HBA.out ⟨rfl,rfl,rfl,Nat.le_refl _,fun _ _=>rfl⟩) HB0.out
   | true=>
    have HSO:=hid (show splitL note = some (note ++ [10],note,[]) by rw [HSL.out,if_neg hc]; rfl)
    have HCE:=hid (show sgCode h nx note name = if nx = 2 ^ h then 11 else 0 by rw [HCODE.out,HSO.out]; rfl)
    have HTL:=hid (HML.out rfl)
    have HERR:=hid hne
    obtain rfl:L = []:=HAL.out.2 hc
    obtain ⟨lao,lcap,rfl,_,_⟩:=HLN.out
    have hnil0:([]:Lines).length = 0:=rfl
    clear hc HLN
    have k0:¬ 9223372036854775807 < note.length + 1:=by have:=HTL.out; omega
    go_wp2_with (go_at_call 34; refine (HMY.out _).mono ?_; rintro e w7 ⟨rfl,hb7⟩; have HBA:=hid (HBA.out.trans (hb7.mono HBA.out.size)); clear hb7)
    clear k0
    go_loopw [50] (fun iv wr=>iv = .int .i64 0∧w7 = wr) (fun _ _=>0)
    case atStart=>exact ⟨rfl,rfl⟩
    case round=>
     obtain ⟨rfl,rfl⟩:=hrel
     have HC0:=hid (show sgCode h nx note name = 0 by rw [HCE.out,if_neg (by have:=HN.out; omega)])
     have HOUT:=hid (show sgOut s h nx note name = (note ++ [10]) ++ lineL (sgLine s h nx note name) by unfold sgOut; rw [HSO.out])
     have HSIG:=hid (keySign_any S kb s h nx HN.out note (by have:=HTL.out; omega) w0 w7 HFW0.out (HB0.out.trans (HBA.out.mono HB0.out.size)) HKB.out (HK.out.below HBA.out))
     have hlt2:=(pow_h HK.out.1).2
     have n0:(0:Int) ≤ (nx:Int):=by omega
     have n63:(nx:Int) ≤ 63:=by have:=HN.out; omega
     go_upto_region 24 with (go_at_call 21; refine HSIG.out.mono ?_; rintro e w9 ⟨u,v,rfl,hu,hv,hk',hbut,hb9⟩; have HU:=hid hu; have HV:=hid hv; have HK9:=hid hk'; have HBU:=hid hbut; have HB9:=hid hb9; obtain ⟨_,uo,uc,hue,_,_⟩:=hu; obtain ⟨_,vo,vc,hve,_,_⟩:=hv; rw [signF_length] at hue; rw [kpath_length] at hve; subst hue; subst hve; clear hk' hbut hb9)
     have hb10:=below_one w9 (.cells #[.int .i64 (nx:Int),.slice uo 67 uc,.slice vo h vc] 73 (0,0))
     have hc10:=heap_one w9 (.cells #[.int .i64 (nx:Int),.slice uo 67 uc,.slice vo h vc] 73 (0,0))
     have HU:=hid (HU.out.below hb10)
     have HV:=hid (HV.out.below hb10)
     have HK9:=hid (HK9.out.below hb10)
     have HB10:=hid (HB9.out.trans (hb10.mono HB9.out.size))
     have HBU10:=hid (HBU.out.trans (But.of_below (bs:=[kb]) hb10))
     clear hb10
     generalize w9.alloc (.cells #[.int .i64 (nx:Int),.slice uo 67 uc,.slice vo h vc] 73) = w10 at *
     generalize w9.heap.size = sb at *
     have c0:=cell_of hc10 0 rfl
     have c1:=cell_of hc10 1 rfl
     have c2:=cell_of hc10 2 rfl
     have HENC:=hid (encode_any nx (by omega) (signF (ownF s nx) (msgF nx note)) (kpath s h nx) _ _ w10 HU.out HV.out (signF_length _ _) (by rw [kpath_length]; exact HK.out.1))
     have HEL:=hid (encF_length nx (signF (ownF s nx) (msgF nx note)) (kpath s h nx) (signF_length _ _) (signF_len _ _) (kpath_len s h nx))
     obtain ⟨E,hE⟩:∃ E,encF nx (signF (ownF s nx) (msgF nx note)) (kpath s h nx) = E:=⟨_,rfl⟩
     have HE:=hid hE
     rw [hE] at HENC HEL
     have HB64:=hid fun (W:World)=>base64_any ⟨E.toArray⟩ W (by
      show (E.toArray.size + 2) / 3 * 4 ≤ _
      have:=HEL.out
      rw [kpath_length] at this
      have:=HK.out.1
      simp only [List.size_toArray]
      omega)
     rw [show (⟨E.toArray⟩:ByteArray).data.toList = E from rfl] at HB64
     have hb64l:=b64_length E
     have hel:=HEL.out
     rw [kpath_length] at hel
     have hh6:=HK.out.1
     have hnl64:name.length ≤ 64:=by first | exact HNLEN.out rfl | exact HNLEN.out trivial
     have k1:¬ 9223372036854775807 < note.length + 1 + 4:=by have:=HTL.out; omega
     have k2:¬ 9223372036854775807 < note.length + 1 + 4 + name.length:=by have:=HTL.out; omega
     have k3:¬ 9223372036854775807 < note.length + 1 + 4 + name.length + 1:=by have:=HTL.out; omega
     have k4:¬ 9223372036854775807 < note.length + 1 + 4 + name.length + 1 + (b64 E).length:=by have:=HTL.out; omega
     have k5:¬ 9223372036854775807 < note.length + 1 + 4 + name.length + 1 + (b64 E).length + 1:=by have:=HTL.out; omega
     have HBL:=hid hb64l
     clear hE hc10 HSIG hb64l hel hh6 hnl64
     obtain ⟨B64,hB64⟩:∃ B,b64 E = B:=⟨_,rfl⟩
     have HBE:=hid hB64
     rw [hB64] at HB64 k4 k5
     clear hB64
     go_wp2_with (first | (go_at_call 35; refine HENC.out.mono ?_; rintro e w11 ⟨rfl,hb11⟩) | (go_at_call 36; refine (HB64.out _).mono ?_; rintro e w12 ⟨rfl,hb12⟩))
     go_ret2
     have hb13:=hb11.trans (hb12.mono hb11.size)
     have ho:sgOut s h nx note name = (note ++ [10]) ++ (dashL ++ (name ++ 32 :: (B64 ++ [10]))):=by
      rw [HOUT.out,← HBE.out,← HE.out]
      rfl
     have hp:=SgPost.yes (S:=S) (w0:=w0) (w:=w) HC0.out ho (HK9.out.below hb13) ((But.of_below HBA.out).trans (HBU10.out.trans (But.of_below hb13))) (HB10.out.trans (hb13.mono HB10.out.size))
     rw [← line_cat2] at hp
     exact hp
theorem nsign_any (S:Nat→Addr) (kb:Nat) (s:List UInt8) (h nx:Nat) (hn:nx ≤ 2 ^ h) (note name:List UInt8) (hnl:note.length ≤ 4611686018427386000) (hml:name.length ≤ 4611686018427386000) (w0 w:World) (hF:FW S w0) (hB0:Below w0.heap.size w0 w) (hkb:w0.heap.size ≤ kb) (hk:KeyF w kb s h nx) :
  Calls Tryz.prog 10 #[.string ⟨note.toArray⟩,.string ⟨name.toArray⟩,.pointer (some ⟨kb,0,none⟩)] w fun e w'=>SgPost S w0 w kb s h nx note name e w':=by
 rcases Nat.lt_or_ge nx (2 ^ h) with hlt | hge
 ·exact nsign_go S kb s h nx hlt note name hnl hml w0 w hF hB0 hkb hk
 ·exact nsign_spent S kb s h nx (by omega) note name hnl hml w0 w hF hB0 hkb hk
end Go.Proofs.YticlgcfodlcpcaaGreatDoor
