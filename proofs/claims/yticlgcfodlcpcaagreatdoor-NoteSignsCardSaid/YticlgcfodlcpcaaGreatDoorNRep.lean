/- keys. -/
import Derived.Test.YticlgcfodlcpcaaGreatDoorNKeys
import Derived.Test.YticlgcfodlcpcaaGreatDoorNIncl
import Derived.Test.YticlgcfodlcpcaaGreatDoorNRd
namespace Go.Proofs.YticlgcfodlcpcaaGreatDoor
open Go.Lib (hid byteCells)
open Go.RowKit
set_option maxHeartbeats 4000000 in
set_option maxRecDepth 100000 in
theorem may_any (idx:Int) (c p:List (List UInt8)) (u v:Value) (w:World) (hu:HsIn w u c) (hv:HsIn w v p) :
  Calls Tryz.prog 52 #[.agg #[.int .i64 idx,u,v]] w fun e w'=>e = .returned (.bool (mayF idx c p))∧Below w.heap.size w w':=by
 obtain ⟨_,ao,cap,rfl,_,_⟩:=hu
 obtain ⟨_,bo,dap,rfl,_,_⟩:=hv
 obtain ⟨n,hn⟩:∃ n,c.length = n:=⟨_,rfl⟩
 obtain ⟨m,hm⟩:∃ m,p.length = m:=⟨_,rfl⟩
 have HM:=hid (show mayF idx c p = (decide (0 ≤ idx) && decide (idx ≤ 63) && decide (n = 67) && decide (m ≤ 6)) by rw [← hn,← hm]; rfl)
 rw [HM.out,hn,hm]
 clear hn hm HM
 have fin:∀ W:World,W = w.alloc (.cells #[.int .i64 idx,.slice ao n cap,.slice bo m dap] 73)→Below w.heap.size w W:=fun W h=>h ▸ below_one w _
 by_cases a:0 ≤ idx
 ·by_cases b:idx ≤ 63
  ·have b':idx < 64:=by omega
   by_cases d:n = 67
   ·subst d
    by_cases e:m ≤ 6
    ·have e':(m:Int) ≤ 6:=by omega
     simp only [a,b,e,decide_true,Bool.and_true]
     clear b e
     go_enter Tryz.func52,Tryz.ntmps52
     go_wp2_with fail
     go_ret
     exact ⟨rfl,fin _ rfl⟩
    ·have e':¬ (m:Int) ≤ 6:=by omega
     simp only [a,b,e,decide_true,decide_false,Bool.and_true,Bool.and_false]
     clear b e
     go_enter Tryz.func52,Tryz.ntmps52
     go_wp2_with fail
     go_ret
     exact ⟨rfl,fin _ rfl⟩
   ·have d':¬ (n:Int) = 67:=by omega
    simp only [d,decide_false,Bool.and_false,Bool.false_and]
    clear b d
    go_enter Tryz.func52,Tryz.ntmps52
    go_wp2_with fail
    go_ret
    exact ⟨rfl,fin _ rfl⟩
  ·have b':¬ idx < 64:=by omega
   simp only [b,decide_false,Bool.and_false,Bool.false_and]
   clear b
   go_enter Tryz.func52,Tryz.ntmps52
   go_wp2_with fail
   go_ret
   exact ⟨rfl,fin _ rfl⟩
 ·simp only [a,decide_false,Bool.false_and]
  go_enter Tryz.func52,Tryz.ntmps52
  go_wp2_with fail
  go_ret
  exact ⟨rfl,fin _ rfl⟩
def rdHashS (st:Option (List UInt8)):Option (List UInt8):=st.bind fun l=>if l.length < 32 then none else some (l.drop 32)
theorem run_copy_str {P:Program} (w:World) (dT sT ty elem:TypeId) (g o dLen dCap:Nat) (s:ByteArray) (cur:Array Value) (t:TypeId)
  (hu:P.underlying dT = some (.slice elem)) (hs:(P.info? elem).map (·.size) = some 1) (hg:w.heap[g]? = some (.cells cur t (0,0))) (hfit:o + Nat.min s.size dLen ≤ cur.size) :
  (Builtin.copy_ #[dT,sT] ty #[.slice (some ⟨g,o,none⟩) dLen dCap,.string s]).run P w =
   .ok (goInt (Nat.min s.size dLen)) (w.setRow g (cur.toList.take o ++ byteCells (s.data.toList.take (Nat.min s.size dLen)) ++ cur.toList.drop (o + Nat.min s.size dLen)).toArray):=by
 have hlen:(byteCells (s.data.toList.take (Nat.min s.size dLen))).length = Nat.min s.size dLen:=by
  rw [Lib.byteCells_length,List.length_take,size_listT]
  have:=Nat.min_le_left s.size dLen
  exact Nat.min_eq_left this
 have hst:=run_storeCells_at P g o t (byteCells (s.data.toList.take (Nat.min s.size dLen))) 0 cur w hg (by rw [hlen]; simpa using hfit) (Lib.byteCells_one _)
 have htk:List.take (Nat.min s.size dLen) (List.map (fun b:UInt8=>Value.int IntKind.u8 (b.toNat:Int)) s.data.toList) = byteCells (s.data.toList.take (Nat.min s.size dLen)):=by
  unfold byteCells
  rw [List.map_take]
 rw [hlen] at hst
 simp only [Nat.add_zero] at hst
 cases hq:P.info? elem with
 | none=>simp [hq] at hs
 | some i=>
  simp [Builtin.copy_,run_underlying hu,Builtin.lenOf,Builtin.firstCells,sizeOf,typeInfo,hq]
  rw [htk,hst]
  simp [Result.andThen]
theorem copy_hash {W:World} {g:Nat} {z:List UInt8} (hg:HashAt W g z) (X:List UInt8) (hX:X.length = 32) (ty:TypeId) :
  (Builtin.copy_ #[117,9] ty #[.slice (some ⟨g,0,none⟩) 32 32,.string ⟨X.toArray⟩]).run Tryz.prog W = .ok (goInt 32) (W.setRow g (byteCells X).toArray):=by
 have hs:(⟨X.toArray⟩:ByteArray).size = 32:=by show X.toArray.size = 32; simp [hX]
 have hc:=run_copy_str (P:=Tryz.prog) W 117 9 ty 5 g 0 32 32 ⟨X.toArray⟩ _ _ Tryz.underlying117 (by kernel_rfl) hg.1 (by rw [hs,hash_size hg.2]; decide)
 rw [hs] at hc
 rw [hc]
 have e1:Nat.min 32 32 = 32:=rfl
 have e2:(⟨X.toArray⟩:ByteArray).data.toList.take 32 = X:=List.take_of_length_le (by show X.toArray.toList.length ≤ 32; simp [hX])
 rw [e1,e2,List.drop_of_length_le (by have:=hash_size hg.2; simp at this; simp [Lib.byteCells_length,hg.2])]
 simp
theorem copy_nothing {W:World} {g:Nat} {z:List UInt8} (hg:HashAt W g z) (ty:TypeId) :
  (Builtin.copy_ #[117,9] ty #[.slice (some ⟨g,0,none⟩) 32 32,.string ⟨#[]⟩]).run Tryz.prog W = .ok (goInt 0) W:=by
 have hc:=run_copy_str (P:=Tryz.prog) W 117 9 ty 5 g 0 32 32 ⟨#[]⟩ _ _ Tryz.underlying117 (by kernel_rfl) hg.1 (by
  have:(⟨#[]⟩:ByteArray).size = 0:=rfl
  rw [this]; exact Nat.zero_le _)
 rw [hc]
 have e:(⟨#[]⟩:ByteArray).size = 0:=rfl
 have e1:Nat.min 0 32 = 0:=rfl
 rw [e,e1]
 simp only [List.take_zero,Nat.add_zero,List.drop_zero,List.nil_append]
 rw [show byteCells [] = [] from rfl,List.nil_append,Array.toArray_toList,setRow_self W g _ _ _ hg.1]
 rfl
theorem RdAny.eq {w w':World} {rb:Nat} {b:List UInt8} {st:Option (List UInt8)} (h:RdAny w rb b st) (he:w'.heap[rb]? = w.heap[rb]?):RdAny w' rb b st:=by
 cases st with
 | none=>obtain ⟨k,fb,h0,h⟩:=h; exact ⟨k,fb,h0,he.trans h⟩
 | some l=>obtain ⟨k,h0,h1,h⟩:=h; exact ⟨k,h0,h1,he.trans h⟩
theorem HashAt.eq {w w':World} {g:Nat} {l:List UInt8} (h:HashAt w g l) (he:w'.heap[g]? = w.heap[g]?):HashAt w' g l:=⟨he.trans h.1,h.2⟩
def HashPost (rb:Nat) (b:List UInt8) (st:Option (List UInt8)) (w:World) (e:Ending) (w':World):Prop:=
 ∃ X:List UInt8,X.length = 32∧e = .returned (hv X)∧RdAny w' rb b (rdHashS st)∧But [rb] w w'∧(∀ l,st = some l→32 ≤ l.length→X = l.take 32)
set_option maxHeartbeats 4000000 in
set_option maxRecDepth 100000 in
theorem rdHash_any (S:Nat→Addr) (rb:Nat) (b:List UInt8) (hb:b.length ≤ 4611686018427387904) (st:Option (List UInt8)) (w0 w:World) (hF:Base S w0) (hB0:Below w0.heap.size w0 w) (hrb:w0.heap.size ≤ rb) (h:RdAny w rb b st) :
  Calls Tryz.prog 129 #[.pointer (some ⟨rb,0,none⟩)] w fun e w'=>HashPost rb b st w e w':=by
 obtain ⟨z32,hz32,hzs⟩:=z32_ex2
 have HZS:=hid hzs
 have HF:=hid hF
 have HB0:=hid hB0
 have HRB:=hid hrb
 have HB:=hid hb
 have HRL:=hid h.lt
 clear hF hB0 hrb hb hzs
 cases st with
 | none=>
  obtain ⟨k,fb,hk,h⟩:=h
  have H:=hid h
  have HK:=hid hk
  clear h hk
  go_enter Tryz.func129,Tryz.ntmps129
  go_upto_region 2 with fail
  have h2:=HashAt.new w z32 HZS.out
  have hb2:=below_one w (.cells (byteCells z32).toArray 23)
  have hs2:(w.alloc (.cells (byteCells z32).toArray 23)).heap.size = w.heap.size + 1:=by simp
  generalize w.alloc (.cells (byteCells z32).toArray 23) = w2 at *
  have h3:=HashAt.new w2 z32 HZS.out
  have hb3:=below_one w2 (.cells (byteCells z32).toArray 23)
  rw [hs2] at h3
  have H2:=hid (h2.below hb3)
  have H3:=hid h3
  have HBO:=hid (hb2.trans (hb3.mono hb2.size))
  generalize w2.alloc (.cells (byteCells z32).toArray 23) = wo at *
  clear h2 hb2 hs2 h3 hb3 hz32
  go_wp2_with (first | (go_at_call 149; refine (rdReady_no rb k fb b _ (H.out.below HBO.out)).mono ?_; rintro e w1 ⟨rfl,rfl⟩) | (refine wpList_ldH (by rfl) (.tmp 3) (by rfl) (by rfl) H3.out ?_) | (refine wpList_stH (by rfl) (.tmp 2) (.tmp 14) (by rfl) (by rfl) (by rfl) H2.out HZS.out ?_))
  refine bodyPost_ret (results_H rfl _ _ _ _ rfl (H2.out.set HZS.out)) rfl ⟨z32,HZS.out,rfl,RdAny.eq (w:=w) ⟨k,fb,HK.out,H.out⟩ ((setRow_other wo _ rb _ (by have:=HRL.out; omega)).trans (HBO.out.block rb HRL.out)),(But.of_below HBO.out).of_new (below_setRow (Below.refl _ _ |>.mono HBO.out.size) (Nat.le_refl _) _),fun l hl=>(by cases hl)⟩
 | some l=>
  obtain ⟨k,hk,hl,h⟩:=h
  have H:=hid h
  have HK:=hid hk
  have HL:=hid hl
  have HLL:=hid (show l.length = b.length - k by rw [← hl,List.length_drop])
  have c1:=cell_of h 1 rfl
  clear h hk hl
  go_enter Tryz.func129,Tryz.ntmps129
  go_upto_region 2 with fail
  have h2:=HashAt.new w z32 HZS.out
  have hb2:=below_one w (.cells (byteCells z32).toArray 23)
  have hs2:(w.alloc (.cells (byteCells z32).toArray 23)).heap.size = w.heap.size + 1:=by simp
  generalize w.alloc (.cells (byteCells z32).toArray 23) = w2 at *
  have h3:=HashAt.new w2 z32 HZS.out
  have hb3:=below_one w2 (.cells (byteCells z32).toArray 23)
  rw [hs2] at h3
  have H2:=hid (h2.below hb3)
  have H3:=hid h3
  have HBO:=hid (hb2.trans (hb3.mono hb2.size))
  generalize w2.alloc (.cells (byteCells z32).toArray 23) = wo at *
  clear h2 hb2 hs2 h3 hb3 hz32
  have c1:=below_cell HBO.out c1
  have hlt:=lt_of_cell c1
  go_upto_region 3 with (go_at_call 149; refine (rdReady_yes rb k b _ (H.out.below HBO.out)).mono ?_; rintro e w1 ⟨rfl,rfl⟩)
  have HRI:=hid fun (W:World) (hW:Below wo.heap.size wo W)=>(H.out.below (HBO.out.trans (hW.mono HBO.out.size)):RdIs W rb b k .nilIface)
  have HSB:=hid fun (W:World) (hW:Below wo.heap.size wo W)=>(HF.out.below (HB0.out.trans ((HBO.out.trans (hW.mono HBO.out.size)).mono HB0.out.size))).var 3 (by decide) (by decide)
  clear c1 hlt
  by_cases h32:32 ≤ l.length
  ·have H32:=hid h32
   have HT:=hid (fun (W:World) (hW:Below wo.heap.size wo W)=>rdTake_ok rb k 32 (k:Int) b HB.out (by have:=HLL.out; have:=HK.out; omega) W (HRI.out W hW))
   rw [show ((b.drop k).take 32) = l.take 32 by rw [HL.out]] at HT
   obtain ⟨X,hX⟩:∃ X,l.take 32 = X:=⟨_,rfl⟩
   have HX:=hid hX
   have HXL:=hid (show X.length = 32 by rw [← hX,List.length_take]; omega)
   rw [hX] at HT
   have HST:=hid (show rdHashS (some l) = some (l.drop 32) by unfold rdHashS; simp; omega)
   clear hX h32
   refine wp_region_till 6 (SinceB wo fun _=>True) (by kernel_rfl) ⟨fun _=>(Below.refl _ _).drew,trivial⟩ (fun hHeld=>?_)
   generalize wo.drew = wc at *
   refine wT (i:=0) (v:=.slice (some ⟨w.heap.size + 1,0,none⟩) 32 32) rfl (Or.inl ⟨by rfl,fun w _=>?_⟩) hHeld ?_
   ·go_simp
   simp only [List.getElem_toArray,List.getElem_cons_zero,Act.put,List.setIfInBounds_toArray,List.set_cons_zero,List.set_cons_succ]
   refine wT (i:=1) (v:=.pointer (some ⟨rb,0,none⟩)) rfl (Or.inl ⟨by rfl,fun w _=>?_⟩) hHeld ?_
   ·go_simp
   simp only [List.getElem_toArray,List.getElem_cons_succ,List.getElem_cons_zero,Act.put,List.setIfInBounds_toArray,List.set_cons_zero,List.set_cons_succ]
   refine wT (i:=2) (v:=.pointer (some ⟨rb,0,none⟩)) rfl (Or.inl ⟨by rfl,fun w _=>?_⟩) hHeld ?_
   ·go_simp
   simp only [List.getElem_toArray,List.getElem_cons_succ,List.getElem_cons_zero,Act.put,List.setIfInBounds_toArray,List.set_cons_zero,List.set_cons_succ]
   refine wT (i:=3) (v:=.pointer (some ⟨rb,0,none⟩)) rfl (Or.inl ⟨by rfl,fun w _=>?_⟩) hHeld ?_
   ·go_simp
   simp only [List.getElem_toArray,List.getElem_cons_succ,List.getElem_cons_zero,Act.put,List.setIfInBounds_toArray,List.set_cons_zero,List.set_cons_succ]
   refine wT (i:=4) (v:=.pointer (some ⟨rb,1,none⟩)) rfl (Or.inl ⟨by rfl,fun w _=>?_⟩) hHeld ?_
   ·go_simp
   simp only [List.getElem_toArray,List.getElem_cons_succ,List.getElem_cons_zero,Act.put,List.setIfInBounds_toArray,List.set_cons_zero,List.set_cons_succ]
   refine wF (i:=5) (v:=.int .i64 (k:Int)) rfl (Or.inl ⟨by rfl,fun w hSw=>?_⟩) hHeld ?_
   ·have c:=cell_of (HRI.out _ (hSw.1 rfl)) 1 rfl
    go_simp
   simp only [List.getElem_toArray,List.getElem_cons_succ,List.getElem_cons_zero,Act.put,List.setIfInBounds_toArray,List.set_cons_zero,List.set_cons_succ]
   refine wpAnyT_ready (rs:=[6]) (by kernel_rfl) (by simp) ?_
   refine AllReadyT.cons true rfl (by kernel_rfl) (fun K hK=>?_) AllReadyT.nil
   go_simp
   refine (HT.out _ (hHeld.1 rfl)).mono ?_
   rintro e wd ⟨rfl,h1,h2⟩
   go_wp2_with fail
   have HR1:=hid h1
   have HU1:=hid h2
   have H2:=hid ((H2.out.below (hHeld.1 rfl)).eq (h2.block _ (Nat.lt_of_lt_of_le H2.out.lt (hHeld.1 rfl).size) (by have:=HRL.out; simp; omega)))
   have H3:=hid ((H3.out.below (hHeld.1 rfl)).eq (h2.block _ (Nat.lt_of_lt_of_le H3.out.lt (hHeld.1 rfl).size) (by have:=HRL.out; simp; omega)))
   have HBC:=hid (hHeld.1 rfl)
   refine hK.out _ _ ⟨fun h=>(by cases h),trivial⟩ (fun hHeld=>?_)
   clear h1 h2
   clear hK K
   refine wpAnyT_ready (rs:=[7]) (by kernel_rfl) (by simp) ?_
   refine AllReadyT.cons true rfl (by kernel_rfl) (fun K hK=>?_) AllReadyT.nil
   have hcp:=copy_hash H3.out X HXL.out
   go_simp
   refine hK.out _ _ ⟨fun h=>(by cases h),trivial⟩ (fun hHeld=>?_)
   clear hK K
   refine wpAnyT_done (by kernel_rfl) ?_ _
   have H2:=hid (H2.out.other (byteCells X).toArray (show w.heap.size ≠ w.heap.size + 1 by omega))
   have H3:=hid (H3.out.set HXL.out)
   have hne1:rb ≠ w.heap.size + 1:=by have:=HRL.out; omega
   have HE:=hid (setRow_other wd (w.heap.size + 1) rb (byteCells X).toArray hne1)
   have HUA:=hid (below_setRow (Below.refl w.heap.size wd) (show w.heap.size ≤ w.heap.size + 1 by omega) (byteCells X).toArray)
   generalize wd.setRow (w.heap.size + 1) (byteCells X).toArray = we at *
   clear hHeld
   go_wp2_with (first | (refine wpList_ldH (by rfl) (.tmp 3) (by rfl) (by rfl) H3.out ?_) | (refine wpList_stH (by rfl) (.tmp 2) (.tmp 14) (by rfl) (by rfl) (by rfl) H2.out HXL.out ?_))
   refine bodyPost_ret (results_H rfl _ _ _ _ rfl (H2.out.set HXL.out)) rfl ⟨X,HXL.out,rfl,?_,?_,fun l2 hl2 _=>(by cases hl2; exact HX.out.symm)⟩
   ·rw [HST.out]
    refine RdAny.eq (w:=wd) ⟨k + 32,by have:=HLL.out; have:=HK.out; have:=H32.out; omega,by rw [← HL.out,List.drop_drop],HR1.out⟩ ((setRow_other we _ rb _ (by have:=HRL.out; omega)).trans HE.out)
   ·exact ((But.of_below (HBO.out.trans (HBC.out.mono HBO.out.size))).trans HU1.out).of_new (below_setRow HUA.out (Nat.le_refl _) _)
  ·have H32:=hid h32
   have HT:=hid (fun (W:World) (hW:Below wo.heap.size wo W)=>rdTake_short S rb k 32 (k:Int) b HB.out (by have:=HLL.out; have:=HK.out; omega) HK.out W (HSB.out W hW) (HRI.out W hW))
   have HST:=hid (show rdHashS (some l) = none by unfold rdHashS; simp; omega)
   clear h32
   refine wp_region_till 6 (SinceB wo fun _=>True) (by kernel_rfl) ⟨fun _=>(Below.refl _ _).drew,trivial⟩ (fun hHeld=>?_)
   generalize wo.drew = wc at *
   refine wT (i:=0) (v:=.slice (some ⟨w.heap.size + 1,0,none⟩) 32 32) rfl (Or.inl ⟨by rfl,fun w _=>?_⟩) hHeld ?_
   ·go_simp
   simp only [List.getElem_toArray,List.getElem_cons_zero,Act.put,List.setIfInBounds_toArray,List.set_cons_zero,List.set_cons_succ]
   refine wT (i:=1) (v:=.pointer (some ⟨rb,0,none⟩)) rfl (Or.inl ⟨by rfl,fun w _=>?_⟩) hHeld ?_
   ·go_simp
   simp only [List.getElem_toArray,List.getElem_cons_succ,List.getElem_cons_zero,Act.put,List.setIfInBounds_toArray,List.set_cons_zero,List.set_cons_succ]
   refine wT (i:=2) (v:=.pointer (some ⟨rb,0,none⟩)) rfl (Or.inl ⟨by rfl,fun w _=>?_⟩) hHeld ?_
   ·go_simp
   simp only [List.getElem_toArray,List.getElem_cons_succ,List.getElem_cons_zero,Act.put,List.setIfInBounds_toArray,List.set_cons_zero,List.set_cons_succ]
   refine wT (i:=3) (v:=.pointer (some ⟨rb,0,none⟩)) rfl (Or.inl ⟨by rfl,fun w _=>?_⟩) hHeld ?_
   ·go_simp
   simp only [List.getElem_toArray,List.getElem_cons_succ,List.getElem_cons_zero,Act.put,List.setIfInBounds_toArray,List.set_cons_zero,List.set_cons_succ]
   refine wT (i:=4) (v:=.pointer (some ⟨rb,1,none⟩)) rfl (Or.inl ⟨by rfl,fun w _=>?_⟩) hHeld ?_
   ·go_simp
   simp only [List.getElem_toArray,List.getElem_cons_succ,List.getElem_cons_zero,Act.put,List.setIfInBounds_toArray,List.set_cons_zero,List.set_cons_succ]
   refine wF (i:=5) (v:=.int .i64 (k:Int)) rfl (Or.inl ⟨by rfl,fun w hSw=>?_⟩) hHeld ?_
   ·have c:=cell_of (HRI.out _ (hSw.1 rfl)) 1 rfl
    go_simp
   simp only [List.getElem_toArray,List.getElem_cons_succ,List.getElem_cons_zero,Act.put,List.setIfInBounds_toArray,List.set_cons_zero,List.set_cons_succ]
   refine wpAnyT_ready (rs:=[6]) (by kernel_rfl) (by simp) ?_
   refine AllReadyT.cons true rfl (by kernel_rfl) (fun K hK=>?_) AllReadyT.nil
   go_simp
   refine (HT.out _ (hHeld.1 rfl)).mono ?_
   rintro e wd ⟨rfl,h1,h2⟩
   go_wp2_with fail
   have HR1:=hid h1
   have HU1:=hid h2
   have H2:=hid ((H2.out.below (hHeld.1 rfl)).eq (h2.block _ (Nat.lt_of_lt_of_le H2.out.lt (hHeld.1 rfl).size) (by have:=HRL.out; simp; omega)))
   have H3:=hid ((H3.out.below (hHeld.1 rfl)).eq (h2.block _ (Nat.lt_of_lt_of_le H3.out.lt (hHeld.1 rfl).size) (by have:=HRL.out; simp; omega)))
   have HBC:=hid (hHeld.1 rfl)
   refine hK.out _ _ ⟨fun h=>(by cases h),trivial⟩ (fun hHeld=>?_)
   clear h1 h2
   clear hK K
   refine wpAnyT_ready (rs:=[7]) (by kernel_rfl) (by simp) ?_
   refine AllReadyT.cons true rfl (by kernel_rfl) (fun K hK=>?_) AllReadyT.nil
   have hcp:=copy_nothing H3.out
   go_simp
   refine hK.out _ _ ⟨fun h=>(by cases h),trivial⟩ (fun hHeld=>?_)
   clear hK K
   refine wpAnyT_done (by kernel_rfl) ?_ _
   clear hHeld
   go_wp2_with (first | (refine wpList_ldH (by rfl) (.tmp 3) (by rfl) (by rfl) H3.out ?_) | (refine wpList_stH (by rfl) (.tmp 2) (.tmp 14) (by rfl) (by rfl) (by rfl) H2.out HZS.out ?_))
   refine bodyPost_ret (results_H rfl _ _ _ _ rfl (H2.out.set HZS.out)) rfl ⟨z32,HZS.out,rfl,?_,?_,fun l2 hl2 h=>(by cases hl2; exact absurd h H32.out)⟩
   ·rw [HST.out]
    exact RdAny.eq (w:=wd) HR1.out (setRow_other wd _ rb _ (by have:=HRL.out; omega))
   ·exact ((But.of_below (HBO.out.trans (HBC.out.mono HBO.out.size))).trans HU1.out).of_new (below_setRow (Below.refl _ _) (Nat.le_refl _) _)
theorem hcells_app (a b:List (List UInt8)):hcells (a ++ b) = hcells a ++ hcells b:=by unfold hcells; rw [List.flatMap_append]
theorem hcells_take (L:List (List UInt8)) (h:∀ x ∈ L,x.length = 32) (n:Nat) (hn:n ≤ L.length):(hcells L).take (n * 32) = hcells (L.take n):=by
 conv=>lhs; rw [← List.take_append_drop n L,hcells_app]
 rw [List.take_append_of_le_length,List.take_of_length_le]
 ·rw [hcells_len _ fun x hx=>h x (List.mem_of_mem_take hx),List.length_take]; omega
 ·rw [hcells_len _ fun x hx=>h x (List.mem_of_mem_take hx),List.length_take]; omega
theorem hcells_drop (L:List (List UInt8)) (h:∀ x ∈ L,x.length = 32) (n:Nat) (hn:n ≤ L.length):(hcells L).drop (n * 32) = hcells (L.drop n):=by
 conv=>lhs; rw [← List.take_append_drop n L,hcells_app]
 have e:(hcells (L.take n)).length = n * 32:=by rw [hcells_len _ fun x hx=>h x (List.mem_of_mem_take hx),List.length_take]; omega
 rw [List.drop_append,e,List.drop_of_length_le (by omega),Nat.sub_self]
 simp
theorem hcells_one (L:List (List UInt8)):∀ v ∈ hcells L,v.oneCell' = true:=fun v hv=>by
 obtain ⟨x,_,hx⟩:=List.mem_flatMap.1 hv
 exact cells_oneC x v hx
theorem run_copy_hashes (W:World) (ty:TypeId) (g n dLen dCap gs so sLen sCap:Nat) (L X:List (List UInt8)) (hg:RowAt W g L) (hX:∀ x ∈ X,x.length = 32) (hsrc:W.rangeAt gs so (hcells X)) (hm:X.length = Nat.min sLen dLen) (hfit:n + X.length ≤ L.length) :
  (Builtin.copy_ #[41,41] ty #[.slice (some ⟨g,n * 32,none⟩) dLen dCap,.slice (some ⟨gs,so,none⟩) sLen sCap]).run Tryz.prog W =
   .ok (goInt X.length) (W.setRow g (hcells (L.take n ++ X ++ L.drop (n + X.length))).toArray):=by
 have hs32:(hcells L).toArray.size = L.length * 32:=by rw [List.size_toArray,hcells_len L hg.2]
 have hxl:=hcells_len X hX
 have hl:=run_loadCells_list (P:=Tryz.prog) W ⟨gs,so,none⟩ (hcells X) (fun j v hj=>by
  rw [Addr.add_mid]
  exact hsrc j v hj)
 have hst:=run_storeCells_at Tryz.prog g (n * 32) _ (hcells X) 0 _ W hg.1 (by rw [hs32,hxl]; omega) (hcells_one X)
 rw [hxl] at hl hst
 have ec:(hcells L).toArray.toList.take (n * 32 + 0) ++ hcells X ++ (hcells L).toArray.toList.drop (n * 32 + 0 + X.length * 32) = hcells (L.take n ++ X ++ L.drop (n + X.length)):=by
  rw [Nat.add_zero,show n * 32 + X.length * 32 = (n + X.length) * 32 by omega]
  show (hcells L).take (n * 32) ++ hcells X ++ (hcells L).drop ((n + X.length) * 32) = _
  rw [hcells_take L hg.2 n (by omega),hcells_drop L hg.2 _ hfit,hcells_app,hcells_app]
 rw [ec] at hst
 have hq:=hashInfo
 cases hi:Tryz.prog.info? 23 with
 | none=>rw [hi] at hq; cases hq
 | some i=>
  rw [hi] at hq
  have h32:i.size = 32:=by simpa using hq
  simp [Builtin.copy_,run_underlying Tryz.underlying41,Builtin.lenOf,Builtin.firstCells,sizeOf,typeInfo,hi,h32,← hm,hl,hst,Result.andThen]
theorem copy_zeros (W:World) (ty:TypeId) (g n dLen dCap gs so sLen sCap m:Nat) (z:List UInt8) (N:Nat) (hz:z.length = 32) (hg:RowAt W g (List.replicate N z)) (hsrc:W.rangeAt gs so (hcells (List.replicate m z))) (hm:m = Nat.min sLen dLen) (hfit:n + m ≤ N) :
  (Builtin.copy_ #[41,41] ty #[.slice (some ⟨g,n * 32,none⟩) dLen dCap,.slice (some ⟨gs,so,none⟩) sLen sCap]).run Tryz.prog W = .ok (goInt m) W:=by
 have h:=run_copy_hashes W ty g n dLen dCap gs so sLen sCap _ (List.replicate m z) hg (fun x hx=>by rw [(List.mem_replicate.1 hx).2]; exact hz) hsrc (by rw [List.length_replicate]; exact hm) (by rw [List.length_replicate,List.length_replicate]; exact hfit)
 rw [h,List.length_replicate,List.take_replicate,List.drop_replicate,List.replicate_append_replicate,List.replicate_append_replicate,show min n N + m + (N - (n + m)) = N by omega,setRow_self W g _ _ _ hg.1]
set_option maxHeartbeats 1000000 in
set_option maxRecDepth 100000 in
theorem mul_67 (w:World):Calls Tryz.prog 153 #[.int .u64 1,.int .u64 67] w fun e w'=>e = .returned (.tuple #[.int .u64 0,.int .u64 67])∧w = w':=by
 go_enter Tryz.func153,Tryz.ntmps153
 go_wp2_with (go_at_call 164; go_enter Tryz.func164,Tryz.ntmps164)
 go_ret2
 exact ⟨by kernel_rfl,rfl⟩
set_option maxHeartbeats 4000000 in
set_option maxRecDepth 100000 in
theorem repeat_any (gs:Nat) (z:List UInt8) (hz:z.length = 32) (hmk:∀ W:World,(Instr.makeSlice 41 (.int .i64 67) (.int .i64 67)).run Tryz.prog W = .ok (.slice (some ⟨W.heap.size,0,none⟩) 67 67) (W.alloc (.cells (hcells (List.replicate 67 z)).toArray 23))) (w:World) (h:HashAt w gs z) :
  Calls Tryz.prog 128 #[.slice (some ⟨gs,0,none⟩) 1 1,.int .i64 67] w fun e w'=>∃ g,e = .returned (.slice (some ⟨g,0,none⟩) 67 67)∧RowAt w' g (List.replicate 67 z)∧w.heap.size ≤ g∧Below w.heap.size w w':=by
 have HZ:=hid hz
 have H:=hid h
 have HMK:=hid hmk
 clear h hz hmk
 go_enter Tryz.func128,Tryz.ntmps128
 go_upto_region 6 with (go_at_call 153; refine (mul_67 _).mono ?_; rintro e w1 ⟨rfl,rfl⟩)
 have hmk:=HMK.out
 obtain ⟨cs,hcs⟩:∃ cs,(hcells (List.replicate 67 z)).toArray = cs:=⟨_,rfl⟩
 have HCS:=hid hcs
 rw [hcs] at hmk
 clear hcs
 go_upto_region 7 with fail
 have hrow:RowAt (w.alloc (.cells cs 23)) w.heap.size (List.replicate 67 z):=⟨by rw [HCS.out]; exact heap_one w _,fun x hx=>by rw [(List.mem_replicate.1 hx).2]; exact HZ.out⟩
 have hb:=below_one w (.cells cs 23)
 have hgl:w.heap.size < (w.alloc (.cells cs 23)).heap.size:=by simp
 generalize w.alloc (.cells cs 23) = w1 at *
 have HR:=hid hrow
 have HB:=hid hb
 have h1:w1.rangeAt gs 0 (hcells (List.replicate 1 z)):=by
  have:=(H.out.below hb).range
  simpa [hcells] using this
 have hc1:=fun ty=>copy_zeros w1 ty w.heap.size 0 67 67 gs 0 1 1 1 z 67 HZ.out hrow h1 rfl (by decide)
 clear hrow hb h1 hmk HMK HCS
 simp only [Nat.zero_mul] at hc1
 go_wp2_with fail
 go_loopw [8] (fun nv wr=>∃ n:Nat,1 ≤ n∧n ≤ 67∧nv = .int .i64 (n:Int)∧Below w1.heap.size w1 wr) (fun nv _=>67 - (intOf nv).toNat)
 case atStart=>exact ⟨1,by omega,by omega,rfl,Below.refl _ _⟩
 case round=>
  obtain ⟨n,hn1,hn2,rfl,hbel⟩:=hrel
  rename World=>wr
  by_cases hlt:n < 67
  ·have i1:(n:Int) < 67:=by omega
   have i0:(0:Int) ≤ (n:Int):=by omega
   have i2:(n:Int) ≤ 67:=by omega
   have nz:¬ 67 - n = 0:=by omega
   obtain ⟨m,hm,hm1,hm2⟩:∃ m:Nat,m = Nat.min n (67 - n)∧1 ≤ m∧n + m ≤ 67:=⟨Nat.min n (67 - n),rfl,Nat.le_min.2 ⟨hn1,by omega⟩,by have h2:Nat.min n (67 - n) ≤ 67 - n:=Nat.min_le_right n (67 - n); omega⟩
   have hc:∀ (x:Kept wr) (ty:TypeId),(Builtin.copy_ #[41,41] ty #[.slice (some ⟨w.heap.size,n * 32,none⟩) (67 - n) (67 - n),.slice (some ⟨w.heap.size,0,none⟩) n 67]).run Tryz.prog x.w = .ok (goInt (m:Int)) x.w:=fun x ty=>
    copy_zeros x.w ty w.heap.size n (67 - n) (67 - n) w.heap.size 0 n 67 m z 67 HZ.out (HR.out.below (hbel.trans (x.below.mono hbel.size))) (fun j v hj=>by
     have hr:=(HR.out.below (hbel.trans (x.below.mono hbel.size))).range j v
     rw [Nat.zero_add] at hr ⊢
     apply hr
     have e:List.replicate 67 z = List.replicate m z ++ List.replicate (67 - m) z:=by rw [List.replicate_append_replicate]; congr 1; omega
     rw [e,hcells_app,List.getElem?_append_left (List.getElem?_eq_some_iff.1 hj).1]
     exact hj) hm (by omega)
   clear hm
   go_wp2_with fail
   refine wp_region_kept (by kernel_rfl) (by kernel_rfl) ?_
   iterate 10 go_big_quiet_step (fail)
   refine wpQuiet_nil ?_
   intro x
   go_wp2_with fail
   trace_state
   exact ⟨⟨n + m,by omega,hm2,by go_num,hbel.trans (x.below.mono hbel.size)⟩,by simp [intOf]; omega⟩
  ·obtain rfl:n = 67:=by omega
   have i1:¬ ((67:Nat):Int) < 67:=by omega
   go_wp2_with fail
   go_ret
   exact ⟨_,rfl,HR.out.below hbel,Nat.le_refl _,HB.out.trans (hbel.mono HB.out.size)⟩
set_option maxHeartbeats 1000000 in
set_option maxRecDepth 100000 in
theorem newReader_any (b:List UInt8) (w:World) :
  Calls Tryz.prog 126 #[.string ⟨b.toArray⟩] w fun e w'=>∃ rb,e = .returned (.pointer (some ⟨rb,0,none⟩))∧RdAny w' rb b (some b)∧w.heap.size ≤ rb∧Below w.heap.size w w':=by
 go_enter Tryz.func126,Tryz.ntmps126
 go_wp2_with fail
 go_ret
 exact ⟨_,rfl,⟨0,Nat.zero_le _,rfl,heap_one w _⟩,Nat.le_refl _,below_one w _⟩
end Go.Proofs.YticlgcfodlcpcaaGreatDoor
