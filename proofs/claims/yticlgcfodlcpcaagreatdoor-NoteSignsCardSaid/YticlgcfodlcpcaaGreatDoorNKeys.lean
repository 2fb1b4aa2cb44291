/- A tree of keys that is whole: Public,Left. keys.Sign by its contract. -/
import Derived.Test.YticlgcfodlcpcaaGreatDoorNNew
namespace Go.Proofs.YticlgcfodlcpcaaGreatDoor
open Go.Lib (hid byteCells)
open Go.RowKit
def cntF (h:Nat):Nat→Nat:=fun t=>if t ≤ h then 2 ^ (h - t) else 0
def KeyF (w:World) (kb:Nat) (s:List UInt8) (h nx:Nat):Prop:=h ≤ 6∧∃ lv,KeyW w kb s h nx lv (cntF h)
theorem KeyF.below {w w':World} {kb:Nat} {s:List UInt8} {h nx:Nat} (hk:KeyF w kb s h nx) (hb:Below w.heap.size w w'):KeyF w' kb s h nx:=by
 obtain ⟨h6,lv,hk⟩:=hk
 exact ⟨h6,lv,hk.below hb⟩
theorem KeyF.lt {w:World} {kb:Nat} {s:List UInt8} {h nx:Nat} (hk:KeyF w kb s h nx):kb < w.heap.size:=by
 obtain ⟨_,lv,hk⟩:=hk
 exact hk.lt
theorem step_storeH {ops:Array Oper} {o:Oper} {a:Act} {K:Act→World→Prop} {Q:Exit→Act→World→Prop} {E:Prop} (hgd:o.guard = none) (x y:Operand) (ho:o.op = .store 23 x y) {W:World}
  {g:Nat} {l z:List UInt8} (hx:a.eval x = .pointer (some ⟨g,0,none⟩)) (hy:a.eval y = .agg (byteCells l).toArray) (hg:HashAt W g z) (hl:l.length = 32)
  (h:K (a.put o.dst undef) (W.setRow g (byteCells l).toArray)):if Region.wanted o (yielded ops a.tmps) = true then Oper.wp Tryz.prog o a W K Q else E:=by
 have hw:Region.wanted o (yielded ops a.tmps) = true:=by simp [Region.wanted,hgd]
 rw [if_pos hw]
 refine wp_store_mid 23 x y ho g 0 (byteCells l).toArray hx hy (by rw [hash_size hl]; exact hg.there) (by rw [hash_size hl]; exact hashInfo) (byteCells_all _) ?_
 rw [← hg.setCells hl] at h
 exact h
theorem KeyF.node {w:World} {kb:Nat} {s:List UInt8} {h nx:Nat} (hk:KeyF w kb s h nx) {t i:Nat} (ht:t ≤ h) (hi:i < 2 ^ (h - t)) :
  ∃ g n cap,w.cell? ⟨kb,32 + t,none⟩ = some (.slice (some ⟨g,0,none⟩) n cap)∧n = 2 ^ (h - t)∧w.rangeAt g (i * 32) (byteCells (knode s t i))∧kb < g∧g < w.heap.size:=by
 obtain ⟨h6,lv,hk⟩:=hk
 have hc:cntF h t = 2 ^ (h - t):=if_pos ht
 obtain ⟨g,cap,e,hg,hr⟩:=hk.slice (t:=t) (by omega) (by rw [hc]; exact Nat.two_pow_pos _)
 have hl:=hk.level (t:=t) (by omega)
 have ho:=hk.own t (by omega)
 rw [e] at hl ho
 rw [hc] at hr
 have hx:=HsIn.at (rowK_len s t _) hr (rowK_get s t _ i hi)
 rw [Nat.zero_add] at hx
 exact ⟨g,_,cap,hl,hc,hx,hg,(ho.lt g rfl).2⟩
def KeptB (wA:World) (kb g:Nat):World→Prop:=fun W=>W.heap[kb]? = wA.heap[kb]?∧W.heap[g]? = wA.heap[g]?
set_option maxHeartbeats 4000000 in
set_option maxRecDepth 100000 in
theorem keyPublic_any (kb:Nat) (s:List UInt8) (h nx:Nat) (w:World) (hk:KeyF w kb s h nx) :
  Calls Tryz.prog 18 #[.pointer (some ⟨kb,0,none⟩)] w fun e w'=>e = .returned (hv (knode s h 0))∧Below w.heap.size w w':=by
 obtain ⟨z32,hz32,hzs⟩:=z32_ex2
 have HZS:=hid hzs
 have HK:=hid hk
 have HXL:=hid (show (knode s h 0).length = 32 from knode_len s h 0)
 obtain ⟨X,hX⟩:∃ X,knode s h 0 = X:=⟨_,rfl⟩
 rw [hX] at HXL
 have HX:=hid hX
 have HH6:=hid hk.1
 have h6:(h:Int) < 7:=by have:=HH6.out; omega
 have h0:(0:Int) ≤ (h:Int):=by omega
 obtain ⟨g,n,cap,c2,hn,hr,hg,hgl⟩:=hk.node (t:=h) (i:=0) (Nat.le_refl _) (Nat.two_pow_pos _)
 rw [hX,Nat.zero_mul] at hr
 obtain ⟨_,lv0,hk0⟩:=hk
 have hthere:=hk0.there
 have hlt:=hk0.lt
 clear hk0 hX hzs
 go_enter Tryz.func18,Tryz.ntmps18
 go_upto_region 1 with fail
 have HZ:=hid (HashAt.new w z32 HZS.out)
 have hb:=below_one w (.cells (byteCells z32).toArray 23)
 have hthere:=below_cell hb hthere
 have HB:=hid hb
 generalize w.alloc (.cells (byteCells z32).toArray 23) = wA at *
 clear hz32 hb
 go_upto_region 3 with fail
 have c2:=below_cell HB.out c2
 have hr:=range_below HB.out hr
 have c1:wA.cell? ⟨kb,39,none⟩ = some (.int .i64 (h:Int)):=by
  obtain ⟨_,lv,hk⟩:=HK.out.below HB.out
  exact hk.height
 have HC1:=hid fun (W:World) (hW:KeptB wA kb g W)=>(World.cell?_of_block (a:=⟨kb,39,none⟩) hW.1).trans c1
 have HC2:=hid fun (W:World) (hW:KeptB wA kb g W)=>(World.cell?_of_block (a:=⟨kb,32 + h,none⟩) hW.1).trans c2
 have HC3:=hid fun (W:World) (hW:KeptB wA kb g W)=>(fun j v hj=>(World.cell?_of_block (a:=⟨g,0 + j,none⟩) hW.2).trans (hr j v hj):W.rangeAt g 0 (byteCells X))
 have n1:¬ n = 0:=by have:=Nat.two_pow_pos (h - h); omega
 have HZD:=hid (show HashAt wA.drew w.heap.size z32 from HZ.out.below (Below.refl _ _).drew)
 have HKS:=hid (show KeptB wA kb g (wA.drew.setRow w.heap.size (byteCells X).toArray) from by
  rw [← HZD.out.setCells HXL.out]
  exact ⟨setCells_other _ _ _ _ _ (by omega),setCells_other _ _ _ _ _ (by have:=HB.out.size; omega)⟩)
 have HZE:=hid (HZD.out.set HXL.out)
 have HBE:=hid (below_setRow (HB.out.trans ((Below.refl wA.heap.size wA).drew.mono HB.out.size)) (Nat.le_refl _) (byteCells X).toArray)
 clear c1 c2 hr hn hgl hg
 refine wp_region_till 11 (SinceB wA (KeptB wA kb g)) (by kernel_rfl) ⟨fun _=>(Below.refl _ _).drew,⟨rfl,rfl⟩⟩ (fun hHeld=>?_)
 refine wT (i:=0) (v:=.pointer (some ⟨kb,0,none⟩)) rfl (Or.inl ⟨by rfl,fun w _=>?_⟩) hHeld ?_
 ·go_simp
 simp only [List.getElem_toArray,List.getElem_cons_zero,Act.put,List.setIfInBounds_toArray,List.set_cons_zero,List.set_cons_succ]
 refine wT (i:=1) (v:=.pointer (some ⟨kb,0,none⟩)) rfl (Or.inl ⟨by rfl,fun w _=>?_⟩) hHeld ?_
 ·go_simp
 simp only [List.getElem_toArray,List.getElem_cons_succ,List.getElem_cons_zero,Act.put,List.setIfInBounds_toArray,List.set_cons_zero,List.set_cons_succ]
 refine wT (i:=2) (v:=.pointer (some ⟨kb,0,none⟩)) rfl (Or.inl ⟨by rfl,fun w _=>?_⟩) hHeld ?_
 ·go_simp
 simp only [List.getElem_toArray,List.getElem_cons_succ,List.getElem_cons_zero,Act.put,List.setIfInBounds_toArray,List.set_cons_zero,List.set_cons_succ]
 refine wT (i:=3) (v:=.pointer (some ⟨kb,39,none⟩)) rfl (Or.inl ⟨by rfl,fun w _=>?_⟩) hHeld ?_
 ·go_simp
 simp only [List.getElem_toArray,List.getElem_cons_succ,List.getElem_cons_zero,Act.put,List.setIfInBounds_toArray,List.set_cons_zero,List.set_cons_succ]
 refine wT (i:=4) (v:=.int .i64 (h:Int)) rfl (Or.inl ⟨by rfl,fun w hSw=>?_⟩) hHeld ?_
 ·have c:=HC1.out w ((hSw.choose_spec.2))
  go_simp
 simp only [List.getElem_toArray,List.getElem_cons_succ,List.getElem_cons_zero,Act.put,List.setIfInBounds_toArray,List.set_cons_zero,List.set_cons_succ]
 refine wT (i:=5) (v:=.pointer (some ⟨kb,0,none⟩)) rfl (Or.inl ⟨by rfl,fun w _=>?_⟩) hHeld ?_
 ·go_simp
 simp only [List.getElem_toArray,List.getElem_cons_succ,List.getElem_cons_zero,Act.put,List.setIfInBounds_toArray,List.set_cons_zero,List.set_cons_succ]
 refine wT (i:=6) (v:=.pointer (some ⟨kb,32,none⟩)) rfl (Or.inl ⟨by rfl,fun w _=>?_⟩) hHeld ?_
 ·go_simp
 simp only [List.getElem_toArray,List.getElem_cons_succ,List.getElem_cons_zero,Act.put,List.setIfInBounds_toArray,List.set_cons_zero,List.set_cons_succ]
 refine wT (i:=7) (v:=.pointer (some ⟨kb,32 + h,none⟩)) rfl (Or.inl ⟨by rfl,fun w _=>?_⟩) hHeld ?_
 ·go_simp
 simp only [List.getElem_toArray,List.getElem_cons_succ,List.getElem_cons_zero,Act.put,List.setIfInBounds_toArray,List.set_cons_zero,List.set_cons_succ]
 refine wT (i:=8) (v:=.slice (some ⟨g,0,none⟩) n cap) rfl (Or.inl ⟨by rfl,fun w hSw=>?_⟩) hHeld ?_
 ·have c:=HC2.out w (hSw.choose_spec.2)
  go_simp
 simp only [List.getElem_toArray,List.getElem_cons_succ,List.getElem_cons_zero,Act.put,List.setIfInBounds_toArray,List.set_cons_zero,List.set_cons_succ]
 refine wT (i:=9) (v:=.pointer (some ⟨g,0,none⟩)) rfl (Or.inl ⟨by rfl,fun w _=>?_⟩) hHeld ?_
 ·go_simp
 simp only [List.getElem_toArray,List.getElem_cons_succ,List.getElem_cons_zero,Act.put,List.setIfInBounds_toArray,List.set_cons_zero,List.set_cons_succ]
 refine wT (i:=10) (v:=hv X) rfl (yieldsIf_load_mid (by rfl) 23 (.tmp 22) (by rfl) g 0 (by rfl) (byteCells X) _ (fun w ⟨_,h⟩=>HC3.out w h.2) Tryz.underlying23 rfl (by rw [Lib.byteCells_length,HXL.out]; exact hashInfo)) hHeld ?_
 simp only [List.getElem_toArray,List.getElem_cons_succ,List.getElem_cons_zero,Act.put,List.setIfInBounds_toArray,List.set_cons_zero,List.set_cons_succ]
 refine wpAnyT_ready (rs:=[11]) (by kernel_rfl) (by simp) ?_
 refine AllReadyT.cons true rfl (by kernel_rfl) (fun K hK=>?_) AllReadyT.nil
 refine step_storeH (by rfl) (.tmp 2) (.tmp 23) (by rfl) (by rfl) (by rfl) HZD.out HXL.out ?_
 refine hK.out _ _ ⟨fun h=>(by cases h),HKS.out⟩ (fun hHeld=>?_)
 clear hK K
 refine wpAnyT_done (by kernel_rfl) ?_ _
 go_wp2_with fail
 exact bodyPost_ret (results_H rfl _ _ _ _ rfl HZE.out) rfl ⟨by rw [HX.out],HBE.out⟩
theorem left_wrap (N nx D:Nat) (hN:N ≤ 64) (hn:nx ≤ N) (hD:N - nx = D):IntKind.i64.wrap ((N:Int) - (nx:Int)) = (D:Int):=by
 rw [IntKind.wrap_i64]
 omega
theorem pow_hI {h:Nat} (hh:h ≤ 6):IntKind.i64.wrap ((2:Int) ^ h) = ((2 ^ h:Nat):Int):=by
 rcases h with _ | _ | _ | _ | _ | _ | _ | h
 ·kernel_rfl
 ·kernel_rfl
 ·kernel_rfl
 ·kernel_rfl
 ·kernel_rfl
 ·kernel_rfl
 ·kernel_rfl
 ·omega
set_option maxHeartbeats 4000000 in
set_option maxRecDepth 100000 in
theorem keyLeft_any (kb:Nat) (s:List UInt8) (h nx:Nat) (hn:nx ≤ 2 ^ h) (w:World) (hk:KeyF w kb s h nx) :
  Calls Tryz.prog 14 #[.pointer (some ⟨kb,0,none⟩)] w fun e w'=>e = .returned (.int .i64 ((2 ^ h - nx:Nat):Int))∧Below w.heap.size w w':=by
 have h6:=hk.1
 have h0:(0:Int) ≤ (h:Int):=by omega
 have h64:(h:Int) ≤ 64:=by omega
 have p1:=pow_hI hk.1
 have p2:=(pow_h hk.1).2
 obtain ⟨_,lv0,hk0⟩:=hk
 have hthere:=hk0.there
 have hh:=hk0.height
 have hnx:=hk0.next
 obtain ⟨N,hN⟩:∃ N,2 ^ h = N:=⟨_,rfl⟩
 rw [hN] at p1 p2 hn
 obtain ⟨D,hD⟩:∃ D,N - nx = D:=⟨_,rfl⟩
 have s1:=left_wrap N nx D p2 hn hD
 have HD:=hid (show (2 ^ h - nx:Nat) = D by rw [hN]; exact hD)
 clear hk0 hN hD hn
 go_enter Tryz.func14,Tryz.ntmps14
 go_upto_region 3 with fail
 go_quiet (fail)
 go_wp2_with fail
 go_ret
 exact ⟨by rw [HD.out]; rfl,below_drewN (Below.refl _ _) _⟩
theorem KeyW.bump {w:World} {kb:Nat} {s:List UInt8} {h nx:Nat} {lv:Nat→Value} {cnt:Nat→Nat} (hk:KeyW w kb s h nx lv cnt):KeyW (w.setCell ⟨kb,40,none⟩ (.int .i64 ((nx:Int) + 1))) kb s h (nx + 1) lv cnt:=by
 obtain ⟨cs,hc,hC⟩:=hk.hp
 obtain ⟨cs',e1,e2,e3⟩:=heap_setCells [.int .i64 ((nx:Int) + 1)] 40 w kb cs _ _ hc
 have hj:∀ j,j ≠ 40→cs'[j]? = cs[j]?:=fun j hj=>by
  rw [e3,if_neg (by simp only [List.length_cons,List.length_nil]; omega)]
 refine ⟨⟨cs',e1,⟨?_,?_,?_,?_,?_,?_⟩⟩,hk.ls,?_,hk.sep⟩
 ·rw [e2]; exact hC.size
 ·intro j hj32
  rw [hj j (by omega)]
  exact hC.sec j hj32
 ·intro u hu
  rw [hj _ (by omega)]
  exact hC.lev u hu
 ·rw [hj 39 (by omega)]; exact hC.hgt
 ·rw [e3,if_pos ⟨Nat.le_refl _,by simp only [List.length_cons,List.length_nil]; omega,by rw [hC.size]; omega⟩]
  exact congrArg (fun z=>some (Value.int .i64 z)) (by omega)
 ·rw [hj 41 (by omega)]; exact hC.thr
 ·intro t ht
  refine rowKeepK (hk.own t ht) fun g hg=>Below.heap_setCell w ⟨kb,40,none⟩ _ g (fun e=>?_)
  have:=((hk.own t ht).lt g hg).1
  have e2:g = kb:=e
  omega
theorem KeyW.other {w W:World} {kb b:Nat} {s:List UInt8} {h nx:Nat} {lv:Nat→Value} {cnt:Nat→Nat} (hk:KeyW w kb s h nx lv cnt) (hW:∀ k,k ≠ b→W.heap[k]? = w.heap[k]?) (hne:kb ≠ b) (hr:∀ t g,t < 7→(lv t).ownBlock = some g→g ≠ b):KeyW W kb s h nx lv cnt:=by
 obtain ⟨cs,hc,hC⟩:=hk.hp
 exact ⟨⟨cs,(hW kb hne).trans hc,hC⟩,hk.ls,fun t ht=>rowKeepK (hk.own t ht) fun g hg=>hW g (hr t g ht hg),hk.sep⟩
theorem heap_set3 {w:World} {g:Nat} {a b c:Value} {T:TypeId} (h:w.heap[g]? = some (.cells #[a,b,c] T (0,0))) (x y z:Value):(w.setCells g 0 [x,y,z]).heap[g]? = some (.cells #[x,y,z] T (0,0)):=by
 obtain ⟨cs',e1,e2,e3⟩:=heap_setCells [x,y,z] 0 w g _ _ _ h
 have ec:cs' = #[x,y,z]:=by
  refine Array.ext_getElem? fun j=>?_
  rw [e3]
  rcases j with _ | _ | _ | j
  ·rfl
  ·rfl
  ·rfl
  ·rw [if_neg (by simp only [List.length_cons,List.length_nil]; omega)]
   rfl
 rw [← ec]
 exact e1
theorem KeyF.cells {w:World} {kb:Nat} {s:List UInt8} {h nx:Nat} (hk:KeyF w kb s h nx):w.cell? ⟨kb,41,none⟩ = some (.bool true)∧w.cell? ⟨kb,39,none⟩ = some (.int .i64 (h:Int))∧w.cell? ⟨kb,40,none⟩ = some (.int .i64 (nx:Int))∧w.frozen? ⟨kb,40,none⟩ = false:=by
 obtain ⟨_,lv,hk⟩:=hk
 exact ⟨hk.there,hk.height,hk.next,hk.frozen 40⟩
structure SgW (W:World) (b:Nat) (iv cv pv:Value) (L:List (List UInt8)):Prop where
 hp:W.heap[b]? = some (.cells #[iv,cv,pv] 73 (0,0))
 own:W.ownsRow (b + 1) 23 32 pv L.length (hcells L)
section
variable {w:World} {b:Nat} {iv cv pv:Value} {L:List (List UInt8)}
theorem SgW.below {w':World} (h:SgW w b iv cv pv L) (hb:Below w.heap.size w w'):SgW w' b iv cv pv L:=
 ⟨(hb.block b (lt_of_heap h.hp)).trans h.hp,rowKeepK h.own fun g hg=>hb.block g (h.own.lt g hg).2⟩
theorem SgW.path (h:SgW w b iv cv pv L):w.cell? ⟨b,2,none⟩ = some pv:=cell_of h.hp 2 rfl
theorem SgW.lt (h:SgW w b iv cv pv L):b < w.heap.size:=lt_of_heap h.hp
theorem SgW.push (h:SgW w b iv cv pv L) {Wd W5:World} {v':Value} {x:List UInt8} (hb:Below w.heap.size w Wd)
  (h2:W5.ownsRow (b + 1) 23 32 v' (L.length + 1) (hcells L ++ byteCells x)) (h3:Wd.grownBy W5 pv.ownBlock) :
  (∃ u,W5.cell? ⟨b,2,none⟩ = some u)∧W5.frozen? ⟨b,2,none⟩ = false∧SgW (W5.setCell ⟨b,2,none⟩ v') b iv cv v' (L ++ [x]) ∧
  ∀ B w0,Below B w0 w→B ≤ b→Below B w0 (W5.setCell ⟨b,2,none⟩ v'):=by
 have hd:=h.below hb
 have hne:pv.ownBlock ≠ some b:=fun e=>by have:=(h.own.lt b e).1; omega
 have hc5:W5.heap[b]? = some (.cells #[iv,cv,pv] 73 (0,0)):=(h3.block b hd.lt (fun e=>hne e.symm)).trans hd.hp
 obtain ⟨cs',e1,e2,e3⟩:=heap_setCells [v'] 2 W5 b _ _ _ hc5
 have ec:cs' = #[iv,cv,v']:=by
  refine Array.ext_getElem? fun j=>?_
  rw [e3]
  rcases j with _ | _ | _ | j
  ·rfl
  ·rfl
  ·rfl
  ·rw [if_neg (by simp only [List.length_cons,List.length_nil]; omega)]
   rfl
 refine ⟨⟨pv,cell_of hc5 2 rfl⟩,frozen_row hc5 _,⟨?_,?_⟩,?_⟩
 ·rw [← ec]; exact e1
 ·rw [List.length_append,hcells_snoc]
  refine rowKeepK h2 fun g hg=>Below.heap_setCell W5 ⟨b,2,none⟩ v' g (fun e=>?_)
  have:=(h2.lt g hg).1
  have e2:g = b:=e
  omega
 ·intro B w0 h0 hB
  have hlt:=h.lt
  refine Below.setCell ?_ (p:=⟨b,2,none⟩) hB _
  refine (h0.trans (hb.mono (by omega))).grown h3 (by have:=h0.size; have:=hb.size; omega) fun g hg=>?_
  have:=(h.own.lt g hg).1
  omega
end
theorem xor1_i64 (q:Nat) (h:q < 64):bits .xor .i64 (q:Int) 1 = ((sib q:Nat):Int):=by
 have key:∀ p:Fin 64,bits .xor .i64 (p.val:Int) 1 = ((sib p.val:Nat):Int):=by decide +kernel
 exact key ⟨q,h⟩
theorem sib_lt (h i j:Nat) (hj:j < h) (hi:i < 2 ^ h):sib (i / 2 ^ j) < 2 ^ (h - j):=by
 have e:2 ^ h = 2 ^ (h - j) * 2 ^ j:=by rw [← Nat.pow_add,Nat.sub_add_cancel (by omega)]
 have h1:i / 2 ^ j < 2 ^ (h - j):=Nat.div_lt_of_lt_mul (by rw [Nat.mul_comm,← e]; exact hi)
 obtain ⟨m,hm⟩:∃ m,h - j = m + 1:=⟨h - j - 1,by omega⟩
 rw [hm,Nat.pow_succ] at h1 ⊢
 clear e hi
 generalize i / 2 ^ j = q at *
 generalize 2 ^ m = r at *
 unfold sib
 split <;> omega
def kpathN (s:List UInt8) (i k:Nat):List (List UInt8):=(List.range k).map fun j=>knode s j (sib (i / 2 ^ j))
theorem kpathN_len (s:List UInt8) (i k:Nat):(kpathN s i k).length = k:=by simp [kpathN]
theorem kpathN_succ (s:List UInt8) (i k:Nat):kpathN s i (k + 1) = kpathN s i k ++ [knode s k (sib (i / 2 ^ k))]:=by simp [kpathN,List.range_succ]
def KsRel (s:List UInt8) (h nx:Nat) (cv:Value) (w6:World) (iv:Value) (wr:World):Prop:=
 ∃ (k:Nat) (pv:Value),k ≤ h∧iv = .int .i64 (k:Int)∧SgW wr w6.heap.size (.int .i64 (nx:Int)) cv pv (kpathN s nx k)∧Below w6.heap.size w6 wr
set_option maxHeartbeats 4000000 in
set_option maxRecDepth 100000 in
theorem keySign_any (S:Nat→Addr) (kb:Nat) (s:List UInt8) (h nx:Nat) (hn:nx < 2 ^ h) (t:List UInt8) (ht:t.length ≤ 4611686018427386000) (w0 w:World) (hF:FW S w0) (hB0:Below w0.heap.size w0 w) (hkb:w0.heap.size ≤ kb) (hk:KeyF w kb s h nx) :
  Calls Tryz.prog 21 #[.pointer (some ⟨kb,0,none⟩),.string ⟨t.toArray⟩] w fun e w'=>∃ u v:Value,e = .returned (.tuple #[.agg #[.int .i64 (nx:Int),u,v],.nilIface])∧HsIn w' u (signF (ownF s nx) (msgF nx t))∧HsIn w' v (kpath s h nx)∧KeyF w' kb s h (nx + 1)∧But [kb] w w'∧Below w0.heap.size w0 w':=by
 have HK:=hid hk
 have HF:=hid hF
 have HT:=hid ht
 have HN:=hid hn
 have HH6:=hid hk.1
 have HB0:=hid hB0
 have HKB:=hid hkb
 obtain ⟨c1,c2,c3,f3⟩:=hk.cells
 obtain ⟨lv,hkw⟩:=hk.2
 have HKW:=hid hkw
 have HLE:=hid (keyLeft_any kb s h nx (Nat.le_of_lt hn))
 obtain ⟨D,hD⟩:∃ D,2 ^ h - nx = D:=⟨_,rfl⟩
 rw [hD] at HLE
 have d0:¬ (D:Int) = 0:=by omega
 have n6:(nx:Int) < 64:=by have:=(pow_h hk.1).2; omega
 have n0:(0:Int) ≤ (nx:Int):=by omega
 clear hk hF ht hn hB0 hkb hD hkw
 go_enter Tryz.func21,Tryz.ntmps21
 go_upto_region 1 with fail
 have H4:=hid (heap_one w (.cells #[.int .i64 0,.slice none 0 0,.slice none 0 0] 73 (0,0)))
 have hb:=below_one w (.cells #[.int .i64 0,.slice none 0 0,.slice none 0 0] 73)
 have HB:=hid hb
 have c1:=below_cell hb c1
 generalize w.alloc (.cells #[.int .i64 0,.slice none 0 0,.slice none 0 0] 73) = w1 at *
 clear hb c2 c3 f3
 go_wp2_with (go_at_call 14; refine (HLE.out _ (HK.out.below HB.out)).mono ?_)
 rintro x w2 ⟨rfl,hb2⟩
 have H4:=hid (below_heap hb2 H4.out)
 have HB:=hid (HB.out.trans (hb2.mono HB.out.size))
 obtain ⟨c1,c2,c3,f3⟩:=(HK.out.below HB.out).cells
 clear hb2
 go_upto_region 7 with fail
 have hbut:=(But.of_below (bs:=[kb]) HB.out).setCell (p:=⟨kb,40,none⟩) (List.mem_singleton.2 rfl) (.int .i64 ((nx:Int) + 1))
 have HK3:=hid (HKW.out.below HB.out).bump
 have hkl:=HK.out.lt
 have H4:=hid ((Below.heap_setCell w2 ⟨kb,40,none⟩ (.int .i64 ((nx:Int) + 1)) w.heap.size (show w.heap.size ≠ kb by omega)).trans H4.out)
 have HBU:=hid hbut
 have HB03:=hid (hbut.below HB0.out HB0.out.size (fun k hk=>by rw [List.mem_singleton.1 hk]; exact HKB.out))
 have HL4:=hid (show w.heap.size < (w2.setCell ⟨kb,40,none⟩ (.int .i64 ((nx:Int) + 1))).heap.size from lt_of_heap H4.out)
 generalize w2.setCell ⟨kb,40,none⟩ (.int .i64 ((nx:Int) + 1)) = w3 at *
 clear hbut c1 c2 c3 f3 HLE HB hkl
 obtain ⟨X1,hX1⟩:∃ X,ownF s nx = X:=⟨_,rfl⟩
 obtain ⟨X2,hX2⟩:∃ X,msgF nx t = X:=⟨_,rfl⟩
 have HOW:=hid (by
  have h:=own_any S s kb nx (by omega) w3 (HF.out.below HB03.out) (by
   exact HK3.out.secAt)
  rw [hX1] at h
  exact h)
 have HME:=hid fun (W:World) (hb:Below w3.heap.size w3 W)=>(by
  have h:=message_any S nx (by omega) t HT.out W (HF.out.below (HB03.out.trans (hb.mono HB03.out.size)))
  rw [hX2] at h
  exact h)
 have HSI:=hid fun (W:World) (hb:Below w3.heap.size w3 W)=>sign_any S X1 X2 (by rw [← hX1]; exact shaL_len _) (by rw [← hX2]; exact shaL_len _) W (HF.out.below (HB03.out.trans (hb.mono HB03.out.size)))
 have HX1:=hid hX1
 have HX2:=hid hX2
 clear hX1 hX2
 go_upto_region 8 with (first | (go_at_call 24; refine HOW.out.mono ?_; rintro x w4 ⟨rfl,hb4⟩) | (go_at_call 51; refine (HME.out _ hb4).mono ?_; rintro x w5 ⟨rfl,hb5⟩; have hb5:=hb4.trans (hb5.mono hb4.size)) | (go_at_call 50; refine (HSI.out _ hb5).mono ?_; rintro x w6 ⟨g,rfl,hg,hrow,hb6⟩))
 have HSG:=hid (show SgW (w6.alloc (.cells #[.int .i64 (nx:Int),.slice (some ⟨g,0,none⟩) 67 67,.slice none 0 0] 73)) w6.heap.size (.int .i64 (nx:Int)) (.slice (some ⟨g,0,none⟩) 67 67) (.slice none 0 0) (kpathN s nx 0) from
  ⟨heap_one w6 _,rfl,.inl ⟨rfl,rfl⟩⟩)
 have hb6:=hb5.trans (hb6.mono hb5.size)
 have HB6:=hid hb6
 have HRW:=hid hrow
 have HGN:=hid (show w3.heap.size ≤ g by have:=hb5.size; omega)
 have HK6:=hid (HK3.out.below hb6)
 have HBC:=hid (below_one w6 (.cells #[.int .i64 (nx:Int),.slice (some ⟨g,0,none⟩) 67 67,.slice none 0 0] 73))
 generalize w6.alloc (.cells #[.int .i64 (nx:Int),.slice (some ⟨g,0,none⟩) 67 67,.slice none 0 0] 73) = wC at *
 clear hb4 hb5 hb6 hrow HOW HME HSI hg
 obtain ⟨c1,c2,c3,f3⟩:=KeyF.cells ⟨HH6.out,lv,HK6.out.below HBC.out⟩
 go_wp2_with fail
 go_loopw [51] (fun iv wr=>KsRel s h nx (.slice (some ⟨g,0,none⟩) 67 67) w6 iv wr) (fun iv _=>h - (intOf iv).toNat)
 case atStart=>exact ⟨0,_,Nat.zero_le _,rfl,HSG.out,HBC.out⟩
 case round=>
  clear HSG c1 c2 c3 f3
  obtain ⟨k,pv,hk,rfl,hsg,hbel⟩:=hrel
  rename World=>wA
  by_cases hlt:k < h
  ·have i1:(k:Int) < (h:Int):=by omega
   have k0:(0:Int) ≤ (k:Int):=by omega
   have k7:(k:Int) < 7:=by have:=HH6.out; omega
   have k64:(k:Int) ≤ 64:=by omega
   have HLT:=hid hlt
   obtain ⟨q,hq⟩:∃ q,nx / 2 ^ k = q:=⟨_,rfl⟩
   have q1:(nx:Int) / (2:Int) ^ k = (q:Int):=by rw [← hq]; simp
   have q64:q < 64:=by rw [← hq]; exact Nat.lt_of_le_of_lt (Nat.div_le_self _ _) (by omega)
   have hx1:=xor1_i64 q q64
   have hsl:=sib_lt h nx k hlt HN.out
   rw [hq] at hsl
   obtain ⟨p,hp⟩:∃ p,sib q = p:=⟨_,rfl⟩
   rw [hp] at hx1 hsl
   have HSG:=hid hsg
   have HAB:=hid hbel
   obtain ⟨g2,n,cap,cl,hn,hr,hg1,hg2⟩:=KeyF.node ⟨HH6.out,lv,HK6.out⟩ (t:=k) (i:=p) (Nat.le_of_lt hlt) hsl
   have HPK:=hid (show kpathN s nx (k + 1) = kpathN s nx k ++ [knode s k p] by rw [kpathN_succ,hq,hp])
   obtain ⟨X,hX⟩:∃ X,knode s k p = X:=⟨_,rfl⟩
   have HXL:=hid (show X.length = 32 by rw [← hX]; exact knode_len s k p)
   rw [hX] at hr HPK
   have HKL:=hid HK6.out.lt
   have HGL:=hid hg2
   have HC2:=hid fun (W:World) (hW:KeptB wA kb g2 W)=>((World.cell?_of_block (a:=⟨kb,32 + k,none⟩) hW.1).trans (below_cell hbel cl))
   have HC3:=hid fun (W:World) (hW:KeptB wA kb g2 W)=>(fun j v hj=>(World.cell?_of_block (a:=⟨g2,p * 32 + j,none⟩) hW.2).trans (range_below hbel hr j v hj):W.rangeAt g2 (p * 32) (byteCells X))
   have p0:(0:Int) ≤ (p:Int):=by omega
   have pn:(p:Int) < (n:Int):=by omega
   have HLL:=hid (show (kpathN s nx k).length ≤ 1000 by rw [kpathN_len]; have:=HH6.out; omega)
   obtain ⟨zl,_,hzl⟩:=zeroHash
   have HZL:=hid hzl
   clear hzl hq hp hsl hsg hbel cl hn hr hg1 hg2 hX hlt hk
   go_upto_region 11 with fail
   have HKA:=hid (show kb < wA.heap.size by have:=HKL.out; have:=HAB.out.size; omega)
   have HGA:=hid (show g2 < wA.heap.size by have:=HGL.out; have:=HAB.out.size; omega)
   refine wp_region_till 15 (SinceB wA (KeptB wA kb g2)) (by kernel_rfl) ⟨fun _=>(Below.refl _ _).drew,⟨rfl,rfl⟩⟩ (fun hHeld=>?_)
   refine wT (i:=0) (v:=.pointer (some ⟨w6.heap.size,2,none⟩)) rfl (Or.inl ⟨by rfl,fun w _=>?_⟩) hHeld ?_
   ·go_simp
   simp only [List.getElem_toArray,List.getElem_cons_zero,Act.put,List.setIfInBounds_toArray,List.set_cons_zero,List.set_cons_succ]
   refine wF (i:=1) (v:=pv) rfl (Or.inl ⟨by rfl,fun w hSw=>?_⟩) hHeld ?_
   ·have c:=(HSG.out.below (hSw.1 rfl)).path
    go_simp
   simp only [List.getElem_toArray,List.getElem_cons_succ,List.getElem_cons_zero,Act.put,List.setIfInBounds_toArray,List.set_cons_zero,List.set_cons_succ]
   refine wT (i:=2) (v:=.pointer (some ⟨kb,0,none⟩)) rfl (Or.inl ⟨by rfl,fun w _=>?_⟩) hHeld ?_
   ·go_simp
   simp only [List.getElem_toArray,List.getElem_cons_succ,List.getElem_cons_zero,Act.put,List.setIfInBounds_toArray,List.set_cons_zero,List.set_cons_succ]
   refine wT (i:=3) (v:=.int .i64 (k:Int)) rfl (Or.inl ⟨by rfl,fun w _=>?_⟩) hHeld ?_
   ·go_simp
   simp only [List.getElem_toArray,List.getElem_cons_succ,List.getElem_cons_zero,Act.put,List.setIfInBounds_toArray,List.set_cons_zero,List.set_cons_succ]
   refine wT (i:=4) (v:=.pointer (some ⟨kb,0,none⟩)) rfl (Or.inl ⟨by rfl,fun w _=>?_⟩) hHeld ?_
   ·go_simp
   simp only [List.getElem_toArray,List.getElem_cons_succ,List.getElem_cons_zero,Act.put,List.setIfInBounds_toArray,List.set_cons_zero,List.set_cons_succ]
   refine wT (i:=5) (v:=.pointer (some ⟨kb,32,none⟩)) rfl (Or.inl ⟨by rfl,fun w _=>?_⟩) hHeld ?_
   ·go_simp
   simp only [List.getElem_toArray,List.getElem_cons_succ,List.getElem_cons_zero,Act.put,List.setIfInBounds_toArray,List.set_cons_zero,List.set_cons_succ]
   refine wT (i:=6) (v:=.pointer (some ⟨kb,32 + k,none⟩)) rfl (Or.inl ⟨by rfl,fun w _=>?_⟩) hHeld ?_
   ·go_simp
   simp only [List.getElem_toArray,List.getElem_cons_succ,List.getElem_cons_zero,Act.put,List.setIfInBounds_toArray,List.set_cons_zero,List.set_cons_succ]
   refine wT (i:=7) (v:=.slice (some ⟨g2,0,none⟩) n cap) rfl (Or.inl ⟨by rfl,fun w hSw=>?_⟩) hHeld ?_
   ·have c:=HC2.out w (hSw.choose_spec.2)
    go_simp
   simp only [List.getElem_toArray,List.getElem_cons_succ,List.getElem_cons_zero,Act.put,List.setIfInBounds_toArray,List.set_cons_zero,List.set_cons_succ]
   refine wT (i:=8) (v:=.int .i64 (nx:Int)) rfl (Or.inl ⟨by rfl,fun w _=>?_⟩) hHeld ?_
   ·go_simp
   simp only [List.getElem_toArray,List.getElem_cons_succ,List.getElem_cons_zero,Act.put,List.setIfInBounds_toArray,List.set_cons_zero,List.set_cons_succ]
   refine wT (i:=9) (v:=.int .i64 (k:Int)) rfl (Or.inl ⟨by rfl,fun w _=>?_⟩) hHeld ?_
   ·go_simp
   simp only [List.getElem_toArray,List.getElem_cons_succ,List.getElem_cons_zero,Act.put,List.setIfInBounds_toArray,List.set_cons_zero,List.set_cons_succ]
   refine wT (i:=10) (v:=.int .i64 (q:Int)) rfl (Or.inl ⟨by rfl,fun w _=>?_⟩) hHeld ?_
   ·go_simp
   simp only [List.getElem_toArray,List.getElem_cons_succ,List.getElem_cons_zero,Act.put,List.setIfInBounds_toArray,List.set_cons_zero,List.set_cons_succ]
   refine wT (i:=11) (v:=.int .i64 (p:Int)) rfl (Or.inl ⟨by rfl,fun w _=>?_⟩) hHeld ?_
   ·go_simp
   simp only [List.getElem_toArray,List.getElem_cons_succ,List.getElem_cons_zero,Act.put,List.setIfInBounds_toArray,List.set_cons_zero,List.set_cons_succ]
   refine wT (i:=12) (v:=.pointer (some ⟨g2,p * 32,none⟩)) rfl (Or.inl ⟨by rfl,fun w _=>?_⟩) hHeld ?_
   ·go_simp
   simp only [List.getElem_toArray,List.getElem_cons_succ,List.getElem_cons_zero,Act.put,List.setIfInBounds_toArray,List.set_cons_zero,List.set_cons_succ]
   refine wT (i:=13) (v:=hv X) rfl (yieldsIf_load_mid (by rfl) 23 (.tmp 66) (by rfl) g2 (p * 32) (by rfl) (byteCells X) _ (fun w ⟨_,h⟩=>HC3.out w h.2) Tryz.underlying23 rfl (by rw [Lib.byteCells_length,HXL.out]; exact hashInfo)) hHeld ?_
   simp only [List.getElem_toArray,List.getElem_cons_succ,List.getElem_cons_zero,Act.put,List.setIfInBounds_toArray,List.set_cons_zero,List.set_cons_succ]
   refine wpAnyT_ready (rs:=[14]) (by kernel_rfl) (by simp) ?_
   refine AllReadyT.cons false rfl (by kernel_rfl) (fun K hK=>?_) AllReadyT.nil
   refine step_buildHash zl HZL.out (by rfl) (.tmp 67) (by rfl) X (by rfl) HXL.out ?_
   have hy:=(hHeld.1 rfl).alloc (hHeld.1 rfl).size (.cells (byteCells X).toArray 23)
   refine hK.out _ _ ⟨fun _=>hy,⟨hy.block kb HKA.out,hy.block g2 HGA.out⟩⟩ (fun hHeld=>?_)
   clear hy
   clear hK K
   refine wpAnyT_ready (rs:=[15]) (by kernel_rfl) (by simp) ?_
   refine AllReadyT.cons true rfl (by kernel_rfl) (fun K hK=>?_) AllReadyT.nil
   refine step_append_hash (by rfl) (.tmp 55) (.tmp 68) (by rfl) (by rfl) (HSG.out.below (hHeld.1 rfl)).own (by rfl) (HashAt.new wA.drew X HXL.out) HLL.out (HSG.out.below (hHeld.1 rfl)).lt ?_
   intro v' W5 h2 h3 h5
   obtain ⟨vo,vk,vq,rfl⟩:∃ ao n c,v' = .slice ao n c:=by rcases h2.2 with ⟨h,_⟩ | ⟨_,_,_,h,_⟩ <;> exact ⟨_,_,_,h⟩
   obtain ⟨⟨u,q1⟩,q2,q3,q4⟩:=HSG.out.push (hHeld.1 rfl) h2 h3
   have HQ3:=hid q3
   have HQ4:=hid (q4 _ _ HAB.out (Nat.le_refl _))
   have hk5:KeptB wA kb g2 W5:=by
    have hold:∀ k,k < w6.heap.size→W5.heap[k]? = wA.heap[k]?:=fun k hk=>(h3.block k (by have:=(hHeld.1 rfl).size; have:=HAB.out.size; omega) (fun e=>by have:=(HSG.out.own.lt k e.symm).1; omega)).trans ((hHeld.1 rfl).block k (by have:=HAB.out.size; omega))
    exact ⟨hold kb HKL.out,hold g2 HGL.out⟩
   have hk6:KeptB wA kb g2 (W5.setCell ⟨w6.heap.size,2,none⟩ (.slice vo vk vq)):=⟨(Below.heap_setCell W5 ⟨w6.heap.size,2,none⟩ (.slice vo vk vq) kb (by have:=HKL.out; show kb ≠ w6.heap.size; omega)).trans hk5.1,(Below.heap_setCell W5 ⟨w6.heap.size,2,none⟩ (.slice vo vk vq) g2 (by have:=HGL.out; show g2 ≠ w6.heap.size; omega)).trans hk5.2⟩
   have HK6':=hid hk6
   clear q3 q4 h2 h3 h5 hk6
   refine hK.out _ _ ⟨fun h=>(by cases h),hk5⟩ (fun hHeld=>?_)
   clear hk5
   clear hK K
   refine wT (i:=16) (v:=.pointer (some ⟨w6.heap.size,2,none⟩)) rfl (Or.inl ⟨by rfl,fun w _=>?_⟩) hHeld ?_
   ·go_simp
   simp only [List.getElem_toArray,List.getElem_cons_succ,List.getElem_cons_zero,Act.put,List.setIfInBounds_toArray,List.set_cons_zero,List.set_cons_succ]
   refine wpAnyT_ready (rs:=[17]) (by kernel_rfl) (by simp) ?_
   refine AllReadyT.cons true rfl (by kernel_rfl) (fun K hK=>?_) AllReadyT.nil
   go_simp
   refine hK.out _ _ ⟨fun h=>(by cases h),HK6'.out⟩ (fun hHeld=>?_)
   clear hK K
   refine wpAnyT_done (by kernel_rfl) ?_ _
   rw [← HPK.out] at HQ3
   clear HK6' HC2 HC3
   go_wp2_with fail
   exact ⟨⟨k + 1,_,HLT.out,by go_num,HQ3.out,HQ4.out⟩,by have:=HLT.out; simp [intOf]; omega⟩
  ·obtain rfl:k = h:=by omega
   have i1:¬ (k:Int) < (k:Int):=by omega
   obtain ⟨pao,pn,pc,rfl⟩:∃ ao n c,pv = .slice ao n c:=by rcases hsg.own.2 with ⟨h,_⟩ | ⟨_,_,_,h,_⟩ <;> exact ⟨_,_,_,h⟩
   have hb4:=(HB6.out.block w.heap.size HL4.out)
   have hL46:=Nat.lt_of_lt_of_le HL4.out HB6.out.size
   have h4A:=(hbel.block w.heap.size hL46).trans (hb4.trans H4.out)
   have a0:=cell_of hsg.hp 0 rfl
   have a1:=cell_of hsg.hp 1 rfl
   have a2:=cell_of hsg.hp 2 rfl
   have b0:=cell_of h4A 0 rfl
   have b1:=cell_of h4A 1 rfl
   have b2:=cell_of h4A 2 rfl
   have e0:=frozen_row h4A 0
   have e1:=frozen_row h4A 1
   have e2:=frozen_row h4A 2
   have HSG:=hid hsg
   have HAB:=hid hbel
   have H4A:=hid h4A
   clear hsg hbel hb4 h4A hk hlt
   go_wp2_with fail
   have HWE:=hid (heap_set3 H4A.out (.int .i64 (nx:Int)) (.slice (some ⟨g,0,none⟩) 67 67) (.slice pao pn pc))
   have hE:∀ k,k ≠ w.heap.size→(wA.setCells w.heap.size 0 [.int .i64 (nx:Int),.slice (some ⟨g,0,none⟩) 67 67,.slice pao pn pc]).heap[k]? = wA.heap[k]?:=fun k hk=>setCells_other _ _ _ _ _ hk
   have h6A:=HB6.out.trans (HAB.out.mono HB6.out.size)
   have HUE:=hid (show HsIn (wA.setCells w.heap.size 0 [.int .i64 (nx:Int),.slice (some ⟨g,0,none⟩) 67 67,.slice pao pn pc]) (.slice (some ⟨g,0,none⟩) 67 67) (signF X1 X2) by
    have:=(HRW.out.below HAB.out).other (k:=w.heap.size) (o:=0) (vs:=[.int .i64 (nx:Int),.slice (some ⟨g,0,none⟩) 67 67,.slice pao pn pc]) (by have:=HGN.out; have:=HL4.out; omega)
    have h:=this.in_ (cap:=67) (by rw [signF_length]; exact Nat.le_refl _)
    rw [signF_length] at h
    exact h)
   have HVE:=hid (show HsIn (wA.setCells w.heap.size 0 [.int .i64 (nx:Int),.slice (some ⟨g,0,none⟩) 67 67,.slice pao pn pc]) (.slice pao pn pc) (kpath s k nx) from
    hsIn_of_owns (kpath_len s k nx) (by
     rw [kpath_length]
     have h:=HSG.out.own
     rw [kpathN_len] at h
     exact rowKeepK h fun g2 hg2=>hE g2 (by have:=(h.lt g2 hg2).1; omega)))
   have HKE:=hid (show KeyF (wA.setCells w.heap.size 0 [.int .i64 (nx:Int),.slice (some ⟨g,0,none⟩) 67 67,.slice pao pn pc]) kb s k (nx + 1) from
    ⟨HH6.out,lv,(HK6.out.below HAB.out).other hE (by have:=HKW.out.lt; omega) fun t2 g2 ht2 hg2=>by have:=((HKW.out.own t2 ht2).lt g2 hg2).2; omega⟩)
   have HUU:=hid (show But [kb] w (wA.setCells w.heap.size 0 [.int .i64 (nx:Int),.slice (some ⟨g,0,none⟩) 67 67,.slice pao pn pc]) from
    HBU.out.of_new ((h6A.mono HBU.out.size).trans (below_setCellsN (Nat.le_refl _) _ _ _ (Below.refl _ _))))
   have HBE:=hid (show Below w0.heap.size w0 (wA.setCells w.heap.size 0 [.int .i64 (nx:Int),.slice (some ⟨g,0,none⟩) 67 67,.slice pao pn pc]) from
    below_setCellsN HB0.out.size _ _ _ (HB03.out.trans (h6A.mono HB03.out.size)))
   clear hE h6A
   change bodyPost _ _ _ _ _ (wA.setCells w.heap.size 0 [.int .i64 (nx:Int),.slice (some ⟨g,0,none⟩) 67 67,.slice pao pn pc])
   generalize wA.setCells w.heap.size 0 [.int .i64 (nx:Int),.slice (some ⟨g,0,none⟩) 67 67,.slice pao pn pc] = wE at *
   exact bodyPost_ret (results_row_tmp rfl _ wE w.heap.size 73 _ (0,0) _ _ rfl rfl HWE.out Tryz.underlying73 rfl (by kernel_rfl)) rfl ⟨_,_,rfl,by rw [HX1.out,HX2.out]; exact HUE.out,HVE.out,HKE.out,HUU.out,HBE.out⟩
end Go.Proofs.YticlgcfodlcpcaaGreatDoor
