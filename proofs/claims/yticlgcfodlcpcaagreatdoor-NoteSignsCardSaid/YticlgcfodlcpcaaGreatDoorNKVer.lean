/- keys.Verify by its contract. -/
import Derived.Test.YticlgcfodlcpcaaGreatDoorNRep
namespace Go.Proofs.YticlgcfodlcpcaaGreatDoor
open Go.Lib (hid byteCells)
open Go.RowKit
theorem wpQuiet_structLoad {ops:Array Oper} {W:World} {Q:Act→Prop} {rest:List Oper} {a:Act} {o:Oper} (hw:Region.wanted o (yielded ops a.tmps) = true) (T:TypeId) (x:Operand) (ho:o.op = .load T x)
  (g:Nat) (hx:a.eval x = .pointer (some ⟨g,0,none⟩)) (t:TypeId) (cs:Array Value) (fr:Nat × Nat) {fs} (hg:W.heap[g]? = some (.cells cs t fr))
  (hu:Tryz.prog.underlying T = some (.struct fs)) (hi:(Tryz.prog.info? T).map (·.size) = some cs.size)
  (h:wpQuiet Tryz.prog ops (fun w'=>∃ x:Kept W,w' = x.w) Q rest (a.put o.dst (.agg cs))):wpQuiet Tryz.prog ops (fun w'=>∃ x:Kept W,w' = x.w) Q (o :: rest) a:=
 wpQuiet_step fun K hK=>by
  rw [if_pos hw]
  refine ⟨.agg cs,fun w hw=>?_,hK _ h⟩
  obtain ⟨y,rfl⟩:=hw
  unfold Oper.quietAt execOp
  simp only [ho,hx,Instr.loadAt,Instr.sureAddr,Sem.run_bind,Sem.run_pure,Result.andThen_ok,run_loadVar_row y.w g t T cs fr _ (y.heap_old hg) hu rfl hi]
  exact ⟨rfl,rfl⟩
set_option maxRecDepth 100000 in
theorem infoSigned:(Tryz.prog.info? 73).map (·.size) = some 3:=by kernel_rfl
def idxOk (idx:Int):Prop:=-9223372036854775808 ≤ idx∧idx ≤ 9223372036854775807
set_option maxHeartbeats 8000000 in
set_option maxRecDepth 100000 in
theorem keyVerB (S:Nat→Addr) (pub t:List UInt8) (height idx:Int) (hpl:pub.length = 32) (hh:idxOk height) (c p:List (List UInt8)) (u v:Value) (w:World) (hF:FW S w) (hu:HsIn w u c) (hw2:HsIn w v p)
  (hbad:height < 0 ∨ 6 < height ∨ mayF idx c p = false ∨ (2 ^ height.toNat:Int) ≤ idx ∨ (p.length:Int) ≠ height) :
  Calls Tryz.prog 22 #[hv pub,.int .i64 height,.string ⟨t.toArray⟩,.agg #[.int .i64 idx,u,v]] w fun e w'=>e = .returned (errV S 2)∧Below w.heap.size w w':=by
 have HF:=hid hF
 have HPL:=hid hpl
 have HMA:=hid fun (W:World) (hb:Below w.heap.size w W)=>may_any idx c p u v W (hu.below hb) (hw2.below hb)
 obtain ⟨_,ao,cap,rfl,_,_⟩:=hu
 obtain ⟨_,bo,dap,rfl,_,_⟩:=hw2
 obtain ⟨n,hn⟩:∃ n,c.length = n:=⟨_,rfl⟩
 obtain ⟨m,hm⟩:∃ m,p.length = m:=⟨_,rfl⟩
 obtain ⟨M,hM⟩:∃ M,mayF idx c p = M:=⟨_,rfl⟩
 rw [hn,hm,hM] at HMA
 rw [hM,hm] at hbad
 rw [hn,hm]
 clear hn hm hM hF hpl
 go_enter Tryz.func22,Tryz.ntmps22
 go_upto_region 1 with fail
 have h1:=HashAt.new w pub HPL.out
 have hb1:=below_one w (.cells (byteCells pub).toArray 23)
 have hs1:(w.alloc (.cells (byteCells pub).toArray 23)).heap.size = w.heap.size + 1:=by simp
 generalize w.alloc (.cells (byteCells pub).toArray 23) = w1 at *
 have h7:=heap_one w1 (.cells #[.int .i64 idx,.slice ao n cap,.slice bo m dap] 73)
 have hb7:=below_one w1 (.cells #[.int .i64 idx,.slice ao n cap,.slice bo m dap] 73)
 rw [hs1] at h7
 have HB:=hid (hb1.trans (hb7.mono hb1.size))
 have H7:=hid h7
 generalize w1.alloc (.cells #[.int .i64 idx,.slice ao n cap,.slice bo m dap] 73) = wA at *
 have hlt:=lt_of_heap h7
 have c0:=cell_of h7 0 rfl
 have c2:=cell_of h7 2 rfl
 clear h1 hb1 hs1 h7 hb7
 have fin:∀ wx:World,Below wA.heap.size wA wx→Below w.heap.size w wx:=fun wx h=>HB.out.trans (h.mono HB.out.size)
 have HFI:=hid fin
 clear fin
 by_cases h1:height < 0
 ·clear hbad
  refine wp_region_kept (by kernel_rfl) (by kernel_rfl) ?_
  iterate 25 go_big_quiet_step (fail)
  refine wpQuiet_nil ?_
  intro x
  have HB1:=hid (HFI.out _ x.below)
  generalize x.w = wx at *
  have hvv:=(HF.out.below HB1.out).var 2 (by decide) (by decide)
  simp only [errG,errV] at hvv
  go_wp2_with fail
  go_ret
  exact ⟨rfl,HB1.out⟩
 by_cases h2:6 < height
 ·clear hbad
  refine wp_region_kept (by kernel_rfl) (by kernel_rfl) ?_
  iterate 25 go_big_quiet_step (fail)
  refine wpQuiet_nil ?_
  intro x
  have HB1:=hid (HFI.out _ x.below)
  generalize x.w = wx at *
  have hvv:=(HF.out.below HB1.out).var 2 (by decide) (by decide)
  simp only [errG,errV] at hvv
  go_wp2_with fail
  go_ret
  exact ⟨rfl,HB1.out⟩
 have hbad:=(hbad.resolve_left h1).resolve_left h2
 obtain ⟨k,hk⟩:∃ k:Nat,height = (k:Int):=⟨height.toNat,by omega⟩
 subst hk
 obtain ⟨N,hN⟩:∃ N,2 ^ k = N:=⟨_,rfl⟩
 have hp6:=pow_hI (h:=k) (by omega)
 rw [hN] at hp6
 have eN:((2:Int) ^ ((k:Int)).toNat) = (N:Int):=by rw [← hN]; simp
 rw [eN] at hbad
 have k64:(k:Int) ≤ 64:=by omega
 have k0:(0:Int) ≤ (k:Int):=by omega
 clear eN hN
 cases M with
 | false=>
  clear hbad
  refine wp_region_kept (by kernel_rfl) (by kernel_rfl) ?_
  iterate 7 go_big_quiet_step (fail)
  refine wpQuiet_structLoad (by rfl) 73 (.tmp 7) (by rfl) (w.heap.size + 1) (by rfl) 73 #[.int .i64 idx,.slice ao n cap,.slice bo m dap] (0,0) H7.out Tryz.underlying73 infoSigned ?_
  simp only [Act.put,List.setIfInBounds_toArray,List.set_cons_zero,List.set_cons_succ]
  go_big_quiet_step ((go_at_call 52; rename Kept _=>x; exact Kept.call (HMA.out _ (HFI.out _ x.below))))
  iterate 16 go_big_quiet_step (fail)
  refine wpQuiet_nil ?_
  intro x
  have HB1:=hid (HFI.out _ x.below)
  generalize x.w = wx at *
  have hvv:=(HF.out.below HB1.out).var 2 (by decide) (by decide)
  simp only [errG,errV] at hvv
  go_wp2_with fail
  go_ret
  exact ⟨rfl,HB1.out⟩
 | true=>
  have hbad:=hbad.resolve_left (by decide)
  by_cases h4:(N:Int) ≤ idx
  ·clear hbad
   refine wp_region_kept (by kernel_rfl) (by kernel_rfl) ?_
   iterate 7 go_big_quiet_step (fail)
   refine wpQuiet_structLoad (by rfl) 73 (.tmp 7) (by rfl) (w.heap.size + 1) (by rfl) 73 #[.int .i64 idx,.slice ao n cap,.slice bo m dap] (0,0) H7.out Tryz.underlying73 infoSigned ?_
   simp only [Act.put,List.setIfInBounds_toArray,List.set_cons_zero,List.set_cons_succ]
   go_big_quiet_step ((go_at_call 52; rename Kept _=>x; exact Kept.call (HMA.out _ (HFI.out _ x.below))))
   iterate 16 go_big_quiet_step (fail)
   refine wpQuiet_nil ?_
   intro x
   have HB1:=hid (HFI.out _ x.below)
   generalize x.w = wx at *
   have hvv:=(HF.out.below HB1.out).var 2 (by decide) (by decide)
   simp only [errG,errV] at hvv
   go_wp2_with fail
   go_ret
   exact ⟨rfl,HB1.out⟩
  ·have h5:=hbad.resolve_left h4
   clear hbad
   refine wp_region_kept (by kernel_rfl) (by kernel_rfl) ?_
   iterate 7 go_big_quiet_step (fail)
   refine wpQuiet_structLoad (by rfl) 73 (.tmp 7) (by rfl) (w.heap.size + 1) (by rfl) 73 #[.int .i64 idx,.slice ao n cap,.slice bo m dap] (0,0) H7.out Tryz.underlying73 infoSigned ?_
   simp only [Act.put,List.setIfInBounds_toArray,List.set_cons_zero,List.set_cons_succ]
   go_big_quiet_step ((go_at_call 52; rename Kept _=>x; exact Kept.call (HMA.out _ (HFI.out _ x.below))))
   iterate 16 go_big_quiet_step (fail)
   refine wpQuiet_nil ?_
   intro x
   have HB1:=hid (HFI.out _ x.below)
   generalize x.w = wx at *
   have hvv:=(HF.out.below HB1.out).var 2 (by decide) (by decide)
   simp only [errG,errV] at hvv
   go_wp2_with fail
   go_ret
   exact ⟨rfl,HB1.out⟩
theorem step_storeHx {ops:Array Oper} {o:Oper} {a:Act} {K:Act→World→Prop} {Q:Exit→Act→World→Prop} {E:Prop} (hgd:o.guard = none) (x y:Operand) (ho:o.op = .store 23 x y) {W w0:World} {B:Nat}
  {g:Nat} {l z:List UInt8} (hx:a.eval x = .pointer (some ⟨g,0,none⟩)) (hy:a.eval y = .agg (byteCells l).toArray) (hg:HashAt W g z) (hl:l.length = 32) (hb:Below B w0 W) (hB:B ≤ g)
  (h:∀ W',HashAt W' g l→Below B w0 W'→K (a.put o.dst undef) W'):if Region.wanted o (yielded ops a.tmps) = true then Oper.wp Tryz.prog o a W K Q else E:=
 step_storeH hgd x y ho hx hy hg hl (h _ (hg.set hl) (below_setRow hb hB _))
theorem pow_hU {h:Nat} (hh:h ≤ 6):IntKind.u64.wrap ((2:Int) ^ h) = ((2 ^ h:Nat):Int):=by
 have key:∀ p:Fin 7,IntKind.u64.wrap ((2:Int) ^ p.val) = ((2 ^ p.val:Nat):Int):=by decide +kernel
 exact key ⟨h,by omega⟩
set_option maxHeartbeats 8000000 in
set_option maxRecDepth 100000 in
theorem keyVerF (S:Nat→Addr) (pub t:List UInt8) (k i:Nat) (hk:k ≤ 6) (hi:i < 2 ^ k) (hpl:pub.length = 32) (ht:t.length ≤ 4611686018427386000) (c p:List (List UInt8)) (u v:Value) (w:World) (hF:FW S w) (hu:HsIn w u c) (hw2:HsIn w v p) (hc:c.length = 67) (hp:p.length = k) :
  Calls Tryz.prog 22 #[hv pub,.int .i64 (k:Int),.string ⟨t.toArray⟩,.agg #[.int .i64 (i:Int),u,v]] w fun e w'=>e = .returned (errN S (if rootF i (2 ^ k - 1) (shaL (0 :: recoverF (msgF i t) c)) p = some pub then 0 else 12))∧Below w.heap.size w w':=by
 obtain ⟨z32,hz32,hzs⟩:=z32_ex2
 have HZS:=hid hzs
 have HF:=hid hF
 have HPL:=hid hpl
 have hM:mayF i c p = true:=by
  have i1:decide ((0:Int) ≤ (i:Int)) = true:=decide_eq_true (by omega)
  have h64:2 ^ k ≤ 2 ^ 6:=Nat.pow_le_pow_right (by omega) hk
  have i2:decide ((i:Int) ≤ 63) = true:=decide_eq_true (by omega)
  have i3:decide (k ≤ 6) = true:=decide_eq_true hk
  rw [mayF,hc,hp,i1,i2,i3]
  rfl
 have HMA:=hid fun (W:World) (hb:Below w.heap.size w W)=>may_any i c p u v W (hu.below hb) (hw2.below hb)
 rw [hM] at HMA
 obtain ⟨N,hN⟩:∃ N,2 ^ k = N:=⟨_,rfl⟩
 have hN64:N ≤ 64:=by rw [← hN]; exact Nat.pow_le_pow_right (n:=2) (by omega) hk
 have hp6:=pow_hI hk
 have hpu:=pow_hU hk
 rw [hN] at hp6 hpu hi ⊢
 obtain ⟨M,hMM⟩:∃ M,msgF i t = M:=⟨_,rfl⟩
 obtain ⟨R,hR⟩:∃ R,recoverF M c = R:=⟨_,rfl⟩
 obtain ⟨Lf,hLf⟩:∃ L,shaL (0 :: R) = L:=⟨_,rfl⟩
 have HML:=hid (show M.length = 32 by rw [← hMM]; exact shaL_len _)
 have HRL:=hid (show R.length = 32 by rw [← hR]; exact recoverF_len _ _)
 have HLL:=hid (show Lf.length = 32 by rw [← hLf]; exact shaL_len _)
 have HME:=hid fun (W:World) (hb:Below w.heap.size w W)=>(by
  have h:=message_any S i (by omega) t ht W (HF.out.below hb)
  rw [hMM] at h
  exact h)
 have HRE:=hid fun (W:World) (hb:Below w.heap.size w W)=>(by
  have h:=recover_any S M c u HML.out W (HF.out.below hb) (hu.below hb) hc
  rw [hR] at h
  exact h)
 have HKL:=hid fun (W:World) (hb:Below w.heap.size w W)=>(by
  have h:=kleaf_any S R HRL.out W (HF.out.below hb)
  rw [hLf] at h
  exact h)
 have HIN:=hid fun (W:World) (hb:Below w.heap.size w W)=>inclusion_any S i N (by omega) (by omega) Lf pub HLL.out HPL.out p v (by omega) W (HF.out.below hb) (hw2.below hb)
 rw [hMM,hR,hLf]
 have HE:=hid (show inclE i N Lf p pub = 0 ↔ rootF i (N - 1) Lf p = some pub by
  have e0:rootE i N Lf p = if (rootF i (N - 1) Lf p).isSome then 0 else 10:=by
   unfold rootE
   rw [if_neg (by omega)]
  unfold inclE
  rw [e0]
  cases hrf:rootF i (N - 1) Lf p with
  | none=>simp
  | some x=>simp)
 obtain ⟨E,hE⟩:∃ E,inclE i N Lf p pub = E:=⟨_,rfl⟩
 rw [hE] at HE HIN
 obtain ⟨V,hV⟩:∃ V:Nat,(if rootF i (N - 1) Lf p = some pub then 0 else 12) = V:=⟨_,rfl⟩
 have HV0:=hid (fun h:E = 0=>show V = 0 by rw [← hV,if_pos (HE.out.1 h)])
 have HV12:=hid (fun h:¬ E = 0=>show V = 12 by rw [← hV,if_neg (fun h2=>h (HE.out.2 h2))])
 rw [hV]
 clear hV
 clear hE hMM hR hLf hM ht hN
 obtain ⟨_,ao,cap,rfl,_,_⟩:=hu
 obtain ⟨_,bo,dap,rfl,_,_⟩:=hw2
 obtain ⟨m,hm⟩:∃ m,p.length = m:=⟨_,rfl⟩
 rw [hm] at HMA HIN hp ⊢
 rw [hc] at HMA HRE ⊢
 have hp:=hp.symm
 subst hp
 clear hF hpl hm hc
 have k64:(k:Int) ≤ 64:=by omega
 have k0:(0:Int) ≤ (k:Int):=by omega
 have k6:¬ (6:Int) < (k:Int):=by omega
 have kz:¬ (k:Int) < 0:=by omega
 have i1:¬ (N:Int) ≤ (i:Int):=by omega
 have i0:(0:Int) ≤ (i:Int):=by omega
 clear hi hk
 go_enter Tryz.func22,Tryz.ntmps22
 go_upto_region 1 with fail
 have h4:=HashAt.new w pub HPL.out
 have hb1:=below_one w (.cells (byteCells pub).toArray 23)
 have hs1:(w.alloc (.cells (byteCells pub).toArray 23)).heap.size = w.heap.size + 1:=by simp
 generalize w.alloc (.cells (byteCells pub).toArray 23) = w1 at *
 have h7:=heap_one w1 (.cells #[.int .i64 (i:Int),.slice ao 67 cap,.slice bo k dap] 73)
 have hb7:=below_one w1 (.cells #[.int .i64 (i:Int),.slice ao 67 cap,.slice bo k dap] 73)
 rw [hs1] at h7
 have HB:=hid (hb1.trans (hb7.mono hb1.size))
 have H7:=hid h7
 have H4:=hid (h4.below hb7)
 generalize w1.alloc (.cells #[.int .i64 (i:Int),.slice ao 67 cap,.slice bo k dap] 73) = wA at *
 have hlt:=lt_of_heap h7
 have c0:=cell_of h7 0 rfl
 have c2:=cell_of h7 2 rfl
 clear h4 hb1 hs1 h7 hb7
 have fin:∀ wx:World,Below wA.heap.size wA wx→Below w.heap.size w wx:=fun wx h=>HB.out.trans (h.mono HB.out.size)
 have HFI:=hid fin
 clear fin
 refine wp_region_kept (by kernel_rfl) (by kernel_rfl) ?_
 iterate 7 go_big_quiet_step (fail)
 refine wpQuiet_structLoad (by rfl) 73 (.tmp 7) (by rfl) (w.heap.size + 1) (by rfl) 73 #[.int .i64 (i:Int),.slice ao 67 cap,.slice bo k dap] (0,0) H7.out Tryz.underlying73 infoSigned ?_
 simp only [Act.put,List.setIfInBounds_toArray,List.set_cons_zero,List.set_cons_succ]
 go_big_quiet_step ((go_at_call 52; rename Kept _=>x; exact Kept.call (HMA.out _ (HFI.out _ x.below))))
 iterate 16 go_big_quiet_step (fail)
 refine wpQuiet_nil ?_
 intro x
 have HB1:=hid (HFI.out _ x.below)
 have H71:=hid (below_heap x.below H7.out)
 have H41:=hid (H4.out.below x.below)
 generalize x.w = wx at *
 clear x HFI H7 H4 HB c0 c2 hlt
 have c0:=cell_of H71.out 0 rfl
 have c1:=cell_of H71.out 1 rfl
 have c2:=cell_of H71.out 2 rfl
 have hlt:=lt_of_heap H71.out
 have fin:∀ wy:World,Below wx.heap.size wx wy→Below w.heap.size w wy:=fun wx h=>HB1.out.trans (h.mono HB1.out.size)
 have HFI:=hid fin
 clear fin
 go_upto_region 3 with fail
 have HL4:=hid (lt_of_heap H41.out.1)
 have HL7:=hid hlt
 have HCS:=hid fun (W:World) (hW:KeptB wx w.heap.size (w.heap.size + 1) W)=>(⟨(World.cell?_of_block (a:=⟨w.heap.size + 1,0,none⟩) hW.2).trans c0,(World.cell?_of_block (a:=⟨w.heap.size + 1,1,none⟩) hW.2).trans c1,(World.cell?_of_block (a:=⟨w.heap.size + 1,2,none⟩) hW.2).trans c2⟩ :
  W.cell? ⟨w.heap.size + 1,0,none⟩ = some (.int .i64 (i:Int))∧W.cell? ⟨w.heap.size + 1,1,none⟩ = some (.slice ao 67 cap)∧W.cell? ⟨w.heap.size + 1,2,none⟩ = some (.slice bo k dap))
 clear c0 c1 c2 hlt
 refine wp_region_till 100 (SinceB wx (KeptB wx w.heap.size (w.heap.size + 1))) (by kernel_rfl) ⟨fun _=>(Below.refl _ _).drew,⟨rfl,rfl⟩⟩ (fun hHeld=>?_)
 generalize wx.drew = wc at *
 refine wT (i:=0) (v:=.pointer (some ⟨w.heap.size + 1,0,none⟩)) rfl (Or.inl ⟨by rfl,fun w _=>?_⟩) hHeld ?_
 ·go_simp
 simp only [List.getElem_toArray,List.getElem_cons_zero,Act.put,List.setIfInBounds_toArray,List.set_cons_zero,List.set_cons_succ]
 refine wT (i:=1) (v:=.int .i64 (i:Int)) rfl (Or.inl ⟨by rfl,fun w hSw=>?_⟩) hHeld ?_
 ·obtain ⟨k0,k1,k2⟩:=HCS.out w hSw.choose_spec.2
  go_simp
 simp only [List.getElem_toArray,List.getElem_cons_succ,List.getElem_cons_zero,Act.put,List.setIfInBounds_toArray,List.set_cons_zero,List.set_cons_succ]
 refine wT (i:=2) (v:=.string ⟨t.toArray⟩) rfl (Or.inl ⟨by rfl,fun w _=>?_⟩) hHeld ?_
 ·go_simp
 simp only [List.getElem_toArray,List.getElem_cons_succ,List.getElem_cons_zero,Act.put,List.setIfInBounds_toArray,List.set_cons_zero,List.set_cons_succ]
 refine wT (i:=4) (v:=.pointer (some ⟨w.heap.size + 1,1,none⟩)) rfl (Or.inl ⟨by rfl,fun w _=>?_⟩) hHeld ?_
 ·go_simp
 simp only [List.getElem_toArray,List.getElem_cons_succ,List.getElem_cons_zero,Act.put,List.setIfInBounds_toArray,List.set_cons_zero,List.set_cons_succ]
 refine wT (i:=5) (v:=.slice ao 67 cap) rfl (Or.inl ⟨by rfl,fun w hSw=>?_⟩) hHeld ?_
 ·obtain ⟨k0,k1,k2⟩:=HCS.out w hSw.choose_spec.2
  go_simp
 simp only [List.getElem_toArray,List.getElem_cons_succ,List.getElem_cons_zero,Act.put,List.setIfInBounds_toArray,List.set_cons_zero,List.set_cons_succ]
 refine wpAnyT_ready (rs:=[3,10]) (by kernel_rfl) (by simp) ?_
 refine AllReadyT.cons false rfl (by kernel_rfl) (fun K hK=>?_) (AllReadyT.cons false rfl (by kernel_rfl) (fun K hK=>?_) (AllReadyT.nil))
 ·go_simp
  refine (HME.out _ (HFI.out _ (hHeld.1 rfl))).mono ?_
  rintro e wc ⟨rfl,hy⟩
  go_wp2_with fail
  have hy:=(hHeld.1 rfl).trans (hy.mono (hHeld.1 rfl).size)
  refine hK.out _ _ ⟨fun _=>hy,⟨hy.block _ HL4.out,hy.block _ HL7.out⟩⟩ (fun hHeld=>?_)
  clear hy
  clear hK K
  refine wpAnyT_ready (rs:=[6,10]) (by kernel_rfl) (by simp) ?_
  refine AllReadyT.cons false rfl (by kernel_rfl) (fun K hK=>?_) (AllReadyT.cons false rfl (by kernel_rfl) (fun K hK=>?_) (AllReadyT.nil))
  ·go_simp
   refine (HRE.out _ (HFI.out _ (hHeld.1 rfl))).mono ?_
   rintro e wc ⟨rfl,hy⟩
   go_wp2_with fail
   have hy:=(hHeld.1 rfl).trans (hy.mono (hHeld.1 rfl).size)
   refine hK.out _ _ ⟨fun _=>hy,⟨hy.block _ HL4.out,hy.block _ HL7.out⟩⟩ (fun hHeld=>?_)
   clear hy
   clear hK K
   refine wT (i:=7) (v:=.tuple #[hv R,.nilIface]) rfl (Or.inl ⟨by rfl,fun w _=>?_⟩) hHeld ?_
   ·go_simp
   simp only [List.getElem_toArray,List.getElem_cons_succ,List.getElem_cons_zero,Act.put,List.setIfInBounds_toArray,List.set_cons_zero,List.set_cons_succ]
   refine wT (i:=8) (v:=hv R) rfl (Or.inl ⟨by rfl,fun w _=>?_⟩) hHeld ?_
   ·go_simp
   simp only [List.getElem_toArray,List.getElem_cons_succ,List.getElem_cons_zero,Act.put,List.setIfInBounds_toArray,List.set_cons_zero,List.set_cons_succ]
   refine wT (i:=9) (v:=.nilIface) rfl (Or.inl ⟨by rfl,fun w _=>?_⟩) hHeld ?_
   ·go_simp
   simp only [List.getElem_toArray,List.getElem_cons_succ,List.getElem_cons_zero,Act.put,List.setIfInBounds_toArray,List.set_cons_zero,List.set_cons_succ]
   refine wpAnyT_ready (rs:=[10]) (by kernel_rfl) (by simp) ?_
   refine AllReadyT.cons false rfl (by kernel_rfl) (fun K hK=>?_) AllReadyT.nil
   go_simp
   obtain ⟨g9,wd,e1,e2,hn,hb,hge⟩:∃ g W',wc.heap.size = g∧wc.alloc (.cells (byteCells z32).toArray 23) = W'∧HashAt W' g z32∧Below wc.heap.size wc W'∧wc.heap.size ≤ g:=⟨_,_,rfl,rfl,HashAt.new wc z32 HZS.out,below_one _ _,Nat.le_refl _⟩
   rw [e2,e1]
   clear e1 e2
   have H9:=hid hn
   have G9:=hid (Nat.le_trans (hHeld.1 rfl).size hge)
   have hy:=(hHeld.1 rfl).trans (hb.mono (hHeld.1 rfl).size)
   refine hK.out _ _ ⟨fun _=>hy,⟨hy.block _ HL4.out,hy.block _ HL7.out⟩⟩ (fun hHeld=>?_)
   clear hy hn hb hge
   clear hK K
   refine wpAnyT_ready (rs:=[11]) (by kernel_rfl) (by simp) ?_
   refine AllReadyT.cons false rfl (by kernel_rfl) (fun K hK=>?_) AllReadyT.nil
   refine step_storeHx (by rfl) (.tmp 9) (.tmp 45) (by rfl) (by rfl) (by rfl) H9.out HRL.out (hHeld.1 rfl) G9.out ?_
   intro wz hn hy
   have H9:=hid hn
   refine hK.out _ _ ⟨fun _=>hy,⟨hy.block _ HL4.out,hy.block _ HL7.out⟩⟩ (fun hHeld=>?_)
   clear hy hn
   clear hK K
   refine wT (i:=12) (v:=.nilIface) rfl (Or.inl ⟨by rfl,fun w _=>?_⟩) hHeld ?_
   ·go_simp
   simp only [List.getElem_toArray,List.getElem_cons_succ,List.getElem_cons_zero,Act.put,List.setIfInBounds_toArray,List.set_cons_zero,List.set_cons_succ]
   refine wpAnyT_done (by kernel_rfl) ?_ _
   have HB3:=hid (HFI.out _ (hHeld.1 rfl))
   have H73:=hid ((hHeld.2).2.trans H71.out)
   have H43:=hid (⟨(hHeld.2).1.trans H41.out.1,H41.out.2⟩:HashAt wz w.heap.size pub)
   clear hHeld G9 HCS HL4 HL7 H71 H41 HFI HB1 hz32
   go_upto_region 6 with fail
   have c0:=cell_of H73.out 0 rfl
   have c2:=cell_of H73.out 2 rfl
   have hlt:=lt_of_heap H73.out
   have hlt9:=H9.out.lt
   have hlt4:=lt_of_heap H43.out.1
   have fin:∀ wq:World,Below wz.heap.size wz wq→Below w.heap.size w wq:=fun wx h=>HB3.out.trans (h.mono HB3.out.size)
   have HFI:=hid fin
   clear fin
   have hen:∀ n,n ≠ 0→errN S n = .iface 251 (.pointer (some (S n))):=fun n hn=>by unfold errN errV; rw [if_neg hn]
   have HEN:=hid hen
   have HE0:=hid (show errN S 0 = .nilIface from rfl)
   clear hen
   by_cases hz:E = 0
   ·have HR:=hid (HV0.out hz)
    subst hz
    rw [HE0.out] at HIN
    refine wp_region_kept (by kernel_rfl) (by kernel_rfl) ?_
    iterate 5 go_big_quiet_step (fail)
    refine wpQuiet_hashLoad (by rfl) (.tmp 9) (by rfl) g9 0 (by rfl) R HRL.out H9.out.range ?_
    simp only [Act.put,List.setIfInBounds_toArray,List.set_cons_zero,List.set_cons_succ]
    go_big_quiet_step ((go_at_call 25; rename Kept _=>x; exact Kept.call (HKL.out _ (HFI.out _ x.below))))
    iterate 2 go_big_quiet_step (fail)
    refine wpQuiet_hashLoad (by rfl) (.tmp 4) (by rfl) w.heap.size 0 (by rfl) pub HPL.out (HashAt.range H43.out) ?_
    simp only [Act.put,List.setIfInBounds_toArray,List.set_cons_zero,List.set_cons_succ]
    go_big_quiet_step ((go_at_call 54; rename Kept _=>x; exact Kept.call (HIN.out _ (HFI.out _ x.below))))
    go_big_quiet_step (fail)
    refine wpQuiet_nil ?_
    intro x
    have HB4:=hid (HFI.out _ x.below)
    generalize x.w = wq at *
    go_wp2_with fail
    go_ret
    exact ⟨by rw [HR.out,HE0.out]; rfl,HB4.out⟩
   ·have HR:=hid (HV12.out hz)
    rw [HEN.out E hz] at HIN
    have hne:=fun w=>run_err_neq (S E) w
    clear hz
    refine wp_region_kept (by kernel_rfl) (by kernel_rfl) ?_
    iterate 5 go_big_quiet_step (fail)
    refine wpQuiet_hashLoad (by rfl) (.tmp 9) (by rfl) g9 0 (by rfl) R HRL.out H9.out.range ?_
    simp only [Act.put,List.setIfInBounds_toArray,List.set_cons_zero,List.set_cons_succ]
    go_big_quiet_step ((go_at_call 25; rename Kept _=>x; exact Kept.call (HKL.out _ (HFI.out _ x.below))))
    iterate 2 go_big_quiet_step (fail)
    refine wpQuiet_hashLoad (by rfl) (.tmp 4) (by rfl) w.heap.size 0 (by rfl) pub HPL.out (HashAt.range H43.out) ?_
    simp only [Act.put,List.setIfInBounds_toArray,List.set_cons_zero,List.set_cons_succ]
    go_big_quiet_step ((go_at_call 54; rename Kept _=>x; exact Kept.call (HIN.out _ (HFI.out _ x.below))))
    go_big_quiet_step (fail)
    refine wpQuiet_nil ?_
    intro x
    have HB4:=hid (HFI.out _ x.below)
    generalize x.w = wq at *
    have hvv:=(HF.out.below HB4.out).var 12 (by decide) (by decide)
    simp only [errG,errV] at hvv
    go_wp2_with fail
    go_ret
    exact ⟨by rw [HR.out]; rfl,HB4.out⟩
  ·go_simp
   obtain ⟨g9,wd,e1,e2,hn,hb,hge⟩:∃ g W',wc.heap.size = g∧wc.alloc (.cells (byteCells z32).toArray 23) = W'∧HashAt W' g z32∧Below wc.heap.size wc W'∧wc.heap.size ≤ g:=⟨_,_,rfl,rfl,HashAt.new wc z32 HZS.out,below_one _ _,Nat.le_refl _⟩
   rw [e2,e1]
   clear e1 e2
   have H9:=hid hn
   have G9:=hid (Nat.le_trans (hHeld.1 rfl).size hge)
   have hy:=(hHeld.1 rfl).trans (hb.mono (hHeld.1 rfl).size)
   refine hK.out _ _ ⟨fun _=>hy,⟨hy.block _ HL4.out,hy.block _ HL7.out⟩⟩ (fun hHeld=>?_)
   clear hy hn hb hge
   clear hK K
   refine wpAnyT_ready (rs:=[6]) (by kernel_rfl) (by simp) ?_
   refine AllReadyT.cons false rfl (by kernel_rfl) (fun K hK=>?_) AllReadyT.nil
   go_simp
   refine (HRE.out _ (HFI.out _ (hHeld.1 rfl))).mono ?_
   rintro e wc ⟨rfl,hy⟩
   go_wp2_with fail
   have H9:=hid (H9.out.below hy)
   have hy:=(hHeld.1 rfl).trans (hy.mono (hHeld.1 rfl).size)
   refine hK.out _ _ ⟨fun _=>hy,⟨hy.block _ HL4.out,hy.block _ HL7.out⟩⟩ (fun hHeld=>?_)
   clear hy
   clear hK K
   refine wT (i:=7) (v:=.tuple #[hv R,.nilIface]) rfl (Or.inl ⟨by rfl,fun w _=>?_⟩) hHeld ?_
   ·go_simp
   simp only [List.getElem_toArray,List.getElem_cons_succ,List.getElem_cons_zero,Act.put,List.setIfInBounds_toArray,List.set_cons_zero,List.set_cons_succ]
   refine wT (i:=8) (v:=hv R) rfl (Or.inl ⟨by rfl,fun w _=>?_⟩) hHeld ?_
   ·go_simp
   simp only [List.getElem_toArray,List.getElem_cons_succ,List.getElem_cons_zero,Act.put,List.setIfInBounds_toArray,List.set_cons_zero,List.set_cons_succ]
   refine wT (i:=9) (v:=.nilIface) rfl (Or.inl ⟨by rfl,fun w _=>?_⟩) hHeld ?_
   ·go_simp
   simp only [List.getElem_toArray,List.getElem_cons_succ,List.getElem_cons_zero,Act.put,List.setIfInBounds_toArray,List.set_cons_zero,List.set_cons_succ]
   refine wpAnyT_ready (rs:=[11]) (by kernel_rfl) (by simp) ?_
   refine AllReadyT.cons false rfl (by kernel_rfl) (fun K hK=>?_) AllReadyT.nil
   refine step_storeHx (by rfl) (.tmp 9) (.tmp 45) (by rfl) (by rfl) (by rfl) H9.out HRL.out (hHeld.1 rfl) G9.out ?_
   intro wz hn hy
   have H9:=hid hn
   refine hK.out _ _ ⟨fun _=>hy,⟨hy.block _ HL4.out,hy.block _ HL7.out⟩⟩ (fun hHeld=>?_)
   clear hy hn
   clear hK K
   refine wT (i:=12) (v:=.nilIface) rfl (Or.inl ⟨by rfl,fun w _=>?_⟩) hHeld ?_
   ·go_simp
   simp only [List.getElem_toArray,List.getElem_cons_succ,List.getElem_cons_zero,Act.put,List.setIfInBounds_toArray,List.set_cons_zero,List.set_cons_succ]
   refine wpAnyT_done (by kernel_rfl) ?_ _
   have HB3:=hid (HFI.out _ (hHeld.1 rfl))
   have H73:=hid ((hHeld.2).2.trans H71.out)
   have H43:=hid (⟨(hHeld.2).1.trans H41.out.1,H41.out.2⟩:HashAt wz w.heap.size pub)
   clear hHeld G9 HCS HL4 HL7 H71 H41 HFI HB1 hz32
   go_upto_region 6 with fail
   have c0:=cell_of H73.out 0 rfl
   have c2:=cell_of H73.out 2 rfl
   have hlt:=lt_of_heap H73.out
   have hlt9:=H9.out.lt
   have hlt4:=lt_of_heap H43.out.1
   have fin:∀ wq:World,Below wz.heap.size wz wq→Below w.heap.size w wq:=fun wx h=>HB3.out.trans (h.mono HB3.out.size)
   have HFI:=hid fin
   clear fin
   have hen:∀ n,n ≠ 0→errN S n = .iface 251 (.pointer (some (S n))):=fun n hn=>by unfold errN errV; rw [if_neg hn]
   have HEN:=hid hen
   have HE0:=hid (show errN S 0 = .nilIface from rfl)
   clear hen
   by_cases hz:E = 0
   ·have HR:=hid (HV0.out hz)
    subst hz
    rw [HE0.out] at HIN
    refine wp_region_kept (by kernel_rfl) (by kernel_rfl) ?_
    iterate 5 go_big_quiet_step (fail)
    refine wpQuiet_hashLoad (by rfl) (.tmp 9) (by rfl) g9 0 (by rfl) R HRL.out H9.out.range ?_
    simp only [Act.put,List.setIfInBounds_toArray,List.set_cons_zero,List.set_cons_succ]
    go_big_quiet_step ((go_at_call 25; rename Kept _=>x; exact Kept.call (HKL.out _ (HFI.out _ x.below))))
    iterate 2 go_big_quiet_step (fail)
    refine wpQuiet_hashLoad (by rfl) (.tmp 4) (by rfl) w.heap.size 0 (by rfl) pub HPL.out (HashAt.range H43.out) ?_
    simp only [Act.put,List.setIfInBounds_toArray,List.set_cons_zero,List.set_cons_succ]
    go_big_quiet_step ((go_at_call 54; rename Kept _=>x; exact Kept.call (HIN.out _ (HFI.out _ x.below))))
    go_big_quiet_step (fail)
    refine wpQuiet_nil ?_
    intro x
    have HB4:=hid (HFI.out _ x.below)
    generalize x.w = wq at *
    go_wp2_with fail
    go_ret
    exact ⟨by rw [HR.out,HE0.out]; rfl,HB4.out⟩
   ·have HR:=hid (HV12.out hz)
    rw [HEN.out E hz] at HIN
    have hne:=fun w=>run_err_neq (S E) w
    clear hz
    refine wp_region_kept (by kernel_rfl) (by kernel_rfl) ?_
    iterate 5 go_big_quiet_step (fail)
    refine wpQuiet_hashLoad (by rfl) (.tmp 9) (by rfl) g9 0 (by rfl) R HRL.out H9.out.range ?_
    simp only [Act.put,List.setIfInBounds_toArray,List.set_cons_zero,List.set_cons_succ]
    go_big_quiet_step ((go_at_call 25; rename Kept _=>x; exact Kept.call (HKL.out _ (HFI.out _ x.below))))
    iterate 2 go_big_quiet_step (fail)
    refine wpQuiet_hashLoad (by rfl) (.tmp 4) (by rfl) w.heap.size 0 (by rfl) pub HPL.out (HashAt.range H43.out) ?_
    simp only [Act.put,List.setIfInBounds_toArray,List.set_cons_zero,List.set_cons_succ]
    go_big_quiet_step ((go_at_call 54; rename Kept _=>x; exact Kept.call (HIN.out _ (HFI.out _ x.below))))
    go_big_quiet_step (fail)
    refine wpQuiet_nil ?_
    intro x
    have HB4:=hid (HFI.out _ x.below)
    generalize x.w = wq at *
    have hvv:=(HF.out.below HB4.out).var 12 (by decide) (by decide)
    simp only [errG,errV] at hvv
    go_wp2_with fail
    go_ret
    exact ⟨by rw [HR.out]; rfl,HB4.out⟩
 ·go_simp
  obtain ⟨g9,wd,e1,e2,hn,hb,hge⟩:∃ g W',wc.heap.size = g∧wc.alloc (.cells (byteCells z32).toArray 23) = W'∧HashAt W' g z32∧Below wc.heap.size wc W'∧wc.heap.size ≤ g:=⟨_,_,rfl,rfl,HashAt.new wc z32 HZS.out,below_one _ _,Nat.le_refl _⟩
  rw [e2,e1]
  clear e1 e2
  have H9:=hid hn
  have G9:=hid (Nat.le_trans (hHeld.1 rfl).size hge)
  have hy:=(hHeld.1 rfl).trans (hb.mono (hHeld.1 rfl).size)
  refine hK.out _ _ ⟨fun _=>hy,⟨hy.block _ HL4.out,hy.block _ HL7.out⟩⟩ (fun hHeld=>?_)
  clear hy hn hb hge
  clear hK K
  refine wpAnyT_ready (rs:=[3]) (by kernel_rfl) (by simp) ?_
  refine AllReadyT.cons false rfl (by kernel_rfl) (fun K hK=>?_) AllReadyT.nil
  go_simp
  refine (HME.out _ (HFI.out _ (hHeld.1 rfl))).mono ?_
  rintro e wc ⟨rfl,hy⟩
  go_wp2_with fail
  have H9:=hid (H9.out.below hy)
  have hy:=(hHeld.1 rfl).trans (hy.mono (hHeld.1 rfl).size)
  refine hK.out _ _ ⟨fun _=>hy,⟨hy.block _ HL4.out,hy.block _ HL7.out⟩⟩ (fun hHeld=>?_)
  clear hy
  clear hK K
  refine wpAnyT_ready (rs:=[6]) (by kernel_rfl) (by simp) ?_
  refine AllReadyT.cons false rfl (by kernel_rfl) (fun K hK=>?_) AllReadyT.nil
  go_simp
  refine (HRE.out _ (HFI.out _ (hHeld.1 rfl))).mono ?_
  rintro e wc ⟨rfl,hy⟩
  go_wp2_with fail
  have H9:=hid (H9.out.below hy)
  have hy:=(hHeld.1 rfl).trans (hy.mono (hHeld.1 rfl).size)
  refine hK.out _ _ ⟨fun _=>hy,⟨hy.block _ HL4.out,hy.block _ HL7.out⟩⟩ (fun hHeld=>?_)
  clear hy
  clear hK K
  refine wT (i:=7) (v:=.tuple #[hv R,.nilIface]) rfl (Or.inl ⟨by rfl,fun w _=>?_⟩) hHeld ?_
  ·go_simp
  simp only [List.getElem_toArray,List.getElem_cons_succ,List.getElem_cons_zero,Act.put,List.setIfInBounds_toArray,List.set_cons_zero,List.set_cons_succ]
  refine wT (i:=8) (v:=hv R) rfl (Or.inl ⟨by rfl,fun w _=>?_⟩) hHeld ?_
  ·go_simp
  simp only [List.getElem_toArray,List.getElem_cons_succ,List.getElem_cons_zero,Act.put,List.setIfInBounds_toArray,List.set_cons_zero,List.set_cons_succ]
  refine wT (i:=9) (v:=.nilIface) rfl (Or.inl ⟨by rfl,fun w _=>?_⟩) hHeld ?_
  ·go_simp
  simp only [List.getElem_toArray,List.getElem_cons_succ,List.getElem_cons_zero,Act.put,List.setIfInBounds_toArray,List.set_cons_zero,List.set_cons_succ]
  refine wpAnyT_ready (rs:=[11]) (by kernel_rfl) (by simp) ?_
  refine AllReadyT.cons false rfl (by kernel_rfl) (fun K hK=>?_) AllReadyT.nil
  refine step_storeHx (by rfl) (.tmp 9) (.tmp 45) (by rfl) (by rfl) (by rfl) H9.out HRL.out (hHeld.1 rfl) G9.out ?_
  intro wz hn hy
  have H9:=hid hn
  refine hK.out _ _ ⟨fun _=>hy,⟨hy.block _ HL4.out,hy.block _ HL7.out⟩⟩ (fun hHeld=>?_)
  clear hy hn
  clear hK K
  refine wT (i:=12) (v:=.nilIface) rfl (Or.inl ⟨by rfl,fun w _=>?_⟩) hHeld ?_
  ·go_simp
  simp only [List.getElem_toArray,List.getElem_cons_succ,List.getElem_cons_zero,Act.put,List.setIfInBounds_toArray,List.set_cons_zero,List.set_cons_succ]
  refine wpAnyT_done (by kernel_rfl) ?_ _
  have HB3:=hid (HFI.out _ (hHeld.1 rfl))
  have H73:=hid ((hHeld.2).2.trans H71.out)
  have H43:=hid (⟨(hHeld.2).1.trans H41.out.1,H41.out.2⟩:HashAt wz w.heap.size pub)
  clear hHeld G9 HCS HL4 HL7 H71 H41 HFI HB1 hz32
  go_upto_region 6 with fail
  have c0:=cell_of H73.out 0 rfl
  have c2:=cell_of H73.out 2 rfl
  have hlt:=lt_of_heap H73.out
  have hlt9:=H9.out.lt
  have hlt4:=lt_of_heap H43.out.1
  have fin:∀ wq:World,Below wz.heap.size wz wq→Below w.heap.size w wq:=fun wx h=>HB3.out.trans (h.mono HB3.out.size)
  have HFI:=hid fin
  clear fin
  have hen:∀ n,n ≠ 0→errN S n = .iface 251 (.pointer (some (S n))):=fun n hn=>by unfold errN errV; rw [if_neg hn]
  have HEN:=hid hen
  have HE0:=hid (show errN S 0 = .nilIface from rfl)
  clear hen
  by_cases hz:E = 0
  ·have HR:=hid (HV0.out hz)
   subst hz
   rw [HE0.out] at HIN
   refine wp_region_kept (by kernel_rfl) (by kernel_rfl) ?_
   iterate 5 go_big_quiet_step (fail)
   refine wpQuiet_hashLoad (by rfl) (.tmp 9) (by rfl) g9 0 (by rfl) R HRL.out H9.out.range ?_
   simp only [Act.put,List.setIfInBounds_toArray,List.set_cons_zero,List.set_cons_succ]
   go_big_quiet_step ((go_at_call 25; rename Kept _=>x; exact Kept.call (HKL.out _ (HFI.out _ x.below))))
   iterate 2 go_big_quiet_step (fail)
   refine wpQuiet_hashLoad (by rfl) (.tmp 4) (by rfl) w.heap.size 0 (by rfl) pub HPL.out (HashAt.range H43.out) ?_
   simp only [Act.put,List.setIfInBounds_toArray,List.set_cons_zero,List.set_cons_succ]
   go_big_quiet_step ((go_at_call 54; rename Kept _=>x; exact Kept.call (HIN.out _ (HFI.out _ x.below))))
   go_big_quiet_step (fail)
   refine wpQuiet_nil ?_
   intro x
   have HB4:=hid (HFI.out _ x.below)
   generalize x.w = wq at *
   go_wp2_with fail
   go_ret
   exact ⟨by rw [HR.out,HE0.out]; rfl,HB4.out⟩
  ·have HR:=hid (HV12.out hz)
   rw [HEN.out E hz] at HIN
   have hne:=fun w=>run_err_neq (S E) w
   clear hz
   refine wp_region_kept (by kernel_rfl) (by kernel_rfl) ?_
   iterate 5 go_big_quiet_step (fail)
   refine wpQuiet_hashLoad (by rfl) (.tmp 9) (by rfl) g9 0 (by rfl) R HRL.out H9.out.range ?_
   simp only [Act.put,List.setIfInBounds_toArray,List.set_cons_zero,List.set_cons_succ]
   go_big_quiet_step ((go_at_call 25; rename Kept _=>x; exact Kept.call (HKL.out _ (HFI.out _ x.below))))
   iterate 2 go_big_quiet_step (fail)
   refine wpQuiet_hashLoad (by rfl) (.tmp 4) (by rfl) w.heap.size 0 (by rfl) pub HPL.out (HashAt.range H43.out) ?_
   simp only [Act.put,List.setIfInBounds_toArray,List.set_cons_zero,List.set_cons_succ]
   go_big_quiet_step ((go_at_call 54; rename Kept _=>x; exact Kept.call (HIN.out _ (HFI.out _ x.below))))
   go_big_quiet_step (fail)
   refine wpQuiet_nil ?_
   intro x
   have HB4:=hid (HFI.out _ x.below)
   generalize x.w = wq at *
   have hvv:=(HF.out.below HB4.out).var 12 (by decide) (by decide)
   simp only [errG,errV] at hvv
   go_wp2_with fail
   go_ret
   exact ⟨by rw [HR.out]; rfl,HB4.out⟩
theorem keyVer_any (S:Nat→Addr) (pub t:List UInt8) (height idx:Int) (hpl:pub.length = 32) (ht:t.length ≤ 4611686018427386000) (hh:idxOk height) (hi:idxOk idx) (c p:List (List UInt8)) (u v:Value) (w:World) (hF:FW S w) (hu:HsIn w u c) (hw2:HsIn w v p) :
  Calls Tryz.prog 22 #[hv pub,.int .i64 height,.string ⟨t.toArray⟩,.agg #[.int .i64 idx,u,v]] w fun e w'=>e = .returned (errN S (verF pub height t idx c p))∧Below w.heap.size w w':=by
 by_cases hbad:height < 0 ∨ 6 < height ∨ mayF idx c p = false ∨ (2 ^ height.toNat:Int) ≤ idx ∨ (p.length:Int) ≠ height
 ·have e:verF pub height t idx c p = 2:=if_pos hbad
  rw [e]
  exact keyVerB S pub t height idx hpl hh c p u v w hF hu hw2 hbad
 ·have e:verF pub height t idx c p = if rootF idx.toNat (2 ^ height.toNat - 1) (shaL (0 :: recoverF (msgF idx.toNat t) c)) p = some pub then 0 else 12:=if_neg hbad
  simp only [not_or] at hbad
  obtain ⟨a,b,d,f,g⟩:=hbad
  obtain ⟨k,rfl⟩:∃ k:Nat,height = (k:Int):=⟨height.toNat,by omega⟩
  have hm:mayF idx c p = true:=by simpa using d
  unfold mayF at hm
  simp only [Bool.and_eq_true,decide_eq_true_eq] at hm
  obtain ⟨i,rfl⟩:∃ i:Nat,idx = (i:Int):=⟨idx.toNat,by omega⟩
  rw [e,Int.toNat_natCast,Int.toNat_natCast]
  refine keyVerF S pub t k i (by omega) ?_ hpl ht c p u v w hF hu hw2 hm.1.2 (by omega)
  rw [Int.toNat_natCast] at f
  have h2:(((2 ^ k:Nat)):Int) = (2:Int) ^ k:=by push_cast; rfl
  rw [← h2] at f
  omega
end Go.Proofs.YticlgcfodlcpcaaGreatDoor
