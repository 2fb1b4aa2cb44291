/- The document's SHA-256 (cartularyref04): turn,schedule,block,table,start,padded and Sum by their contracts. -/
import Derived.Test.YticlgcfodlcpcaaGreatDoorNT
import Derived.Test.YticlgcfodlcpcaaGreatDoorConv
namespace Go.Proofs.YticlgcfodlcpcaaGreatDoor
open Go.Lib (hid byteCells)
open Go.RowKit
def nodeF (a b:List UInt8):List UInt8:=shaL (1 :: (a ++ b))
theorem nodeF_len (a b:List UInt8):(nodeF a b).length = 32:=shaL_len _
theorem range_app {w:World} {b o:Nat} {xs ys:List Value} (h1:w.rangeAt b o xs) (h2:w.rangeAt b (o + xs.length) ys):w.rangeAt b o (xs ++ ys):=fun j v hv=>by
 by_cases hj:j < xs.length
 ·rw [List.getElem?_append_left hj] at hv
  exact h1 j v hv
 ·rw [List.getElem?_append_right (by omega)] at hv
  have:=h2 _ _ hv
  rwa [show o + xs.length + (j - xs.length) = o + j by omega] at this
theorem there_heap {w w':World} {b o n:Nat} (h:w.there b o n) (hb:w'.heap[b]? = w.heap[b]?):w'.there b o n:=fun j hj=>by
 have:=h j hj
 unfold World.cell? World.frozen? at *
 simp only [hb]
 exact this
theorem below_setCells {B g:Nat} {w:World} (hg:B ≤ g):∀ (vs:List Value) (o:Nat) (w':World),Below B w w'→Below B w (w'.setCells g o vs)
 | [],_,_,h=>h
 | v :: r,o,w',h=>below_setCells hg r (o + 1) (w'.setCell ⟨g,o,none⟩ v) (h.setCell (p:=⟨g,o,none⟩) hg v)
theorem rturn_any (x n:Nat) (hx:x < 4294967296) (h1:1 ≤ n) (h2:n ≤ 31) (w:World) :
  Calls Tryz.prog 135 #[.int .u32 (x:Int),.int .i64 (n:Int)] w fun e w'=>e = .returned (.int .u32 ((rotN x n:Nat):Int))∧∃ q,w' = w.drewN q:=by
 have hd:((x:Int) / 2 ^ n) = ((x / 2 ^ n:Nat):Int):=by rw [Int.natCast_ediv]; rfl
 have hm:((x:Int) * 2 ^ (32 - n) % 4294967296) = ((x * 2 ^ (32 - n) % 4294967296:Nat):Int):=by rw [Int.natCast_emod,Int.natCast_mul,Int.natCast_pow]; rfl
 have hb:=bits_or (a:=x / 2 ^ n) (b:=x * 2 ^ (32 - n) % 4294967296) (Nat.lt_of_le_of_lt (Nat.div_le_self ..) hx) (Nat.mod_lt _ (by decide))
 rw [← hd,← hm] at hb
 have HB:=hid hb
 clear hd hm hb
 go_enter Tryz.func135,Tryz.ntmps135
 go_wp2_with fail
 go_quiet (fail)
 go_wp2_with fail
 go_ret
 refine ⟨?_,nq,rfl⟩
 show Ending.returned (Value.int IntKind.u32 (bits BinOp.or IntKind.u32 ((x:Int) / 2 ^ n) ((x:Int) * 2 ^ (32 - n) % 4294967296))) = _
 rw [HB.out]
 rfl
theorem rturn_at (x n:Nat) (k:Int) (hk:k = (n:Int)) (hx:x < 4294967296) (h1:1 ≤ n) (h2:n ≤ 31) (w:World) :
  Calls Tryz.prog 135 #[.int .u32 (x:Int),.int .i64 k] w fun e w'=>e = .returned (.int .u32 ((rotN x n:Nat):Int))∧∃ q,w' = w.drewN q:=by
 subst hk
 exact rturn_any x n hx h1 h2 w
theorem info64:(Tryz.prog.info? 178).map (·.size) = some 64:=by kernel_rfl
theorem info8:(Tryz.prog.info? 180).map (·.size) = some 8:=by kernel_rfl
theorem u32s_size (l:List Nat):(u32s l).size = l.length:=by simp [u32s]
theorem u32s_one (l:List Nat):(u32s l).all (·.oneCell') = true:=by
 unfold u32s
 rw [List.all_toArray,List.all_eq_true]
 intro x hx
 obtain ⟨b,_,rfl⟩:=List.mem_map.1 hx
 rfl
theorem zero_64:∃ zs:List Nat,zs = List.replicate 64 0∧(#[.int .u32 0,.int .u32 0,.int .u32 0,.int .u32 0,.int .u32 0,.int .u32 0,.int .u32 0,.int .u32 0,.int .u32 0,.int .u32 0,.int .u32 0,.int .u32 0,.int .u32 0,.int .u32 0,.int .u32 0,.int .u32 0,.int .u32 0,.int .u32 0,.int .u32 0,.int .u32 0,.int .u32 0,.int .u32 0,.int .u32 0,.int .u32 0,.int .u32 0,.int .u32 0,.int .u32 0,.int .u32 0,.int .u32 0,.int .u32 0,.int .u32 0,.int .u32 0,.int .u32 0,.int .u32 0,.int .u32 0,.int .u32 0,.int .u32 0,.int .u32 0,.int .u32 0,.int .u32 0,.int .u32 0,.int .u32 0,.int .u32 0,.int .u32 0,.int .u32 0,.int .u32 0,.int .u32 0,.int .u32 0,.int .u32 0,.int .u32 0,.int .u32 0,.int .u32 0,.int .u32 0,.int .u32 0,.int .u32 0,.int .u32 0,.int .u32 0,.int .u32 0,.int .u32 0,.int .u32 0,.int .u32 0,.int .u32 0,.int .u32 0,.int .u32 0]:Array Value) = u32s zs:=⟨List.replicate 64 0,rfl,by kernel_rfl⟩
set_option maxHeartbeats 4000000 in
set_option maxRecDepth 100000 in
theorem sched_any (l:List UInt8) (b o c:Nat) (w:World) (hl:l.length = 64) (hb:w.rangeAt b o (byteCells l)) :
  Calls Tryz.prog 134 #[.slice (some ⟨b,o,none⟩) 64 c] w fun e w'=>e = .returned (.agg (u32s (sched l 48)))∧Below w.heap.size w w':=by
 have HL:=hid hl
 have hbw0:b < w.heap.size:=by
  obtain ⟨x,hx⟩:∃ x,l[0]? = some x:=⟨_,List.getElem?_eq_getElem (by omega)⟩
  exact lt_of_cell (hb 0 _ (by unfold byteCells; rw [List.getElem?_map,hx]; rfl))
 obtain ⟨X,hX⟩:∃ X,sched l 48 = X:=⟨_,rfl⟩
 have HXL:=hid (show (u32s X).size = 64 by rw [u32s_size,← hX]; exact sched_len l hl 48)
 rw [hX]
 have HX:=hid hX
 obtain ⟨zs,hzs,hz64⟩:=zero_64
 have HZS:=hid hzs
 have HZL:=hid (show (u32s zs).size = 64 by rw [u32s_size,hzs]; rfl)
 have HR0:=hid (heap_one w (.cells (u32s zs) 178))
 have HB0:=hid (below_one w (.cells (u32s zs) 178))
 have HB:=hid (range_below HB0.out hb)
 have hs0:(w.alloc (.cells (u32s zs) 178)).heap.size = w.heap.size + 1:=by simp
 clear hl hb hzs hX
 go_enter Tryz.func134,Tryz.ntmps134
 go_upto_region 1 with fail
 generalize (w.alloc (.cells (u32s zs) 178)) = w1 at *
 have hbw:b < w1.heap.size:=by omega
 have HS0:=hid hs0
 clear hs0 hbw0
 go_wp2_with fail
 clear hz64
 go_loopw [4] (fun vt wr=>∃ t:Nat,t ≤ 16∧vt = .int .i64 (t:Int)∧wr.heap[w1.heap.size]? = some (.cells (u32s (wordsAt l t)) 178)∧Below w1.heap.size w1 wr) (fun vt _=>16 - (intOf vt).toNat)
 case atStart=>exact ⟨0,by omega,rfl,by rw [show wordsAt l 0 = zs by rw [HZS.out]; rfl]; exact heap_one w1 _,below_one w1 _⟩
 case round=>
  obtain ⟨t,ht,rfl,hW,hbel⟩:=hrel
  rename World=>wA
  by_cases ht16:t < 16
  ·have t1:(t:Int) < 16:=by omega
   obtain ⟨p,q,r,z,e0,e1,e2,e3,e4⟩:=wordsOf_get 16 l (by rw [HL.out]) t ht16
   have cb:∀ j x,l[j]? = some x→wA.cell? ⟨b,o + j,none⟩ = some (.int .u8 (x.toNat:Int)):=fun j x hx=>below_cell' hbel hbw (HB.out j _ (by unfold byteCells; rw [List.getElem?_map,hx]; rfl))
   have c0:=cb _ _ e0
   have c1:=cb _ _ e1
   have c2:=cb _ _ e2
   have c3:=cb _ _ e3
   have hbA:b < wA.heap.size:=Nat.lt_of_lt_of_le hbw hbel.size
   have hNA:=lt_of_heap hW
   have k0:=cell_of hW t (u32s_get (wordsAt l t) t (x:=0) (by unfold wordsAt; rw [List.getElem?_append_right (by rw [List.length_take]; omega),List.getElem?_replicate]; rw [List.length_take,wordsOf_len 16 l (by rw [HL.out]),Nat.min_eq_left ht]; simp; omega))
   have f0:=frozen_row hW t
   have j0:(4 * (t:Int)).toNat = 4 * t:=by omega
   have j1:(4 * (t:Int) + 1).toNat = 4 * t + 1:=by omega
   have j2:(4 * (t:Int) + 2).toNat = 4 * t + 2:=by omega
   have j3:(4 * (t:Int) + 3).toNat = 4 * t + 3:=by omega
   have HW:=hid hW
   have HBE:=hid hbel
   have E4:=hid e4
   clear hW hbel cb e0 e1 e2 e3 e4
   have t64:(t:Int) < 64:=by omega
   have t00:(0:Int) ≤ (t:Int):=by omega
   have a0:(0:Int) ≤ 4 * (t:Int):=by omega
   have a1:(0:Int) ≤ 4 * (t:Int) + 1:=by omega
   have a2:(0:Int) ≤ 4 * (t:Int) + 2:=by omega
   have a3:(0:Int) ≤ 4 * (t:Int) + 3:=by omega
   have l0:4 * (t:Int) < 64:=by omega
   have l1:4 * (t:Int) + 1 < 64:=by omega
   have l2:4 * (t:Int) + 2 < 64:=by omega
   have l3:4 * (t:Int) + 3 < 64:=by omega
   have m0:IntKind.i64.wrap (4 * (t:Int)) = 4 * (t:Int):=IntWalk.i64_in _ (by omega)
   have m1:IntKind.i64.wrap (4 * (t:Int) + 1) = 4 * (t:Int) + 1:=IntWalk.i64_in _ (by omega)
   have m2:IntKind.i64.wrap (4 * (t:Int) + 2) = 4 * (t:Int) + 2:=IntWalk.i64_in _ (by omega)
   have m3:IntKind.i64.wrap (4 * (t:Int) + 3) = 4 * (t:Int) + 3:=IntWalk.i64_in _ (by omega)
   have p256:=UInt8.toNat_lt p
   have q256:=UInt8.toNat_lt q
   have r256:=UInt8.toNat_lt r
   have z256:=UInt8.toNat_lt z
   have wq0:=wrap_small p.toNat (by omega)
   have wq1:=wrap_small q.toNat (by omega)
   have wq2:=wrap_small r.toNat (by omega)
   have wq3:=wrap_small z.toNat (by omega)
   have x0:IntKind.wrap .u32 ((p.toNat:Int) * 16777216) = (p.toNat:Int) * 16777216:=wrap_mul p.toNat 16777216 (by omega)
   have x1:IntKind.wrap .u32 ((q.toNat:Int) * 65536) = (q.toNat:Int) * 65536:=wrap_mul q.toNat 65536 (by omega)
   have x2:IntKind.wrap .u32 ((r.toNat:Int) * 256) = (r.toNat:Int) * 256:=wrap_mul r.toNat 256 (by omega)
   have xw:=word_bits p q r z
   go_wp2_with fail
   go_still_tail 35,(by kernel_rfl)
   go_wp2_with fail
   go_roundw
   case rel=>
    have h:=set_heapS (i:=t) (u:=.int .u32 ((word4 p q r z:Nat):Int)) HW.out
    rw [u32s_set,wordsAt,wordsAt_next HL.out ht16 E4.out] at h
    exact ⟨t + 1,by omega,by go_num,h,(HBE.out.setCell (p:=⟨w1.heap.size,t,none⟩) (Nat.le_refl _) _).drew⟩
   case measure=>simp [intOf]; omega
  ·obtain rfl:t = 16:=by omega
   have e0:wordsAt l 16 = schedAt l 16:=by
    unfold wordsAt schedAt
    rw [List.take_of_length_le (by rw [wordsOf_len 16 l (by rw [HL.out])]; exact Nat.le_refl _)]
    rfl
   rw [e0] at hW
   have HW:=hid hW
   have HBE:=hid hbel
   clear hW hbel e0 ht16 ht
   go_wp2_with fail
   go_loopw [5] (fun vt wr=>∃ t:Nat,16 ≤ t∧t ≤ 64∧vt = .int .i64 (t:Int)∧wr.heap[w1.heap.size]? = some (.cells (u32s (schedAt l t)) 178)∧Below w1.heap.size w1 wr) (fun vt _=>64 - (intOf vt).toNat)
   case atStart=>exact ⟨16,by omega,by omega,rfl,HW.out,HBE.out⟩
   case round=>
    obtain ⟨t,ht16,ht,rfl,hW,hbel⟩:=hrel
    rename World=>wB
    by_cases ht64:t < 64
    ·have t1:(t:Int) < 64:=by omega
     have t00:(0:Int) ≤ (t:Int):=by omega
     obtain ⟨p,q,r,z,e0,e1,e2,e3,hn,hp,hq,hr,hz⟩:=sched_parts HL.out ht16 ht64
     have k0:=cell_of hW (t - 16) (u32s_get _ _ e0)
     have k1:=cell_of hW (t - 15) (u32s_get _ _ e1)
     have k2:=cell_of hW (t - 7) (u32s_get _ _ e2)
     have k3:=cell_of hW (t - 2) (u32s_get _ _ e3)
     have kt:=cell_of hW t (u32s_get (schedAt l t) t (x:=0) (sched_zero HL.out ht16 ht64))
     have ft:=frozen_row hW t
     have hNB:=lt_of_heap hW
     have HW:=hid hW
     have HBE:=hid hbel
     have HNX:=hid hn
     clear hW hbel e0 e1 e2 e3 hn
     have a0:(0:Int) ≤ (t:Int) - 16:=by omega
     have a1:(0:Int) ≤ (t:Int) - 15:=by omega
     have a2:(0:Int) ≤ (t:Int) - 7:=by omega
     have a3:(0:Int) ≤ (t:Int) - 2:=by omega
     have b0:(t:Int) - 16 < 64:=by omega
     have b1:(t:Int) - 15 < 64:=by omega
     have b2:(t:Int) - 7 < 64:=by omega
     have b3:(t:Int) - 2 < 64:=by omega
     have j0:((t:Int) - 16).toNat = t - 16:=by omega
     have j1:((t:Int) - 15).toNat = t - 15:=by omega
     have j2:((t:Int) - 7).toNat = t - 7:=by omega
     have j3:((t:Int) - 2).toNat = t - 2:=by omega
     have m0:IntKind.i64.wrap ((t:Int) - 16) = (t:Int) - 16:=IntWalk.i64_in _ (by omega)
     have m1:IntKind.i64.wrap ((t:Int) - 15) = (t:Int) - 15:=IntWalk.i64_in _ (by omega)
     have m2:IntKind.i64.wrap ((t:Int) - 7) = (t:Int) - 7:=IntWalk.i64_in _ (by omega)
     have m3:IntKind.i64.wrap ((t:Int) - 2) = (t:Int) - 2:=IntWalk.i64_in _ (by omega)
     have g0:=sg0_bits hq
     have g1:=sg1_bits hz
     go_wp2_with fail
     refine wp_region_quiet_tail 29 (by kernel_rfl) (by kernel_rfl) ?_
     simp only [List.take_succ_cons,List.take_zero,List.drop_succ_cons,List.drop_zero]
     repeat (go_big_quiet_step (fail))
     go_big_quiet_step ((go_at_call 135; exact Calls.quiet_of (rturn_at q 7 7 rfl hq (by decide) (by decide) _)))
     repeat (go_big_quiet_step (fail))
     go_big_quiet_step ((go_at_call 135; exact Calls.quiet_of (rturn_at q 18 18 rfl hq (by decide) (by decide) _)))
     repeat (go_big_quiet_step (fail))
     go_big_quiet_step ((go_at_call 135; exact Calls.quiet_of (rturn_at z 17 17 rfl hz (by decide) (by decide) _)))
     repeat (go_big_quiet_step (fail))
     go_big_quiet_step ((go_at_call 135; exact Calls.quiet_of (rturn_at z 19 19 rfl hz (by decide) (by decide) _)))
     repeat (go_big_quiet_step (fail))
     refine wpQuiet_nil ?_
     intro _ hw'
     obtain ⟨n2,hw''⟩:=hw'
     subst hw''
     go_wp2_with fail
     go_roundw
     case rel=>
      have h:=set_heapS (i:=t) (u:=.int .u32 (((p + sg0 q + r + sg1 z) % 4294967296:Nat):Int)) HW.out
      rw [u32s_set,HNX.out] at h
      refine ⟨t + 1,by omega,by omega,by go_num,?_,(belowN HBE.out n2).setCell (p:=⟨w1.heap.size,t,none⟩) (Nat.le_refl _) _⟩
      rw [show ((p:Int) + (sg0 q:Int) + (r:Int) + (sg1 z:Int)) % 4294967296 = (((p + sg0 q + r + sg1 z) % 4294967296:Nat):Int) by omega]
      exact h
     case measure=>simp [intOf]; omega
    ·obtain rfl:t = 64:=by omega
     have t1:¬ ((64:Nat):Int) < 64:=by decide
     have e64:schedAt l 64 = sched l 48:=by
      show sched l 48 ++ List.replicate 0 0 = sched l 48
      rw [List.replicate_zero,List.append_nil]
     rw [e64,HX.out] at hW
     have HW:=hid hW
     have HR1:=hid (hbel.block w.heap.size (by rw [HS0.out]; exact Nat.lt_succ_self _) |>.trans HR0.out)
     have HBE:=hid (HB0.out.trans (hbel.mono (by rw [HS0.out]; exact Nat.le_succ _)))
     clear hW hbel e64 ht ht64 ht16
     have HRE:=hid (setRow_heap wB w.heap.size _ (u32s X) 178 (0,0) HR1.out)
     have HBR:=hid (below_setRow HBE.out (Nat.le_refl _) (u32s X))
     go_wp2_with (first | (refine wpList_load_row (by rfl) 178 (.tmp 3) (by rfl) w1.heap.size (by rfl) 178 (u32s X) (0,0) _ HW.out Tryz.underlying178 rfl (by rw [HXL.out]; exact info64) ?_) | (refine wpList_store_row (by rfl) 178 (.tmp 2) (.tmp 88) (by rfl) w.heap.size (u32s X) (by rfl) (by rfl) 178 (u32s zs) HR1.out (by rw [HXL.out]; exact info64) (by rw [HXL.out,HZL.out]) (u32s_one X) ?_))
     exact bodyPost_ret (results_row0 rfl _ _ w.heap.size 178 _ (0,0) _ rfl HRE.out Tryz.underlying178 rfl (by rw [HXL.out]; exact info64)) rfl ⟨rfl,HBR.out⟩
theorem wpList_newrow {ops:Array Oper} {rest:List Oper} {o:Oper} {a:Act} {w2:World} {Q:Exit→Act→World→Prop} (hgd:o.guard = none) (T:TypeId) (x y:Operand) (ho:o.op = .store T x y)
  {cs old:Array Value} (hx:a.eval x = .pointer (some ⟨w2.heap.size,0,none⟩)) (hy:a.eval y = .agg cs) (hi:(Tryz.prog.info? T).map (·.size) = some cs.size) (hold:old.size = cs.size) (hone:cs.all (·.oneCell') = true)
  (h:wpList Tryz.prog ops Q rest (a.put o.dst undef) (w2.alloc (.cells cs T))):wpList Tryz.prog ops Q (o :: rest) a (w2.alloc (.cells old T)):=by
 refine wpList_store_row hgd T x y ho w2.heap.size cs hx hy T old (heap_alloc_new w2 _) hi hold hone ?_
 rw [stored1]
 exact h
theorem zero_8:∃ zs:List Nat,zs.length = 8∧(#[.int .u32 0,.int .u32 0,.int .u32 0,.int .u32 0,.int .u32 0,.int .u32 0,.int .u32 0,.int .u32 0]:Array Value) = u32s zs:=⟨List.replicate 8 0,rfl,by kernel_rfl⟩
theorem add_comm_st (s v:St):v.add s = s.add v:=by
 simp only [St.add,Nat.add_comm]
theorem row8 (S:St) {z0 z1 z2 z3 z4 z5 z6 z7:Int} (h0:z0 = (S.a:Int)) (h1:z1 = (S.b:Int)) (h2:z2 = (S.c:Int)) (h3:z3 = (S.d:Int)) (h4:z4 = (S.e:Int)) (h5:z5 = (S.f:Int)) (h6:z6 = (S.g:Int)) (h7:z7 = (S.h:Int)) :
  (#[.int .u32 z0,.int .u32 z1,.int .u32 z2,.int .u32 z3,.int .u32 z4,.int .u32 z5,.int .u32 z6,.int .u32 z7]:Array Value) = u32s (stL S):=by
 subst h0 h1 h2 h3 h4 h5 h6 h7
 rfl
theorem one8 (z0 z1 z2 z3 z4 z5 z6 z7:Int):(#[.int .u32 z0,.int .u32 z1,.int .u32 z2,.int .u32 z3,.int .u32 z4,.int .u32 z5,.int .u32 z6,.int .u32 z7]:Array Value).all (·.oneCell') = true:=by
 rw [List.all_toArray]
 rfl
theorem mix_add (s v:St):mix (stL v) (stL s) 8 = stL (s.add v):=by rw [← add_comm_st]; rfl
theorem mix_zero:∀ (l m:List Nat),l.length = 8→mix l m 0 = l
 | [_,_,_,_,_,_,_,_],_,_=>rfl
theorem stL_len (s:St):(stL s).length = 8:=rfl
theorem stL_size (s:St):(u32s (stL s)).size = 8:=by rw [u32s_size]; rfl
set_option maxHeartbeats 4000000 in
set_option maxRecDepth 100000 in
theorem rblock_any (s:St) (l:List UInt8) (ks:List Nat) (b o c:Nat) (w:World) (hs:s.Ok) (hl:l.length = 64) (hks:ks = shaK) (hb:w.rangeAt b o (byteCells l)) :
  Calls Tryz.prog 106 #[.agg (u32s (stL s)),.slice (some ⟨b,o,none⟩) 64 c,.agg (u32s ks)] w fun e w'=>e = .returned (.agg (u32s (stL (s.block l))))∧Below w.heap.size w w':=by
 obtain ⟨Y,hY⟩:∃ Y,s.block l = Y:=⟨_,rfl⟩
 rw [hY]
 obtain ⟨X,hX⟩:∃ X,sched l 48 = X:=⟨_,rfl⟩
 have hXl:X.length = 64:=by rw [← hX]; exact sched_len l hl 48
 have HYX:=hid (show s.add (s.run X 64) = Y by rw [← hY,← hX]; rfl)
 have HXL:=hid hXl
 have HXS:=hid (show (u32s X).size = 64 by rw [u32s_size]; exact hXl)
 have HKL:=hid (show ks.length = 64 by rw [hks]; rfl)
 have HKS:=hid hks
 obtain ⟨zs,hzs,hz8⟩:=zero_8
 obtain ⟨zt,hzt,hz64⟩:=zero_64
 have HZ8:=hid (show (u32s zs).size = 8 by rw [u32s_size]; exact hzs)
 have HZ64:=hid (show (u32s zt).size = 64 by rw [u32s_size,hzt]; rfl)
 obtain ⟨hA,hB,hC,hsz,hb3⟩:=three_blocks w (u32s (stL s)) (u32s ks) (u32s zs) 180 178 180
 have HS:=hid hs
 have HL:=hid hl
 have HX:=hid hX
 have HB:=hid (range_below hb3 hb)
 have hsS:=stL_size s
 have hsK:(u32s ks).size = 64:=by rw [u32s_size,HKL.out]
 have HSS:=hid hsS
 have HSK:=hid hsK
 clear hs hl hb hX hY hXl hks hzs hzt hsS hsK
 go_enter Tryz.func106,Tryz.ntmps106
 go_upto_region 1 with fail
 generalize ((w.alloc (.cells (u32s (stL s)) 180)).alloc (.cells (u32s ks) 178)).alloc (.cells (u32s zs) 180) = w3 at *
 have HA:=hid hA
 have HBK:=hid hB
 have HC:=hid hC
 have HSZ:=hid hsz
 have HB3:=hid hb3
 clear hA hB hC hsz hb3
 have hq:=sched_any l b o c w3 HL.out HB.out
 rw [HX.out] at hq
 have HQ:=hid hq
 clear hq
 go_wp2_with (go_at_call 134; refine HQ.out.mono ?_)
 first
  | rintro e w4 rfl hb4
  | rintro e w4 ⟨rfl,hb4⟩
 have hA4:=below_heap hb4 HA.out
 have hK4:=below_heap hb4 HBK.out
 have hC4:=below_heap hb4 HC.out
 have b5:=below_one w4 (.cells (u32s X) 178)
 have hA5:=below_heap b5 hA4
 have HA5:=hid hA5
 have HK5:=hid (below_heap b5 hK4)
 have HC5:=hid (below_heap b5 hC4)
 have HX5:=hid (heap_one w4 (.cells (u32s X) 178))
 have HB5:=hid ((HB3.out.trans (hb4.mono HB3.out.size)).trans (b5.mono (Nat.le_trans HB3.out.size hb4.size)))
 clear hA4 hK4 hC4 hb4 b5
 go_upto_region 2 with (refine wpList_newrow (by rfl) 178 (.tmp 7) (.tmp 14) (by rfl) (by rfl) (by rfl) (by rw [HXS.out]; exact info64) (by rw [HXS.out,HZ64.out]) (u32s_one X) ?_)
 generalize (w4.alloc (.cells (u32s X) 178)) = w5 at *
 clear hA5 hz64
 have HV6:=hid (heap_one w5 (.cells (u32s (stL s)) 180))
 have b6:=below_one w5 (.cells (u32s (stL s)) 180)
 have HA6:=hid (below_heap b6 HA5.out)
 have HK6:=hid (below_heap b6 HK5.out)
 have HC6:=hid (below_heap b6 HC5.out)
 have HX6:=hid (below_heap b6 HX5.out)
 have HB6:=hid (HB5.out.trans (b6.mono HB5.out.size))
 have HL5:=hid (show w4.heap.size < w5.heap.size from lt_of_heap HX5.out)
 have HL3:=hid (show w.heap.size + 1 + 1 < w5.heap.size from lt_of_heap HC5.out)
 clear b6
 go_upto_region 3 with (first | (refine wpList_load_row (by rfl) 180 (.tmp 3) (by rfl) w.heap.size (by rfl) 180 (u32s (stL s)) (0,0) _ HA5.out Tryz.underlying180 rfl (by rw [HSS.out]; exact info8) ?_) | (refine wpList_newrow (by rfl) 180 (.tmp 8) (.tmp 15) (by rfl) (by rfl) (by rfl) (by rw [HSS.out]; exact info8) (by rw [HSS.out,HZ8.out]) (u32s_one (stL s)) ?_))
 generalize (w5.alloc (.cells (u32s (stL s)) 180)) = w6 at *
 clear hz8
 generalize hg8:w5.heap.size = g8 at *
 generalize hg7:w4.heap.size = g7 at *
 clear hg8 hg7
 go_wp2_with fail
 go_loopw [9] (fun vt wr=>∃ t:Nat,t ≤ 64∧vt = .int .i64 (t:Int)∧wr.heap[g8]? = some (.cells (u32s (stL (s.run X t))) 180)∧Below g8 w6 wr) (fun vt _=>64 - (intOf vt).toNat)
 case atStart=>exact ⟨0,by omega,rfl,HV6.out,Below.refl _ _⟩
 case round=>
  obtain ⟨t,ht,rfl,hV,hbel⟩:=hrel
  rename World=>wC
  by_cases ht64:t < 64
  ·have t1:(t:Int) < 64:=by omega
   have t00:(0:Int) ≤ (t:Int):=by omega
   have hok:=HS.out.run X t
   have HRN:=hid (show s.run X (t + 1) = (s.run X t).rnd (shaK.getD t 0) (X.getD t 0) from rfl)
   generalize s.run X t = v at *
   obtain ⟨va,vb,vc,vd,ve,vf,vg,vh⟩:=v
   obtain ⟨ha,hb,hc,hd,he,hf,hg,hh⟩:=hok
   simp only at ha hb hc hd he hf hg hh
   have c0:=cell_of hV 0 (v:=.int .u32 (va:Int)) rfl
   have c1:=cell_of hV 1 (v:=.int .u32 (vb:Int)) rfl
   have c2:=cell_of hV 2 (v:=.int .u32 (vc:Int)) rfl
   have c3:=cell_of hV 3 (v:=.int .u32 (vd:Int)) rfl
   have c4:=cell_of hV 4 (v:=.int .u32 (ve:Int)) rfl
   have c5:=cell_of hV 5 (v:=.int .u32 (vf:Int)) rfl
   have c6:=cell_of hV 6 (v:=.int .u32 (vg:Int)) rfl
   have c7:=cell_of hV 7 (v:=.int .u32 (vh:Int)) rfl
   have kk:=cell_of ((hbel.block (w.heap.size + 1) (by have:=HL3.out; omega)).trans HK6.out) t (u32s_get ks t (x:=shaK.getD t 0) (by rw [HKS.out]; exact shaK_get ht64))
   have kw:=cell_of ((hbel.block g7 HL5.out).trans HX6.out) t (u32s_get X t (x:=X.getD t 0) (by
    have h:=HXL.out
    rw [List.getD_eq_getElem?_getD,List.getElem?_eq_getElem (by omega)]
    rfl))
   generalize X.getD t 0 = W at *
   generalize shaK.getD t 0 = K at *
   have HV:=hid hV
   have HBC:=hid hbel
   have hNC:=lt_of_cell kw
   have hTC:=lt_of_cell kk
   have hVC:=lt_of_cell c0
   clear hbel hV
   have hx:(if IntKind.u32.signed = true then (-1:Int) else IntKind.u32.max) = 4294967295:=rfl
   have g1:=bg1_bits he
   have g0:=bg0_bits ha
   have gc:=ch_bits he hf hg
   have gm:=mj_bits ha hb hc
   go_wp2_with fail
   refine wp_region_quiet_lit (by kernel_rfl) (by as_aux_lemma=>kernel_rfl) ?_
   repeat (go_big_quiet_step (fail))
   go_big_quiet_step ((go_at_call 135; exact Calls.quiet_of (rturn_at ve 6 6 rfl he (by decide) (by decide) _)))
   repeat (go_big_quiet_step (fail))
   go_big_quiet_step ((go_at_call 135; exact Calls.quiet_of (rturn_at ve 11 11 rfl he (by decide) (by decide) _)))
   repeat (go_big_quiet_step (fail))
   go_big_quiet_step ((go_at_call 135; exact Calls.quiet_of (rturn_at ve 25 25 rfl he (by decide) (by decide) _)))
   repeat (go_big_quiet_step (fail))
   refine wpQuiet_nil ?_
   intro _ hw'
   obtain ⟨n2,hw''⟩:=hw'
   subst hw''
   go_wp2_with fail
   refine wp_region_quiet_lit (by kernel_rfl) (by as_aux_lemma=>kernel_rfl) ?_
   repeat (go_big_quiet_step (fail))
   go_big_quiet_step ((go_at_call 135; first | exact quiet_add (rturn_at va 2 2 rfl ha (by decide) (by decide) _) | exact Calls.quiet_of (rturn_at va 2 2 rfl ha (by decide) (by decide) _)))
   repeat (go_big_quiet_step (fail))
   go_big_quiet_step ((go_at_call 135; first | exact quiet_add (rturn_at va 13 13 rfl ha (by decide) (by decide) _) | exact Calls.quiet_of (rturn_at va 13 13 rfl ha (by decide) (by decide) _)))
   repeat (go_big_quiet_step (fail))
   go_big_quiet_step ((go_at_call 135; first | exact quiet_add (rturn_at va 22 22 rfl ha (by decide) (by decide) _) | exact Calls.quiet_of (rturn_at va 22 22 rfl ha (by decide) (by decide) _)))
   repeat (go_big_quiet_step (fail))
   refine wpQuiet_nil ?_
   intro _ hw'
   obtain ⟨n3,hw''⟩:=hw'
   subst hw''
   go_wp2_with (refine wpList_store_row (by rfl) 180 (.tmp 8) (.tmp 103) (by rfl) g8 _ (by rfl) (by rfl) 180 (u32s (stL ⟨va,vb,vc,vd,ve,vf,vg,vh⟩)) HV.out (by exact info8) (by rw [stL_size]; rfl) (one8 _ _ _ _ _ _ _ _) ?_)
   go_roundw
   case rel=>
    refine ⟨t + 1,by omega,by go_num,?_,below_setRow (belowN HBC.out _) (Nat.le_refl _) _⟩
    refine (setRow_heap _ g8 _ _ 180 (0,0) HV.out).trans ?_
    rw [HRN.out]
    refine congrArg (fun z=>some (Obj.cells z 180 (0,0))) (row8 _ ?_ rfl rfl rfl ?_ rfl rfl rfl)
    ·simp only [St.rnd]
     omega
    ·simp only [St.rnd]
     omega
   case measure=>simp [intOf]; omega
  ·obtain rfl:t = 64:=by omega
   have t1:¬ ((64:Nat):Int) < 64:=by decide
   have hyx:=HYX.out
   generalize s.run X 64 = V at *
   have HAD:=hid (show mix (stL V) (stL s) 8 = stL Y by rw [mix_add,hyx])
   have HBC:=hid hbel
   have HM0:=hid (show wC.heap[g8]? = some (.cells (u32s (mix (stL V) (stL s) 0)) 180) by rw [mix_zero _ _ (stL_len V)]; exact hV)
   clear hV hbel ht ht64 hyx HYX
   go_wp2_with fail
   go_loopw [12] (fun vt wr=>∃ i:Nat,i ≤ 8∧vt = .int .i64 (i:Int)∧wr.heap[g8]? = some (.cells (u32s (mix (stL V) (stL s) i)) 180)∧Below g8 w6 wr) (fun vt _=>8 - (intOf vt).toNat)
   case atStart=>exact ⟨0,by omega,rfl,HM0.out,HBC.out⟩
   case round=>
    obtain ⟨i,hi,rfl,hM,hO⟩:=hrel
    rename World=>wD
    by_cases hi8:i < 8
    ·have i1:(i:Int) < 8:=by omega
     have i0:(0:Int) ≤ (i:Int):=by omega
     have ck:=cell_of hM i (u32s_get _ _ (mix_get (stL V) (stL s) hi8))
     have ch:=cell_of ((hO.block w.heap.size (by have:=HL3.out; omega)).trans HA6.out) i (u32s_get _ _ (stL_get s i hi8))
     have fk:=frozen_row hM i
     have lk:=lt_of_heap hM
     have lh:=lt_of_cell ch
     have HMS:=hid (mix_set (stL V) (stL s) hi8)
     have HMM:=hid hM
     have HOO:=hid hO
     clear hM hO HM0 HAD
     generalize (stL V).getD i 0 = x at *
     generalize (stL s).getD i 0 = y at *
     go_wp2_with fail
     go_still_tail 9,(by kernel_rfl)
     go_wp2_with fail
     go_roundw
     case rel=>
      have h:=set_heapS (i:=i) (u:=.int .u32 (((x + y) % 4294967296:Nat):Int)) HMM.out
      rw [u32s_set,HMS.out] at h
      refine ⟨i + 1,by omega,by go_num,?_,(HOO.out.setCell (p:=⟨g8,i,none⟩) (Nat.le_refl _) _).drew⟩
      rw [addM]
      exact h
     case measure=>simp [intOf]; omega
    ·obtain rfl:i = 8:=by omega
     have i1:¬ ((8:Nat):Int) < 8:=by decide
     rw [HAD.out] at hM
     have HMM:=hid hM
     have HC7:=hid ((hO.block (w.heap.size + 1 + 1) (by have:=HL3.out; omega)).trans HC6.out)
     have HBE:=hid (HB6.out.trans (hO.mono (by have:=HL3.out; omega)))
     have HYS:=hid (stL_size Y)
     have HRE:=hid (setRow_heap wD (w.heap.size + 1 + 1) _ (u32s (stL Y)) 180 (0,0) HC7.out)
     have HBR:=hid (below_setRow HBE.out (show w.heap.size ≤ w.heap.size + 1 + 1 by omega) (u32s (stL Y)))
     clear hM hO HM0 HAD
     go_wp2_with (first | (refine wpList_load_row (by rfl) 180 (.tmp 8) (by rfl) g8 (by rfl) 180 (u32s (stL Y)) (0,0) _ HMM.out Tryz.underlying180 rfl (by rw [HYS.out]; exact info8) ?_) | (refine wpList_store_row (by rfl) 180 (.tmp 6) (.tmp 117) (by rfl) (w.heap.size + 1 + 1) (u32s (stL Y)) (by rfl) (by rfl) 180 (u32s zs) HC7.out (by rw [HYS.out]; exact info8) (by rw [HYS.out,HZ8.out]) (u32s_one _) ?_))
     exact bodyPost_ret (results_row0 rfl _ _ (w.heap.size + 1 + 1) 180 _ (0,0) _ rfl HRE.out Tryz.underlying180 rfl (by rw [HYS.out]; exact info8)) rfl ⟨rfl,HBR.out⟩
def BytesAt (B:Nat) (w:World) (v:Value) (l:List UInt8):Prop:=
 ∃ g cap,v = .slice (some ⟨g,0,none⟩) l.length cap∧B ≤ g∧g < w.heap.size∧l.length ≤ cap∧w.rangeAt g 0 (byteCells l)∧w.there g 0 cap
theorem BytesAt.below {B:Nat} {w w':World} {v:Value} {l:List UInt8} (h:BytesAt B w v l) (hb:Below w.heap.size w w'):BytesAt B w' v l:=by
 obtain ⟨g,cap,rfl,hB,hg,hc,hr,ht⟩:=h
 exact ⟨g,cap,rfl,hB,Nat.lt_of_lt_of_le hg hb.size,hc,range_below hb hr,there_heap ht (hb.block g hg)⟩
theorem infoU8:(Tryz.prog.info? 5).map (fun i=>(i.zero,i.size,i.bytes)) = some (some (.int .u8 0),1,1):=by kernel_rfl
theorem there_rowR {w:World} {g n lo hi:Nat} {cs:Array Value} {t:TypeId} (h:w.heap[g]? = some (.cells cs t (lo,hi))) (hn:n ≤ cs.size) (hlo:n ≤ lo ∨ hi ≤ lo):w.there g 0 n:=fun j hj=>by
 rw [Nat.zero_add]
 constructor
 ·unfold World.cell?
  simp only [h]
  rw [Array.getElem?_eq_getElem (show j < cs.size by omega)]
  rfl
 ·unfold World.frozen?
  simp only [h]
  simp
  omega
theorem bytes_conv (w:World) (s:ByteArray):BytesAt w.heap.size (Lib.bytesWorld w 5 s) (.slice (some ⟨w.heap.size,0,none⟩) s.size (grownCap w s.size 0 5)) s.data.toList:=by
 have hge:=grownCap_ge w s.size 0 5
 have hsz:s.data.toList.length = s.size:=Array.length_toList
 have hrow:=Lib.bytesWorld_at_new w 5 s
 have hcs:(Lib.bytesCells w 5 s).size = grownCap w s.size 0 5:=by
  have e:s.data.size = s.size:=rfl
  unfold Lib.bytesCells
  rw [Array.size_append,Array.size_map,Array.size_replicate,e]
  omega
 refine ⟨w.heap.size,_,by rw [hsz],Nat.le_refl _,by rw [Lib.bytesWorld_size]; omega,by omega,fun j v hv=>?_,there_rowR hrow (by omega) (.inl (by omega))⟩
 rw [Nat.zero_add]
 exact cell_of hrow j (bytesCells_at w 5 s j v hv)
set_option maxHeartbeats 1000000 in
theorem bytes_push {B:Nat} {W:World} {v:Value} {l:List UInt8} (h:BytesAt B W v l) (ad:Addr) (c:UInt8) (hnew:W.cell? ad = some (.int .u8 (c.toNat:Int))) (hlen:l.length + 1 ≤ 70368744177664) (hBW:B ≤ W.heap.size) (ty:TypeId) :
  ∃ v' W',(Builtin.append_ #[117,117] ty #[v,.slice (some ad) 1 1]).run Tryz.prog W = .ok v' W'∧BytesAt B W' v' (l ++ [c])∧Below B W W':=by
 obtain ⟨i0,hi,hz⟩:=Option.map_eq_some_iff.1 infoU8
 simp only [Prod.mk.injEq] at hz
 obtain ⟨hz0,hz1,hz2⟩:=hz
 obtain ⟨g,cap,rfl,hB,hg,hc,hr,ht⟩:=h
 have hnews:∀ j u,[Value.int .u8 (c.toNat:Int)][j]? = some u→W.cell? (ad.add j) = some u:=fun j u hj=>by
  match j,hj with
  | 0,hj=>simp at hj; subst hj; simpa [Addr.add] using hnew
 have h1:∀ u ∈ [Value.int .u8 (c.toNat:Int)],u.oneCell' = true:=by intro u hu; simp at hu; subst hu; rfl
 have hbc:byteCells (l ++ [c]) = byteCells l ++ [Value.int .u8 (c.toNat:Int)]:=by simp [byteCells]
 have hbl:(byteCells l).length = l.length:=Lib.byteCells_length l
 by_cases hroom:l.length + 1 ≤ cap
 ·have hrun:=run_append_room_cells (P:=Tryz.prog) W 117 ty 5 i0 Tryz.underlying117 hi g 0 l.length cap ad 1 1 [Value.int .u8 (c.toNat:Int)] (by rw [hz1]; rfl) hnews h1 hroom (fun j hj=>by
    rw [hz1,Nat.mul_one,Nat.zero_add]
    have:=ht (l.length + j) (by simp at hj; omega)
    rw [Nat.zero_add] at this
    exact this.1) (fun j hj=>by
    rw [hz1,Nat.mul_one,Nat.zero_add]
    have:=ht (l.length + j) (by simp at hj; omega)
    rw [Nat.zero_add] at this
    exact this.2)
  rw [hz1,Nat.mul_one,Nat.zero_add] at hrun
  refine ⟨_,_,hrun,⟨g,cap,by simp,hB,?_,by simp; omega,?_,World.there_setCells ht g l.length _⟩,below_setCells hB _ _ _ (Below.refl _ _)⟩
  ·exact Nat.lt_of_lt_of_le hg (below_setCells (B:=0) (Nat.zero_le g) [Value.int .u8 (c.toNat:Int)] l.length W (Below.refl _ _)).size
  ·rw [hbc]
   refine range_app ?_ ?_
   ·exact World.rangeAt_setCells_apart hr _ _ _ (.inr (.inl (by rw [hbl]; omega)))
   ·rw [hbl,Nat.zero_add]
    refine World.rangeAt_setCells_same _ _ _ _ (fun j hj=>?_)
    have:=ht (l.length + j) (by simp at hj; omega)
    rwa [Nat.zero_add] at this
 ·have hrun:=run_append_grow (P:=Tryz.prog) W 117 ty 5 i0 (.int .u8 0) Tryz.underlying117 hi hz0 ⟨g,0,none⟩ l.length cap (byteCells l) (by rw [hz1,hbl,Nat.mul_one]) (fun j u hj=>by
    rw [Addr.add_mid]
    exact hr j u hj) ad 1 1 [Value.int .u8 (c.toNat:Int)] (by rw [hz1]; rfl) hnews (by omega) (by omega) (growslice_fits (by omega) (by rw [hz2]; omega))
  have hge:=grownCap_ge W (l.length + 1) cap 5
  have hbW:Below W.heap.size W (W.drew.alloc (.cells ((byteCells l).toArray ++ [Value.int .u8 (c.toNat:Int)].toArray ++ Builtin.zeroCells (Value.int .u8 0).cells (grownCap W (l.length + 1) cap 5 - (l.length + 1))) 5)):=(Below.refl _ W).drew.alloc (Nat.le_refl _) _
  have hrow:=heap_alloc_new W.drew (.cells ((byteCells l).toArray ++ [Value.int .u8 (c.toNat:Int)].toArray ++ Builtin.zeroCells (Value.int .u8 0).cells (grownCap W (l.length + 1) cap 5 - (l.length + 1))) 5)
  have hsz:((byteCells l).toArray ++ [Value.int .u8 (c.toNat:Int)].toArray ++ Builtin.zeroCells (Value.int .u8 0).cells (grownCap W (l.length + 1) cap 5 - (l.length + 1))).size = grownCap W (l.length + 1) cap 5:=by
   simp only [Array.size_append,List.size_toArray,hbl,Builtin.zeroCells]
   simp [Value.cells]
   omega
  refine ⟨_,_,hrun,⟨W.heap.size,grownCap W (l.length + 1) cap 5,by rw [List.length_append]; rfl,hBW,lt_of_heap hrow,by rw [List.length_append]; exact hge,fun j u hj=>?_,there_rowR (lo:=0) (hi:=0) hrow (by rw [hsz]; exact Nat.le_refl _) (.inr (Nat.le_refl _))⟩,hbW.mono hBW⟩
  ·rw [Nat.zero_add]
   refine cell_of hrow j ?_
   rw [hbc] at hj
   rw [Array.getElem?_append_left (by have:=(List.getElem?_eq_some_iff.1 hj).1; simp [hbl] at this ⊢; omega)]
   simpa using hj
theorem wpList_push {ops:Array Oper} {rest:List Oper} {o:Oper} {a:Act} {Q:Exit→Act→World→Prop} {W:World} (hgd:o.guard = none) (s x:Operand)
  (ho:o.op = .call { callee:=.builtin .append,args:=#[s,x],argTypes:=#[117,117] }) {B:Nat} {v:Value} {l:List UInt8} (hs:a.eval s = v) (hv:BytesAt B W v l)
  (ad:Addr) (c:UInt8) (hx:a.eval x = .slice (some ad) 1 1) (hnew:W.cell? ad = some (.int .u8 (c.toNat:Int))) (hlen:l.length + 1 ≤ 70368744177664) (hBW:B ≤ W.heap.size)
  (h:∀ v' W',BytesAt B W' v' (l ++ [c])→Below B W W'→wpList Tryz.prog ops Q rest (a.put o.dst v') W'):wpList Tryz.prog ops Q (o :: rest) a W:=
 wpList_plain hgd fun K hK=>by
  obtain ⟨v',W',hrun,h2,h3⟩:=bytes_push hv ad c hnew hlen hBW o.type
  unfold Oper.wp execOp
  simp only [ho,resolve,invoke,builtin,Sem.run_bind,Sem.run_pure,Result.andThen_ok,List.map_toArray,List.map_cons,List.map_nil,hs,hx,hrun]
  exact hK _ _ (h v' W' h2 h3)
theorem wpList_run {ops:Array Oper} {rest:List Oper} {o:Oper} {a:Act} {Q:Exit→Act→World→Prop} {W:World} (hgd:o.guard = none) (_:∃ T p,o.op = .build T p) (v:Value) (hr:∀ w,(execOp a.eval o).run Tryz.prog w = .ok (.value v) w)
  (h:wpList Tryz.prog ops Q rest (a.put o.dst v) W):wpList Tryz.prog ops Q (o :: rest) a W:=
 wpList_plain hgd fun K hK=>by
  unfold Oper.wp
  rw [hr]
  exact hK _ _ h
theorem BytesAt.form {B:Nat} {w:World} {v:Value} {l:List UInt8} (h:BytesAt B w v l):∃ g cap,v = .slice (some ⟨g,0,none⟩) l.length cap:=by
 obtain ⟨g,cap,rfl,_⟩:=h
 exact ⟨g,cap,rfl⟩
theorem wpList_pushN {ops:Array Oper} {rest:List Oper} {o:Oper} {a:Act} {Q:Exit→Act→World→Prop} {W:World} (hgd:o.guard = none) (s x:Operand)
  (ho:o.op = .call { callee:=.builtin .append,args:=#[s,x],argTypes:=#[117,117] }) {B:Nat} {v:Value} {l:List UInt8} (hs:a.eval s = v) (hv:BytesAt B W v l)
  (y:Int) (n:Nat) (hx:a.eval x = .slice (some ⟨W.heap.size,0,none⟩) 1 1) (hn:l.length = n) (hy:0 ≤ y∧y ≤ 255) (hlen:n + 1 ≤ 70368744177664) (hBW:B ≤ W.heap.size)
  (h:∀ g cap W',BytesAt B W' (.slice (some ⟨g,0,none⟩) (n + 1) cap) (l ++ [UInt8.ofNat y.toNat])→Below B W W'→wpList Tryz.prog ops Q rest (a.put o.dst (.slice (some ⟨g,0,none⟩) (n + 1) cap)) W') :
  wpList Tryz.prog ops Q (o :: rest) a (W.alloc (.cells #[.int .u8 y] 5)):=by
 have e:((UInt8.ofNat y.toNat).toNat:Int) = y:=by
  rw [UInt8.toNat_ofNat',Nat.mod_eq_of_lt (by omega)]
  omega
 subst hn
 refine wpList_push hgd s x ho hs (hv.below (below_one W _)) ⟨W.heap.size,0,none⟩ (UInt8.ofNat y.toNat) hx (by rw [e]; exact cell_of (heap_one W _) 0 rfl) hlen (Nat.le_trans hBW (by simp)) (fun v' W' h1 h2=>?_)
 obtain ⟨g,cap,rfl⟩:=h1.form
 rw [List.length_append] at h1 ⊢
 exact h g cap W' h1 (((Below.refl _ W).alloc hBW _).trans h2)
def PadRel (w:World) (n:Nat) (l:List UInt8) (v:Value) (wr:World):Prop:=∃ g cap,v = .slice (some ⟨g,0,none⟩) n cap∧BytesAt w.heap.size wr (.slice (some ⟨g,0,none⟩) n cap) l∧Below w.heap.size w wr
set_option maxHeartbeats 4000000 in
set_option maxRecDepth 100000 in
theorem rtable_any (w:World):Calls Tryz.prog 104 #[] w fun e w'=>e = .returned (.agg (u32s shaK))∧Below w.heap.size w w':=by
 obtain ⟨zt,hzt,hz64⟩:=zero_64
 have HZ64:=hid (show (u32s zt).size = 64 by rw [u32s_size,hzt]; rfl)
 have HSZ:=hid (show (u32s shaK).size = 64 by rw [u32s_size]; rfl)
 clear hzt
 go_enter Tryz.func104,Tryz.ntmps104
 go_upto_region 1 with fail
 have HR:=hid (setRow_heap (w.alloc (.cells (u32s zt) 178)) w.heap.size _ (u32s shaK) 178 (0,0) (heap_one w _))
 have HB:=hid (below_setRow (below_one w (.cells (u32s zt) 178)) (Nat.le_refl _) (u32s shaK))
 have HO:=hid (heap_one w (.cells (u32s zt) 178))
 go_wp2_with (first | (refine wpList_run (by rfl) ⟨_,_,rfl⟩ (.agg (u32s shaK)) (fun w=>by kernel_rfl) ?_) | (refine wpList_store_row (by rfl) 178 (.tmp 0) (.tmp 1) (by rfl) w.heap.size (u32s shaK) (by rfl) (by rfl) 178 (u32s zt) HO.out (by rw [HSZ.out]; exact info64) (by rw [HSZ.out,HZ64.out]) (u32s_one shaK) ?_))
 exact bodyPost_ret (results_row0 rfl _ _ w.heap.size 178 _ (0,0) _ rfl HR.out Tryz.underlying178 rfl (by rw [HSZ.out]; exact info64)) rfl ⟨rfl,HB.out⟩
set_option maxHeartbeats 4000000 in
set_option maxRecDepth 100000 in
theorem rstart_any (w:World):Calls Tryz.prog 105 #[] w fun e w'=>e = .returned (.agg (u32s (stL St.start)))∧Below w.heap.size w w':=by
 obtain ⟨zt,hzt,hz64⟩:=zero_8
 have HZ64:=hid (show (u32s zt).size = 8 by rw [u32s_size,hzt])
 have HSZ:=hid (stL_size St.start)
 clear hzt
 go_enter Tryz.func105,Tryz.ntmps105
 go_upto_region 1 with fail
 have HR:=hid (setRow_heap (w.alloc (.cells (u32s zt) 180)) w.heap.size _ (u32s (stL St.start)) 180 (0,0) (heap_one w _))
 have HB:=hid (below_setRow (below_one w (.cells (u32s zt) 180)) (Nat.le_refl _) (u32s (stL St.start)))
 have HO:=hid (heap_one w (.cells (u32s zt) 180))
 go_wp2_with (first | (refine wpList_run (by rfl) ⟨_,_,rfl⟩ (.agg (u32s (stL St.start))) (fun w=>by kernel_rfl) ?_) | (refine wpList_store_row (by rfl) 180 (.tmp 0) (.tmp 1) (by rfl) w.heap.size (u32s (stL St.start)) (by rfl) (by rfl) 180 (u32s zt) HO.out (by rw [HSZ.out]; exact info8) (by rw [HSZ.out,HZ64.out]) (u32s_one (stL St.start)) ?_))
 exact bodyPost_ret (results_row0 rfl _ _ w.heap.size 180 _ (0,0) _ rfl HR.out Tryz.underlying180 rfl (by rw [HSZ.out]; exact info8)) rfl ⟨rfl,HB.out⟩
set_option maxHeartbeats 4000000 in
set_option maxRecDepth 100000 in
theorem rpadded_any (s:ByteArray) (w:World) (hs:s.size ≤ 35184372088832) :
  Calls Tryz.prog 103 #[.string s] w fun e w'=>∃ g cap,e = .returned (.slice (some ⟨g,0,none⟩) (padL s.data.toList).length cap)∧BytesAt w.heap.size w' (.slice (some ⟨g,0,none⟩) (padL s.data.toList).length cap) (padL s.data.toList)∧Below w.heap.size w w':=by
 have hcv:=Lib.run_convert_string_bytes (P:=Tryz.prog) w 9 117 5 s Tryz.underlying9 Tryz.underlying117 Tryz.underlying5
 have hbw:=bytes_belowH (Below.refl w.heap.size w) 5 s
 have hby:=bytes_conv w s
 obtain ⟨m,hm⟩:∃ m,s.data.toList = m:=⟨_,rfl⟩
 have hml:m.length = s.size:=by rw [← hm]; exact Array.length_toList
 rw [hm] at hby ⊢
 generalize Lib.bytesWorld w 5 s = wB at *
 generalize grownCap w s.size 0 5 = C at *
 rw [← hml] at hby hcv
 have HBY:=hid hby
 have HBW:=hid hbw
 obtain ⟨zn,hzn⟩:∃ zn,zerosN m.length = zn:=⟨_,rfl⟩
 have hz1:zn = (119 - m.length % 64) % 64:=by rw [← hzn]; rfl
 have HZ1:=hid hz1
 have HPD:=hid (show padL m = m ++ 128 :: List.replicate zn 0 ++ lenBytes m.length by unfold padL tailOf; rw [hzn,List.append_assoc]; rfl)
 obtain ⟨nb,hnb⟩:∃ nb,m.length * 8 % 18446744073709551616 = nb:=⟨_,rfl⟩
 have HNB:=hid hnb
 have HNI:=hid (show (nb:Int) = (m.length:Int) * 8 by omega)
 have HML:=hid hml
 have hml2:m.length ≤ 35184372088832:=by omega
 have hsz:(s.size:Int) = (m.length:Int):=by omega
 clear hby hbw hzn hz1 hnb hm hml
 go_enter Tryz.func103,Tryz.ntmps103
 go_wp2_with (refine wpList_pushN (by rfl) (.tmp 8) (.tmp 9) (by rfl) (by rfl) HBY.out 128 m.length (by rfl) rfl (by decide) (by omega) HBW.out.size ?_)
 intro g0 cap0 W0 h1 h2
 have HR0:=hid (show PadRel w (m.length + 1 + 0) (m ++ 128 :: List.replicate 0 0) (.slice (some ⟨g0,0,none⟩) (m.length + 1) cap0) W0 from ⟨g0,cap0,rfl,h1,HBW.out.trans h2⟩)
 clear h1 h2 hcv
 go_wp2_with fail
 go_loopw [3] (fun v wr=>∃ k:Nat,k ≤ zn∧PadRel w (m.length + 1 + k) (m ++ 128 :: List.replicate k 0) v wr) (fun v _=>m.length + 65 - sliceLen v)
 case atStart=>exact ⟨0,Nat.zero_le _,HR0.out⟩
 case round=>
  obtain ⟨k,hk,g1,cap1,rfl,hby1,hbel1⟩:=hrel
  rename World=>wA
  have HB1:=hid hby1
  have HE1:=hid hbel1
  clear hby1 hbel1 HR0
  by_cases hkz:k < zn
  ·have hnei:¬ ((m.length:Int) + 1 + (k:Int)) % 64 = 56:=by have:=HZ1.out; omega
   have hn0:(0:Int) ≤ (m.length:Int) + 1 + (k:Int):=by omega
   have HZK:=hid (show k < 64 by have:=HZ1.out; omega)
   go_wp2_with (refine wpList_pushN (by rfl) (.tmp 15) (.tmp 16) (by rfl) (by rfl) HB1.out 0 (m.length + 1 + k) (by rfl) (by simp; omega) (by decide) (by have:=HZK.out; omega) HE1.out.size ?_)
   intro g2 cap2 W2 h1 h2
   have HR2:=hid (show PadRel w (m.length + 1 + (k + 1)) (m ++ 128 :: List.replicate (k + 1) 0) (.slice (some ⟨g2,0,none⟩) (m.length + 1 + k + 1) cap2) W2 from ⟨g2,cap2,rfl,by
    rw [List.replicate_succ']
    exact h1,HE1.out.trans h2⟩)
   clear h1 h2 hnei
   go_wp2_with fail
   refine ⟨⟨k + 1,hkz,HR2.out⟩,?_⟩
   simp only [sliceLen]
   have:=HZK.out
   omega
  ·obtain rfl:zn = k:=by omega
   have hnei:((m.length:Int) + 1 + (zn:Int)) % 64 = 56:=by have:=HZ1.out; omega
   have hn0:(0:Int) ≤ (m.length:Int) + 1 + (zn:Int):=by omega
   have HZK:=hid (show zn < 64 by have:=HZ1.out; omega)
   have hwb:IntKind.wrap .u64 ((m.length:Int) * 8) = (nb:Int):=by rw [wrap_bits,HNB.out]
   have HR3:=hid (show PadRel w (m.length + 1 + zn + 0) (m ++ 128 :: List.replicate zn 0 ++ (lenBytes m.length).take 0) (.slice (some ⟨g1,0,none⟩) (m.length + 1 + zn) cap1) wA from ⟨g1,cap1,rfl,by rw [List.take_zero,List.append_nil]; exact HB1.out,HE1.out⟩)
   clear HB1 HE1
   go_wp2_with fail
   clear hnei hwb
   go_loopw [3,5] (fun v vi wr=>∃ k:Nat,k ≤ 8∧vi = .int .i64 (k:Int)∧PadRel w (m.length + 1 + zn + k) (m ++ 128 :: List.replicate zn 0 ++ (lenBytes m.length).take k) v wr) (fun _ vi _=>8 - (intOf vi).toNat)
   case atStart=>exact ⟨0,Nat.zero_le _,rfl,HR3.out⟩
   case round=>
    obtain ⟨k,hk8,rfl,g4,cap4,rfl,hby4,hbel4⟩:=hrel
    rename World=>wB
    have HB4:=hid hby4
    have HE4:=hid hbel4
    clear hby4 hbel4 HR3
    by_cases hk:k < 8
    ·have hk1:(k:Int) < 8:=by omega
     have hi0:(0:Int) ≤ 56 - 8 * (k:Int):=by omega
     have hin:(56 - 8 * (k:Int)).toNat = 56 - 8 * k:=by omega
     have hyb:0 ≤ (nb:Int) / 2 ^ (56 - 8 * k) % 256∧(nb:Int) / 2 ^ (56 - 8 * k) % 256 ≤ 255:=⟨Int.emod_nonneg _ (by decide),by have:=Int.emod_lt_of_pos ((nb:Int) / 2 ^ (56 - 8 * k)) (show (0:Int) < 256 by decide); omega⟩
     have HYB:=hid hyb
     have HYT:=hid (show ((nb:Int) / 2 ^ (56 - 8 * k) % 256).toNat = m.length * 8 % 18446744073709551616 / 2 ^ (56 - 8 * k) % 256 by
      rw [HNB.out,show (nb:Int) / 2 ^ (56 - 8 * k) % 256 = ((nb / 2 ^ (56 - 8 * k) % 256:Nat):Int) by rw [Int.natCast_emod,Int.natCast_ediv,Int.natCast_pow]; rfl]
      exact Int.toNat_natCast _)
     clear hyb
     go_wp2_with (refine wpList_pushN (by rfl) (.tmp 26) (.tmp 33) (by rfl) (by rfl) HB4.out ((nb:Int) / 2 ^ (56 - 8 * k) % 256) (m.length + 1 + zn + k) (by rfl) (by simp [lenBytes]; omega) HYB.out (by have:=HZK.out; omega) HE4.out.size ?_)
     intro g5 cap5 W5 h1 h2
     have HR5:=hid (show PadRel w (m.length + 1 + zn + (k + 1)) (m ++ 128 :: List.replicate zn 0 ++ (lenBytes m.length).take (k + 1)) (.slice (some ⟨g5,0,none⟩) (m.length + 1 + zn + k + 1) cap5) W5 from ⟨g5,cap5,rfl,by
      rw [len_take m.length k hk,← HYT.out,List.append_assoc]
      exact h1,HE4.out.trans h2⟩)
     clear h1 h2
     go_wp2_with fail
     refine ⟨⟨k + 1,hk,by go_num,HR5.out⟩,by simp [intOf]; omega⟩
    ·obtain rfl:k = 8:=by omega
     have h1:¬ ((8:Nat):Int) < 8:=by decide
     have hfin:=HB4.out
     rw [List.take_of_length_le (show (lenBytes m.length).length ≤ 8 from Nat.le_refl _),← HPD.out] at hfin
     have HPL:=hid (show (padL m).length = m.length + 1 + zn + 8 by rw [HPD.out]; simp [lenBytes]; omega)
     have HFI:=hid hfin
     clear hfin
     go_wp2_with fail
     go_ret
     rw [HPL.out]
     exact ⟨g4,cap4,rfl,HFI.out,HE4.out⟩
theorem zero_bytesR:∃ zl:List UInt8,zl = List.replicate 32 0∧(#[.int .u8 0,.int .u8 0,.int .u8 0,.int .u8 0,.int .u8 0,.int .u8 0,.int .u8 0,.int .u8 0,.int .u8 0,.int .u8 0,.int .u8 0,.int .u8 0,.int .u8 0,.int .u8 0,.int .u8 0,.int .u8 0,.int .u8 0,.int .u8 0,.int .u8 0,.int .u8 0,.int .u8 0,.int .u8 0,.int .u8 0,.int .u8 0,.int .u8 0,.int .u8 0,.int .u8 0,.int .u8 0,.int .u8 0,.int .u8 0,.int .u8 0,.int .u8 0]:Array Value) = (byteCells zl).toArray:=⟨List.replicate 32 0,rfl,by kernel_rfl⟩
theorem wpQuiet_rowLoad {ops:Array Oper} {W:World} {Q:Act→Prop} {rest:List Oper} {a:Act} {o:Oper} (hw:Region.wanted o (yielded ops a.tmps) = true) (T:TypeId) (x:Operand) (ho:o.op = .load T x)
  (g:Nat) (hx:a.eval x = .pointer (some ⟨g,0,none⟩)) (t:TypeId) (cs:Array Value) (fr:Nat × Nat) {n:Nat} {e:TypeId} (hg:W.heap[g]? = some (.cells cs t fr))
  (hu:Tryz.prog.underlying T = some (.array n e)) (hi:(Tryz.prog.info? T).map (·.size) = some cs.size)
  (h:wpQuiet Tryz.prog ops (fun w'=>∃ x:Kept W,w' = x.w) Q rest (a.put o.dst (.agg cs))):wpQuiet Tryz.prog ops (fun w'=>∃ x:Kept W,w' = x.w) Q (o :: rest) a:=
 wpQuiet_step fun K hK=>by
  rw [if_pos hw]
  refine ⟨.agg cs,fun w hw=>?_,hK _ h⟩
  obtain ⟨y,rfl⟩:=hw
  unfold Oper.quietAt execOp
  simp only [ho,hx,Instr.loadAt,Instr.sureAddr,Sem.run_bind,Sem.run_pure,Result.andThen_ok,run_loadVar_row y.w g t T cs fr _ (y.heap_old hg) hu rfl hi]
  exact ⟨rfl,rfl⟩
def outI (s:St) (i:Nat):List UInt8:=s.out.take i ++ List.replicate (32 - i) 0
theorem outI_len (s:St) (i:Nat) (h:i ≤ 32):(outI s i).length = 32:=by
 unfold outI
 rw [List.length_append,List.length_take,List.length_replicate,show s.out.length = 32 from rfl]
 omega
theorem outI_zero (s:St):outI s 0 = List.replicate 32 0:=rfl
theorem outI_end (s:St):outI s 32 = s.out:=by
 unfold outI
 rw [List.take_of_length_le (by rw [show s.out.length = 32 from rfl]; exact Nat.le_refl _),Nat.sub_self,List.replicate_zero,List.append_nil]
theorem outI_step (s:St) (i:Nat) (b:UInt8) (hi:i < 32) (hb:s.out[i]? = some b):(outI s i).set i b = outI s (i + 1):=by
 unfold outI
 have hl:(s.out.take i).length = i:=by rw [List.length_take,show s.out.length = 32 from rfl]; omega
 rw [List.set_append_right _ _ (by omega),hl,Nat.sub_self,show 32 - i = 32 - (i + 1) + 1 by omega,List.replicate_succ,List.set_cons_zero,List.take_add_one,hb,List.append_assoc]
 rfl
theorem out_at (s:St) (q:Nat) (h:q < 8):s.out[4 * q]? = some (UInt8.ofNat ((stL s).getD q 0 / 16777216))∧s.out[4 * q + 1]? = some (UInt8.ofNat ((stL s).getD q 0 / 65536 % 256))∧s.out[4 * q + 2]? = some (UInt8.ofNat ((stL s).getD q 0 / 256 % 256))∧s.out[4 * q + 3]? = some (UInt8.ofNat ((stL s).getD q 0 % 256)):=by
 have:q = 0 ∨ q = 1 ∨ q = 2 ∨ q = 3 ∨ q = 4 ∨ q = 5 ∨ q = 6 ∨ q = 7:=by omega
 rcases this with rfl | rfl | rfl | rfl | rfl | rfl | rfl | rfl <;> exact ⟨rfl,rfl,rfl,rfl⟩
theorem blocks_succ (s:St) (P:List UInt8) (j:Nat):s.blocks P (j + 1) = (s.blocks P j).block ((P.drop (64 * j)).take 64):=rfl
set_option maxHeartbeats 4000000 in
set_option maxRecDepth 100000 in
theorem rsum_any (s:ByteArray) (w:World) (hs:s.size ≤ 35184372088832) :
  Calls Tryz.prog 66 #[.string s] w fun e w'=>e = .returned (.agg (byteCells (shaL s.data.toList)).toArray)∧Below w.heap.size w w':=by
 obtain ⟨m,hm⟩:∃ m,s.data.toList = m:=⟨_,rfl⟩
 obtain ⟨P,hP⟩:∃ P,padL m = P:=⟨_,rfl⟩
 obtain ⟨R,hR⟩:∃ R,shaL m = R:=⟨_,rfl⟩
 obtain ⟨N,hN⟩:∃ N,P.length / 64 = N:=⟨_,rfl⟩
 have hPN:P.length = 64 * N:=by
  have:=padL_len m
  rw [hP] at this
  omega
 have HSH:=hid (show (St.start.blocks P N).out = R by rw [← hR,← hN,← hP]; rfl)
 have HRL:=hid (show R.length = 32 by rw [← hR]; exact shaL_len m)
 have hPM:P.length ≤ s.size + 200:=by
  have h1:m.length = s.size:=by rw [← hm]; exact Array.length_toList
  rw [← hP]
  unfold padL tailOf lenBytes zerosN
  simp only [List.length_append,List.length_cons,List.length_replicate,List.length_map,List.length_nil]
  omega
 have HPD:=hid fun W=>(by
  have h:=rpadded_any s W hs
  rw [hm,hP,hPN] at h
  exact h:Calls Tryz.prog 103 #[.string s] W fun e w'=>∃ g cap,e = .returned (.slice (some ⟨g,0,none⟩) (64 * N) cap)∧BytesAt W.heap.size w' (.slice (some ⟨g,0,none⟩) (64 * N) cap) P∧Below W.heap.size W w')
 obtain ⟨ks,hks⟩:∃ ks,shaK = ks:=⟨_,rfl⟩
 have HKS:=hid hks
 have HTB:=hid fun W=>(by
  have h:=rtable_any W
  rw [hks] at h
  exact h:Calls Tryz.prog 104 #[] W fun e w'=>e = .returned (.agg (u32s ks))∧Below W.heap.size W w')
 obtain ⟨V0,hV0⟩:∃ V0,St.start = V0:=⟨_,rfl⟩
 have HOK0:=hid (show V0.Ok by rw [← hV0]; exact St.Ok.start)
 have HST:=hid fun W=>(by
  have h:=rstart_any W
  rw [hV0] at h
  exact h:Calls Tryz.prog 105 #[] W fun e w'=>e = .returned (.agg (u32s (stL V0)))∧Below W.heap.size W w')
 rw [hV0] at HSH
 rw [hm,hR]
 have HSZ:=hid (show (u32s ks).size = 64 by rw [u32s_size,← hks]; rfl)
 have HS8:=hid (stL_size V0)
 have HPN:=hid hPN
 have hN9:64 * N ≤ 35184372089032:=by omega
 obtain ⟨zl,hzl,hz32⟩:=zero_bytesR
 obtain ⟨zt,hzt,hz64⟩:=zero_64
 obtain ⟨z8,hz8,hz8a⟩:=zero_8
 have HZL:=hid (show (byteCells zl).toArray.size = 32 by rw [List.size_toArray,Lib.byteCells_length,hzl]; rfl)
 have HZT:=hid (show (u32s zt).size = 64 by rw [u32s_size,hzt]; rfl)
 have HZ8:=hid (show (u32s z8).size = 8 by rw [u32s_size]; exact hz8)
 have HZE:=hid hzl
 clear hP hR hN hPN hPM hks hV0 hzl hzt hz8 hm
 go_enter Tryz.func66,Tryz.ntmps66
 go_upto_region 1 with fail
 have HR1:=hid (heap_one w (.cells (byteCells zl).toArray 23))
 have HB1:=hid (below_one w (.cells (byteCells zl).toArray 23))
 generalize (w.alloc (.cells (byteCells zl).toArray 23)) = w1 at *
 go_wp2_with (go_at_call 103; refine (HPD.out w1).mono ?_)
 first
  | rintro e w2 gp cap rfl hby hb2
  | rintro e w2 ⟨gp,cap,rfl,hby,hb2⟩
 have HR2:=hid (below_heap hb2 HR1.out)
 have HB2:=hid (HB1.out.trans (hb2.mono HB1.out.size))
 have HBY2:=hid hby
 clear hby hb2
 go_wp2_with (go_at_call 104; refine (HTB.out w2).mono ?_)
 first
  | rintro e w3 rfl hb3
  | rintro e w3 ⟨rfl,hb3⟩
 have b4:=below_one w3 (.cells (u32s ks) 178)
 have HR4:=hid (below_heap b4 (below_heap hb3 HR2.out))
 have HBY4:=hid ((HBY2.out.below hb3).below b4)
 have HT4:=hid (heap_one w3 (.cells (u32s ks) 178))
 have HB4:=hid ((HB2.out.trans (hb3.mono HB2.out.size)).trans (b4.mono (Nat.le_trans HB2.out.size hb3.size)))
 clear hb3 b4
 go_upto_region 3 with (refine wpList_newrow (by rfl) 178 (.tmp 4) (.tmp 11) (by rfl) (by rfl) (by rfl) (by rw [HSZ.out]; exact info64) (by rw [HSZ.out,HZT.out]) (u32s_one ks) ?_)
 generalize (w3.alloc (.cells (u32s ks) 178)) = w4 at *
 clear hz64
 go_wp2_with (go_at_call 105; refine (HST.out w4).mono ?_)
 first
  | rintro e w5 rfl hb5
  | rintro e w5 ⟨rfl,hb5⟩
 have b6:=below_one w5 (.cells (u32s (stL V0)) 180)
 have HR6:=hid (below_heap b6 (below_heap hb5 HR4.out))
 have HBY6:=hid ((HBY4.out.below hb5).below b6)
 have HT6:=hid (below_heap b6 (below_heap hb5 HT4.out))
 have HV6:=hid (heap_one w5 (.cells (u32s (stL V0)) 180))
 have HB6:=hid ((HB4.out.trans (hb5.mono HB4.out.size)).trans (b6.mono (Nat.le_trans HB4.out.size hb5.size)))
 have HLW:=hid (show w.heap.size < w5.heap.size from lt_of_heap (below_heap hb5 HR4.out))
 have HLT:=hid (show w3.heap.size < w5.heap.size from lt_of_heap (below_heap hb5 HT4.out))
 obtain ⟨gq,cq,hvq,hq1,hq2,hq3,hq4,_⟩:=(HBY4.out.below hb5)
 injection hvq with hv1 hv2 hv3
 injection hv1 with hv1
 injection hv1 with hv1
 subst hv1 hv3
 have HLP:=hid hq2
 have HRG:=hid (range_below b6 hq4)
 have hcap:64 * N ≤ cap:=by rw [hv2]; exact hq3
 clear hb5 b6 hq1 hq2 hq3 hq4 hv2
 go_upto_region 4 with (refine wpList_newrow (by rfl) 180 (.tmp 5) (.tmp 12) (by rfl) (by rfl) (by rfl) (by rw [HS8.out]; exact info8) (by rw [HS8.out,HZ8.out]) (u32s_one (stL V0)) ?_)
 generalize (w5.alloc (.cells (u32s (stL V0)) 180)) = w6 at *
 generalize hg5:w5.heap.size = g5 at *
 generalize hg4:w3.heap.size = g4 at *
 clear hg5 hg4 hz8a hz32
 go_wp2_with fail
 go_loopw [6] (fun vi wr=>∃ j:Nat,j ≤ N∧vi = .int .i64 (64 * (j:Int))∧wr.heap[g5]? = some (.cells (u32s (stL (V0.blocks P j))) 180)∧Below g5 w6 wr) (fun vi _=>64 * N + 1 - (intOf vi).toNat)
 case atStart=>exact ⟨0,Nat.zero_le _,rfl,HV6.out,Below.refl _ _⟩
 case round=>
  obtain ⟨j,hj,rfl,hV,hbel⟩:=hrel
  rename World=>wA
  have hsz:g5 < wA.heap.size:=lt_of_heap hV
  by_cases hjN:j < N
  ·have hblk:=blocks_succ V0 P j
   have hok:=HOK0.out.blocks P j
   generalize V0.blocks P j = V at *
   obtain ⟨l,hlb⟩:∃ l,(P.drop (64 * j)).take 64 = l:=⟨_,rfl⟩
   rw [hlb] at hblk
   have hll:l.length = 64:=by
    rw [← hlb,List.length_take,List.length_drop,HPN.out]
    omega
   have hrg:wA.rangeAt gp (64 * j) (byteCells l):=by
    rw [← hlb]
    have h:=range_part (fun q v hq=>below_cell' hbel HLP.out (HRG.out q v hq)) (64 * j) 64
    rwa [Nat.zero_add] at h
   have HBLK:=hid hblk
   have HLL:=hid hll
   have HRA:=hid hrg
   have HOK:=hid hok
   have HS:=hid (stL_size V)
   have HSB:=hid (stL_size (V.block l))
   have HV:=hid hV
   have HBE:=hid hbel
   have HTA:=hid ((hbel.block g4 HLT.out).trans HT6.out)
   have q0:(0:Int) ≤ 64 * (j:Int):=by omega
   have q1:64 * (j:Int) ≤ 64 * (j:Int) + 64:=by omega
   have q2:64 * (j:Int) + 64 ≤ (cap:Int):=by omega
   have q3:(64 * (j:Int)).toNat = 64 * j:=by omega
   have q4:(64 * (j:Int) + 64).toNat = 64 * j + 64:=by omega
   have q5:64 * j + 64 - 64 * j = 64:=by omega
   have q6:¬ cap - 64 * j = 0:=by omega
   have q7:64 * (j:Int) < 64 * (N:Int):=by omega
   have q8:IntKind.i64.wrap (64 * (j:Int) + 64) = 64 * (j:Int) + 64:=IntWalk.i64_in _ (by omega)
   have q9:64 * (j:Int) + 64 ≤ 35184372089032:=by omega
   clear hblk hll hrg hok hV hbel hlb
   go_wp2_with fail
   refine wp_region_kept_tail 8 (by kernel_rfl) (by kernel_rfl) ?_
   simp only [List.take_succ_cons,List.take_zero,List.drop_succ_cons,List.drop_zero]
   refine wpQuiet_rowLoad (by rfl) 180 (.tmp 5) (by rfl) g5 (by rfl) 180 (u32s (stL V)) (0,0) HV.out Tryz.underlying180 (by rw [HS.out]; exact info8) ?_
   simp only [Act.put,List.setIfInBounds_toArray,List.set_cons_zero,List.set_cons_succ]
   iterate 5 go_big_quiet_step (fail)
   refine wpQuiet_rowLoad (by rfl) 178 (.tmp 4) (by rfl) g4 (by rfl) 178 (u32s ks) (0,0) HTA.out Tryz.underlying178 (by rw [HSZ.out]; exact info64) ?_
   simp only [Act.put,List.setIfInBounds_toArray,List.set_cons_zero,List.set_cons_succ]
   go_big_quiet_step ((go_at_call 106; rename Kept _=>x; exact Kept.call (rblock_any V l ks gp (64 * j) _ x.w HOK.out HLL.out HKS.out.symm (range_below x.below HRA.out))))
   refine wpQuiet_nil ?_
   intro x
   have HVX:=hid (x.heap_old HV.out)
   have HBX:=hid (HBE.out.trans (x.below.mono (Nat.le_of_lt hsz)))
   generalize x.w = wX at *
   go_wp2_with (refine wpList_store_row (by rfl) 180 (.tmp 5) (.tmp 26) (by rfl) g5 (u32s (stL (V.block l))) (by rfl) (by rfl) 180 (u32s (stL V)) HVX.out (by rw [HSB.out]; exact info8) (by rw [HS.out,HSB.out]) (u32s_one _) ?_)
   go_roundw
   case rel=>
    refine ⟨j + 1,by omega,by go_num,?_,below_setRow HBX.out (Nat.le_refl _) _⟩
    rw [HBLK.out]
    exact setRow_heap wX g5 _ (u32s (stL (V.block l))) 180 (0,0) HVX.out
   case measure=>simp [intOf]; omega
  ·obtain rfl:j = N:=by omega
   have q7:¬ 64 * (j:Int) < 64 * (j:Int):=by omega
   have hso:=HSH.out
   have hok:=HOK0.out.blocks P j
   generalize V0.blocks P j = S at *
   have HSO:=hid hso
   have HOK:=hid hok
   obtain ⟨zl2,hzl2,hz32⟩:=zero_bytesR
   have HB7:=hid (HB6.out.trans (hbel.mono (Nat.le_of_lt HLW.out)))
   have HR7:=hid ((hbel.block w.heap.size HLW.out).trans HR6.out)
   have HO7:=hid (show (wA.alloc (.cells (byteCells zl2).toArray 23)).heap[wA.heap.size]? = some (.cells (byteCells (outI S 0)).toArray 23) by rw [outI_zero,← hzl2]; exact heap_one wA _)
   have b7:=below_one wA (.cells (byteCells zl2).toArray 23)
   have HV7:=hid (below_heap b7 hV)
   have HRZ:=hid (below_heap b7 HR7.out)
   have HBZ:=hid (HB7.out.trans (b7.mono HB7.out.size))
   have HGW:=hid (lt_of_heap HR7.out)
   have hszA:=hsz
   clear hso hok hV hbel hzl2 b7 hsz
   go_upto_region 9 with fail
   generalize (wA.alloc (.cells (byteCells zl2).toArray 23)) = w7 at *
   have HGL:=hid hszA
   generalize hg7:wA.heap.size = g7 at *
   clear hz32 hszA
   go_wp2_with fail
   go_loopw [8] (fun vi wx=>∃ i:Nat,i ≤ 32∧vi = .int .i64 (i:Int)∧wx.heap[g7]? = some (.cells (byteCells (outI S i)).toArray 23)∧Below g7 w7 wx) (fun vi _=>32 - (intOf vi).toNat)
   case atStart=>exact ⟨0,Nat.zero_le _,rfl,HO7.out,Below.refl _ _⟩
   case round=>
    obtain ⟨i,hi,rfl,hO,hbel⟩:=hrel
    rename World=>wI
    by_cases hi32:i < 32
    ·have i1:(i:Int) < 32:=by omega
     have i0:(0:Int) ≤ (i:Int):=by omega
     obtain ⟨q,hq⟩:∃ q,i / 4 = q:=⟨_,rfl⟩
     have hq8:q < 8:=by omega
     have hqi:(i:Int) / 4 = (q:Int):=by omega
     have hqn:(q:Int) < 8:=by omega
     have hq0:(0:Int) ≤ (q:Int):=by omega
     obtain ⟨x,hx⟩:∃ x,(stL S).getD q 0 = x:=⟨_,rfl⟩
     have hx32:x < 4294967296:=by rw [← hx]; exact stL_lt HOK.out q
     have ck:=cell_of ((hbel.block g5 HGL.out).trans HV7.out) q (u32s_get (stL S) q (x:=x) (by rw [← hx]; exact stL_get S q hq8))
     have hoa:=out_at S q hq8
     rw [hx] at hoa
     obtain ⟨o0,o1,o2,o3⟩:=hoa
     have lk:=lt_of_cell ck
     have lo:=lt_of_heap hO
     have f0:=frozen_row hO i
     obtain ⟨y0,c0⟩:=out_cell hO i (by rw [outI_len S i hi]; omega)
     have HOI:=hid hO
     have HBI:=hid hbel
     have HO0:=hid o0
     have HO1:=hid o1
     have HO2:=hid o2
     have HO3:=hid o3
     have HQ:=hid hq
     clear hO hbel o0 o1 o2 o3 hx hq
     have h4:i % 4 = 0 ∨ i % 4 = 1 ∨ i % 4 = 2 ∨ i % 4 = 3:=by omega
     rcases h4 with h4 | h4 | h4 | h4
     ·have hm:(i:Int) % 4 = 0:=by omega
      have HIQ:=hid (show i = 4 * q by have:=HQ.out; omega)
      have HVL:=hid (show (x:Int) / 16777216 = ((UInt8.ofNat (x / 16777216)).toNat:Int) by rw [ofNat_cell _ (by omega)]; omega)
      clear h4
      go_wp2_with fail
      go_roundw
      case rel=>
       have h:=set_heapS (i:=i) (u:=.int .u8 ((x:Int) / 16777216)) HOI.out
       rw [HVL.out,set_bytes,outI_step S i _ hi32 (by rw [HIQ.out]; exact HO0.out)] at h
       refine ⟨i + 1,by omega,by go_num,?_,HBI.out.setCell (p:=⟨g7,i,none⟩) (Nat.le_refl _) _⟩
       first
        | exact h
        | (rw [← HVL.out] at h; exact h)
      case measure=>simp [intOf]; omega
     ·have hm:(i:Int) % 4 = 1:=by omega
      have HIQ:=hid (show i = 4 * q + 1 by have:=HQ.out; omega)
      have HVL:=hid (show (x:Int) / 65536 % 256 = ((UInt8.ofNat (x / 65536 % 256)).toNat:Int) by rw [ofNat_cell _ (by omega)]; omega)
      clear h4
      go_wp2_with fail
      go_roundw
      case rel=>
       have h:=set_heapS (i:=i) (u:=.int .u8 ((x:Int) / 65536 % 256)) HOI.out
       rw [HVL.out,set_bytes,outI_step S i _ hi32 (by rw [HIQ.out]; exact HO1.out)] at h
       refine ⟨i + 1,by omega,by go_num,?_,HBI.out.setCell (p:=⟨g7,i,none⟩) (Nat.le_refl _) _⟩
       first
        | exact h
        | (rw [← HVL.out] at h; exact h)
      case measure=>simp [intOf]; omega
     ·have hm:(i:Int) % 4 = 2:=by omega
      have HIQ:=hid (show i = 4 * q + 2 by have:=HQ.out; omega)
      have HVL:=hid (show (x:Int) / 256 % 256 = ((UInt8.ofNat (x / 256 % 256)).toNat:Int) by rw [ofNat_cell _ (by omega)]; omega)
      clear h4
      go_wp2_with fail
      go_roundw
      case rel=>
       have h:=set_heapS (i:=i) (u:=.int .u8 ((x:Int) / 256 % 256)) HOI.out
       rw [HVL.out,set_bytes,outI_step S i _ hi32 (by rw [HIQ.out]; exact HO2.out)] at h
       refine ⟨i + 1,by omega,by go_num,?_,HBI.out.setCell (p:=⟨g7,i,none⟩) (Nat.le_refl _) _⟩
       first
        | exact h
        | (rw [← HVL.out] at h; exact h)
      case measure=>simp [intOf]; omega
     ·have hm:(i:Int) % 4 = 3:=by omega
      have HIQ:=hid (show i = 4 * q + 3 by have:=HQ.out; omega)
      have HVL:=hid (show (x:Int) % 256 = ((UInt8.ofNat (x % 256)).toNat:Int) by rw [ofNat_cell _ (by omega)]; omega)
      clear h4
      go_wp2_with fail
      go_roundw
      case rel=>
       have h:=set_heapS (i:=i) (u:=.int .u8 ((x:Int) % 256)) HOI.out
       rw [HVL.out,set_bytes,outI_step S i _ hi32 (by rw [HIQ.out]; exact HO3.out)] at h
       refine ⟨i + 1,by omega,by go_num,?_,HBI.out.setCell (p:=⟨g7,i,none⟩) (Nat.le_refl _) _⟩
       first
        | exact h
        | (rw [← HVL.out] at h; exact h)
      case measure=>simp [intOf]; omega
    ·obtain rfl:i = 32:=by omega
     have i1:¬ ((32:Nat):Int) < 32:=by decide
     rw [outI_end,HSO.out] at hO
     have HOI:=hid hO
     have HRX:=hid ((hbel.block w.heap.size HGW.out).trans HRZ.out)
     have HBX:=hid (HBZ.out.trans (hbel.mono (Nat.le_of_lt HGW.out)))
     have HRS:=hid (show (byteCells R).toArray.size = 32 by rw [List.size_toArray,Lib.byteCells_length,HRL.out])
     have HRE:=hid (setRow_heap wI w.heap.size _ (byteCells R).toArray 23 (0,0) HRX.out)
     have HBR:=hid (below_setRow HBX.out (Nat.le_refl _) (byteCells R).toArray)
     clear hO hbel
     go_wp2_with (first | (refine wpList_load_row (by rfl) 23 (.tmp 7) (by rfl) g7 (by rfl) 23 (byteCells R).toArray (0,0) _ HOI.out Tryz.underlying23 rfl (by rw [HRS.out]; exact hashInfo) ?_) | (refine wpList_store_row (by rfl) 23 (.tmp 2) (.tmp 43) (by rfl) w.heap.size (byteCells R).toArray (by rfl) (by rfl) 23 (byteCells zl).toArray HRX.out (by rw [HRS.out]; exact hashInfo) (by rw [HRS.out,HZL.out]) (byteCells_all R) ?_))
     exact bodyPost_ret (results_row0 rfl _ _ w.heap.size 23 _ (0,0) _ rfl HRE.out Tryz.underlying23 rfl (by rw [HRS.out]; exact hashInfo)) rfl ⟨rfl,HBR.out⟩
theorem range_new2 (w:World) (l:List UInt8):(w.alloc (.cells (byteCells l).toArray 23)).rangeAt w.heap.size 0 (byteCells l):=fun j v hv=>by
 rw [Nat.zero_add]
 exact cell_of (heap_one w _) j (by simpa using hv)
set_option maxHeartbeats 4000000 in
set_option maxRecDepth 100000 in
theorem rbytes_any (a:List UInt8) (ha:a.length = 32) (w:World) :
  Calls Tryz.prog 101 #[.agg (byteCells a).toArray] w fun e w'=>e = .returned (.string ⟨a.toArray⟩)∧Below w.heap.size w w':=by
 obtain ⟨i0,hi,hz0,hz1,hz2⟩:=info_parts Tryz.infoByte
 have HA:=hid ha
 have hO:=heap_one w (.cells (byteCells a).toArray 23)
 have hB:=below_one w (.cells (byteCells a).toArray 23)
 clear ha
 go_enter Tryz.func101,Tryz.ntmps101
 go_upto_region 1 with fail
 generalize (w.alloc (.cells (byteCells a).toArray 23)) = w1 at *
 have HO:=hid hO
 have HB:=hid hB
 clear hO hB
 have HL:=hid (show w.heap.size < w1.heap.size from lt_of_heap HO.out)
 go_wp2_with fail
 go_loopw [3,4] (fun v vi wr=>∃ i:Nat,i ≤ 32∧vi = .int .i64 (i:Int)∧wr.ownsRow w1.heap.size 5 1 v i (byteCells (a.take i))∧Below w1.heap.size w1 wr) (fun _ vi _=>32 - (intOf vi).toNat)
 case atStart=>exact ⟨0,Nat.zero_le _,rfl,World.ownsRow_nil _ _ _ _,Below.refl _ _⟩
 case round=>
  obtain ⟨i,hi32,rfl,hown,hbel⟩:=hrel
  rename World=>wA
  obtain ⟨ao,cp,rfl⟩:=owns_anyH hown
  by_cases hlt:i < 32
  ·have i1:(i:Int) < 32:=by omega
   have i0':(0:Int) ≤ (i:Int):=by omega
   obtain ⟨c,hc⟩:∃ c,a[i]? = some c:=⟨_,List.getElem?_eq_getElem (by have:=HA.out; omega)⟩
   have ck:=cell_of ((hbel.block w.heap.size HL.out).trans HO.out) i (v:=.int .u8 (c.toNat:Int)) (by rw [List.getElem?_toArray]; unfold byteCells; rw [List.getElem?_map,hc]; rfl)
   have lk:=lt_of_cell ck
   have HT:=hid (show a.take (i + 1) = a.take i ++ [c] by rw [List.take_add_one,hc]; rfl)
   have HBE:=hid hbel
   clear hbel hc
   go_wp2_with (at_builtin; refine wpList_append_own _ rfl _ _ 117 rfl w1.heap.size 5 i0 (.int .u8 0) 1 1 Tryz.underlying117 hi hz0 hz1 hz2 rfl (by decide) _ _ _ rfl (hown.alloc _) ⟨wA.heap.size,0,none⟩ 1 1 [.int .u8 (c.toNat:Int)] rfl rfl ?c1 ?c2 ?c3 ?c4 ?c5 ?_)
   case c2=>first | rfl | (intro u hu; simp at hu; subst hu; rfl)
   case c3=>unfold maxLen; omega
   case c4=>omega
   case c5=>have:=HBE.out.size; simp; omega
   intro v' W5 g2 g3 g4
   have HG:=hid g2
   have HB5:=hid ((HBE.out.alloc HBE.out.size (.cells #[.int .u8 (c.toNat:Int)] 5)).grown g3 (by have:=HBE.out.size; simp; omega) (fun j hj=>(hown.lt j hj).1))
   clear g2 g3 g4 ck
   go_wp2_with fail
   refine ⟨⟨i + 1,hlt,by go_num,?_,HB5.out⟩,by simp [intOf]; omega⟩
   have h:=HG.out
   rw [byteCells_snoc,← HT.out] at h
   exact h
  ·obtain rfl:i = 32:=by omega
   have i1:¬ ((32:Nat):Int) < 32:=by decide
   rw [List.take_of_length_le (by rw [HA.out]; exact Nat.le_refl _)] at hown
   have hcv:=conv_own (l:=a) (by rw [HA.out]; exact hown)
   have HBE:=hid (HB.out.trans (hbel.mono (Nat.le_of_lt HL.out)))
   clear hown hbel
   go_wp2_with fail
   go_ret
   exact ⟨rfl,HBE.out⟩
set_option maxHeartbeats 4000000 in
set_option maxRecDepth 100000 in
theorem rnodeText_any (a b:List UInt8) (ha:a.length = 32) (hb:b.length = 32) (w:World) :
  Calls Tryz.prog 161 #[.agg (byteCells a).toArray,.agg (byteCells b).toArray] w fun e w'=>(∃ s:ByteArray,e = .returned (.string s)∧s.data.toList = 1 :: (a ++ b))∧Below w.heap.size w w':=by
 have HA:=hid ha
 have HB:=hid hb
 have HAS:=hid (show (byteCells a).toArray.size = 32 by rw [List.size_toArray,Lib.byteCells_length,ha])
 have HBS:=hid (show (byteCells b).toArray.size = 32 by rw [List.size_toArray,Lib.byteCells_length,hb])
 have h1:=range_new2 w a
 have b1:=below_one w (.cells (byteCells a).toArray 23)
 have s1:(w.alloc (.cells (byteCells a).toArray 23)).heap.size = w.heap.size + 1:=by simp
 have q1:¬ 9223372036854775807 < 1 + a.length:=by omega
 have q2:¬ 9223372036854775807 < 1 + a.length + b.length:=by omega
 clear ha hb
 go_enter Tryz.func161,Tryz.ntmps161
 go_upto_region 1 with fail
 generalize w.alloc (.cells (byteCells a).toArray 23) = w1 at *
 have h2:=range_new2 w1 b
 have b2:=below_one w1 (.cells (byteCells b).toArray 23)
 rw [s1] at h2
 have HR1:=hid (range_below b2 h1)
 have HR2:=hid h2
 have HB2:=hid (b1.trans (b2.mono b1.size))
 generalize w1.alloc (.cells (byteCells b).toArray 23) = w2 at *
 clear h1 h2 b1 b2 s1
 refine wp_region_kept (by kernel_rfl) (by kernel_rfl) ?_
 refine wpQuiet_hashLoad (by rfl) (.tmp 2) (by rfl) w.heap.size 0 (by rfl) a HA.out HR1.out ?_
 simp only [Act.put,List.setIfInBounds_toArray,List.set_cons_zero,List.set_cons_succ]
 go_big_quiet_step ((go_at_call 101; rename Kept _=>x; exact Kept.call (rbytes_any a HA.out x.w)))
 go_big_quiet_step (fail)
 refine wpQuiet_hashLoad (by rfl) (.tmp 3) (by rfl) (w.heap.size + 1) 0 (by rfl) b HB.out HR2.out ?_
 simp only [Act.put,List.setIfInBounds_toArray,List.set_cons_zero,List.set_cons_succ]
 go_big_quiet_step ((go_at_call 101; rename Kept _=>x; exact Kept.call (rbytes_any b HB.out x.w)))
 go_big_quiet_step (fail)
 go_big_quiet_step (fail)
 refine wpQuiet_nil ?_
 intro x
 go_wp2_with fail
 go_ret
 exact ⟨⟨_,rfl,by simp [ByteArray.data_append]⟩,HB2.out.trans (x.below.mono HB2.out.size)⟩
set_option maxHeartbeats 4000000 in
set_option maxRecDepth 100000 in
theorem rnode_any (a b:List UInt8) (ha:a.length = 32) (hb:b.length = 32) (w:World) :
  Calls Tryz.prog 148 #[.agg (byteCells a).toArray,.agg (byteCells b).toArray] w fun e w'=>e = .returned (.agg (byteCells (nodeF a b)).toArray)∧Below w.heap.size w w':=by
 have HA:=hid ha
 have HB:=hid hb
 have HAS:=hid (show (byteCells a).toArray.size = 32 by rw [List.size_toArray,Lib.byteCells_length,ha])
 have HBS:=hid (show (byteCells b).toArray.size = 32 by rw [List.size_toArray,Lib.byteCells_length,hb])
 obtain ⟨T,hT⟩:∃ T,nodeF a b = T:=⟨_,rfl⟩
 have HTL:=hid (show T.length = 32 by rw [← hT]; exact nodeF_len a b)
 have HTS:=hid (show (byteCells T).toArray.size = 32 by rw [List.size_toArray,Lib.byteCells_length,← hT,nodeF_len])
 have HNT:=hid fun W=>rnodeText_any a b ha hb W
 have HSM:=hid fun (s:ByteArray) (hs:s.data.toList = 1 :: (a ++ b)) W=>(by
  have hl:s.size = 65:=by
   have e:s.data.toList.length = s.size:=Array.length_toList
   rw [← e,hs,List.length_cons,List.length_append,ha,hb]
  have h:=rsum_any s W (by omega)
  rw [hs,show shaL (1 :: (a ++ b)) = T from hT] at h
  exact h:Calls Tryz.prog 66 #[.string s] W fun e w'=>e = .returned (.agg (byteCells T).toArray)∧Below W.heap.size W w')
 rw [hT]
 obtain ⟨zl,hzl,hz32⟩:=zero_bytesR
 have HZL:=hid (show (byteCells zl).toArray.size = 32 by rw [List.size_toArray,Lib.byteCells_length,hzl]; rfl)
 obtain ⟨hA,hB,hC,hsz,hb3⟩:=three_blocks w (byteCells a).toArray (byteCells b).toArray (byteCells zl).toArray 23 23 23
 clear ha hb hT hzl
 go_enter Tryz.func148,Tryz.ntmps148
 go_upto_region 1 with fail
 generalize ((w.alloc (.cells (byteCells a).toArray 23)).alloc (.cells (byteCells b).toArray 23)).alloc (.cells (byteCells zl).toArray 23) = w3 at *
 have HRA:=hid hA
 have HRB:=hid hB
 have HRC:=hid hC
 have HB3:=hid hb3
 have HSZ:=hid hsz
 clear hA hB hC hsz hb3 hz32
 go_wp2_with (first | (refine wpList_load_row (by rfl) 23 (.tmp 2) (by rfl) w.heap.size (by rfl) 23 (byteCells a).toArray (0,0) _ HRA.out Tryz.underlying23 rfl (by rw [HAS.out]; exact hashInfo) ?_) | (refine wpList_load_row (by rfl) 23 (.tmp 3) (by rfl) (w.heap.size + 1) (by rfl) 23 (byteCells b).toArray (0,0) _ HRB.out Tryz.underlying23 rfl (by rw [HBS.out]; exact hashInfo) ?_) | (go_at_call 161; refine (HNT.out w3).mono ?_))
 first
  | rintro e w4 s rfl hs hb4
  | rintro e w4 ⟨⟨s,rfl,hs⟩,hb4⟩
  | rintro e w4 ⟨s,rfl,hs⟩ hb4
 have HS:=hid hs
 have HB4:=hid (HB3.out.trans (hb4.mono HB3.out.size))
 have HRC4:=hid (below_heap hb4 HRC.out)
 clear hs hb4
 go_wp2_with (go_at_call 66; refine (HSM.out s HS.out w4).mono ?_)
 first
  | rintro e w5 rfl hb5
  | rintro e w5 ⟨rfl,hb5⟩
 have HB5:=hid (HB4.out.trans (hb5.mono HB4.out.size))
 have HRC5:=hid (below_heap hb5 HRC4.out)
 have HRE:=hid (setRow_heap w5 (w.heap.size + 1 + 1) _ (byteCells T).toArray 23 (0,0) HRC5.out)
 have HBR:=hid (below_setRow HB5.out (show w.heap.size ≤ w.heap.size + 1 + 1 by omega) (byteCells T).toArray)
 clear hb5
 go_wp2_with (refine wpList_store_row (by rfl) 23 (.tmp 4) (.tmp 8) (by rfl) (w.heap.size + 1 + 1) (byteCells T).toArray (by rfl) (by rfl) 23 (byteCells zl).toArray HRC5.out (by rw [HTS.out]; exact hashInfo) (by rw [HTS.out,HZL.out]) (byteCells_all T) ?_)
 exact bodyPost_ret (results_row0 rfl _ _ (w.heap.size + 1 + 1) 23 _ (0,0) _ rfl HRE.out Tryz.underlying23 rfl (by rw [HTS.out]; exact hashInfo)) rfl ⟨rfl,HBR.out⟩
end Go.Proofs.YticlgcfodlcpcaaGreatDoor
