/- codec.Writer by its contracts: NewWriter,put,Var of a small number,Hash,Done; keys.Encode. keys.Encode by its contract. -/
import Derived.Test.YticlgcfodlcpcaaGreatDoorNDec
namespace Go.Proofs.YticlgcfodlcpcaaGreatDoor
open Go.Lib (hid byteCells)
open Go.RowKit
structure WrAt (w:World) (wb:Nat) (v:Value) (l:List UInt8):Prop where
 hp:w.heap[wb]? = some (.cells #[v,.bool true] 199 (0,0))
 own:w.ownsRow (wb + 1) 5 1 v l.length (byteCells l)
theorem WrAt.below {w w':World} {wb:Nat} {v:Value} {l:List UInt8} (h:WrAt w wb v l) (hb:Below w.heap.size w w'):WrAt w' wb v l:=
 ⟨(hb.block wb (lt_of_heap h.hp)).trans h.hp,rowKeepK h.own fun g hg=>hb.block g (h.own.lt g hg).2⟩
theorem WrAt.lt {w:World} {wb:Nat} {v:Value} {l:List UInt8} (h:WrAt w wb v l):wb < w.heap.size:=lt_of_heap h.hp
theorem WrAt.form {w:World} {wb:Nat} {v:Value} {l:List UInt8} (h:WrAt w wb v l):∃ ao n c,v = .slice ao n c:=by
 rcases h.own.2 with ⟨h,_⟩ | ⟨_,_,_,h,_⟩ <;> exact ⟨_,_,_,h⟩
def Above (wb:Nat) (w w':World):Prop:=∀ B w0,Below B w0 w→B ≤ wb→Below B w0 w'
theorem Above.trans {wb:Nat} {a b c:World} (h:Above wb a b) (k:Above wb b c):Above wb a c:=fun B w0 hb hB=>k B w0 (h B w0 hb hB) hB
theorem Above.below {wb:Nat} {a b:World} (h:Below a.heap.size a b) (hw:wb < a.heap.size):Above wb a b:=fun B w0 hb hB=>hb.trans (h.mono (by omega))
theorem u8infoA:(Tryz.prog.info? 5).map (fun i=>(i.zero,i.size,i.bytes)) = some (some (.int .u8 0),1,1):=by kernel_rfl
theorem wpList_appendU8 {ops:Array Oper} {rest:List Oper} {o:Oper} {a:Act} {W:World} {Q:Exit→Act→World→Prop} (hgd:o.guard = none) (s x:Operand)
  (ho:o.op = .call { callee:=.builtin .append,args:=#[s,x],argTypes:=#[117,117] }) {B m g off cap:Nat} {v:Value} {xs:List Value} {l:List UInt8}
  (hs:a.eval s = v) (hown:W.ownsRow B 5 1 v m xs) (hx:a.eval x = .slice (some ⟨g,off,none⟩) l.length cap) (hr:W.rangeAt g off (byteCells l)) (hm:m + l.length ≤ 1048576) (hB:B ≤ W.heap.size)
  (h:∀ v' W',W'.ownsRow B 5 1 v' (m + l.length) (xs ++ byteCells l)→W.grownBy W' v.ownBlock→wpList Tryz.prog ops Q rest (a.put o.dst v') W'):wpList Tryz.prog ops Q (o :: rest) a W:=
 wpList_plain hgd fun K hK=>by
  obtain ⟨i0,hi,hz⟩:=Option.map_eq_some_iff.1 u8infoA
  simp only [Prod.mk.injEq] at hz
  obtain ⟨hz0,hz1,hz2⟩:=hz
  obtain ⟨v',W',hr2,h2,h3,_,_⟩:=run_append_own_at (P:=Tryz.prog) W B 117 o.type 5 i0 _ 1 1 Tryz.underlying117 hi hz0 hz1 hz2 rfl (by decide) v m xs hown ⟨g,off,none⟩ l.length cap (byteCells l) (by rw [Lib.byteCells_length,Nat.mul_one]) (fun j u hj=>by
   rw [Addr.add_mid]
   exact hr j u hj) (cells_oneC l) (by unfold maxLen; omega) (by omega) hB
  unfold Oper.wp execOp
  simp only [ho,resolve,invoke,builtin,Sem.run_bind,Sem.run_pure,Result.andThen_ok,List.map_toArray,List.map_cons,List.map_nil,hs,hx,hr2]
  exact hK _ _ (h v' W' h2 h3)
theorem WrAt.grow {w W5:World} {wb:Nat} {v v':Value} {l m:List UInt8} (h:WrAt w wb v l) (h2:W5.ownsRow (wb + 1) 5 1 v' (l.length + m.length) (byteCells l ++ byteCells m)) (h3:w.grownBy W5 v.ownBlock) :
  (∃ u,W5.cell? ⟨wb,0,none⟩ = some u)∧W5.frozen? ⟨wb,0,none⟩ = false∧WrAt (W5.setCell ⟨wb,0,none⟩ v') wb v' (l ++ m)∧Above wb w (W5.setCell ⟨wb,0,none⟩ v'):=by
 have hne:v.ownBlock ≠ some wb:=fun e=>by have:=(h.own.lt wb e).1; omega
 have hc5:W5.heap[wb]? = some (.cells #[v,.bool true] 199 (0,0)):=(h3.block wb h.lt (fun e=>hne e.symm)).trans h.hp
 refine ⟨⟨v,cell_of hc5 0 rfl⟩,frozen_row hc5 _,⟨?_,?_⟩,?_⟩
 ·unfold World.setCell
  simp [Array.getElem?_modify,hc5]
 ·have e:byteCells (l ++ m) = byteCells l ++ byteCells m:=by simp [byteCells]
  rw [List.length_append,e]
  refine rowKeepK h2 fun g hg=>Below.heap_setCell W5 ⟨wb,0,none⟩ v' g (fun e=>?_)
  have:=(h2.lt g hg).1
  have e2:g = wb:=e
  omega
 ·intro B w0 h0 hB
  refine Below.setCell ?_ (p:=⟨wb,0,none⟩) hB _
  refine h0.grown h3 (by have:=h0.size; have:=h.lt; omega) fun g hg=>?_
  have:=(h.own.lt g hg).1
  omega
set_option maxHeartbeats 1000000 in
set_option maxRecDepth 100000 in
theorem newWriter_any (w:World):Calls Tryz.prog 75 #[] w fun e w'=>∃ wb,e = .returned (.pointer (some ⟨wb,0,none⟩))∧WrAt w' wb (.slice none 0 0) []∧w.heap.size ≤ wb∧Below w.heap.size w w':=by
 go_enter Tryz.func75,Tryz.ntmps75
 go_wp2_with fail
 go_ret
 exact ⟨_,rfl,⟨heap_one w _,rfl,.inl ⟨rfl,rfl⟩⟩,Nat.le_refl _,below_one w _⟩
set_option maxHeartbeats 4000000 in
set_option maxRecDepth 100000 in
theorem wrPut_any (wb:Nat) (v:Value) (l m:List UInt8) (g off cap:Nat) (w:World) (h:WrAt w wb v l) (hr:w.rangeAt g off (byteCells m)) (hlen:l.length + m.length ≤ 1048576) :
  Calls Tryz.prog 114 #[.pointer (some ⟨wb,0,none⟩),.slice (some ⟨g,off,none⟩) m.length cap] w fun e w'=>e = .returned (.tuple #[])∧(∃ v',WrAt w' wb v' (l ++ m))∧Above wb w w':=by
 have H:=hid h
 have HR:=hid hr
 obtain ⟨ao,n,c,rfl⟩:=h.form
 have c0:=cell_of h.hp 0 rfl
 have c1:=cell_of h.hp 1 rfl
 clear h hr
 go_enter Tryz.func114,Tryz.ntmps114
 go_wp2_with (refine wpList_appendU8 (by rfl) (.tmp 16) (.tmp 17) (by rfl) (by rfl) H.out.own (by rfl) HR.out hlen H.out.lt ?_; intro v' W5 h2 h3; obtain ⟨⟨u,q1⟩,q2,q3,q4⟩:=H.out.grow h2 h3; obtain ⟨vo,vk,vq,rfl⟩:=WrAt.form q3; have Q3:=hid q3; have Q4:=hid q4; clear q3 q4 h2 h3)
 go_end0
 exact ⟨rfl,⟨_,Q3.out⟩,Q4.out⟩
set_option maxHeartbeats 4000000 in
set_option maxRecDepth 100000 in
theorem wrVar_any (wb:Nat) (v:Value) (l:List UInt8) (n:Nat) (hn:n ≤ 127) (w:World) (h:WrAt w wb v l) (hlen:l.length + 1 ≤ 1048576) :
  Calls Tryz.prog 76 #[.pointer (some ⟨wb,0,none⟩),.int .u64 (n:Int)] w fun e w'=>e = .returned (.tuple #[])∧(∃ v',WrAt w' wb v' (l ++ [UInt8.ofNat n]))∧Above wb w w':=by
 have H:=hid h
 have n1:¬ (127:Int) < (n:Int):=by omega
 have n0:(0:Int) ≤ (n:Int):=by omega
 have n2:(n:Int) ≤ 255:=by omega
 have e8:((UInt8.ofNat n).toNat:Int) = (n:Int):=by simp; omega
 have hb:=below_one w (.cells #[.int .u8 (n:Int)] 5)
 have HB:=hid hb
 have HP:=hid (wrPut_any wb v l [UInt8.ofNat n] w.heap.size 0 1 (w.alloc (.cells #[.int .u8 (n:Int)] 5)) (h.below hb) (fun j u hj=>by
  rcases j with _ | j
  ·have e:u = .int .u8 (n:Int):=by
    simp only [byteCells,List.map_cons,List.map_nil,List.getElem?_cons_zero,Option.some.injEq,e8] at hj
    exact hj.symm
   rw [e]
   exact cell_of (heap_one w _) 0 rfl
  ·simp [byteCells] at hj) (by simpa using hlen))
 have HL:=hid h.lt
 clear h hb e8
 go_enter Tryz.func76,Tryz.ntmps76
 go_wp2_with fail
 go_loopw [1] (fun nv wr=>nv = .int .u64 (n:Int)∧w = wr) (fun _ _=>0)
 case atStart=>exact ⟨rfl,rfl⟩
 case round=>
  obtain ⟨rfl,rfl⟩:=hrel
  go_wp2_with (go_at_call 114; refine HP.out.mono ?_; rintro e w1 ⟨rfl,h1,h2⟩)
  go_end0
  exact ⟨rfl,h1,(Above.below HB.out HL.out).trans h2⟩
set_option maxHeartbeats 4000000 in
set_option maxRecDepth 100000 in
theorem wrHash_any (wb:Nat) (v:Value) (l X:List UInt8) (hX:X.length = 32) (w:World) (h:WrAt w wb v l) (hlen:l.length + 32 ≤ 1048576) :
  Calls Tryz.prog 77 #[.pointer (some ⟨wb,0,none⟩),hv X] w fun e w'=>e = .returned (.tuple #[])∧(∃ v',WrAt w' wb v' (l ++ X))∧Above wb w w':=by
 have HB:=hid (below_one w (.cells (byteCells X).toArray 23))
 have hP:=wrPut_any wb v l X w.heap.size 0 32 (w.alloc (.cells (byteCells X).toArray 23)) (h.below HB.out) (HashAt.new w X hX).range (by omega)
 rw [hX] at hP
 have HP:=hid hP
 have HL:=hid h.lt
 have hs:=hash_size hX
 clear h hP
 go_enter Tryz.func77,Tryz.ntmps77
 go_wp2_with (go_at_call 114; refine HP.out.mono ?_; rintro e w1 ⟨rfl,h1,h2⟩)
 go_end0
 exact ⟨rfl,h1,(Above.below HB.out HL.out).trans h2⟩
theorem own_rangeW {w:World} {B:Nat} {v:Value} {l:List UInt8} (h:w.ownsRow B 5 1 v l.length (byteCells l)):(l = []∧v = .slice none 0 0) ∨ ∃ g cap,v = .slice (some ⟨g,0,none⟩) l.length cap∧w.rangeAt g 0 (byteCells l):=by
 obtain ⟨_,ho⟩:=h
 rcases ho with ⟨hv,hn⟩ | ⟨g,cap,cur,rfl,_,hg,hc,_,_,htk⟩
 ·exact .inl ⟨List.length_eq_zero_iff.1 hn,hv⟩
 ·refine .inr ⟨g,cap,rfl,fun j u hj=>?_⟩
  rw [Nat.zero_add]
  refine cell_of hg j ?_
  rw [← htk,List.getElem?_take] at hj
  split at hj
  ·simpa using hj
  ·cases hj
theorem conv_none (W:World):(convert 117 9 (.slice none 0 0)).run Tryz.prog W = .ok (.string ⟨#[]⟩) W:=by kernel_rfl
set_option maxHeartbeats 4000000 in
set_option maxRecDepth 100000 in
theorem wrDone_any (wb:Nat) (v:Value) (l:List UInt8) (w:World) (h:WrAt w wb v l) :
  Calls Tryz.prog 78 #[.pointer (some ⟨wb,0,none⟩)] w fun e w'=>e = .returned (.string ⟨l.toArray⟩)∧w = w':=by
 have c0:=cell_of h.hp 0 rfl
 have hcv:∀ W,W = w→(convert 117 9 v).run Tryz.prog W = .ok (.string ⟨l.toArray⟩) W:=by
  rintro W rfl
  rcases own_rangeW h.own with ⟨rfl,rfl⟩ | ⟨g,cap,rfl,hr⟩
  ·exact conv_none W
  ·exact conv_range cap hr
 have hcv:=hcv w rfl
 obtain ⟨ao,n,c,rfl⟩:=h.form
 clear h
 go_enter Tryz.func78,Tryz.ntmps78
 go_wp2_with fail
 go_ret
 exact ⟨rfl,rfl⟩
theorem flat_len (c:List (List UInt8)) (h:∀ x ∈ c,x.length = 32):c.flatten.length = 32 * c.length:=by
 induction c with
 | nil=>rfl
 | cons a r ih=>rw [List.flatten_cons,List.length_append,ih fun x hx=>h x (List.mem_cons_of_mem _ hx),h a (List.mem_cons_self ..),List.length_cons]; omega
theorem flat_take (c:List (List UInt8)) (k:Nat) (X:List UInt8) (h:c[k]? = some X):(c.take (k + 1)).flatten = (c.take k).flatten ++ X:=by
 rw [List.take_add_one,h,List.flatten_append]
 simp
def ERel (w1:World) (wb:Nat) (hd:List UInt8) (c:List (List UInt8)) (kv:Value) (wr:World):Prop:=
 ∃ (k:Nat) (v:Value),kv = .int .i64 (k:Int)∧k ≤ c.length∧WrAt wr wb v (hd ++ (c.take k).flatten)∧Below w1.heap.size w1 wr
set_option maxHeartbeats 8000000 in
set_option maxRecDepth 100000 in
theorem encode_any (i:Nat) (hi:i ≤ 63) (c p:List (List UInt8)) (u v:Value) (w:World) (hu:HsIn w u c) (hv2:HsIn w v p) (hc:c.length = 67) (hp:p.length ≤ 6) :
  Calls Tryz.prog 35 #[.agg #[.int .i64 (i:Int),u,v]] w fun e w'=>e = .returned (.tuple #[.string ⟨(encF i c p).toArray⟩,.nilIface])∧Below w.heap.size w w':=by
 obtain ⟨z32,hz32,hzs⟩:=z32_ex2
 have HZS:=hid hzs
 have hM:mayF i c p = true:=by
  have i1:decide ((0:Int) ≤ (i:Int)) = true:=decide_eq_true (by omega)
  have i2:decide ((i:Int) ≤ 63) = true:=decide_eq_true (by omega)
  have i3:decide (p.length ≤ 6) = true:=decide_eq_true hp
  rw [mayF,hc,i1,i2,i3]
  rfl
 have HMA:=hid fun (W:World) (hb:Below w.heap.size w W)=>may_any i c p u v W (hu.below hb) (hv2.below hb)
 rw [hM] at HMA
 have HEN:=hid (show encF i c p = UInt8.ofNat i :: (c.flatten ++ UInt8.ofNat p.length :: p.flatten) from rfl)
 obtain ⟨R,hR⟩:∃ R,encF i c p = R:=⟨_,rfl⟩
 rw [hR] at HEN ⊢
 obtain ⟨hc32,ao,cap,rfl,_,hcr⟩:=hu
 obtain ⟨hp32,bo,dap,rfl,_,hpr⟩:=hv2
 have HC32:=hid hc32
 have HP32:=hid hp32
 have HCR:=hid hcr
 have HPR:=hid hpr
 obtain ⟨m,hm⟩:∃ m,p.length = m:=⟨_,rfl⟩
 rw [hm] at HMA HEN hp ⊢
 rw [hc] at HMA ⊢
 have HM:=hid hm
 have HC:=hid hc
 have i0:(0:Int) ≤ (i:Int):=by omega
 have m0:(0:Int) ≤ (m:Int):=by omega
 have i63:(i:Int) ≤ 63:=by omega
 have m6:(m:Int) ≤ 6:=by omega
 have HI:=hid hi
 have HP:=hid hp
 clear hzs hM hR hc32 hp32 hcr hpr hm hc hi hp
 go_enter Tryz.func35,Tryz.ntmps35
 go_upto_region 1 with fail
 have H1:=hid (heap_one w (.cells #[.int .i64 (i:Int),.slice ao 67 cap,.slice bo m dap] 73 (0,0)))
 have HB1:=hid (below_one w (.cells #[.int .i64 (i:Int),.slice ao 67 cap,.slice bo m dap] 73 (0,0)))
 generalize w.alloc (.cells #[.int .i64 (i:Int),.slice ao 67 cap,.slice bo m dap] 73) = w1 at *
 have c0:=cell_of H1.out 0 rfl
 have c1:=cell_of H1.out 1 rfl
 have c2:=cell_of H1.out 2 rfl
 go_upto_region 3 with (go_at_call 52; refine (HMA.out _ HB1.out).mono ?_; rintro e w2 ⟨rfl,hb2⟩)
 have HB12:=hid hb2
 clear c0 c1 c2 hb2
 go_upto_region 4 with (go_at_call 75; refine (newWriter_any w2).mono ?_; rintro e w3 ⟨wb,rfl,hwr,hwg,hb3⟩)
 have HB13:=hid (HB12.out.trans (hb3.mono HB12.out.size))
 have HWG:=hid (show w1.heap.size ≤ wb by have:=HB12.out.size; omega)
 have HV:=hid (wrVar_any wb _ [] i (by have:=HI.out; omega) w3 hwr (by decide))
 have c0:=cell_of (below_heap HB13.out H1.out) 0 rfl
 clear hwr hwg hb3
 go_upto_region 5 with (go_at_call 76; refine HV.out.mono ?_; rintro e w4 ⟨rfl,⟨v4,h4⟩,ha4⟩)
 have hb14:=ha4 _ _ HB13.out HWG.out
 have HS0:=hid (show ERel w1 wb [UInt8.ofNat i] c (.int .i64 0) w4 from ⟨0,v4,rfl,Nat.zero_le _,by simpa using h4,hb14⟩)
 have c1:=cell_of (below_heap hb14 H1.out) 1 rfl
 clear c0 h4 ha4 hb14 HV
 go_wp2_with fail
 clear c1
 go_loopw [22] (fun kv wr=>ERel w1 wb [UInt8.ofNat i] c kv wr) (fun kv _=>67 - (intOf kv).toNat)
 case atStart=>exact HS0.out
 case round=>
  obtain ⟨k,v5,rfl,hk,hwr,hbel⟩:=hrel
  rename World=>wr
  clear HS0
  have HW:=hid hwr
  have HBL:=hid hbel
  have hk67:k ≤ 67:=by rw [HC.out] at hk; exact hk
  have k0:(0:Int) ≤ (k:Int):=by omega
  by_cases hlt:k < 67
  ·have i1:(k:Int) < 67:=by omega
   obtain ⟨X,hX⟩:∃ X,c[k]? = some X:=⟨_,List.getElem?_eq_getElem (by rw [HC.out]; exact hlt)⟩
   have HXL:=hid (HC32.out X (List.mem_of_getElem? hX))
   obtain ⟨g,o,hao,hr⟩:=HCR.out (by intro e; have:=HC.out; rw [e] at this; cases this)
   subst hao
   have hxr:=range_below (HB1.out.trans (hbel.mono HB1.out.size)) (HsIn.at HC32.out hr hX)
   have HXR:=hid hxr
   have HFT:=hid (flat_take c k X hX)
   have HLT:=hid hlt
   clear hr hxr hX hlt hk hwr hbel
   go_upto_region 8 with (first | (refine wpList_load_mid (by rfl) 23 (.tmp 24) (by rfl) g (o + k * 32) (by rfl) (byteCells X) _ HXR.out Tryz.underlying23 rfl (by rw [Lib.byteCells_length,HXL.out]; exact hashInfo) ?_) | (refine wpList_hash (by rfl) (.tmp 6) (.tmp 25) (by rfl) (by rfl) (by rfl) (hash_size HXL.out) (hash_size HZS.out) (byteCells_all X) ?_))
   have hb:=below_one wr (.cells (byteCells X).toArray 23)
   have HH:=hid (HashAt.new wr X HXL.out)
   have HWA:=hid (wrHash_any wb v5 _ X HXL.out (wr.alloc (.cells (byteCells X).toArray 23)) (HW.out.below hb) (by
    have e:=flat_len (c.take k) (fun x hx=>HC32.out x (List.mem_of_mem_take hx))
    rw [List.length_append,e,List.length_take]
    have:=HLT.out
    simp only [List.length_cons,List.length_nil]
    omega))
   have HBN:=hid (HBL.out.trans (hb.mono HBL.out.size))
   generalize wr.alloc (.cells (byteCells X).toArray 23) = wn at *
   generalize wr.heap.size = gh at *
   clear hb
   go_wp2_with (first | (refine wpList_ldH (by rfl) (.tmp 6) (by rfl) (by rfl) HH.out ?_) | (go_at_call 77; refine HWA.out.mono ?_; rintro e wq ⟨rfl,⟨v6,h6⟩,ha6⟩))
   refine ⟨⟨k + 1,v6,by go_num,by have:=HLT.out; rw [HC.out]; omega,?_,ha6 _ _ HBN.out HWG.out⟩,by have:=HLT.out; simp [intOf]; omega⟩
   rw [HFT.out,← List.append_assoc]
   exact h6
  ·obtain rfl:k = 67:=by omega
   have i1:¬ (((67:Nat)):Int) < 67:=by omega
   have HW:=hid (show WrAt wr wb v5 (UInt8.ofNat i :: c.flatten) by
    have h:=HW.out
    rw [List.take_of_length_le (by rw [HC.out]; exact Nat.le_refl _)] at h
    exact h)
   have HFL:=hid (show (UInt8.ofNat i :: c.flatten).length = 2145 by rw [List.length_cons,flat_len c HC32.out,HC.out])
   obtain ⟨H1L,hH1L⟩:∃ H,UInt8.ofNat i :: c.flatten = H:=⟨_,rfl⟩
   have HH1:=hid hH1L
   rw [hH1L] at HW HFL
   have HV:=hid (wrVar_any wb v5 H1L m (by have:=HP.out; omega) wr HW.out (by rw [HFL.out]; decide))
   have c2:=cell_of (below_heap hbel H1.out) 2 rfl
   clear hk hwr hbel hlt hk67 hH1L
   go_upto_region 11 with (go_at_call 76; refine HV.out.mono ?_; rintro e w6 ⟨rfl,⟨v6,h6⟩,ha6⟩)
   have hb16:=ha6 _ _ HBL.out HWG.out
   obtain ⟨H2L,hH2L⟩:∃ H,H1L ++ [UInt8.ofNat m] = H:=⟨_,rfl⟩
   rw [hH2L] at h6
   have HH2:=hid hH2L
   have HFL2:=hid (show H2L.length = 2146 by rw [← hH2L,List.length_append,HFL.out]; rfl)
   have HS0:=hid (show ERel w1 wb H2L p (.int .i64 0) w6 from ⟨0,v6,rfl,Nat.zero_le _,by simpa using h6,hb16⟩)
   clear c2
   have c2:=cell_of (below_heap hb16 H1.out) 2 rfl
   clear h6 ha6 hb16 HV hH2L HW HBL
   go_wp2_with fail
   clear c2
   go_loopw [39] (fun kv wr=>ERel w1 wb H2L p kv wr) (fun kv _=>m - (intOf kv).toNat)
   case atStart=>exact HS0.out
   case round=>
    obtain ⟨k,v5,rfl,hk,hwr,hbel⟩:=hrel
    rename World=>wr
    clear HS0
    have HW:=hid hwr
    have HBL:=hid hbel
    have hkm:k ≤ m:=by rw [HM.out] at hk; exact hk
    have k0:(0:Int) ≤ (k:Int):=by omega
    by_cases hlt:k < m
    ·have i1:(k:Int) < (m:Int):=by omega
     obtain ⟨X,hX⟩:∃ X,p[k]? = some X:=⟨_,List.getElem?_eq_getElem (by rw [HM.out]; exact hlt)⟩
     have HXL:=hid (HP32.out X (List.mem_of_getElem? hX))
     obtain ⟨g,o,hao,hr⟩:=HPR.out (by intro e; have:=HM.out; rw [e] at this; simp at this; omega)
     subst hao
     have hxr:=range_below (HB1.out.trans (hbel.mono HB1.out.size)) (HsIn.at HP32.out hr hX)
     have HXR:=hid hxr
     have HFT:=hid (flat_take p k X hX)
     have HLT:=hid hlt
     clear hr hxr hX hlt hk hwr hbel
     go_upto_region 14 with (first | (refine wpList_load_mid (by rfl) 23 (.tmp 41) (by rfl) g (o + k * 32) (by rfl) (byteCells X) _ HXR.out Tryz.underlying23 rfl (by rw [Lib.byteCells_length,HXL.out]; exact hashInfo) ?_) | (refine wpList_hash (by rfl) (.tmp 8) (.tmp 42) (by rfl) (by rfl) (by rfl) (hash_size HXL.out) (hash_size HZS.out) (byteCells_all X) ?_))
     have hb:=below_one wr (.cells (byteCells X).toArray 23)
     have HH:=hid (HashAt.new wr X HXL.out)
     have HWA:=hid (wrHash_any wb v5 _ X HXL.out (wr.alloc (.cells (byteCells X).toArray 23)) (HW.out.below hb) (by
      have e:=flat_len (p.take k) (fun x hx=>HP32.out x (List.mem_of_mem_take hx))
      rw [List.length_append,e,List.length_take,HFL2.out]
      have:=HLT.out
      omega))
     have HBN:=hid (HBL.out.trans (hb.mono HBL.out.size))
     generalize wr.alloc (.cells (byteCells X).toArray 23) = wn at *
     generalize wr.heap.size = gh at *
     clear hb
     go_wp2_with (first | (refine wpList_ldH (by rfl) (.tmp 8) (by rfl) (by rfl) HH.out ?_) | (go_at_call 77; refine HWA.out.mono ?_; rintro e wq ⟨rfl,⟨v6,h6⟩,ha6⟩))
     refine ⟨⟨k + 1,v6,by go_num,by have:=HLT.out; rw [HM.out]; omega,?_,ha6 _ _ HBN.out HWG.out⟩,by have:=HLT.out; simp [intOf]; omega⟩
     rw [HFT.out,← List.append_assoc]
     exact h6
    ·obtain rfl:m = k:=by omega
     have i1:¬ (m:Int) < (m:Int):=by omega
     have HW:=hid (show WrAt wr wb v5 R by
      have h:=HW.out
      rw [List.take_of_length_le (by rw [HM.out]; exact Nat.le_refl _),← HH2.out,← HH1.out] at h
      rw [HEN.out]
      simpa using h)
     clear hk hwr hbel hlt hkm
     go_wp2_with (go_at_call 78; refine (wrDone_any wb v5 R wr HW.out).mono ?_; rintro e wq ⟨rfl,rfl⟩)
     go_ret2
     exact ⟨rfl,HB1.out.trans (HBL.out.mono HB1.out.size)⟩
end Go.Proofs.YticlgcfodlcpcaaGreatDoor
