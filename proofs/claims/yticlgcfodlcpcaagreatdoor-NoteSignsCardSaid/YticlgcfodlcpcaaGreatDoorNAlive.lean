/- A text that is signed,opened: in plain Lean. Those who are known,built. cartularylaw24.alive by its contract. -/
import Derived.Test.YticlgcfodlcpcaaGreatDoorNOpen
import Derived.Test.YticlgcfodlcpcaaGreatDoorSame
import Derived.Great.BuildSlice
namespace Go.Proofs.YticlgcfodlcpcaaGreatDoor
open Go.Lib (hid byteCells)
open Go.RowKit
theorem splitL_text {t:List UInt8} (hm:mayTxt t = true) (hn:(splitN t).2.1 ≠ 0):splitL t = some (t ++ [10],t,[]):=by
 unfold splitL
 rw [if_neg hn,if_pos hm]
theorem sg_fine (s:List UInt8) {h nx:Nat} (h6:h ≤ 6) (t:List UInt8) {name:List UInt8} (hna:nameOf name = true):fineLn (sgLine s h nx t name):=by
 refine ⟨hna,?_,?_⟩
 ·show encF nx _ _ ≠ []
  unfold encF
  simp
 ·show (encF nx _ _).length ≤ 4096
  rw [encF_length _ _ _ (signF_length _ _) (signF_len _ _) (kpath_len s h nx),kpath_length]
  omega
theorem sg_len (s:List UInt8) {h nx:Nat} (h6:h ≤ 6) (t:List UInt8) {name:List UInt8} (hna:nameOf name = true):(lineL (sgLine s h nx t name)).length ≤ 4000:=by
 rw [line_length]
 have h1:(sgLine s h nx t name).1.length ≤ 64:=(name_len hna).1
 have h2:(sgLine s h nx t name).2.length ≤ 2400:=by
  show (encF nx _ _).length ≤ 2400
  rw [encF_length _ _ _ (signF_length _ _) (signF_len _ _) (kpath_len s h nx),kpath_length]
  omega
 omega
theorem noteL_len (t:List UInt8) (L:Lines) (B:Nat) (hL:∀ x ∈ L,(lineL x).length ≤ B):(noteL t L).length ≤ t.length + 1 + L.length * B:=by
 have:(L.flatMap lineL).length ≤ L.length * B:=by
  induction L with
  | nil=>simp
  | cons x r ih=>
   rw [List.flatMap_cons,List.length_append,List.length_cons,Nat.succ_mul]
   have:=ih fun y hy=>hL y (List.mem_cons_of_mem _ hy)
   have:=hL x (List.mem_cons_self ..)
   omega
 unfold noteL
 rw [List.length_append,List.length_cons]
 omega
theorem holds_sg (s:List UInt8) {h nx:Nat} (h6:h ≤ 6) (hn:nx < 2 ^ h) (t name nk:List UInt8):holdsF t (nk,knode s h 0,(h:Int)) (sgLine s h nx t name).2 = true:=by
 have h64:2 ^ h ≤ 2 ^ 6:=Nat.pow_le_pow_right (by omega) h6
 unfold holdsF
 have e:decF (sgLine s h nx t name).2 = some (nx,signF (ownF s nx) (msgF nx t),kpath s h nx):=
  dec_enc nx _ _ (by omega) (signF_length _ _) (by rw [kpath_length]; exact h6) (signF_len _ _) (kpath_len s h nx)
 rw [e]
 exact decide_eq_true (ver_sign s t h nx h6 hn)
theorem may_len (t:List UInt8) (h:mayTxt t = true):t.length ≤ 524288:=mayTxt_len t h
theorem sg_code1 (s:List UInt8) {h nx:Nat} (hn:nx < 2 ^ h) {t name:List UInt8} (hm:mayTxt t = true) (hno:(splitN t).2.1 ≠ 0) (hna:nameOf name = true):sgCode h nx t name = 0∧sgOut s h nx t name = noteL t [sgLine s h nx t name]:=by
 have e:=splitL_text hm hno
 constructor
 ·unfold sgCode
  rw [e,hna]
  simp
  omega
 ·unfold sgOut
  rw [e]
  simp [noteL]
theorem splitN_one {s:List UInt8} {h nx:Nat} (h6:h ≤ 6) {t name:List UInt8} (hm:mayTxt t = true) (hna:nameOf name = true):splitN (noteL t [sgLine s h nx t name]) = ((t,[sgLine s h nx t name]),0,none):=by
 refine split_note t _ hm (fun x hx=>by rw [List.mem_singleton.1 hx]; exact sg_fine s h6 t hna) (by simp) (by simp) (by simp) ?_
 have:=noteL_len t [sgLine s h nx t name] 4000 (fun x hx=>by rw [List.mem_singleton.1 hx]; exact sg_len s h6 t hna)
 have:=may_len t hm
 simp only [List.length_singleton] at *
 omega
def helloL:List UInt8:=[104,101,108,108,111,10]
set_option maxRecDepth 100000 in
theorem hello_may:mayTxt helloL = true:=by decide +kernel
set_option maxRecDepth 100000 in
theorem hello_no:(splitN helloL).2.1 ≠ 0:=by decide +kernel
set_option maxRecDepth 100000 in
theorem name_a:nameOf [97] = true:=by decide +kernel
set_option maxRecDepth 100000 in
theorem name_b:nameOf [98] = true:=by decide +kernel
set_option maxRecDepth 100000 in
theorem split_x:splitN [120,10,10,10,226,128,148,32,97,32,81,81,61,61,10] = (([120,10,10],[([97],[65])]),0,none):=by decide +kernel
set_option maxRecDepth 100000 in
theorem split_h:splitN [104,101,108,108,111,10,10,120,10] = (([],[]),3,some 7):=by decide +kernel
set_option maxRecDepth 100000 in
theorem open_h:openN [104,101,108,108,111,10,10,226,128,148,32,97,32,81,81,61,61,10] [] = (([],[]),12,none):=by decide +kernel
theorem hello_sign (s:List UInt8):sgCode 0 0 helloL [97] = 0∧sgOut s 0 0 helloL [97] = noteL helloL [sgLine s 0 0 helloL [97]]:=sg_code1 s (by decide) hello_may hello_no name_a
theorem hello_len (s:List UInt8):(noteL helloL [sgLine s 0 0 helloL [97]]).length ≤ 5000:=by
 have:=noteL_len helloL [sgLine s 0 0 helloL [97]] 4000 (fun x hx=>by rw [List.mem_singleton.1 hx]; exact sg_len s (by decide) _ name_a)
 simp only [helloL,List.length_cons,List.length_nil] at this ⊢
 omega
theorem open_one {n t:List UInt8} {x:List UInt8 × List UInt8} {k:Kn} (h:splitN n = ((t,[x]),0,none)) (hk:k.1 = x.1) (hh:holdsF t k x.2 = true):openN n [k] = ((t,[x.1]),0,none):=by
 unfold openN
 rw [h]
 have hf:fndK [k] x.1 = some k:=by
  unfold fndK
  rw [List.find?_cons_of_pos (by simp [hk])]
 have e:openL t [k] [x] = some [x.1]:=by
  rw [openL_yes hf hh,openL]
  rfl
 simp [e]
theorem hello_open (s:List UInt8):openN (noteL helloL [sgLine s 0 0 helloL [97]]) [([97],knode s 0 0,((0:Nat):Int))] = ((helloL,[[97]]),0,none):=
 open_one (x:=sgLine s 0 0 helloL [97]) (splitN_one (by decide) hello_may name_a) rfl (holds_sg s (by decide) (by decide) helloL [97] [97])
theorem hello_again:sgCode 0 1 helloL [98] = 11:=by
 unfold sgCode
 rw [splitL_text hello_may hello_no,name_b]
 simp
theorem as_fun (H:List UInt8) (hH:H.length = 32):∃ f:Nat→UInt8,H = (List.range 32).map f:=⟨fun i=>H.getD i 0,by
 refine List.ext_getElem? fun i=>?_
 rw [List.getElem?_map]
 by_cases h:i < 32
 ·rw [List.getElem?_range h,List.getElem?_eq_getElem (by omega)]
  simp only [Option.map_some,List.getD_eq_getElem?_getD]
  rw [List.getElem?_eq_getElem (by omega)]
  rfl
 ·rw [List.getElem?_eq_none (by omega),List.getElem?_eq_none (by rw [List.length_range]; omega)]
  rfl⟩
set_option maxRecDepth 100000 in
theorem built_known2 (nm H:List UInt8) (hH:H.length = 32):Tryz.prog.built 64 [(0,.string ⟨nm.toArray⟩),(1,.agg (byteCells H).toArray)] = some (knC (nm,H,0)).toArray:=by
 obtain ⟨f,rfl⟩:=as_fun H hH
 kernel_rfl
set_option maxRecDepth 100000 in
theorem run_buildSlice_kn (k:Kn) (hk:k.2.1.length = 32) (w:World):(Instr.buildSlice 57 1 #[(0,.agg (knC k).toArray)]).run Tryz.prog w = .ok (.slice (some ⟨w.heap.size,0,none⟩) 1 1) (w.alloc (.cells (knC k).toArray 64)):=by
 obtain ⟨nm,H,h⟩:=k
 obtain ⟨f,hf⟩:=as_fun H hk
 subst hf
 kernel_rfl
theorem wpList_buildKn2 {ops:Array Oper} {rest:List Oper} {o:Oper} {a:Act} {W:World} {Q:Exit→Act→World→Prop} (hgd:o.guard = none) (x y:Operand) (ho:o.op = .build 64 #[(0,x),(1,y)])
  (nm H:List UInt8) (hx:a.eval x = .string ⟨nm.toArray⟩) (hy:a.eval y = .agg (byteCells H).toArray) (hH:H.length = 32)
  (h:wpList Tryz.prog ops Q rest (a.put o.dst (.agg (knC (nm,H,0)).toArray)) W):wpList Tryz.prog ops Q (o :: rest) a W:=
 wpList_buildTo hgd 64 _ ho _ rfl _ (by simp only [List.map_toArray,List.map_cons,List.map_nil,hx,hy]; exact built_known2 nm H hH) h
theorem wpList_sliceKn {ops:Array Oper} {rest:List Oper} {o:Oper} {a:Act} {W:World} {Q:Exit→Act→World→Prop} (hgd:o.guard = none) (x:Operand) (ho:o.op = .buildSlice 57 1 #[(0,x)])
  (k:Kn) (hx:a.eval x = .agg (knC k).toArray) (hk:k.2.1.length = 32)
  (h:wpList Tryz.prog ops Q rest (a.put o.dst (.slice (some ⟨W.heap.size,0,none⟩) 1 1)) (W.alloc (.cells (knC k).toArray 64))):wpList Tryz.prog ops Q (o :: rest) a W:=
 wpList_plain hgd fun K hK=>by
  have hr:=run_buildSlice_kn k hk W
  unfold Oper.wp execOp
  simp only [ho,List.map_toArray,List.map_cons,List.map_nil,hx,Sem.run_bind,hr,Result.andThen_ok,Sem.run_pure]
  exact hK _ _ h
theorem knIn_one (w:World) (k:Kn):KnIn (w.alloc (.cells (knC k).toArray 64)) (.slice (some ⟨w.heap.size,0,none⟩) 1 1) [k]:=⟨_,1,rfl,fun _=>⟨_,rfl,fun i x hx=>by
 cases i with
 | zero=>
  simp only [List.getElem?_cons_zero,Option.some.injEq] at hx
  subst hx
  rw [Nat.zero_mul]
  exact kn_row (heap_one w _)
 | succ i=>simp at hx⟩⟩
set_option maxRecDepth 100000 in
theorem built_hash1:Tryz.prog.built 23 [(0,.int .u8 1)] = some (byteCells (1 :: List.replicate 31 0)).toArray:=by kernel_rfl
theorem wpList_buildH1 {ops:Array Oper} {rest:List Oper} {o:Oper} {a:Act} {W:World} {Q:Exit→Act→World→Prop} (hgd:o.guard = none) (x:Operand) (ho:o.op = .build 23 #[(0,x)])
  (c:Int) (s:List UInt8) (hx:a.eval x = .int .u8 c) (hs:Tryz.prog.built 23 [(0,.int .u8 c)] = some (byteCells s).toArray)
  (h:wpList Tryz.prog ops Q rest (a.put o.dst (.agg (byteCells s).toArray)) W):wpList Tryz.prog ops Q (o :: rest) a W:=
 wpList_buildTo hgd 23 _ ho _ rfl _ (by simp only [List.map_toArray,List.map_cons,List.map_nil,hx]; exact hs) h
theorem textsOne (w:World) (l:List UInt8):TextsIn (w.alloc (.cells #[.string ⟨l.toArray⟩] 9)) (.slice (some ⟨w.heap.size,0,none⟩) 1 1) [l]:=⟨_,1,rfl,fun _=>⟨_,0,rfl,fun k x hx=>by
 cases k with
 | zero=>
  simp only [List.getElem?_cons_zero,Option.some.injEq] at hx
  subst hx
  exact cell_of (heap_one w _) 0 rfl
 | succ k=>simp at hx⟩⟩
set_option maxHeartbeats 8000000 in
set_option maxRecDepth 100000 in
theorem alive_any (S:Nat→Addr) (w:World) (hF:FW S w):Calls Tryz.prog 7 #[] w fun e w'=>e = .returned (.bool true)∧Below w.heap.size w w':=by
 have HF:=hid fun (W:World) (hW:Below w.heap.size w W)=>hF.below hW
 have HT1:=hid fun (W:World) (hW:Below w.heap.size w W)=>text_any S [120,10,10,10,226,128,148,32,97,32,81,81,61,61,10] (by decide) W (hF.below hW).base
 have HT2:=hid fun (W:World) (hW:Below w.heap.size w W)=>text_any S [104,101,108,108,111,10,10,120,10] (by decide) W (hF.below hW).base
 have HO3:=hid fun (W:World) (hW:Below w.heap.size w W)=>open_any S [104,101,108,108,111,10,10,226,128,148,32,97,32,81,81,61,61,10] (.slice none 0 0) [] (by decide) (fun k hk=>absurd hk List.not_mem_nil) (by decide) W (hF.below hW) (knNil W)
 rw [split_x] at HT1
 rw [split_h] at HT2
 rw [open_h] at HO3
 unfold OpenPost at HO3
 have HN:=hid fun (W:World) (hW:Below w.heap.size w W)=>keyNew_any S (1 :: List.replicate 31 0) 0 rfl (by decide) W (hF.below hW)
 have HLA:=hid (fun (W W':World) (hW:Below w.heap.size w W) (hW':Below W.heap.size W W')=>hW.trans (hW'.mono hW.size))
 obtain ⟨sec,hsec⟩:∃ s,(1:UInt8) :: List.replicate 31 0 = s:=⟨_,rfl⟩
 have hb1:=built_hash1
 rw [hsec] at HN hb1
 have HB1:=hid hb1
 have HIA:=hid fun (W:World) (v:Value) (hW:Below w.heap.size w W) (h:ErrAt S W v 3 (some 7))=>(by
  have h2:=isAt_any S W v 3 (some 7) 3 7 (hF.below hW).base h
  rwa [show isAtB 3 (some 7) 3 7 = true by decide] at h2:Calls Tryz.prog 23 #[v,.int .i64 3,.int .i64 7] W fun e w'=>e = .returned (.bool true)∧Below W.heap.size W w')
 have HI12:=hid fun (W:World) (v:Value) (hW:Below w.heap.size w W) (h:ErrAt S W v 12 none)=>(by
  have h2:=is_any S W v 12 none 12 (hF.below hW).base h
  rwa [show isB 12 none 12 = true by decide] at h2:Calls Tryz.prog 11 #[v,.int .i64 12] W fun e w'=>e = .returned (.bool true)∧Below W.heap.size W w')
 have HI11:=hid fun (W:World) (v:Value) (hW:Below w.heap.size w W) (h:ErrAt S W v 11 none)=>(by
  have h2:=is_any S W v 11 none 11 (hF.below hW).base h
  rwa [show isB 11 none 11 = true by decide] at h2:Calls Tryz.prog 11 #[v,.int .i64 11] W fun e w'=>e = .returned (.bool true)∧Below W.heap.size W w')
 have hs1:=hello_sign sec
 have hlen:=hello_len sec
 have hop:=hello_open sec
 obtain ⟨N,hN⟩:∃ N,noteL helloL [sgLine sec 0 0 helloL [97]] = N:=⟨_,rfl⟩
 rw [hN] at hs1 hlen hop
 have HPL:=hid (knode_len sec 0 0)
 have HPU:=hid (fun (kb:Nat) (W:World) (hk:KeyF W kb sec 0 1)=>keyPublic_any kb sec 0 1 W hk)
 obtain ⟨pub,hpub⟩:∃ p,knode sec 0 0 = p:=⟨_,rfl⟩
 rw [hpub] at HPU HPL hop
 rw [show (((0:Nat):Int)) = 0 from rfl] at hop
 have HSG:=hid (fun (kb:Nat) (W:World) (hW:Below w.heap.size w W) (hkb:w.heap.size ≤ kb) (hk:KeyF W kb sec 0 0)=>(by
  refine (nsign_any S kb sec 0 0 (by decide) helloL [97] (by decide) (by decide) w W hF hW hkb hk).mono ?_
  rintro e w' ⟨ev,rfl,h1,h2,_,h4⟩
  rw [hs1.1] at h1 h2
  rw [hs1.1,hs1.2]
  obtain rfl:=ErrAt.zero2 h1 rfl
  exact ⟨rfl,h2,h4⟩:Calls Tryz.prog 10 #[.string ⟨#[104,101,108,108,111,10]⟩,.string ⟨#[97]⟩,.pointer (some ⟨kb,0,none⟩)] W fun e w'=>e = .returned (.tuple #[.string ⟨N.toArray⟩,.nilIface])∧KeyF w' kb sec 0 1∧Below w.heap.size w w'))
 have HSB:=hid (fun (kb:Nat) (W:World) (hW:Below w.heap.size w W) (hkb:w.heap.size ≤ kb) (hk:KeyF W kb sec 0 1)=>(by
  refine (nsign_any S kb sec 0 1 (by decide) helloL [98] (by decide) (by decide) w W hF hW hkb hk).mono ?_
  rintro e w' ⟨ev,rfl,h1,h2,h3,h4⟩
  rw [hello_again] at h1 h2
  rw [hello_again]
  exact ⟨ev,rfl,h1,h3,h4⟩:Calls Tryz.prog 10 #[.string ⟨#[104,101,108,108,111,10]⟩,.string ⟨#[98]⟩,.pointer (some ⟨kb,0,none⟩)] W fun e w'=>∃ ev,e = .returned (.tuple #[.string ⟨#[]⟩,ev])∧ErrAt S w' ev 11 none∧But [kb] W w'∧Below w.heap.size w w'))
 have HOP:=hid (fun (W:World) (kv:Value) (hW:Below w.heap.size w W) (hkn:KnIn W kv [([97],pub,0)])=>(by
  have h:=open_any S N kv [([97],pub,0)] (by omega) (fun k hk=>by rw [List.mem_singleton.1 hk]; exact ⟨show ([97]:List UInt8).length ≤ 1048576 by decide,HPL.out,show idxOk 0 from ⟨by decide,by decide⟩⟩) (by simp) W (hF.below hW) hkn
  unfold OpenPost at h
  rw [hop] at h
  exact h:Calls Tryz.prog 19 #[.string ⟨N.toArray⟩,kv] W fun e w'=>∃ v ev,e = .returned (.tuple #[.string ⟨#[104,101,108,108,111,10]⟩,v,ev])∧(∀ W':World,(∀ k,W.heap.size ≤ k→k < w'.heap.size→W'.heap[k]? = w'.heap[k]?)→TextsIn W' v [[97]])∧ErrAt S w' ev 0 none∧Below W.heap.size W w'))
 clear hF hb1 hs1 hlen hop hN hpub hsec
 go_enter Tryz.func7,Tryz.ntmps7
 go_upto_region 2 with (go_at_call 16; refine (HT1.out _ (Below.refl _ _)).mono ?_; rintro e w1 ⟨ev1,rfl,he1,hb1⟩; obtain rfl:=ErrAt.zero2 he1 rfl; have HB:=hid hb1; clear he1 hb1)
 go_upto_region 3 with (go_at_call 16; refine (HT2.out _ HB.out).mono ?_; rintro e w2 ⟨ev2,rfl,he2,hb2⟩; have HB2:=hid (HLA.out _ _ HB.out hb2); have HE2:=hid he2; clear he2 hb2)
 go_upto_region 4 with (go_at_call 19; refine (HO3.out _ HB2.out).mono ?_; rintro e w3 ⟨v3,ev3,rfl,ht3,he3,hb3⟩; have HB3:=hid (HLA.out _ _ HB2.out hb3); have HE3:=hid he3; have HE2:=hid (HE2.out.below hb3); clear he3 hb3 ht3)
 go_upto_region 5 with (first | (refine wpList_buildH1 (by rfl) (.const (.int .u8 1)) (by rfl) 1 sec (by rfl) HB1.out ?_) | (go_at_call 8; refine (HN.out _ HB3.out).mono ?_; rintro e w4 ⟨kb,lv,rfl,hkb,hk,hb4⟩))
 have HB4:=hid (HLA.out _ _ HB3.out hb4)
 have HE2:=hid (HE2.out.below hb4)
 have HE3:=hid (HE3.out.below hb4)
 have HKB:=hid (Nat.le_trans HB3.out.size hkb)
 have HKF:=hid (show KeyF w4 kb sec 0 0 from ⟨by decide,lv,hk⟩)
 clear hkb hk hb4
 go_upto_region 7 with (first | (go_at_call 23; refine (HIA.out _ _ HB4.out HE2.out).mono ?_; rintro e w5 ⟨rfl,hb5⟩; have HB4:=hid (HLA.out _ _ HB4.out hb5); have HE3:=hid (HE3.out.below hb5); have HKF:=hid (HKF.out.below hb5); clear hb5) | (go_at_call 11; refine (HI12.out _ _ HB4.out HE3.out).mono ?_; rintro e w6 ⟨rfl,hb6⟩; have HB4:=hid (HLA.out _ _ HB4.out hb6); have HKF:=hid (HKF.out.below hb6); clear hb6))
 go_upto_region 8 with (go_at_call 10; refine (HSG.out _ _ HB4.out HKB.out HKF.out).mono ?_; rintro e w7 ⟨rfl,hk7,hb7⟩; have HB7:=hid hb7; have HK7:=hid hk7; clear hb7 hk7)
 go_upto_region 9 with (first | (go_at_call 18; refine (HPU.out _ _ HK7.out).mono ?_; rintro e w8 ⟨rfl,hb8⟩; have HB8:=hid (HLA.out _ _ HB7.out hb8); have HK8:=hid (HK7.out.below hb8); clear hb8) | (refine wpList_buildKn2 (by rfl) (.const (.string ⟨#[97]⟩)) (.tmp 63) (by rfl) [97] pub (by rfl) (by rfl) HPL.out ?_) | (refine wpList_sliceKn (by rfl) (.tmp 64) (by rfl) ([97],pub,0) (by rfl) HPL.out ?_) | (go_at_call 19; refine (HOP.out _ _ (HLA.out _ _ HB8.out (below_one _ _)) (knIn_one _ _)).mono ?_; rintro e w9 ⟨v9,ev9,rfl,ht9,he9,hb9⟩; obtain rfl:=ErrAt.zero2 he9 rfl; have HB9:=hid (HLA.out _ _ (HLA.out _ _ HB8.out (below_one _ _)) hb9); have HK9:=hid ((HK8.out.below (below_one _ _)).below hb9); have HT9:=hid ht9; have HLT:=hid (HK8.out.below (below_one _ (.cells (knC ([97],pub,0)).toArray 64))).lt; clear hb9 ht9 he9))
 go_upto_region 10 with (go_at_call 10; refine (HSB.out _ _ HB9.out HKB.out HK9.out).mono ?_; rintro e w10 ⟨ev10,rfl,he10,hbut,hb10⟩; have HB10:=hid hb10; have HE10:=hid he10; have HT10:=hid (HT9.out w10 (fun k hk hk2=>hbut.block k hk2 (by rw [List.mem_singleton]; have:=HLT.out; omega))); clear he10 hb10 hbut)
 have HST:=hid (fun (W:World) (u:Value) (h1:TextsIn W v9 [[97]]) (h2:TextsIn W u [[97]])=>(by
  have h:=sameTexts_any W v9 u [[97]] [[97]] h1 h2 (by decide) (by decide)
  rw [show decide (([[97]]:List (List UInt8)) = [[97]]) = true by decide] at h
  refine h.mono ?_
  rintro e w' ⟨rfl,n,rfl⟩
  exact ⟨rfl,below_drewN (Below.refl _ _) n⟩:Calls Tryz.prog 20 #[v9,u] W fun e w'=>e = .returned (.bool true)∧Below W.heap.size W w'))
 have HBA:=hid (HLA.out _ _ HB10.out (below_one w10 (.cells #[.string ⟨#[97]⟩] 9 (0,0))))
 have HEA:=hid (HE10.out.below (below_one w10 (.cells #[.string ⟨#[97]⟩] 9 (0,0))))
 have HTA:=hid (HT10.out.below (below_one w10 (.cells #[.string ⟨#[97]⟩] 9 (0,0))))
 go_wp2_with (first | (go_at_call 20; refine (HST.out _ _ HTA.out (textsOne _ _)).mono ?_; rintro e w11 ⟨rfl,hb11⟩; have HB11:=hid (HLA.out _ _ HBA.out hb11); have HE11:=hid (HEA.out.below hb11)) | (go_at_call 11; refine (HI11.out _ _ HB11.out HE11.out).mono ?_; rintro e w6 ⟨rfl,hb6⟩))
 go_ret
 exact ⟨rfl,HLA.out _ _ HB11.out hb6⟩
end Go.Proofs.YticlgcfodlcpcaaGreatDoor
