/- What keys.Decode reads,hash by hash: in plain Lean; worlds that differ in one block; whole hashes stored as one step. keys.Decode by its contract. -/
import Derived.Test.YticlgcfodlcpcaaGreatDoorNRep
import Derived.Test.YticlgcfodlcpcaaGreatDoorNKVer
namespace Go.Proofs.YticlgcfodlcpcaaGreatDoor
open Go.Lib (hid byteCells)
open Go.RowKit
def HsRel (N:Nat) (st0 st:Option (List UInt8)) (Cs:List (List UInt8)):Prop:=
 (st0 = none→st = none)∧(∀ x ∈ Cs,x.length = 32)∧Cs.length ≤ N∧∀ l,st0 = some l→(st = none→rdHs N l = none)∧(∀ l',st = some l'→rdHs N l = (rdHs (N - Cs.length) l').map fun x=>(Cs ++ x.1,x.2))
theorem HsRel.start (N:Nat) (st:Option (List UInt8)):HsRel N st st []:=
 ⟨id,fun _ h=>(by cases h),Nat.zero_le _,fun l hl=>⟨fun h=>(by rw [hl] at h; cases h),fun l' hl'=>by
  rw [hl] at hl'
  cases hl'
  show rdHs N l = (rdHs N l).map _
  cases rdHs N l <;> simp⟩⟩
theorem HsRel.step {N:Nat} {st0 st:Option (List UInt8)} {Cs:List (List UInt8)} (h:HsRel N st0 st Cs) (hn:Cs.length < N) {X:List UInt8} (hX:X.length = 32) (hx:∀ l,st = some l→32 ≤ l.length→X = l.take 32):HsRel N st0 (rdHashS st) (Cs ++ [X]):=by
 obtain ⟨h0,h32,h1,h2⟩:=h
 refine ⟨fun e=>by rw [h0 e]; rfl,fun x hx=>?_,by rw [List.length_append,List.length_singleton]; omega,fun l hl=>?_⟩
 ·rcases List.mem_append.1 hx with h | h
  ·exact h32 x h
  ·rw [List.mem_singleton.1 h]; exact hX
 obtain ⟨h3,h4⟩:=h2 l hl
 cases st with
 | none=>
  refine ⟨fun _=>h3 rfl,fun l' hl'=>?_⟩
  have e:rdHashS none = none:=rfl
  rw [e] at hl'
  cases hl'
 | some m=>
  have h5:=h4 m rfl
  obtain ⟨q,hq⟩:∃ q,N - Cs.length = q + 1:=⟨N - Cs.length - 1,by omega⟩
  have hq2:N - (Cs ++ [X]).length = q:=by rw [List.length_append,List.length_singleton]; omega
  rw [hq] at h5
  by_cases hm:m.length < 32
  ·have e:rdHashS (some m) = none:=by unfold rdHashS; simp [hm]
   rw [e]
   refine ⟨fun _=>by rw [h5,rdHs,if_pos hm]; rfl,fun l' hl'=>by cases hl'⟩
  ·have e:rdHashS (some m) = some (m.drop 32):=by unfold rdHashS; simp [hm]
   rw [e,hq2]
   refine ⟨fun h=>(by cases h),fun l' hl'=>?_⟩
   cases hl'
   rw [h5,rdHs,if_neg hm,hx m rfl (by omega)]
   cases rdHs q (m.drop 32) with
   | none=>rfl
   | some x=>simp
theorem HsRel.done {N:Nat} {st0 st:Option (List UInt8)} {Cs:List (List UInt8)} (h:HsRel N st0 st Cs) (hn:Cs.length = N):st = st0.bind (fun l=>(rdHs N l).map Prod.snd)∧∀ l x,st0 = some l→rdHs N l = some x→x.1 = Cs:=by
 obtain ⟨h0,_,_,h2⟩:=h
 cases st0 with
 | none=>exact ⟨h0 rfl,fun l x hl=>(by cases hl)⟩
 | some l=>
  obtain ⟨h3,h4⟩:=h2 l rfl
  cases st with
  | none=>
   have:=h3 rfl
   refine ⟨by simp [this],fun l2 x hl hx=>?_⟩
   cases hl
   rw [this] at hx; cases hx
  | some m=>
   have:=h4 m rfl
   rw [hn,Nat.sub_self,rdHs] at this
   refine ⟨by simp [this],fun l2 x hl hx=>?_⟩
   cases hl
   rw [this] at hx
   simp only [Option.map_some,Option.some.injEq] at hx
   rw [← hx]
   simp
def VarRel (st:Option (List UInt8)) (n:Nat) (st':Option (List UInt8)):Prop:=(st = none→st' = none)∧(∀ l,st = some l→(rdVar 0 l = none∧st' = none) ∨ (∃ r,rdVar 0 l = some (n,r)∧st' = some r))
theorem decF_steps (b:List UInt8) (i n:Nat) (s1 s2 s3 s4:Option (List UInt8)) (C P:List (List UInt8)) (h1:VarRel (some b) i s1) (h2:HsRel 67 s1 s2 C) (hC:C.length = 67) (h3:VarRel s2 n s3) (h4:HsRel (min n 6) s3 s4 P) (hP:P.length = min n 6) :
  decF b = if s4 = some []∧n ≤ 6∧i ≤ 63 then some (i,C,P) else none:=by
 obtain ⟨a0,a1⟩:=h1
 obtain ⟨d1,d2⟩:=h2.done hC
 obtain ⟨c0,c1⟩:=h3
 obtain ⟨e1,e2⟩:=h4.done hP
 have neg:s4 = none→(if s4 = some []∧n ≤ 6∧i ≤ 63 then some (i,C,P) else none) = none:=fun h=>by rw [h,if_neg (by simp)]
 have n3:s3 = none→s4 = none:=fun h=>by rw [e1,h]; rfl
 have n2:s2 = none→s4 = none:=fun h=>n3 (c0 h)
 have n1:s1 = none→s4 = none:=fun h=>n2 (by rw [d1,h]; rfl)
 unfold decF
 rcases a1 b rfl with ⟨hv,hs⟩ | ⟨r,hv,hs⟩
 ·rw [hv,neg (n1 hs)]; rfl
 rw [hv]
 simp only [Option.bind_some]
 rw [hs] at d1 d2
 simp only [Option.bind_some] at d1
 cases hr:rdHs 67 r with
 | none=>
  rw [hr] at d1
  rw [neg (n2 d1)]
  rfl
 | some x=>
  rw [hr] at d1
  have hxC:=d2 r x rfl hr
  simp only [Option.map_some] at d1
  simp only [Option.bind_some]
  rcases c1 x.2 d1 with ⟨hv2,hs2⟩ | ⟨r2,hv2,hs2⟩
  ·rw [hv2,neg (n3 hs2)]; rfl
  rw [hv2]
  simp only [Option.bind_some]
  by_cases h6:6 < n
  ·rw [if_pos h6,if_neg (by omega)]
  rw [if_neg h6]
  have hmin:min n 6 = n:=by omega
  rw [hs2,hmin] at e1 e2
  simp only [Option.bind_some] at e1
  cases hr2:rdHs n r2 with
  | none=>
   rw [hr2] at e1
   rw [neg e1]
   rfl
  | some y=>
   rw [hr2] at e1
   have hyP:=e2 r2 y rfl hr2
   simp only [Option.map_some] at e1
   simp only [Option.bind_some]
   rw [hxC,hyP,e1]
   by_cases hy:y.2 = []∧i ≤ 63
   ·rw [if_pos hy,if_pos ⟨by rw [hy.1],by omega,hy.2⟩]
   ·rw [if_neg hy,if_neg]
    rintro ⟨h1,_,h2⟩
    exact hy ⟨by simpa using h1,h2⟩
theorem HsIn.eq {w w':World} {ao:Option Addr} {n cap:Nat} {hs:List (List UInt8)} (h:HsIn w (.slice ao n cap) hs) (he:∀ a,ao = some a→w'.heap[a.block]? = w.heap[a.block]?):HsIn w' (.slice ao n cap) hs:=by
 obtain ⟨h1,ao2,cap2,hv,hc,h2⟩:=h
 cases hv
 refine ⟨h1,_,_,rfl,hc,fun hne=>?_⟩
 obtain ⟨g,o,rfl,hr⟩:=h2 hne
 exact ⟨g,o,rfl,fun j v hj=>(World.cell?_of_block (a:=⟨g,o + j,none⟩) (he ⟨g,o,none⟩ rfl)).trans (hr j v hj)⟩
theorem SgW.eq {w w':World} {b:Nat} {iv cv pv:Value} {L:List (List UInt8)} (h:SgW w b iv cv pv L) (he:∀ k,b ≤ k→k < w.heap.size→w'.heap[k]? = w.heap[k]?):SgW w' b iv cv pv L:=
 ⟨(he b (Nat.le_refl _) h.lt).trans h.hp,rowKeepK h.own fun g hg=>he g (by have:=(h.own.lt g hg).1; omega) (h.own.lt g hg).2⟩
theorem step_storeR {ops:Array Oper} {o:Oper} {a:Act} {K:Act→World→Prop} {Q:Exit→Act→World→Prop} {E:Prop} (hgd:o.guard = none) (x y:Operand) (ho:o.op = .store 23 x y) {W w0:World} {B:Nat}
  {g i:Nat} {L:List (List UInt8)} {l:List UInt8} (hx:a.eval x = .pointer (some ⟨g,i * 32,none⟩)) (hy:a.eval y = .agg (byteCells l).toArray) (hg:RowAt W g L) (hi:i < L.length) (hl:l.length = 32) (hb:Below B w0 W) (hB:B ≤ g)
  (h:∀ W',RowAt W' g (L.set i l)→Below B w0 W'→(∀ k,k ≠ g→W'.heap[k]? = W.heap[k]?)→K (a.put o.dst undef) W'):if Region.wanted o (yielded ops a.tmps) = true then Oper.wp Tryz.prog o a W K Q else E:=by
 have hw:Region.wanted o (yielded ops a.tmps) = true:=by simp [Region.wanted,hgd]
 rw [if_pos hw]
 refine wp_store_mid 23 x y ho g (i * 32) (byteCells l).toArray hx hy (by rw [hash_size hl]; exact hg.there hi) (by rw [hash_size hl]; exact hashInfo) (byteCells_all _) ?_
 exact h _ (hg.set hi hl) (below_setCellsN hB _ _ _ hb) (fun k hk=>setCells_other _ _ _ _ _ hk)
set_option maxRecDepth 100000 in
theorem infoHashZ:(Tryz.prog.info? 23).map (fun i=>(i.zero,i.size,i.bytes)) = some (some (.agg #[.int .u8 0,.int .u8 0,.int .u8 0,.int .u8 0,.int .u8 0,.int .u8 0,.int .u8 0,.int .u8 0,.int .u8 0,.int .u8 0,.int .u8 0,.int .u8 0,.int .u8 0,.int .u8 0,.int .u8 0,.int .u8 0,.int .u8 0,.int .u8 0,.int .u8 0,.int .u8 0,.int .u8 0,.int .u8 0,.int .u8 0,.int .u8 0,.int .u8 0,.int .u8 0,.int .u8 0,.int .u8 0,.int .u8 0,.int .u8 0,.int .u8 0,.int .u8 0]),32,32):=by kernel_rfl
theorem make_rowz (z:List UInt8) (hz:(#[.int .u8 0,.int .u8 0,.int .u8 0,.int .u8 0,.int .u8 0,.int .u8 0,.int .u8 0,.int .u8 0,.int .u8 0,.int .u8 0,.int .u8 0,.int .u8 0,.int .u8 0,.int .u8 0,.int .u8 0,.int .u8 0,.int .u8 0,.int .u8 0,.int .u8 0,.int .u8 0,.int .u8 0,.int .u8 0,.int .u8 0,.int .u8 0,.int .u8 0,.int .u8 0,.int .u8 0,.int .u8 0,.int .u8 0,.int .u8 0,.int .u8 0,.int .u8 0]:Array Value) = (byteCells z).toArray) (hzs:z.length = 32) (n:Nat) (hn:n ≤ 1048577) (W:World):(Instr.makeSlice 41 (.int .i64 (n:Int)) (.int .i64 (n:Int))).run Tryz.prog W = .ok (.slice (some ⟨W.heap.size,0,none⟩) n n) (W.alloc (.cells (hcells (List.replicate n z)).toArray 23)):=by
 have hinfo:=infoHashZ
 rw [hz] at hinfo
 obtain ⟨i0,hi,hz0⟩:=Option.map_eq_some_iff.1 hinfo
 simp only [Prod.mk.injEq] at hz0
 obtain ⟨hz0,hz1,hz2⟩:=hz0
 have h:=run_make (P:=Tryz.prog) W 41 23 i0 _ Tryz.underlying41 hi hz0 .i64 .i64 (n:Int) (n:Int) (by omega) (Int.le_refl _) (by rw [hz2]; omega) (by omega)
 rw [Int.toNat_natCast,hz1] at h
 rw [h,← made_hashes z hzs n]
 rfl
def HeapB (w:World) (sb:Nat):Bool→World→Prop:=fun b W=>b = false→W.heap[sb]? = w.heap[sb]?
def sgZ:Array Value:=#[.int .i64 0,.slice none 0 0,.slice none 0 0]
def DecPost (S:Nat→Addr) (b:List UInt8) (w:World) (e:Ending) (w':World):Prop:=
 (match decF b with
  | none=>e = .returned (.tuple #[.agg sgZ,errV S 3])
  | some x=>∃ u v:Value,e = .returned (.tuple #[.agg #[.int .i64 (x.1:Int),u,v],.nilIface])∧HsIn w' u x.2.1∧HsIn w' v x.2.2)∧Below w.heap.size w w'
def chR (z:List UInt8) (Cs:List (List UInt8)):List (List UInt8):=Cs ++ List.replicate (67 - Cs.length) z
theorem chR_len (z:List UInt8) (Cs:List (List UInt8)) (h:Cs.length ≤ 67):(chR z Cs).length = 67:=by unfold chR; rw [List.length_append,List.length_replicate]; omega
theorem chR_set (z:List UInt8) (Cs:List (List UInt8)) (X:List UInt8) (h:Cs.length < 67):(chR z Cs).set Cs.length X = chR z (Cs ++ [X]):=by
 unfold chR
 rw [List.set_append_right _ _ (Nat.le_refl _),Nat.sub_self,List.length_append,List.length_singleton]
 obtain ⟨q,hq⟩:∃ q,67 - Cs.length = q + 1:=⟨67 - Cs.length - 1,by omega⟩
 rw [hq,List.replicate_succ,List.set_cons_zero,show 67 - (Cs.length + 1) = q by omega,List.append_assoc]
 rfl
theorem chR_all (z:List UInt8) (Cs:List (List UInt8)) (h:Cs.length = 67):chR z Cs = Cs:=by unfold chR; rw [h]; simp
def DRel1 (w:World) (b:List UInt8) (rb g sb:Nat) (z:List UInt8) (st0:Option (List UInt8)) (kv:Value) (wr:World):Prop:=
 ∃ (Cs:List (List UInt8)) (st:Option (List UInt8)),kv = .int .i64 (Cs.length:Int)∧HsRel 67 st0 st Cs∧RdAny wr rb b st∧RowAt wr g (chR z Cs)∧SgW wr sb (.int .i64 0) (.slice (some ⟨g,0,none⟩) 67 67) (.slice none 0 0) []∧wr.heap[w.heap.size]? = some (.cells sgZ 73 (0,0))∧Below w.heap.size w wr
def DRel2 (w:World) (b:List UInt8) (rb g sb m:Nat) (Cs:List (List UInt8)) (st0:Option (List UInt8)) (jv:Value) (wr:World):Prop:=
 ∃ (Ps:List (List UInt8)) (st:Option (List UInt8)) (pv:Value),jv = .int .u64 (Ps.length:Int)∧HsRel m st0 st Ps∧RdAny wr rb b st∧RowAt wr g Cs∧SgW wr sb (.int .i64 0) (.slice (some ⟨g,0,none⟩) 67 67) pv Ps∧wr.heap[w.heap.size]? = some (.cells sgZ 73 (0,0))∧Below w.heap.size w wr
theorem heap_set0 {w:World} {g:Nat} {a b c:Value} {T:TypeId} (h:w.heap[g]? = some (.cells #[a,b,c] T (0,0))) (x:Value):(w.setCell ⟨g,0,none⟩ x).heap[g]? = some (.cells #[x,b,c] T (0,0)):=by
 unfold World.setCell
 simp [Array.getElem?_modify,h]
theorem step_store3 {ops:Array Oper} {o:Oper} {a:Act} {K:Act→World→Prop} {Q:Exit→Act→World→Prop} {E:Prop} (hgd:o.guard = none) (x y:Operand) (ho:o.op = .store 73 x y) {W w0:World} {B g:Nat} {p q r x1 y1 z1:Value}
  (hx:a.eval x = .pointer (some ⟨g,0,none⟩)) (hy:a.eval y = .agg #[x1,y1,z1]) (hg:W.heap[g]? = some (.cells #[p,q,r] 73 (0,0))) (h1:x1.oneCell' = true) (h2:y1.oneCell' = true) (h3:z1.oneCell' = true) (hb:Below B w0 W) (hB:B ≤ g)
  (h:∀ W',W'.heap[g]? = some (.cells #[x1,y1,z1] 73 (0,0))→Below B w0 W'→(∀ k,k ≠ g→W'.heap[k]? = W.heap[k]?)→K (a.put o.dst undef) W'):if Region.wanted o (yielded ops a.tmps) = true then Oper.wp Tryz.prog o a W K Q else E:=by
 have hw:Region.wanted o (yielded ops a.tmps) = true:=by simp [Region.wanted,hgd]
 rw [if_pos hw]
 refine wp_store_mid 73 x y ho g 0 #[x1,y1,z1] hx hy (there_row hg (by simp)) infoSigned (by simp [h1,h2,h3]) ?_
 exact h _ (heap_set3 hg x1 y1 z1) (below_setCellsN hB _ _ _ hb) (fun k hk=>setCells_other _ _ _ _ _ hk)
def CellB (g:Nat) (v:Value):Bool→World→Prop:=fun _ W=>W.cell? ⟨g,0,none⟩ = some v
set_option maxHeartbeats 8000000 in
set_option maxRecDepth 100000 in
theorem decode_any (S:Nat→Addr) (b:List UInt8) (hb:b.length ≤ 4611686018427387904) (w:World) (hF:FW S w) :
  Calls Tryz.prog 93 #[.string ⟨b.toArray⟩] w fun e w'=>DecPost S b w e w':=by
 obtain ⟨z32,hz32,hzs⟩:=z32_ex2
 have HZS:=hid hzs
 have HF:=hid hF
 have HB:=hid hb
 have HZ32:=hid hz32
 clear hF hb hzs hz32
 go_enter Tryz.func93,Tryz.ntmps93
 go_upto_region 1 with fail
 have hp2:=heap_one w (.cells #[.int .i64 0,.slice none 0 0,.slice none 0 0] 73 (0,0))
 have hb2:=below_one w (.cells #[.int .i64 0,.slice none 0 0,.slice none 0 0] 73)
 have HP2:=hid hp2
 have HB2:=hid hb2
 generalize w.alloc (.cells #[.int .i64 0,.slice none 0 0,.slice none 0 0] 73) = w2 at *
 clear hp2 hb2
 go_upto_region 2 with (go_at_call 126; refine (newReader_any b w2).mono ?_; rintro e w3 ⟨rb,rfl,hr,hge,hb3⟩)
 have HP3:=hid (below_heap hb3 HP2.out)
 have HB3:=hid (HB2.out.trans (hb3.mono HB2.out.size))
 have HRG:=hid (show w.heap.size < rb by have:=lt_of_heap HP2.out; omega)
 have HVA:=hid (rdVar_any S rb b HB.out (some b) w w3 HF.out.base HB3.out (by have:=HRG.out; omega) hr)
 clear hr hge hb3 HP2 HB2
 go_upto_region 3 with (go_at_call 127; refine HVA.out.mono ?_; rintro e w4 ⟨i,s1,hi,rfl,hr1,hbu,hv0,hv1⟩)
 have HI:=hid hi
 have HR4:=hid hr1
 have HV1:=hid (show VarRel (some b) i s1 from ⟨hv0,hv1⟩)
 have HB4:=hid (hbu.below HB3.out HB3.out.size (fun k hk=>by rw [List.mem_singleton.1 hk]; have:=HRG.out; omega))
 have HP4:=hid (hbu.heap HP3.out (by have:=HRG.out; simp; omega))
 clear hi hr1 hbu hv0 hv1 HP3 HB3 HVA
 have hz32:=HZ32.out
 obtain ⟨zl,hzl,hzlz⟩:=zeroHash
 have HZL:=hid hzlz
 clear hzlz hzl
 have hmk:=fun W=>make_rowz z32 HZ32.out HZS.out 67 (by decide) W
 have HRE:=hid (fun (W:World) (h:HashAt W w4.heap.size z32)=>repeat_any w4.heap.size z32 HZS.out hmk W h)
 clear hmk
 go_upto_region 4 with (first | (refine wpList_buildHash zl HZL.out (by rfl) (.tmp 13) (by rfl) z32 (by rfl) HZS.out ?_) | (go_at_call 128; refine (HRE.out _ (HashAt.new w4 z32 HZS.out)).mono ?_; rintro e w5 ⟨g,rfl,hrow,hgg,hb5⟩))
 have hb45:=(below_one w4 (.cells (byteCells z32).toArray 23)).trans (hb5.mono (below_one w4 _).size)
 have hgl:=hrow.lt
 have hb6:=below_one w5 (.cells #[.int .i64 0,.slice (some ⟨g,0,none⟩) 67 67,.slice none 0 0] 73)
 have hb46:=hb45.trans (hb6.mono hb45.size)
 have hg4:w4.heap.size ≤ g:=Nat.le_trans (below_one w4 _).size hgg
 have HSG:=hid (show SgW (w5.alloc (.cells #[.int .i64 0,.slice (some ⟨g,0,none⟩) 67 67,.slice none 0 0] 73)) w5.heap.size (.int .i64 0) (.slice (some ⟨g,0,none⟩) 67 67) (.slice none 0 0) [] from ⟨heap_one w5 _,rfl,.inl ⟨rfl,rfl⟩⟩)
 have HR6:=hid (HR4.out.below hb46)
 have HP6:=hid (below_heap hb46 HP4.out)
 have HB6:=hid (HB4.out.trans (hb46.mono HB4.out.size))
 have HRO:=hid (hrow.below hb6)
 have HGL:=hid (show rb < g∧g < w5.heap.size by have:=HR4.out.lt; omega)
 obtain ⟨sb,hsb⟩:∃ sb,w5.heap.size = sb:=⟨_,rfl⟩
 rw [hsb] at HSG HGL ⊢
 generalize w5.alloc (.cells #[.int .i64 0,.slice (some ⟨g,0,none⟩) 67 67,.slice none 0 0] 73) = w6 at *
 clear hb5 hb45 hgl hb6 hb46 hg4 hrow hgg hsb HRE HP4 HR4
 have c1:=cell_of HSG.out.hp 1 rfl
 have HS0:=hid (show DRel1 w b rb g sb z32 s1 (.int .i64 0) w6 from ⟨[],s1,rfl,HsRel.start _ _,HR6.out,HRO.out,HSG.out,HP6.out,HB6.out⟩)
 clear HR6 HRO HSG HP6 HB6 HB4
 go_wp2_with fail
 clear c1
 go_loopw [20] (fun kv wr=>DRel1 w b rb g sb z32 s1 kv wr) (fun kv _=>67 - (intOf kv).toNat)
 case atStart=>exact HS0.out
 case round=>
  obtain ⟨Cs,st,rfl,hrel,hrd,hrow,hsg,hp,hbel⟩:=hrel
  rename World=>wr
  clear HS0
  have HREL:=hid hrel
  have HRD:=hid hrd
  have HRW:=hid hrow
  have HSG:=hid hsg
  have HP:=hid hp
  have HBL:=hid hbel
  obtain ⟨k,hk⟩:∃ k,Cs.length = k:=⟨_,rfl⟩
  have HK:=hid hk
  have hk67:k ≤ 67:=by rw [← hk]; exact hrel.2.2.1
  rw [hk]
  clear hrel hrd hrow hsg hp hbel hk
  by_cases hlt:k < 67
  ·have i1:(k:Int) < 67:=by omega
   have i0:(0:Int) ≤ (k:Int):=by omega
   have HLT:=hid hlt
   clear hlt
   go_upto_region 7 with fail
   refine wp_region_till 100 (fun _ W=>W.heap[sb]? = wr.heap[sb]?) (by kernel_rfl) rfl (fun hHeld=>?_)
   have hdr:Below wr.heap.size wr wr.drew:=(Below.refl _ _).drew
   have HBC:=hid (HBL.out.trans (hdr.mono HBL.out.size))
   have HRDC:=hid (HRD.out.below hdr)
   have HRWC:=hid (HRW.out.below hdr)
   have HSGC:=hid (HSG.out.below hdr)
   have HPC:=hid (below_heap hdr HP.out)
   generalize wr.drew = wc at *
   clear hdr
   refine wT (i:=0) (v:=.pointer (some ⟨sb,1,none⟩)) rfl (Or.inl ⟨by rfl,fun w _=>?_⟩) hHeld ?_
   ·go_simp
   simp only [List.getElem_toArray,List.getElem_cons_zero,Act.put,List.setIfInBounds_toArray,List.set_cons_zero,List.set_cons_succ]
   refine wT (i:=1) (v:=.slice (some ⟨g,0,none⟩) 67 67) rfl (Or.inl ⟨by rfl,fun w hSw=>?_⟩) hHeld ?_
   ·have c:=cell_of (hSw.choose_spec.trans HSG.out.hp) 1 rfl
    go_simp
   simp only [List.getElem_toArray,List.getElem_cons_succ,List.getElem_cons_zero,Act.put,List.setIfInBounds_toArray,List.set_cons_zero,List.set_cons_succ]
   refine wT (i:=2) (v:=.int .i64 (k:Int)) rfl (Or.inl ⟨by rfl,fun w _=>?_⟩) hHeld ?_
   ·go_simp
   simp only [List.getElem_toArray,List.getElem_cons_succ,List.getElem_cons_zero,Act.put,List.setIfInBounds_toArray,List.set_cons_zero,List.set_cons_succ]
   refine wT (i:=3) (v:=.pointer (some ⟨rb,0,none⟩)) rfl (Or.inl ⟨by rfl,fun w _=>?_⟩) hHeld ?_
   ·go_simp
   simp only [List.getElem_toArray,List.getElem_cons_succ,List.getElem_cons_zero,Act.put,List.setIfInBounds_toArray,List.set_cons_zero,List.set_cons_succ]
   refine wpAnyT_ready (rs:=[4]) (by kernel_rfl) (by simp) ?_
   refine AllReadyT.cons false rfl (by kernel_rfl) (fun K hK=>?_) AllReadyT.nil
   go_simp
   refine ((rdHash_any S rb b HB.out st w wc HF.out.base HBC.out (by have:=HRG.out; omega) HRDC.out).mono ?_)
   rintro e wd ⟨X,hX,rfl,h1,h2,h3⟩
   go_wp2_with fail
   have HXL:=hid hX
   have HX3:=hid h3
   have HR1:=hid h1
   have HU1:=hid h2
   have hbd:=h2.below HBC.out HBC.out.size (fun k hk=>by rw [List.mem_singleton.1 hk]; have:=HRG.out; omega)
   have HBD:=hid hbd
   have hkeep:∀ k,rb < k→k < wc.heap.size→wd.heap[k]? = wc.heap[k]?:=fun k h h'=>h2.block k h' (by simp; omega)
   have HKP:=hid hkeep
   have HRWD:=hid (⟨(hkeep g (by have:=HGL.out; omega) (lt_of_heap HRWC.out.1)).trans HRWC.out.1,HRWC.out.2⟩:RowAt wd g (chR z32 Cs))
   refine hK.out _ _ ((hkeep sb (by have:=HGL.out; omega) (lt_of_heap HSGC.out.hp)).trans hHeld) (fun hHeld=>?_)
   clear h1 h2 h3 hX hbd hkeep
   clear hK K
   refine wT (i:=5) (v:=.pointer (some ⟨g,k * 32,none⟩)) rfl (Or.inl ⟨by rfl,fun w _=>?_⟩) hHeld ?_
   ·go_simp
   simp only [List.getElem_toArray,List.getElem_cons_succ,List.getElem_cons_zero,Act.put,List.setIfInBounds_toArray,List.set_cons_zero,List.set_cons_succ]
   refine wpAnyT_ready (rs:=[6]) (by kernel_rfl) (by simp) ?_
   refine AllReadyT.cons false rfl (by kernel_rfl) (fun K hK=>?_) AllReadyT.nil
   refine step_storeR (by rfl) (.tmp 28) (.tmp 27) (by rfl) (by rfl) (by rfl) HRWD.out (by rw [chR_len z32 Cs (by have:=HK.out; have:=HLT.out; omega)]; exact HLT.out) HXL.out HBD.out (by have:=HGL.out; have:=HRG.out; omega) ?_
   intro we hn hy hoth
   have HRWE:=hid hn
   have HBE:=hid hy
   have HOT:=hid hoth
   refine hK.out _ _ ((hoth sb (by have:=HGL.out; omega)).trans hHeld) (fun hHeld=>?_)
   clear hn hy hoth
   clear hK K
   refine wpAnyT_done (by kernel_rfl) ?_ _
   go_wp2_with fail
   refine ⟨⟨Cs ++ [X],rdHashS st,by rw [List.length_append,List.length_singleton,HK.out]; rfl,HREL.out.step (by have:=HK.out; have:=HLT.out; omega) HXL.out HX3.out,HR1.out.eq (HOT.out rb (by have:=HGL.out; omega)),?_,?_,?_,HBE.out⟩,by have:=HLT.out; simp [intOf]; omega⟩
   ·have e:=chR_set z32 Cs X (by have:=HK.out; have:=HLT.out; omega)
    rw [HK.out] at e
    rw [← e]
    exact HRWE.out
   ·exact SgW.eq HSGC.out (fun k h h'=>(HOT.out k (by have:=HGL.out; omega)).trans (HKP.out k (by have:=HGL.out; omega) h'))
   ·exact (HOT.out _ (by have:=HGL.out; have:=HRG.out; omega)).trans ((HU1.out.heap HPC.out (by have:=HRG.out; simp; omega)))
  ·have hlen:k = 67:=by omega
   subst hlen
   have i1:¬ (((67:Nat)):Int) < 67:=by omega
   have HRW:=hid (show RowAt wr g Cs by have:=HRW.out; rwa [chR_all z32 Cs HK.out] at this)
   have HVA:=hid (rdVar_any S rb b HB.out st w wr HF.out.base HBL.out (by have:=HRG.out; omega) HRD.out)
   clear hk67 hlt
   go_upto_region 10 with (go_at_call 127; refine HVA.out.mono ?_; rintro e wv ⟨n,s3,hn64,rfl,hr1,hbu,hv0,hv1⟩)
   have HN64:=hid hn64
   have HV3:=hid (show VarRel st n s3 from ⟨hv0,hv1⟩)
   have hkeep:∀ k,rb < k→k < wr.heap.size→wv.heap[k]? = wr.heap[k]?:=fun k h h'=>hbu.block k h' (by simp; omega)
   have HRWV:=hid (show RowAt wv g Cs from ⟨(hkeep g (by have:=HGL.out; omega) (lt_of_heap HRW.out.1)).trans HRW.out.1,HRW.out.2⟩)
   have HSGV:=hid (SgW.eq HSG.out (fun k h h'=>hkeep k (by have:=HGL.out; omega) h'))
   have HPV:=hid (hbu.heap HP.out (by have:=HRG.out; simp; omega))
   have HBV:=hid (hbu.below HBL.out HBL.out.size (fun k hk=>by rw [List.mem_singleton.1 hk]; have:=HRG.out; omega))
   have HRDV:=hid hr1
   obtain ⟨m,hm⟩:∃ m,min n 6 = m:=⟨_,rfl⟩
   have HM:=hid hm
   have hmI:(min (n:Int) 6) = (m:Int):=by omega
   have hm6:m ≤ 6:=by omega
   have HS0:=hid (show DRel2 w b rb g sb m Cs s3 (.int .u64 0) wv from ⟨[],s3,_,rfl,HsRel.start _ _,HRDV.out,HRWV.out,HSGV.out,HPV.out,HBV.out⟩)
   have n0:(0:Int) ≤ (n:Int):=by omega
   clear hn64 hr1 hbu hv0 hv1 hkeep HVA HRD HRW HSG HP HBL HRWV HSGV HPV HBV HRDV hm
   go_wp2_with fail
   go_loopw [34] (fun jv wr=>DRel2 w b rb g sb m Cs s3 jv wr) (fun jv _=>m - (intOf jv).toNat)
   case atStart=>exact HS0.out
   case round=>
    obtain ⟨Ps,st2,pv,rfl,hrel,hrd,hrow,hsg,hp,hbel⟩:=hrel
    rename World=>wq
    clear HS0
    have HREL2:=hid hrel
    have HRD:=hid hrd
    have HRW:=hid hrow
    have HSG:=hid hsg
    have HP:=hid hp
    have HBL:=hid hbel
    obtain ⟨j,hj⟩:∃ j,Ps.length = j:=⟨_,rfl⟩
    have HJ:=hid hj
    have hjm:j ≤ m:=by rw [← hj]; exact hrel.2.2.1
    rw [hj]
    have j0:(0:Int) ≤ (j:Int):=by omega
    by_cases hlt:j < m
    ·have i2:(j:Int) < (m:Int):=by omega
     have HLT:=hid hlt
     obtain ⟨pao,pn,pc,rfl⟩:∃ ao n c,pv = .slice ao n c:=by rcases hsg.own.2 with ⟨h,_⟩ | ⟨_,_,_,h,_⟩ <;> exact ⟨_,_,_,h⟩
     clear hrel hrd hrow hsg hp hbel hj hlt
     go_upto_region 12 with fail
     refine wp_region_till 7 (HeapB wq sb) (by kernel_rfl) (fun _=>rfl) (fun hHeld=>?_)
     have hdr:Below wq.heap.size wq wq.drew:=(Below.refl _ _).drew
     have HBC:=hid (HBL.out.trans (hdr.mono HBL.out.size))
     have HRDC:=hid (HRD.out.below hdr)
     have HRWC:=hid (HRW.out.below hdr)
     have HSGC:=hid (HSG.out.below hdr)
     have HPC:=hid (below_heap hdr HP.out)
     generalize wq.drew = wc at *
     clear hdr
     refine wT (i:=0) (v:=.pointer (some ⟨sb,2,none⟩)) rfl (Or.inl ⟨by rfl,fun w _=>?_⟩) hHeld ?_
     ·go_simp
     simp only [List.getElem_toArray,List.getElem_cons_zero,Act.put,List.setIfInBounds_toArray,List.set_cons_zero,List.set_cons_succ]
     refine wF (i:=1) (v:=.slice pao pn pc) rfl (Or.inl ⟨by rfl,fun w hSw=>?_⟩) hHeld ?_
     ·have c:=cell_of ((hSw rfl).trans HSG.out.hp) 2 rfl
      go_simp
     simp only [List.getElem_toArray,List.getElem_cons_succ,List.getElem_cons_zero,Act.put,List.setIfInBounds_toArray,List.set_cons_zero,List.set_cons_succ]
     refine wT (i:=2) (v:=.pointer (some ⟨rb,0,none⟩)) rfl (Or.inl ⟨by rfl,fun w _=>?_⟩) hHeld ?_
     ·go_simp
     simp only [List.getElem_toArray,List.getElem_cons_succ,List.getElem_cons_zero,Act.put,List.setIfInBounds_toArray,List.set_cons_zero,List.set_cons_succ]
     refine wpAnyT_ready (rs:=[3]) (by kernel_rfl) (by simp) ?_
     refine AllReadyT.cons false rfl (by kernel_rfl) (fun K hK=>?_) AllReadyT.nil
     go_simp
     refine ((rdHash_any S rb b HB.out st2 w wc HF.out.base HBC.out (by have:=HRG.out; omega) HRDC.out).mono ?_)
     rintro e wd ⟨X,hX,rfl,h1,h2,h3⟩
     go_wp2_with fail
     have HXL:=hid hX
     have HX3:=hid h3
     have HR1:=hid h1
     have HU1:=hid h2
     have hbd:=h2.below HBC.out HBC.out.size (fun k hk=>by rw [List.mem_singleton.1 hk]; have:=HRG.out; omega)
     have HBD:=hid hbd
     have hkeep:∀ k,rb < k→k < wc.heap.size→wd.heap[k]? = wc.heap[k]?:=fun k h h'=>h2.block k h' (by simp; omega)
     have HKP:=hid hkeep
     have HSGD:=hid (SgW.eq HSGC.out (fun k h h'=>hkeep k (by have:=HGL.out; omega) h'))
     have HRWD:=hid (show RowAt wd g Cs from ⟨(hkeep g (by have:=HGL.out; omega) (lt_of_heap HRWC.out.1)).trans HRWC.out.1,HRWC.out.2⟩)
     have HPD:=hid (h2.heap HPC.out (by have:=HRG.out; simp; omega))
     refine hK.out _ _ (fun _=>(hkeep sb (by have:=HGL.out; omega) (lt_of_heap HSGC.out.hp)).trans (hHeld rfl)) (fun hHeld=>?_)
     clear h1 h2 h3 hX hbd hkeep
     clear hK K
     refine wpAnyT_ready (rs:=[4]) (by kernel_rfl) (by simp) ?_
     refine AllReadyT.cons false rfl (by kernel_rfl) (fun K hK=>?_) AllReadyT.nil
     refine step_buildHash zl HZL.out (by rfl) (.tmp 39) (by rfl) X (by rfl) HXL.out ?_
     obtain ⟨gx,we,e1,e2,hn,hb,hge⟩:∃ g W',wd.heap.size = g∧wd.alloc (.cells (byteCells X).toArray 23) = W'∧HashAt W' g X∧Below wd.heap.size wd W'∧wd.heap.size ≤ g:=⟨_,_,rfl,rfl,HashAt.new wd X HXL.out,below_one _ _,Nat.le_refl _⟩
     rw [e2,e1]
     clear e1 e2
     have HXE:=hid hn
     have HSGE:=hid (HSGD.out.below hb)
     have HRWE:=hid (HRWD.out.below hb)
     have HRE:=hid (HR1.out.below hb)
     have HPE:=hid (below_heap hb HPD.out)
     have HBE:=hid (HBD.out.trans (hb.mono HBD.out.size))
     refine hK.out _ _ (fun _=>(hb.block sb HSGD.out.lt).trans (hHeld rfl)) (fun hHeld=>?_)
     clear hn hb hge
     clear hK K
     refine wpAnyT_ready (rs:=[5]) (by kernel_rfl) (by simp) ?_
     refine AllReadyT.cons false rfl (by kernel_rfl) (fun K hK=>?_) AllReadyT.nil
     refine step_append_hash (by rfl) (.tmp 37) (.tmp 40) (by rfl) (by rfl) HSGE.out.own (by rfl) HXE.out (by have:=HJ.out; omega) HSGE.out.lt ?_
     intro v' W5 h2 h3 h5
     obtain ⟨vo,vk,vq,rfl⟩:∃ ao n c,v' = .slice ao n c:=by rcases h2.2 with ⟨h,_⟩ | ⟨_,_,_,h,_⟩ <;> exact ⟨_,_,_,h⟩
     obtain ⟨⟨u,q1⟩,q2,q3,q4⟩:=HSGE.out.push (Below.refl _ _) h2 h3
     have HQ3:=hid q3
     have HQ4:=hid (q4 _ _ HBE.out (by have:=HGL.out; have:=HRG.out; omega))
     have hold:∀ k,k < sb→W5.heap[k]? = we.heap[k]?:=fun k hk=>h3.block k (by have:=HSGE.out.lt; omega) (fun e=>by have:=(HSGE.out.own.lt k e.symm).1; omega)
     have HOLD:=hid (fun k (hk:k < sb)=>(Below.heap_setCell W5 ⟨sb,2,none⟩ (.slice vo vk vq) k (show k ≠ sb by omega)).trans (hold k hk))
     refine hK.out _ _ (fun _=>(h3.block sb HSGE.out.lt (fun e=>by have:=(HSGE.out.own.lt sb e.symm).1; omega)).trans (hHeld rfl)) (fun hHeld=>?_)
     clear q3 q4 h2 h3 h5 hold
     clear hK K
     refine wT (i:=6) (v:=.pointer (some ⟨sb,2,none⟩)) rfl (Or.inl ⟨by rfl,fun w _=>?_⟩) hHeld ?_
     ·go_simp
     simp only [List.getElem_toArray,List.getElem_cons_succ,List.getElem_cons_zero,Act.put,List.setIfInBounds_toArray,List.set_cons_zero,List.set_cons_succ]
     refine wpAnyT_ready (rs:=[7]) (by kernel_rfl) (by simp) ?_
     refine AllReadyT.cons true rfl (by kernel_rfl) (fun K hK=>?_) AllReadyT.nil
     go_simp
     refine hK.out _ _ (fun h=>(by cases h)) (fun hHeld=>?_)
     clear hK K
     refine wpAnyT_done (by kernel_rfl) ?_ _
     generalize W5.setCell ⟨sb,2,none⟩ (.slice vo vk vq) = w5 at *
     clear hHeld q1 q2
     go_wp2_with fail
     exact ⟨⟨Ps ++ [X],rdHashS st2,_,by rw [List.length_append,List.length_singleton,HJ.out]; go_num,HREL2.out.step (by have:=HJ.out; have:=HLT.out; omega) HXL.out HX3.out,HRE.out.eq (HOLD.out rb (by have:=HGL.out; omega)),⟨(HOLD.out g HGL.out.2).trans HRWE.out.1,HRWE.out.2⟩,HQ3.out,(HOLD.out _ (by have:=HGL.out; have:=HRG.out; omega)).trans HPE.out,HQ4.out⟩,by have:=HLT.out; simp [intOf]; omega⟩
    ·have hlen:m = j:=by omega
     subst hlen
     have i2:¬ (m:Int) < (m:Int):=by omega
     obtain ⟨pao,pn,pc,rfl⟩:∃ ao n c,pv = .slice ao n c:=by rcases hsg.own.2 with ⟨h,_⟩ | ⟨_,_,_,h,_⟩ <;> exact ⟨_,_,_,h⟩
     have HD:=hid (decF_steps b i n s1 st s3 st2 Cs Ps HV1.out HREL.out HK.out HV3.out (by rw [HM.out]; exact HREL2.out) (by rw [HM.out]; exact HJ.out))
     obtain ⟨q,hq⟩:∃ q,min i 64 = q:=⟨_,rfl⟩
     have hqI:(min (i:Int) 64) = (q:Int):=by omega
     have HQ:=hid hq
     have q0:(0:Int) ≤ (q:Int):=by omega
     have q64:(q:Int) ≤ 64:=by omega
     have HPE:=hid (show HsIn wq (.slice pao pn pc) Ps from hsIn_of_owns hrel.2.1 hsg.own)
     have HPG:=hid (fun g2 (h:(Value.slice pao pn pc).ownBlock = some g2)=>show sb < g2 from by have:=(hsg.own.lt g2 h).1; omega)
     have c0:=cell_of hsg.hp 0 rfl
     have f0:=frozen_row hsg.hp 0
     clear hrel hrd hrow hsg hp hbel hj hlt hjm hq HV1 HV3 HREL HREL2
     go_upto_region 15 with fail
     have HSN:=hid (heap_set0 HSG.out.hp (.int .i64 (q:Int)))
     have hoth:∀ k,k ≠ sb→(wq.setCell ⟨sb,0,none⟩ (.int .i64 (q:Int))).heap[k]? = wq.heap[k]?:=fun k hk=>Below.heap_setCell wq ⟨sb,0,none⟩ _ k hk
     have HB7:=hid (show Below w.heap.size w (wq.setCell ⟨sb,0,none⟩ (.int .i64 (q:Int))) from HBL.out.setCell (p:=⟨sb,0,none⟩) (by have:=HGL.out; have:=HRG.out; show w.heap.size ≤ sb; omega) _)
     have HR7:=hid (HRD.out.eq (hoth rb (by have:=HGL.out; omega)))
     have HP7:=hid ((hoth w.heap.size (by have:=HGL.out; have:=HRG.out; omega)).trans HP.out)
     have HC7:=hid (show HsIn (wq.setCell ⟨sb,0,none⟩ (.int .i64 (q:Int))) (.slice (some ⟨g,0,none⟩) 67 67) Cs by
      have h:=(show RowAt (wq.setCell ⟨sb,0,none⟩ (.int .i64 (q:Int))) g Cs from ⟨(hoth g (by have:=HGL.out; omega)).trans HRW.out.1,HRW.out.2⟩).in_ (cap:=67) (by rw [HK.out]; exact Nat.le_refl _)
      rw [HK.out] at h
      exact h)
     have HE7:=hid (HPE.out.eq (w':=wq.setCell ⟨sb,0,none⟩ (.int .i64 (q:Int))) (fun a ha=>hoth _ (by
      have hl:=HSG.out.own.lt a.block (by rw [ha]; rfl)
      omega)))
     generalize wq.setCell ⟨sb,0,none⟩ (.int .i64 (q:Int)) = w7 at *
     clear hoth c0 f0 HSG HRD HRW HPE HP HBL
     have HEN:=hid (rdEnd_any S rb b HB.out st2 w7 (HF.out.below HB7.out).base HR7.out)
     have HMA:=hid (fun (W:World) (hW:Below w7.heap.size w7 W)=>may_any (q:Int) Cs Ps _ _ W (HC7.out.below hW) (HE7.out.below hW))
     by_cases hs:st2 = some []
     ·have HEN:=hid (HEN.out.mono fun e w' (h:EndPost st2 e∧Below w7.heap.size w7 w')=>(⟨(h.1.resolve_right fun h2=>h2.1 hs).2,h.2⟩:e = .returned .nilIface∧Below w7.heap.size w7 w'))
      by_cases hn:n ≤ 6
      ·have n1:¬ (6:Int) < (n:Int):=by omega
       by_cases hi:i ≤ 63
       ·have HDE:=hid (show decF b = some (i,Cs,Ps) by rw [HD.out,if_pos ⟨hs,hn,hi⟩])
        have hqi:q = i:=by have:=HQ.out; omega
        have hM:mayF (q:Int) Cs Ps = true:=by
         have e1:decide ((0:Int) ≤ (q:Int)) = true:=decide_eq_true (by omega)
         have e2:decide ((q:Int) ≤ 63) = true:=decide_eq_true (by omega)
         have e3:decide (Ps.length ≤ 6) = true:=decide_eq_true (by rw [HJ.out]; omega)
         rw [mayF,HK.out,e1,e2,e3]
         rfl
        rw [hM] at HMA
        have HQI:=hid hqi
        clear hM hqi hs hn hi
        go_upto_region 17 with (first | (go_at_call 130; refine HEN.out.mono ?_; rintro e w8 ⟨rfl,h8⟩; have a0:=cell_of (below_heap h8 HSN.out) 0 rfl; have a1:=cell_of (below_heap h8 HSN.out) 1 rfl; have a2:=cell_of (below_heap h8 HSN.out) 2 rfl) | (go_at_call 52; refine (HMA.out _ h8).mono ?_; rintro e w9 ⟨rfl,h9⟩; have h9:=h8.trans (h9.mono h8.size)))
        clear a0 a1 a2
        have a0:=cell_of (below_heap h9 HSN.out) 0 rfl
        have a1:=cell_of (below_heap h9 HSN.out) 1 rfl
        have a2:=cell_of (below_heap h9 HSN.out) 2 rfl
        have HP9:=hid (below_heap h9 HP7.out)
        have b0:=cell_of HP9.out 0 rfl
        have b1:=cell_of HP9.out 1 rfl
        have b2:=cell_of HP9.out 2 rfl
        have f0:=frozen_row HP9.out 0
        have f1:=frozen_row HP9.out 1
        have f2:=frozen_row HP9.out 2
        have HB9:=hid (HB7.out.trans (h9.mono HB7.out.size))
        have HC9:=hid (HC7.out.below h9)
        have HE9:=hid (HE7.out.below h9)
        clear h8 h9
        go_wp2_with fail
        have HWE:=hid (heap_set3 HP9.out (.int .i64 (q:Int)) (.slice (some ⟨g,0,none⟩) 67 67) (.slice pao pn pc))
        have hE:∀ k,k ≠ w.heap.size→(w9.setCells w.heap.size 0 [.int .i64 (q:Int),.slice (some ⟨g,0,none⟩) 67 67,.slice pao pn pc]).heap[k]? = w9.heap[k]?:=fun k hk=>setCells_other _ _ _ _ _ hk
        have HCE:=hid (HC9.out.eq (w':=w9.setCells w.heap.size 0 [.int .i64 (q:Int),.slice (some ⟨g,0,none⟩) 67 67,.slice pao pn pc]) (fun a ha=>hE _ (by cases ha; have:=HGL.out; have:=HRG.out; show g ≠ w.heap.size; omega)))
        have HEE:=hid (HE9.out.eq (w':=w9.setCells w.heap.size 0 [.int .i64 (q:Int),.slice (some ⟨g,0,none⟩) 67 67,.slice pao pn pc]) (fun a ha=>hE _ (by
         have:=HPG.out a.block (by rw [ha]; rfl); have:=HGL.out; have:=HRG.out; omega)))
        have HBE:=hid (below_setCellsN (Nat.le_refl w.heap.size) [.int .i64 (q:Int),.slice (some ⟨g,0,none⟩) 67 67,.slice pao pn pc] 0 _ HB9.out)
        clear hE
        change bodyPost _ _ _ _ _ (w9.setCells w.heap.size 0 [.int .i64 (q:Int),.slice (some ⟨g,0,none⟩) 67 67,.slice pao pn pc])
        generalize w9.setCells w.heap.size 0 [.int .i64 (q:Int),.slice (some ⟨g,0,none⟩) 67 67,.slice pao pn pc] = wE at *
        refine bodyPost_ret (results_row_tmp rfl _ wE w.heap.size 73 _ (0,0) _ _ rfl rfl HWE.out Tryz.underlying73 rfl (by kernel_rfl)) rfl ?_
        unfold DecPost
        rw [HDE.out]
        exact ⟨⟨_,_,by rw [HQI.out]; rfl,HCE.out,HEE.out⟩,HBE.out⟩
       ·have HDE:=hid (show decF b = none by rw [HD.out,if_neg (fun h=>hi h.2.2)])
        have hM:mayF (q:Int) Cs Ps = false:=by
         have e2:decide ((q:Int) ≤ 63) = false:=decide_eq_false (by have:=HQ.out; omega)
         rw [mayF,e2]
         simp
        rw [hM] at HMA
        clear hM hs hn hi
        go_upto_region 16 with (first | (go_at_call 130; refine HEN.out.mono ?_; rintro e w8 ⟨rfl,h8⟩; have a0:=cell_of (below_heap h8 HSN.out) 0 rfl; have a1:=cell_of (below_heap h8 HSN.out) 1 rfl; have a2:=cell_of (below_heap h8 HSN.out) 2 rfl) | (go_at_call 52; refine (HMA.out _ h8).mono ?_; rintro e w9 ⟨rfl,h9⟩; have h9:=h8.trans (h9.mono h8.size)))
        clear a0 a1 a2 h8
        have HP9:=hid (below_heap h9 HP7.out)
        have HB9:=hid (HB7.out.trans (h9.mono HB7.out.size))
        have HV9:=hid ((HF.out.below HB9.out).var 3 (by decide) (by decide))
        have HV9L:=hid (show errG 3 < w.heap.size from lt_of_cell (HF.out.var 3 (by decide) (by decide)))
        clear h9
        refine wp_region_till 100 (CellB (errG 3) (errV S 3)) (by kernel_rfl) ((Below.cell (Below.refl w9.heap.size w9).drew (p:=⟨errG 3,0,none⟩) (lt_of_cell HV9.out)).trans HV9.out) (fun hHeld=>?_)
        have HPD:=hid (below_heap (Below.refl w9.heap.size w9).drew HP9.out)
        have HBD:=hid (HB9.out.trans ((Below.refl w9.heap.size w9).drew.mono HB9.out.size))
        generalize w9.drew = wc at *
        refine wT (i:=0) (v:=.agg #[.int .i64 0,.slice none 0 0,.slice none 0 0]) rfl (Or.inl ⟨by rfl,fun w _=>?_⟩) hHeld ?_
        ·go_simp
        simp only [List.getElem_toArray,List.getElem_cons_zero,Act.put,List.setIfInBounds_toArray,List.set_cons_zero,List.set_cons_succ]
        refine wT (i:=1) (v:=errV S 3) rfl (Or.inl ⟨by rfl,fun w hSw=>?_⟩) hHeld ?_
        ·have c:=hSw.choose_spec; simp only [CellB,errG,errV] at c ⊢
         go_simp
        simp only [List.getElem_toArray,List.getElem_cons_succ,List.getElem_cons_zero,Act.put,List.setIfInBounds_toArray,List.set_cons_zero,List.set_cons_succ]
        refine wpAnyT_ready (rs:=[2]) (by kernel_rfl) (by simp) ?_
        refine AllReadyT.cons false rfl (by kernel_rfl) (fun K hK=>?_) AllReadyT.nil
        refine step_store3 (by rfl) (.tmp 2) (.tmp 60) (by rfl) (by rfl) (by rfl) HPD.out rfl rfl rfl HBD.out (Nat.le_refl _) ?_
        intro we hn hy hoth
        have HWE:=hid hn
        have HBE:=hid hy
        refine hK.out _ _ ((World.cell?_of_block (a:=⟨errG 3,0,none⟩) (hoth _ (show errG 3 ≠ w.heap.size by have:=HV9L.out; omega))).trans hHeld) (fun hHeld=>?_)
        clear hn hy hoth
        clear hK K
        refine wT (i:=3) (v:=errV S 3) rfl (Or.inl ⟨by rfl,fun w _=>?_⟩) hHeld ?_
        ·go_simp
        simp only [List.getElem_toArray,List.getElem_cons_succ,List.getElem_cons_zero,Act.put,List.setIfInBounds_toArray,List.set_cons_zero,List.set_cons_succ]
        refine wpAnyT_done (by kernel_rfl) ?_ _
        clear hHeld
        go_wp2_with fail
        refine bodyPost_ret (results_row_tmp rfl _ we w.heap.size 73 _ (0,0) _ _ rfl rfl HWE.out Tryz.underlying73 rfl (by kernel_rfl)) rfl ?_
        unfold DecPost
        rw [HDE.out]
        exact ⟨rfl,HBE.out⟩
      ·have HDE:=hid (show decF b = none by rw [HD.out,if_neg (fun h=>hn h.2.1)])
       have n1:(6:Int) < (n:Int):=by omega
       clear hs hn
       go_upto_region 16 with (go_at_call 130; refine HEN.out.mono ?_; rintro e w9 ⟨rfl,h9⟩)
       have HP9:=hid (below_heap h9 HP7.out)
       have HB9:=hid (HB7.out.trans (h9.mono HB7.out.size))
       have HV9:=hid ((HF.out.below HB9.out).var 3 (by decide) (by decide))
       have HV9L:=hid (show errG 3 < w.heap.size from lt_of_cell (HF.out.var 3 (by decide) (by decide)))
       clear h9
       refine wp_region_till 100 (CellB (errG 3) (errV S 3)) (by kernel_rfl) ((Below.cell (Below.refl w9.heap.size w9).drew (p:=⟨errG 3,0,none⟩) (lt_of_cell HV9.out)).trans HV9.out) (fun hHeld=>?_)
       have HPD:=hid (below_heap (Below.refl w9.heap.size w9).drew HP9.out)
       have HBD:=hid (HB9.out.trans ((Below.refl w9.heap.size w9).drew.mono HB9.out.size))
       generalize w9.drew = wc at *
       refine wT (i:=0) (v:=.agg #[.int .i64 0,.slice none 0 0,.slice none 0 0]) rfl (Or.inl ⟨by rfl,fun w _=>?_⟩) hHeld ?_
       ·go_simp
       simp only [List.getElem_toArray,List.getElem_cons_zero,Act.put,List.setIfInBounds_toArray,List.set_cons_zero,List.set_cons_succ]
       refine wT (i:=1) (v:=errV S 3) rfl (Or.inl ⟨by rfl,fun w hSw=>?_⟩) hHeld ?_
       ·have c:=hSw.choose_spec; simp only [CellB,errG,errV] at c ⊢
        go_simp
       simp only [List.getElem_toArray,List.getElem_cons_succ,List.getElem_cons_zero,Act.put,List.setIfInBounds_toArray,List.set_cons_zero,List.set_cons_succ]
       refine wpAnyT_ready (rs:=[2]) (by kernel_rfl) (by simp) ?_
       refine AllReadyT.cons false rfl (by kernel_rfl) (fun K hK=>?_) AllReadyT.nil
       refine step_store3 (by rfl) (.tmp 2) (.tmp 60) (by rfl) (by rfl) (by rfl) HPD.out rfl rfl rfl HBD.out (Nat.le_refl _) ?_
       intro we hn hy hoth
       have HWE:=hid hn
       have HBE:=hid hy
       refine hK.out _ _ ((World.cell?_of_block (a:=⟨errG 3,0,none⟩) (hoth _ (show errG 3 ≠ w.heap.size by have:=HV9L.out; omega))).trans hHeld) (fun hHeld=>?_)
       clear hn hy hoth
       clear hK K
       refine wT (i:=3) (v:=errV S 3) rfl (Or.inl ⟨by rfl,fun w _=>?_⟩) hHeld ?_
       ·go_simp
       simp only [List.getElem_toArray,List.getElem_cons_succ,List.getElem_cons_zero,Act.put,List.setIfInBounds_toArray,List.set_cons_zero,List.set_cons_succ]
       refine wpAnyT_done (by kernel_rfl) ?_ _
       clear hHeld
       go_wp2_with fail
       refine bodyPost_ret (results_row_tmp rfl _ we w.heap.size 73 _ (0,0) _ _ rfl rfl HWE.out Tryz.underlying73 rfl (by kernel_rfl)) rfl ?_
       unfold DecPost
       rw [HDE.out]
       exact ⟨rfl,HBE.out⟩
     ·have HDE:=hid (show decF b = none by rw [HD.out,if_neg (fun h=>hs h.1)])
      have HEN:=hid (HEN.out.mono fun e w' (h:EndPost st2 e∧Below w7.heap.size w7 w')=>(⟨(h.1.resolve_left fun h2=>hs h2.1).2,h.2⟩:(∃ fb,e = .returned (faultP fb))∧Below w7.heap.size w7 w'))
      have hne:=fun fb=>fault_ne_nil fb
      unfold faultP at hne
      clear hs
      go_upto_region 16 with (go_at_call 130; refine HEN.out.mono ?_; rintro e w9 ⟨⟨fb,rfl⟩,h9⟩; unfold faultP)
      have HP9:=hid (below_heap h9 HP7.out)
      have HB9:=hid (HB7.out.trans (h9.mono HB7.out.size))
      have HV9:=hid ((HF.out.below HB9.out).var 3 (by decide) (by decide))
      have HV9L:=hid (show errG 3 < w.heap.size from lt_of_cell (HF.out.var 3 (by decide) (by decide)))
      clear h9
      refine wp_region_till 100 (CellB (errG 3) (errV S 3)) (by kernel_rfl) ((Below.cell (Below.refl w9.heap.size w9).drew (p:=⟨errG 3,0,none⟩) (lt_of_cell HV9.out)).trans HV9.out) (fun hHeld=>?_)
      have HPD:=hid (below_heap (Below.refl w9.heap.size w9).drew HP9.out)
      have HBD:=hid (HB9.out.trans ((Below.refl w9.heap.size w9).drew.mono HB9.out.size))
      generalize w9.drew = wc at *
      refine wT (i:=0) (v:=.agg #[.int .i64 0,.slice none 0 0,.slice none 0 0]) rfl (Or.inl ⟨by rfl,fun w _=>?_⟩) hHeld ?_
      ·go_simp
      simp only [List.getElem_toArray,List.getElem_cons_zero,Act.put,List.setIfInBounds_toArray,List.set_cons_zero,List.set_cons_succ]
      refine wT (i:=1) (v:=errV S 3) rfl (Or.inl ⟨by rfl,fun w hSw=>?_⟩) hHeld ?_
      ·have c:=hSw.choose_spec; simp only [CellB,errG,errV] at c ⊢
       go_simp
      simp only [List.getElem_toArray,List.getElem_cons_succ,List.getElem_cons_zero,Act.put,List.setIfInBounds_toArray,List.set_cons_zero,List.set_cons_succ]
      refine wpAnyT_ready (rs:=[2]) (by kernel_rfl) (by simp) ?_
      refine AllReadyT.cons false rfl (by kernel_rfl) (fun K hK=>?_) AllReadyT.nil
      refine step_store3 (by rfl) (.tmp 2) (.tmp 60) (by rfl) (by rfl) (by rfl) HPD.out rfl rfl rfl HBD.out (Nat.le_refl _) ?_
      intro we hn hy hoth
      have HWE:=hid hn
      have HBE:=hid hy
      refine hK.out _ _ ((World.cell?_of_block (a:=⟨errG 3,0,none⟩) (hoth _ (show errG 3 ≠ w.heap.size by have:=HV9L.out; omega))).trans hHeld) (fun hHeld=>?_)
      clear hn hy hoth
      clear hK K
      refine wT (i:=3) (v:=errV S 3) rfl (Or.inl ⟨by rfl,fun w _=>?_⟩) hHeld ?_
      ·go_simp
      simp only [List.getElem_toArray,List.getElem_cons_succ,List.getElem_cons_zero,Act.put,List.setIfInBounds_toArray,List.set_cons_zero,List.set_cons_succ]
      refine wpAnyT_done (by kernel_rfl) ?_ _
      clear hHeld
      go_wp2_with fail
      refine bodyPost_ret (results_row_tmp rfl _ we w.heap.size 73 _ (0,0) _ _ rfl rfl HWE.out Tryz.underlying73 rfl (by kernel_rfl)) rfl ?_
      unfold DecPost
      rw [HDE.out]
      exact ⟨rfl,HBE.out⟩
end Go.Proofs.YticlgcfodlcpcaaGreatDoor
