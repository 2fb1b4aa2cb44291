/- codec.Reader by its contracts: ready,next,take,number,Var,Hash,End. codec.Reader by its contracts: Var,Hash,End; slices.Repeat of a hash of noughts. -/
import Derived.Test.YticlgcfodlcpcaaGreatDoorNT
import Derived.Test.YticlgcfodlcpcaaGreatDoorNoteP
namespace Go.Proofs.YticlgcfodlcpcaaGreatDoor
open Go.Lib (hid byteCells)
open Go.RowKit
def RdIs (w:World) (rb:Nat) (b:List UInt8) (k:Nat) (fv:Value):Prop:=
 w.heap[rb]? = some (.cells #[.string ⟨b.toArray⟩,.int .i64 (k:Int),fv,.bool true] 239 (0,0))
def faultP (fb:Nat):Value:=.iface 146 (.pointer (some ⟨fb,0,none⟩))
theorem RdIs.below {w w':World} {rb k:Nat} {b:List UInt8} {fv:Value} (h:RdIs w rb b k fv) (hb:Below w.heap.size w w'):RdIs w' rb b k fv:=below_heap hb h
theorem RdIs.lt {w:World} {rb k:Nat} {b:List UInt8} {fv:Value} (h:RdIs w rb b k fv):rb < w.heap.size:=lt_of_heap h
theorem RdIs.set1 {w:World} {rb k:Nat} {b:List UInt8} {fv:Value} (h:RdIs w rb b k fv) (k':Nat):RdIs (w.setCell ⟨rb,1,none⟩ (.int .i64 (k':Int))) rb b k' fv:=by
 unfold RdIs World.setCell
 simp [Array.getElem?_modify,show w.heap[rb]? = _ from h]
theorem RdIs.set2 {w:World} {rb k:Nat} {b:List UInt8} {fv:Value} (h:RdIs w rb b k fv) (fv':Value):RdIs (w.setCell ⟨rb,2,none⟩ fv') rb b k fv':=by
 unfold RdIs World.setCell
 simp [Array.getElem?_modify,show w.heap[rb]? = _ from h]
theorem fault_eq_nil (fb:Nat) (w:World):(binOp .eql 34 (faultP fb) .nilIface).run Tryz.prog w = .ok (.bool false) w:=by unfold faultP; kernel_rfl
theorem fault_ne_nil (fb:Nat) (w:World):(binOp .neq 34 (faultP fb) .nilIface).run Tryz.prog w = .ok (.bool true) w:=by unfold faultP; kernel_rfl
set_option maxHeartbeats 1000000 in
set_option maxRecDepth 100000 in
theorem rdReady_yes (rb k:Nat) (b:List UInt8) (w:World) (h:RdIs w rb b k .nilIface) :
  Calls Tryz.prog 149 #[.pointer (some ⟨rb,0,none⟩)] w fun e w'=>e = .returned (.bool true)∧w = w':=by
 have c2:=cell_of h 2 rfl
 have c3:=cell_of h 3 rfl
 clear h
 go_enter Tryz.func149,Tryz.ntmps149
 go_wp2_with fail
 go_ret
 exact ⟨rfl,rfl⟩
set_option maxHeartbeats 1000000 in
set_option maxRecDepth 100000 in
theorem rdReady_no (rb k fb:Nat) (b:List UInt8) (w:World) (h:RdIs w rb b k (faultP fb)) :
  Calls Tryz.prog 149 #[.pointer (some ⟨rb,0,none⟩)] w fun e w'=>e = .returned (.bool false)∧w = w':=by
 have c2:=cell_of h 2 rfl
 have c3:=cell_of h 3 rfl
 have hf:=fault_eq_nil fb
 unfold faultP at c2 hf
 clear h
 go_enter Tryz.func149,Tryz.ntmps149
 go_wp2_with fail
 go_ret
 exact ⟨rfl,rfl⟩
theorem extract_list (b:List UInt8) (k n:Nat):(⟨b.toArray⟩:ByteArray).extract k (k + n) = ⟨((b.drop k).take n).toArray⟩:=by
 refine ByteArray.ext ?_
 rw [ByteArray.data_extract]
 simp
set_option maxHeartbeats 1000000 in
set_option maxRecDepth 100000 in
theorem rdNext_ok (rb k n:Nat) (b:List UInt8) (hb:b.length ≤ 4611686018427387904) (hk:k + n ≤ b.length) (w:World) (h:RdIs w rb b k .nilIface) :
  Calls Tryz.prog 151 #[.pointer (some ⟨rb,0,none⟩),.int .i64 (n:Int)] w fun e w'=>e = .returned (.tuple #[.string ⟨((b.drop k).take n).toArray⟩,.bool true])∧RdIs w' rb b (k + n) .nilIface∧But [rb] w w':=by
 have c0:=cell_of h 0 rfl
 have c1:=cell_of h 1 rfl
 have H:=hid h
 have hf:=frozen_row h 1
 have hlt:=lt_of_heap h
 have hsl:∀ w:World,(Instr.slice 9 (.string ⟨b.toArray⟩) (some (.int .i64 (k:Int))) (some (.int .i64 ((k:Int) + (n:Int)))) none).run Tryz.prog w = .ok (.string ⟨((b.drop k).take n).toArray⟩) w:=fun w=>by
  rw [run_slice_string w 9 ⟨b.toArray⟩ .i64 .i64 _ _ Tryz.underlying9 (by omega) (by omega) (by show _ ≤ ((b.toArray.size:Nat):Int); simp; omega)]
  rw [show ((k:Int)).toNat = k by omega,show ((k:Int) + (n:Int)).toNat = k + n by omega]
  exact congrArg (fun s=>Result.ok (Value.string s) w) (extract_list b k n)
 have i1:¬ (n:Int) > (b.length:Int) - (k:Int):=by omega
 have i2:(k:Int) + (n:Int) ≤ (b.length:Int):=by omega
 clear h
 go_enter Tryz.func151,Tryz.ntmps151
 go_upto_region 1 with fail
 refine wp_region_kept (by kernel_rfl) (by kernel_rfl) ?_
 go_big_quiet_step (fail)
 go_big_quiet_step ((go_at_call 149; rename Kept _=>x; exact Kept.call ((rdReady_yes rb k b _ (H.out.below x.below)).mono fun _ _ h=>⟨h.1,h.2 ▸ Below.refl _ _⟩)))
 iterate 15 go_big_quiet_step (fail)
 refine wpQuiet_nil ?_
 intro x
 have HB1:=hid x.below
 generalize x.w = w1 at *
 have H1:=hid (H.out.below HB1.out)
 clear c0 c1 hf hlt H x
 have c0:=cell_of H1.out 0 rfl
 have c1:=cell_of H1.out 1 rfl
 have hf:=frozen_row H1.out 1
 have hlt:=lt_of_heap H1.out
 have k0:(0:Int) ≤ (k:Int):=by omega
 have n0:(0:Int) ≤ (n:Int):=by omega
 go_upto_region 3 with fail
 refine wp_region_kept (by kernel_rfl) (by kernel_rfl) ?_
 iterate 16 go_big_quiet_step (fail)
 refine wpQuiet_nil ?_
 intro x
 have HB2:=hid (HB1.out.trans (x.below.mono HB1.out.size))
 have H2:=hid (H1.out.below x.below)
 generalize x.w = w2 at *
 clear c0 c1 hf hlt H1 x HB1
 have c1:=cell_of H2.out 1 rfl
 have hf:=frozen_row H2.out 1
 go_wp2_with fail
 go_ret2
 exact ⟨rfl,H2.out.set1 (k + n),(But.of_below HB2.out).setCell (p:=⟨rb,1,none⟩) (List.mem_singleton.2 rfl) _⟩
set_option maxHeartbeats 1000000 in
set_option maxRecDepth 100000 in
theorem rdNext_short (rb k n:Nat) (b:List UInt8) (hb:b.length ≤ 4611686018427387904) (hk:b.length < k + n) (hkb:k ≤ b.length) (w:World) (h:RdIs w rb b k .nilIface) :
  Calls Tryz.prog 151 #[.pointer (some ⟨rb,0,none⟩),.int .i64 (n:Int)] w fun e w'=>e = .returned (.tuple #[.string ⟨#[]⟩,.bool false])∧Below w.heap.size w w':=by
 have c0:=cell_of h 0 rfl
 have c1:=cell_of h 1 rfl
 have H:=hid h
 have hlt:=lt_of_heap h
 have i1:(b.length:Int) - (k:Int) < (n:Int):=by omega
 clear h
 go_enter Tryz.func151,Tryz.ntmps151
 go_upto_region 1 with fail
 refine wp_region_kept (by kernel_rfl) (by kernel_rfl) ?_
 go_big_quiet_step (fail)
 go_big_quiet_step ((go_at_call 149; rename Kept _=>x; exact Kept.call ((rdReady_yes rb k b _ (H.out.below x.below)).mono fun _ _ h=>⟨h.1,h.2 ▸ Below.refl _ _⟩)))
 iterate 15 go_big_quiet_step (fail)
 refine wpQuiet_nil ?_
 intro x
 have HB1:=hid x.below
 generalize x.w = w1 at *
 go_wp2_with fail
 go_ret2
 exact ⟨rfl,HB1.out⟩
set_option maxHeartbeats 1000000 in
set_option maxRecDepth 100000 in
theorem rdFail_yes (rb k fb:Nat) (b:List UInt8) (w:World) (h:RdIs w rb b k .nilIface) :
  Calls Tryz.prog 162 #[.pointer (some ⟨rb,0,none⟩),faultP fb] w fun e w'=>e = .returned (.tuple #[])∧w' = w.setCell ⟨rb,2,none⟩ (faultP fb):=by
 have H:=hid h
 have c2:=cell_of h 2 rfl
 have hf:=frozen_row h 2
 clear h
 unfold faultP
 go_enter Tryz.func162,Tryz.ntmps162
 go_wp2_with (go_at_call 149; refine (rdReady_yes rb k b _ H.out).mono ?_; rintro e w1 ⟨rfl,rfl⟩)
 go_end0
 exact ⟨rfl,rfl⟩
set_option maxHeartbeats 1000000 in
set_option maxRecDepth 100000 in
theorem rdFail_no (rb k fb fb':Nat) (b:List UInt8) (w:World) (h:RdIs w rb b k (faultP fb)) :
  Calls Tryz.prog 162 #[.pointer (some ⟨rb,0,none⟩),faultP fb'] w fun e w'=>e = .returned (.tuple #[])∧w = w':=by
 have H:=hid h
 clear h
 unfold faultP
 go_enter Tryz.func162,Tryz.ntmps162
 go_wp2_with (go_at_call 149; refine (rdReady_no rb k fb b _ H.out).mono ?_; rintro e w1 ⟨rfl,rfl⟩)
 go_end0
 exact ⟨rfl,rfl⟩
def RdAny (w:World) (rb:Nat) (b:List UInt8):Option (List UInt8)→Prop
 | some l=>∃ k,k ≤ b.length∧b.drop k = l∧RdIs w rb b k .nilIface
 | none=>∃ k fb,k ≤ b.length∧RdIs w rb b k (faultP fb)
theorem RdAny.below {w w':World} {rb:Nat} {b:List UInt8} {st:Option (List UInt8)} (h:RdAny w rb b st) (hb:Below w.heap.size w w'):RdAny w' rb b st:=by
 cases st with
 | none=>obtain ⟨k,fb,h0,h⟩:=h; exact ⟨k,fb,h0,h.below hb⟩
 | some l=>obtain ⟨k,h0,h1,h⟩:=h; exact ⟨k,h0,h1,h.below hb⟩
theorem RdAny.lt {w:World} {rb:Nat} {b:List UInt8} {st:Option (List UInt8)} (h:RdAny w rb b st):rb < w.heap.size:=by
 cases st with
 | none=>obtain ⟨k,fb,_,h⟩:=h; exact h.lt
 | some l=>obtain ⟨k,_,_,h⟩:=h; exact h.lt
set_option maxHeartbeats 1000000 in
set_option maxRecDepth 100000 in
theorem rdBad_any (S:Nat→Addr) (rb:Nat) (z:Int) (b:List UInt8) (st:Option (List UInt8)) (w:World) (hB:w.cell? ⟨errG 3,0,none⟩ = some (errV S 3)) (h:RdAny w rb b st) :
  Calls Tryz.prog 152 #[.pointer (some ⟨rb,0,none⟩),.int .i64 z] w fun e w'=>e = .returned (.tuple #[])∧RdAny w' rb b none∧But [rb] w w':=by
 have H:=hid h
 simp only [errG,errV] at hB
 clear h
 go_enter Tryz.func152,Tryz.ntmps152
 go_wp2_with (fail)
 have HB:=hid (below_one w (.cells #[.iface 251 (.pointer (some (S 3))),.int .i64 z] 150))
 generalize w.alloc (.cells #[.iface 251 (.pointer (some (S 3))),.int .i64 z] 150) = w1 at *
 cases st with
 | none=>
  obtain ⟨k,fb,hk,h⟩:=H.out
  have H1:=hid (h.below HB.out)
  have HK:=hid hk
  clear h hk H
  go_wp2_with (go_at_call 162; refine (rdFail_no rb k fb w.heap.size b _ H1.out).mono ?_; rintro e w2 ⟨rfl,rfl⟩)
  go_end0
  exact ⟨rfl,⟨k,fb,HK.out,H1.out⟩,But.of_below HB.out⟩
 | some l=>
  obtain ⟨k,hk,_,h⟩:=H.out
  have H1:=hid (h.below HB.out)
  have HK:=hid hk
  clear h hk H
  go_wp2_with (go_at_call 162; refine (rdFail_yes rb k w.heap.size b _ H1.out).mono ?_; rintro e w2 ⟨rfl,rfl⟩)
  go_end0
  exact ⟨rfl,⟨k,w.heap.size,HK.out,H1.out.set2 _⟩,(But.of_below HB.out).setCell (p:=⟨rb,2,none⟩) (List.mem_singleton.2 rfl) _⟩
set_option maxHeartbeats 1000000 in
set_option maxRecDepth 100000 in
theorem rdTake_ok (rb k n:Nat) (z:Int) (b:List UInt8) (hb:b.length ≤ 4611686018427387904) (hk:k + n ≤ b.length) (w:World) (h:RdIs w rb b k .nilIface) :
  Calls Tryz.prog 154 #[.pointer (some ⟨rb,0,none⟩),.int .i64 (n:Int),.int .i64 z] w fun e w'=>e = .returned (.string ⟨((b.drop k).take n).toArray⟩)∧RdIs w' rb b (k + n) .nilIface∧But [rb] w w':=by
 have H:=hid (rdNext_ok rb k n b hb hk w h)
 obtain ⟨X,hX⟩:∃ X,(⟨((b.drop k).take n).toArray⟩:ByteArray) = X:=⟨_,rfl⟩
 rw [hX] at H ⊢
 clear h hX
 go_enter Tryz.func154,Tryz.ntmps154
 go_wp2_with (go_at_call 151; refine H.out.mono ?_; rintro e w1 ⟨rfl,h1,h2⟩)
 go_ret
 exact ⟨rfl,h1,h2⟩
set_option maxHeartbeats 1000000 in
set_option maxRecDepth 100000 in
theorem rdTake_short (S:Nat→Addr) (rb k n:Nat) (z:Int) (b:List UInt8) (hb:b.length ≤ 4611686018427387904) (hk:b.length < k + n) (hkb:k ≤ b.length) (w:World) (hS:w.cell? ⟨errG 3,0,none⟩ = some (errV S 3)) (h:RdIs w rb b k .nilIface) :
  Calls Tryz.prog 154 #[.pointer (some ⟨rb,0,none⟩),.int .i64 (n:Int),.int .i64 z] w fun e w'=>e = .returned (.string ⟨#[]⟩)∧RdAny w' rb b none∧But [rb] w w':=by
 have H:=hid (rdNext_short rb k n b hb hk hkb w h)
 have H2:=hid fun (W:World) (hW:Below w.heap.size w W)=>rdBad_any S rb z b (some (b.drop k)) W (below_cell hW hS) ⟨k,hkb,rfl,h.below hW⟩
 clear h hS
 go_enter Tryz.func154,Tryz.ntmps154
 go_wp2_with (first | (go_at_call 151; refine H.out.mono ?_; rintro e w1 ⟨rfl,h1⟩) | (go_at_call 152; refine (H2.out _ h1).mono ?_; rintro e w2 ⟨rfl,h2,h3⟩))
 go_ret
 exact ⟨rfl,h2,(But.of_below h1).trans h3⟩
theorem index_one (c:UInt8) (w:World):(Instr.index 9 (.string ⟨#[c]⟩) (.int .i64 0)).run Tryz.prog w = .ok (.int .u8 (c.toNat:Int)) w:=by kernel_rfl
theorem and127_u8 (c:UInt8):bits .and .u8 (c.toNat:Int) 127 = ((c.toNat % 128:Nat):Int):=by
 have key:∀ n:Fin 256,bits .and .u8 (n.val:Int) 127 = ((n.val % 128:Nat):Int):=by decide +kernel
 exact key ⟨c.toNat,c.toNat_lt⟩
theorem or7 (acc x i:Nat) (h0:acc < 18446744073709551616) (h:acc < 128 ^ i) (h2:x * 128 ^ i < 18446744073709551616):bits .or .u64 (acc:Int) ((x * 128 ^ i:Nat):Int) = ((acc + x * 128 ^ i:Nat):Int):=by
 have e:=u64_or_nat acc (x * 128 ^ i) h0 h2
 have e2:128 ^ i = 2 ^ (7 * i):=by rw [show (128:Nat) = 2 ^ 7 from rfl,← Nat.pow_mul]
 rw [e2] at e h ⊢
 rw [e,Nat.or_comm,or_low x acc (7 * i) h,Nat.add_comm]
theorem rdVar_bad (i:Nat) (c:UInt8) (r:List UInt8) (h:(i = 9∧1 < c.toNat) ∨ (0 < i∧c.toNat = 0)):rdVar i (c :: r) = none:=by rw [rdVar,if_pos h]
theorem rdVar_last (i:Nat) (c:UInt8) (r:List UInt8) (h:¬ ((i = 9∧1 < c.toNat) ∨ (0 < i∧c.toNat = 0))) (hc:c.toNat < 128):rdVar i (c :: r) = some (c.toNat * 128 ^ i,r):=by rw [rdVar,if_neg h,if_pos hc]
theorem rdVar_more (i:Nat) (c:UInt8) (r:List UInt8) (h:¬ ((i = 9∧1 < c.toNat) ∨ (0 < i∧c.toNat = 0))) (hc:¬ c.toNat < 128):rdVar i (c :: r) = (rdVar (i + 1) r).map fun x=>(c.toNat % 128 * 128 ^ i + x.1,x.2):=by rw [rdVar,if_neg h,if_neg hc]
def NumPost (rb k:Nat) (b:List UInt8) (w:World) (e:Ending) (w':World):Prop:=
 ∃ k',k' ≤ b.length∧RdIs w' rb b k' .nilIface∧But [rb] w w' ∧
  ((rdVar 0 (b.drop k) = none∧e = .returned (.tuple #[.int .u64 0,.bool false])) ∨ (∃ n:Nat,n < 18446744073709551616∧rdVar 0 (b.drop k) = some (n,b.drop k')∧e = .returned (.tuple #[.int .u64 (n:Int),.bool true])))
def NumRel (rb k:Nat) (b:List UInt8) (w:World) (nv iv:Value) (wr:World):Prop:=
 ∃ i acc k':Nat,i ≤ 9∧acc < 128 ^ i∧nv = .int .u64 (acc:Int)∧iv = .int .i64 (i:Int)∧k' ≤ b.length∧RdIs wr rb b k' .nilIface∧But [rb] w wr∧rdVar 0 (b.drop k) = (rdVar i (b.drop k')).map fun x=>(acc + x.1,x.2)
set_option maxHeartbeats 4000000 in
set_option maxRecDepth 100000 in
theorem number_any (rb k:Nat) (b:List UInt8) (hb:b.length ≤ 4611686018427387904) (hk:k ≤ b.length) (w:World) (h:RdIs w rb b k .nilIface) :
  Calls Tryz.prog 150 #[.func (Fn.func 151) #[.pointer (some ⟨rb,0,none⟩)] #[]] w fun e w'=>NumPost rb k b w e w':=by
 have HB:=hid hb
 have HS:=hid (show NumRel rb k b w (.int .u64 0) (.int .i64 0) w from ⟨0,0,k,by omega,by decide,rfl,rfl,hk,h,But.refl _ _,by
  cases rdVar 0 (b.drop k) with
  | none=>rfl
  | some x=>simp⟩)
 clear h hb hk
 go_enter Tryz.func150,Tryz.ntmps150
 go_wp2_with fail
 go_loopw [4,5] (fun nv iv wr=>NumRel rb k b w nv iv wr) (fun _ iv _=>10 - (intOf iv).toNat)
 case atStart=>exact HS.out
 case round=>
  obtain ⟨i,acc,k',hi,hacc,rfl,rfl,hk',hrd,hbut,he⟩:=hrel
  rename World=>wr
  have HR:=hid hrd
  have HBU:=hid hbut
  have HE:=hid he
  have HK:=hid hk'
  have HA:=hid hacc
  clear HS
  cases hd:b.drop k' with
  | nil=>
   have hlen:b.length < k' + 1:=by have:=List.drop_eq_nil_iff.1 hd; omega
   have HN:=hid (rdNext_short rb k' 1 b HB.out hlen HK.out wr HR.out)
   have HE2:=hid (show rdVar 0 (b.drop k) = none by rw [HE.out,hd]; rfl)
   clear he hrd hbut hk' hacc hd hlen
   go_wp2_with (go_at_call 151; refine HN.out.mono ?_; rintro e w1 ⟨rfl,h1⟩)
   go_ret2
   exact ⟨k',HK.out,HR.out.below h1,HBU.out.trans (But.of_below h1),Or.inl ⟨HE2.out,rfl⟩⟩
  | cons c r=>
   have hn1:k' + 1 ≤ b.length:=by
    have:=congrArg List.length hd
    simp at this
    omega
   have HD:=hid (show b.drop (k' + 1) = r by rw [← List.drop_drop,hd]; rfl)
   have hN:=rdNext_ok rb k' 1 b HB.out hn1 wr HR.out
   rw [hd,show (c :: r).take 1 = [c] from rfl] at hN
   have HN:=hid hN
   have HN1:=hid hn1
   rw [hd] at he
   have HE:=hid he
   have hx:=index_one c
   have c0:(0:Int) ≤ (c.toNat:Int):=by omega
   have c256:(c.toNat:Int) < 256:=by have:=c.toNat_lt; omega
   have i9:(i:Int) ≤ 9:=by omega
   have i0:(0:Int) ≤ (i:Int):=by omega
   clear hN hd he hrd hbut hk' hn1
   by_cases hbad:(i = 9∧1 < c.toNat) ∨ (0 < i∧c.toNat = 0)
   ·have HE2:=hid (show rdVar 0 (b.drop k) = none by rw [HE.out,rdVar_bad i c r hbad]; rfl)
    clear hacc
    have fin:∀ w1:World,RdIs w1 rb b (k' + 1) .nilIface→But [rb] wr w1→NumPost rb k b w (.returned (.tuple #[.int .u64 0,.bool false])) w1:=fun w1 h1 h2=>⟨k' + 1,HN1.out,h1,HBU.out.trans h2,Or.inl ⟨HE2.out,rfl⟩⟩
    by_cases h9:i = 9
    ·have j9:(i:Int) = 9:=by omega
     by_cases h1:1 < c.toNat
     ·have j1:(1:Int) < (c.toNat:Int):=by omega
      clear hbad
      go_wp2_with (go_at_call 151; refine HN.out.mono ?_; rintro e w1 ⟨rfl,h1,h2⟩)
      go_ret2
      exact fin w1 h1 h2
     ·have j1:¬ (1:Int) < (c.toNat:Int):=by omega
      have j2:(c.toNat:Int) = 0:=by omega
      have j3:(0:Int) < (i:Int):=by omega
      clear hbad
      go_wp2_with (go_at_call 151; refine HN.out.mono ?_; rintro e w1 ⟨rfl,h1,h2⟩)
      go_ret2
      exact fin w1 h1 h2
    ·have j9:¬ (i:Int) = 9:=by omega
     have j2:(c.toNat:Int) = 0:=by omega
     have j3:(0:Int) < (i:Int):=by omega
     clear hbad
     go_wp2_with (go_at_call 151; refine HN.out.mono ?_; rintro e w1 ⟨rfl,h1,h2⟩)
     go_ret2
     exact fin w1 h1 h2
   ·have ha127:=and127_u8 c
    have HV:=hid (fun hc=>rdVar_last i c r hbad hc)
    have HW:=hid (fun hc=>rdVar_more i c r hbad hc)
    have fin1:c.toNat < 128→acc + c.toNat * 128 ^ i < 18446744073709551616→∀ w1:World,RdIs w1 rb b (k' + 1) .nilIface→But [rb] wr w1→NumPost rb k b w (.returned (.tuple #[.int .u64 ((acc + c.toNat * 128 ^ i:Nat):Int),.bool true])) w1:=fun hc hl w1 h1 h2=>
     ⟨k' + 1,HN1.out,h1,HBU.out.trans h2,Or.inr ⟨acc + c.toNat * 128 ^ i,hl,by rw [HE.out,HV.out hc,HD.out]; rfl,rfl⟩⟩
    have fin2:¬ c.toNat < 128→i + 1 ≤ 9→acc + c.toNat % 128 * 128 ^ i < 128 ^ (i + 1)→∀ w1:World,RdIs w1 rb b (k' + 1) .nilIface→But [rb] wr w1→NumRel rb k b w (.int .u64 ((acc + c.toNat % 128 * 128 ^ i:Nat):Int)) (.int .i64 ((i + 1:Nat):Int)) w1:=fun hc hl hp w1 h1 h2=>
     ⟨i + 1,_,k' + 1,hl,hp,rfl,rfl,HN1.out,h1,HBU.out.trans h2,by
      rw [HE.out,HW.out hc,HD.out]
      cases rdVar (i + 1) r with
      | none=>rfl
      | some x=>simp [Nat.add_assoc]⟩
    have F1:=hid fin1
    have F2:=hid fin2
    have h9:i = 9→c.toNat ≤ 1:=fun h=>by omega
    have hz:i ≠ 0→¬ c.toNat = 0:=fun h=>by omega
    clear fin1 fin2 HV HW hbad HE
    by_cases hc:c.toNat < 128
    ·have j1:(c.toNat:Int) < 128:=by omega
     have e2:c.toNat % 128 = c.toNat:=by omega
     rw [e2] at ha127
     rcases (show i = 0 ∨ i = 1 ∨ i = 2 ∨ i = 3 ∨ i = 4 ∨ i = 5 ∨ i = 6 ∨ i = 7 ∨ i = 8 ∨ i = 9 by omega) with rfl | rfl | rfl | rfl | rfl | rfl | rfl | rfl | rfl | rfl
     ·clear hz h9
      have e3:bits .or .u64 (acc:Int) ((c.toNat:Int)) = (acc:Int) + (c.toNat:Int):=by
       have:=or7 acc c.toNat 0 (by omega) hacc (by omega)
       simpa using this
      go_wp2_with (go_at_call 151; refine HN.out.mono ?_; rintro e w1 ⟨rfl,h1,h2⟩)
      go_ret2
      have h3:=F1.out hc (by omega) w1 h1 h2
      simpa using h3
     ·have j4:¬ (c.toNat:Int) = 0:=by have:=hz (by decide); omega
      clear hz h9
      have e3:bits .or .u64 (acc:Int) ((c.toNat:Int) * 128) = (acc:Int) + (c.toNat:Int) * 128:=by
       have:=or7 acc c.toNat 1 (by omega) hacc (by omega)
       simpa using this
      go_wp2_with (go_at_call 151; refine HN.out.mono ?_; rintro e w1 ⟨rfl,h1,h2⟩)
      go_ret2
      have h3:=F1.out hc (by omega) w1 h1 h2
      simpa using h3
     ·have j4:¬ (c.toNat:Int) = 0:=by have:=hz (by decide); omega
      clear hz h9
      have e3:bits .or .u64 (acc:Int) ((c.toNat:Int) * 16384) = (acc:Int) + (c.toNat:Int) * 16384:=by
       have:=or7 acc c.toNat 2 (by omega) hacc (by omega)
       simpa using this
      go_wp2_with (go_at_call 151; refine HN.out.mono ?_; rintro e w1 ⟨rfl,h1,h2⟩)
      go_ret2
      have h3:=F1.out hc (by omega) w1 h1 h2
      simpa using h3
     ·have j4:¬ (c.toNat:Int) = 0:=by have:=hz (by decide); omega
      clear hz h9
      have e3:bits .or .u64 (acc:Int) ((c.toNat:Int) * 2097152) = (acc:Int) + (c.toNat:Int) * 2097152:=by
       have:=or7 acc c.toNat 3 (by omega) hacc (by omega)
       simpa using this
      go_wp2_with (go_at_call 151; refine HN.out.mono ?_; rintro e w1 ⟨rfl,h1,h2⟩)
      go_ret2
      have h3:=F1.out hc (by omega) w1 h1 h2
      simpa using h3
     ·have j4:¬ (c.toNat:Int) = 0:=by have:=hz (by decide); omega
      clear hz h9
      have e3:bits .or .u64 (acc:Int) ((c.toNat:Int) * 268435456) = (acc:Int) + (c.toNat:Int) * 268435456:=by
       have:=or7 acc c.toNat 4 (by omega) hacc (by omega)
       simpa using this
      go_wp2_with (go_at_call 151; refine HN.out.mono ?_; rintro e w1 ⟨rfl,h1,h2⟩)
      go_ret2
      have h3:=F1.out hc (by omega) w1 h1 h2
      simpa using h3
     ·have j4:¬ (c.toNat:Int) = 0:=by have:=hz (by decide); omega
      clear hz h9
      have e3:bits .or .u64 (acc:Int) ((c.toNat:Int) * 34359738368) = (acc:Int) + (c.toNat:Int) * 34359738368:=by
       have:=or7 acc c.toNat 5 (by omega) hacc (by omega)
       simpa using this
      go_wp2_with (go_at_call 151; refine HN.out.mono ?_; rintro e w1 ⟨rfl,h1,h2⟩)
      go_ret2
      have h3:=F1.out hc (by omega) w1 h1 h2
      simpa using h3
     ·have j4:¬ (c.toNat:Int) = 0:=by have:=hz (by decide); omega
      clear hz h9
      have e3:bits .or .u64 (acc:Int) ((c.toNat:Int) * 4398046511104) = (acc:Int) + (c.toNat:Int) * 4398046511104:=by
       have:=or7 acc c.toNat 6 (by omega) hacc (by omega)
       simpa using this
      go_wp2_with (go_at_call 151; refine HN.out.mono ?_; rintro e w1 ⟨rfl,h1,h2⟩)
      go_ret2
      have h3:=F1.out hc (by omega) w1 h1 h2
      simpa using h3
     ·have j4:¬ (c.toNat:Int) = 0:=by have:=hz (by decide); omega
      clear hz h9
      have e3:bits .or .u64 (acc:Int) ((c.toNat:Int) * 562949953421312) = (acc:Int) + (c.toNat:Int) * 562949953421312:=by
       have:=or7 acc c.toNat 7 (by omega) hacc (by omega)
       simpa using this
      go_wp2_with (go_at_call 151; refine HN.out.mono ?_; rintro e w1 ⟨rfl,h1,h2⟩)
      go_ret2
      have h3:=F1.out hc (by omega) w1 h1 h2
      simpa using h3
     ·have j4:¬ (c.toNat:Int) = 0:=by have:=hz (by decide); omega
      clear hz h9
      have e3:bits .or .u64 (acc:Int) ((c.toNat:Int) * 72057594037927936) = (acc:Int) + (c.toNat:Int) * 72057594037927936:=by
       have:=or7 acc c.toNat 8 (by omega) hacc (by omega)
       simpa using this
      go_wp2_with (go_at_call 151; refine HN.out.mono ?_; rintro e w1 ⟨rfl,h1,h2⟩)
      go_ret2
      have h3:=F1.out hc (by omega) w1 h1 h2
      simpa using h3
     ·have j4:c.toNat = 1:=by have:=hz (by decide); have:=h9 rfl; omega
      have j6:(c.toNat:Int) = 1:=by omega
      have b1:bits .and .u8 1 127 = 1:=by decide +kernel
      clear hz h9
      have e3:bits .or .u64 (acc:Int) 9223372036854775808 = (acc:Int) + 9223372036854775808:=by
       have:=or7 acc 1 9 (by omega) hacc (by omega)
       simpa using this
      have h3:=fun w1 h1 h2=>F1.out hc (by omega) w1 h1 h2
      rw [j4] at h3
      clear j4 hc j1 e2
      have H3:=hid h3
      clear h3
      go_wp2_with (go_at_call 151; refine HN.out.mono ?_; rintro e w1 ⟨rfl,h1,h2⟩)
      go_ret2
      have h3:=H3.out w1 h1 h2
      simpa using h3
    ·have j1:¬ (c.toNat:Int) < 128:=by omega
     have e2:((c.toNat % 128:Nat):Int) = (c.toNat:Int) - 128:=by omega
     rw [e2] at ha127
     rcases (show i = 0 ∨ i = 1 ∨ i = 2 ∨ i = 3 ∨ i = 4 ∨ i = 5 ∨ i = 6 ∨ i = 7 ∨ i = 8 by omega) with rfl | rfl | rfl | rfl | rfl | rfl | rfl | rfl | rfl
     ·clear hz h9
      have e3:bits .or .u64 (acc:Int) (((c.toNat:Int) - 128)) = (acc:Int) + ((c.toNat:Int) - 128):=by
       have:=or7 acc (c.toNat % 128) 0 (by omega) hacc (by omega)
       simp only [Int.natCast_add,Int.natCast_mul,e2] at this
       simpa using this
      go_wp2_with (go_at_call 151; refine HN.out.mono ?_; rintro e w1 ⟨rfl,h1,h2⟩)
      have h3:=F2.out hc (by omega) (by omega) w1 h1 h2
      simp only [Int.natCast_add,Int.natCast_mul,e2] at h3
      exact ⟨by simpa using h3,by simp [intOf]⟩
     ·have j4:¬ (c.toNat:Int) = 0:=by omega
      clear hz h9
      have e3:bits .or .u64 (acc:Int) (((c.toNat:Int) - 128) * 128) = (acc:Int) + ((c.toNat:Int) - 128) * 128:=by
       have:=or7 acc (c.toNat % 128) 1 (by omega) hacc (by omega)
       simp only [Int.natCast_add,Int.natCast_mul,e2] at this
       simpa using this
      go_wp2_with (go_at_call 151; refine HN.out.mono ?_; rintro e w1 ⟨rfl,h1,h2⟩)
      have h3:=F2.out hc (by omega) (by omega) w1 h1 h2
      simp only [Int.natCast_add,Int.natCast_mul,e2] at h3
      exact ⟨by simpa using h3,by simp [intOf]⟩
     ·have j4:¬ (c.toNat:Int) = 0:=by omega
      clear hz h9
      have e3:bits .or .u64 (acc:Int) (((c.toNat:Int) - 128) * 16384) = (acc:Int) + ((c.toNat:Int) - 128) * 16384:=by
       have:=or7 acc (c.toNat % 128) 2 (by omega) hacc (by omega)
       simp only [Int.natCast_add,Int.natCast_mul,e2] at this
       simpa using this
      go_wp2_with (go_at_call 151; refine HN.out.mono ?_; rintro e w1 ⟨rfl,h1,h2⟩)
      have h3:=F2.out hc (by omega) (by omega) w1 h1 h2
      simp only [Int.natCast_add,Int.natCast_mul,e2] at h3
      exact ⟨by simpa using h3,by simp [intOf]⟩
     ·have j4:¬ (c.toNat:Int) = 0:=by omega
      clear hz h9
      have e3:bits .or .u64 (acc:Int) (((c.toNat:Int) - 128) * 2097152) = (acc:Int) + ((c.toNat:Int) - 128) * 2097152:=by
       have:=or7 acc (c.toNat % 128) 3 (by omega) hacc (by omega)
       simp only [Int.natCast_add,Int.natCast_mul,e2] at this
       simpa using this
      go_wp2_with (go_at_call 151; refine HN.out.mono ?_; rintro e w1 ⟨rfl,h1,h2⟩)
      have h3:=F2.out hc (by omega) (by omega) w1 h1 h2
      simp only [Int.natCast_add,Int.natCast_mul,e2] at h3
      exact ⟨by simpa using h3,by simp [intOf]⟩
     ·have j4:¬ (c.toNat:Int) = 0:=by omega
      clear hz h9
      have e3:bits .or .u64 (acc:Int) (((c.toNat:Int) - 128) * 268435456) = (acc:Int) + ((c.toNat:Int) - 128) * 268435456:=by
       have:=or7 acc (c.toNat % 128) 4 (by omega) hacc (by omega)
       simp only [Int.natCast_add,Int.natCast_mul,e2] at this
       simpa using this
      go_wp2_with (go_at_call 151; refine HN.out.mono ?_; rintro e w1 ⟨rfl,h1,h2⟩)
      have h3:=F2.out hc (by omega) (by omega) w1 h1 h2
      simp only [Int.natCast_add,Int.natCast_mul,e2] at h3
      exact ⟨by simpa using h3,by simp [intOf]⟩
     ·have j4:¬ (c.toNat:Int) = 0:=by omega
      clear hz h9
      have e3:bits .or .u64 (acc:Int) (((c.toNat:Int) - 128) * 34359738368) = (acc:Int) + ((c.toNat:Int) - 128) * 34359738368:=by
       have:=or7 acc (c.toNat % 128) 5 (by omega) hacc (by omega)
       simp only [Int.natCast_add,Int.natCast_mul,e2] at this
       simpa using this
      go_wp2_with (go_at_call 151; refine HN.out.mono ?_; rintro e w1 ⟨rfl,h1,h2⟩)
      have h3:=F2.out hc (by omega) (by omega) w1 h1 h2
      simp only [Int.natCast_add,Int.natCast_mul,e2] at h3
      exact ⟨by simpa using h3,by simp [intOf]⟩
     ·have j4:¬ (c.toNat:Int) = 0:=by omega
      clear hz h9
      have e3:bits .or .u64 (acc:Int) (((c.toNat:Int) - 128) * 4398046511104) = (acc:Int) + ((c.toNat:Int) - 128) * 4398046511104:=by
       have:=or7 acc (c.toNat % 128) 6 (by omega) hacc (by omega)
       simp only [Int.natCast_add,Int.natCast_mul,e2] at this
       simpa using this
      go_wp2_with (go_at_call 151; refine HN.out.mono ?_; rintro e w1 ⟨rfl,h1,h2⟩)
      have h3:=F2.out hc (by omega) (by omega) w1 h1 h2
      simp only [Int.natCast_add,Int.natCast_mul,e2] at h3
      exact ⟨by simpa using h3,by simp [intOf]⟩
     ·have j4:¬ (c.toNat:Int) = 0:=by omega
      clear hz h9
      have e3:bits .or .u64 (acc:Int) (((c.toNat:Int) - 128) * 562949953421312) = (acc:Int) + ((c.toNat:Int) - 128) * 562949953421312:=by
       have:=or7 acc (c.toNat % 128) 7 (by omega) hacc (by omega)
       simp only [Int.natCast_add,Int.natCast_mul,e2] at this
       simpa using this
      go_wp2_with (go_at_call 151; refine HN.out.mono ?_; rintro e w1 ⟨rfl,h1,h2⟩)
      have h3:=F2.out hc (by omega) (by omega) w1 h1 h2
      simp only [Int.natCast_add,Int.natCast_mul,e2] at h3
      exact ⟨by simpa using h3,by simp [intOf]⟩
     ·have j4:¬ (c.toNat:Int) = 0:=by omega
      clear hz h9
      have e3:bits .or .u64 (acc:Int) (((c.toNat:Int) - 128) * 72057594037927936) = (acc:Int) + ((c.toNat:Int) - 128) * 72057594037927936:=by
       have:=or7 acc (c.toNat % 128) 8 (by omega) hacc (by omega)
       simp only [Int.natCast_add,Int.natCast_mul,e2] at this
       simpa using this
      go_wp2_with (go_at_call 151; refine HN.out.mono ?_; rintro e w1 ⟨rfl,h1,h2⟩)
      have h3:=F2.out hc (by omega) (by omega) w1 h1 h2
      simp only [Int.natCast_add,Int.natCast_mul,e2] at h3
      exact ⟨by simpa using h3,by simp [intOf]⟩
theorem number_no (rb k:Nat) (b:List UInt8) (hb:b.length ≤ 4611686018427387904) (hk:k ≤ b.length) (w:World) (h:RdIs w rb b k .nilIface) (hv:rdVar 0 (b.drop k) = none) :
  Calls Tryz.prog 150 #[.func (Fn.func 151) #[.pointer (some ⟨rb,0,none⟩)] #[]] w fun e w'=>e = .returned (.tuple #[.int .u64 0,.bool false])∧∃ k',k' ≤ b.length∧RdIs w' rb b k' .nilIface∧But [rb] w w':=
 (number_any rb k b hb hk w h).mono fun e w' ⟨k',h1,h2,h3,h4⟩=>by
  rcases h4 with ⟨_,rfl⟩ | ⟨n,_,hn,_⟩
  ·exact ⟨rfl,k',h1,h2,h3⟩
  ·rw [hv] at hn; cases hn
theorem number_yes (rb k:Nat) (b:List UInt8) (hb:b.length ≤ 4611686018427387904) (hk:k ≤ b.length) (w:World) (h:RdIs w rb b k .nilIface) (n:Nat) (r:List UInt8) (hv:rdVar 0 (b.drop k) = some (n,r)) :
  Calls Tryz.prog 150 #[.func (Fn.func 151) #[.pointer (some ⟨rb,0,none⟩)] #[]] w fun e w'=>e = .returned (.tuple #[.int .u64 (n:Int),.bool true])∧n < 18446744073709551616∧RdAny w' rb b (some r)∧But [rb] w w':=
 (number_any rb k b hb hk w h).mono fun e w' ⟨k',h1,h2,h3,h4⟩=>by
  rcases h4 with ⟨hn,_⟩ | ⟨m,hm,hn,rfl⟩
  ·rw [hv] at hn; cases hn
  ·rw [hv] at hn
   simp only [Option.some.injEq,Prod.mk.injEq] at hn
   obtain ⟨rfl,rfl⟩:=hn
   exact ⟨rfl,hm,⟨k',h1,rfl,h2⟩,h3⟩
def VarPost (rb:Nat) (b:List UInt8) (st:Option (List UInt8)) (w:World) (e:Ending) (w':World):Prop:=
 ∃ (n:Nat) (st':Option (List UInt8)),n < 18446744073709551616∧e = .returned (.int .u64 (n:Int))∧RdAny w' rb b st'∧But [rb] w w' ∧
  (st = none→st' = none)∧(∀ l,st = some l→(rdVar 0 l = none∧st' = none) ∨ (∃ r,rdVar 0 l = some (n,r)∧st' = some r))
set_option maxHeartbeats 4000000 in
set_option maxRecDepth 100000 in
theorem rdVar_any (S:Nat→Addr) (rb:Nat) (b:List UInt8) (hb:b.length ≤ 4611686018427387904) (st:Option (List UInt8)) (w0 w:World) (hF:Base S w0) (hB0:Below w0.heap.size w0 w) (hrb:w0.heap.size ≤ rb) (h:RdAny w rb b st) :
  Calls Tryz.prog 127 #[.pointer (some ⟨rb,0,none⟩)] w fun e w'=>VarPost rb b st w e w':=by
 have HF:=hid hF
 have HB0:=hid hB0
 have HRB:=hid hrb
 have HB:=hid hb
 cases st with
 | none=>
  obtain ⟨k,fb,hk,h⟩:=h
  have H:=hid h
  have HK:=hid hk
  clear hF hB0 hrb hb h hk
  go_enter Tryz.func127,Tryz.ntmps127
  go_wp2_with (go_at_call 149; refine (rdReady_no rb k fb b _ H.out).mono ?_; rintro e w1 ⟨rfl,rfl⟩)
  go_ret
  exact ⟨0,none,by decide,rfl,⟨k,fb,HK.out,H.out⟩,But.refl _ _,fun _=>rfl,fun l hl=>(by cases hl)⟩
 | some l=>
  obtain ⟨k,hk,hl,h⟩:=h
  have H:=hid h
  have HL:=hid hl
  have c1:=cell_of h 1 rfl
  cases hv:rdVar 0 (b.drop k) with
  | none=>
   have HN:=hid (number_no rb k b hb hk w h hv)
   have HV:=hid hv
   clear hF hB0 hrb hb h hl hk hv
   go_enter Tryz.func127,Tryz.ntmps127
   go_wp2_with (first | (go_at_call 149; refine (rdReady_yes rb k b _ H.out).mono ?_; rintro e w1 ⟨rfl,rfl⟩) | (go_at_call 150; refine HN.out.mono ?_; rintro e w1 ⟨rfl,k',hk',hr',hbu⟩))
   have HBU:=hid hbu
   have HBL:=hid (hbu.below HB0.out HB0.out.size (fun k hk=>by rw [List.mem_singleton.1 hk]; exact HRB.out))
   have HBD:=hid (rdBad_any S rb k b (some (b.drop k')) w1 ((HF.out.below HBL.out).var 3 (by decide) (by decide)) ⟨k',hk',rfl,hr'⟩)
   clear hr' hk' hbu c1
   go_wp2_with (go_at_call 152; refine HBD.out.mono ?_; rintro e w2 ⟨rfl,h2,h3⟩)
   go_ret
   refine ⟨0,none,by decide,rfl,h2,HBU.out.trans h3,fun h=>(by cases h),fun l2 hl2=>?_⟩
   cases hl2
   have hv:=HV.out
   rw [HL.out] at hv
   exact Or.inl ⟨hv,rfl⟩
  | some x=>
   obtain ⟨n,r⟩:=x
   have HN:=hid (number_yes rb k b hb hk w h n r hv)
   have HV:=hid hv
   clear hF hB0 hrb hb h hl hk hv
   go_enter Tryz.func127,Tryz.ntmps127
   go_wp2_with (first | (go_at_call 149; refine (rdReady_yes rb k b _ H.out).mono ?_; rintro e w1 ⟨rfl,rfl⟩) | (go_at_call 150; refine HN.out.mono ?_; rintro e w1 ⟨rfl,hn,hr',hbu⟩))
   go_ret
   refine ⟨n,some r,hn,rfl,hr',hbu,fun h=>(by cases h),fun l2 hl2=>?_⟩
   cases hl2
   have hv:=HV.out
   rw [HL.out] at hv
   exact Or.inr ⟨_,hv,rfl⟩
def EndPost (st:Option (List UInt8)) (e:Ending):Prop:=(st = some []∧e = .returned .nilIface) ∨ (st ≠ some []∧∃ fb,e = .returned (faultP fb))
set_option maxHeartbeats 4000000 in
set_option maxRecDepth 100000 in
theorem rdEnd_any (S:Nat→Addr) (rb:Nat) (b:List UInt8) (hb:b.length ≤ 4611686018427387904) (st:Option (List UInt8)) (w:World) (hF:Base S w) (h:RdAny w rb b st) :
  Calls Tryz.prog 130 #[.pointer (some ⟨rb,0,none⟩)] w fun e w'=>EndPost st e∧Below w.heap.size w w':=by
 have HF:=hid hF
 have HB:=hid hb
 cases st with
 | none=>
  obtain ⟨k,fb,hk,h⟩:=h
  have H:=hid h
  have hlt:=lt_of_heap h
  have hne:=fault_eq_nil fb
  have c0:=cell_of h 0 rfl
  have c1:=cell_of h 1 rfl
  have c2:=cell_of h 2 rfl
  have c3:=cell_of h 3 rfl
  unfold faultP at c2 hne
  clear hF hb h hk
  go_enter Tryz.func130,Tryz.ntmps130
  go_upto_region 3 with fail
  refine wp_region_kept (by kernel_rfl) (by kernel_rfl) ?_
  iterate 18 go_big_quiet_step (fail)
  refine wpQuiet_nil ?_
  intro x
  have HB1:=hid x.below
  have c2:=cell_of (H.out.below x.below) 2 rfl
  generalize x.w = w1 at *
  unfold faultP at c2
  go_wp2_with fail
  go_ret
  exact ⟨Or.inr ⟨by simp,fb,rfl⟩,HB1.out⟩
 | some l=>
  obtain ⟨k,hk,hl,h⟩:=h
  have H:=hid h
  have HL:=hid hl
  have hlt:=lt_of_heap h
  have c0:=cell_of h 0 rfl
  have c1:=cell_of h 1 rfl
  have c2:=cell_of h 2 rfl
  have c3:=cell_of h 3 rfl
  by_cases hlen:k < b.length
  ·have hne:l ≠ []:=fun e=>by rw [e] at hl; have:=List.drop_eq_nil_iff.1 hl; omega
   have HNE:=hid hne
   have i1:(k:Int) < (b.length:Int):=by omega
   clear hF hb h hk hl hne hlen
   go_enter Tryz.func130,Tryz.ntmps130
   go_upto_region 3 with fail
   refine wp_region_kept (by kernel_rfl) (by kernel_rfl) ?_
   iterate 18 go_big_quiet_step (fail)
   refine wpQuiet_nil ?_
   intro x
   have HB1:=hid x.below
   have H1:=hid (H.out.below x.below)
   generalize x.w = w1 at *
   clear c0 c1 c2 c3 hlt x H
   have c1:=cell_of H1.out 1 rfl
   have hlt:=lt_of_heap H1.out
   have g3:=(HF.out.below HB1.out).var 3 (by decide) (by decide)
   have hlt3:=lt_of_cell g3
   simp only [errG,errV] at g3 hlt3
   go_upto_region 4 with fail
   refine wp_region_kept_tail 6 (by kernel_rfl) (by kernel_rfl) ?_
   simp only [List.take_succ_cons,List.take_zero,List.drop_succ_cons,List.drop_zero]
   iterate 6 go_big_quiet_step (fail)
   refine wpQuiet_nil ?_
   intro x
   have HB2:=hid (HB1.out.trans (x.below.mono HB1.out.size))
   generalize x.w = w2 at *
   go_wp2_with fail
   go_ret
   exact ⟨Or.inr ⟨by simpa using HNE.out,_,rfl⟩,HB2.out.trans ((below_one w2 _).mono HB2.out.size)⟩
  ·have hle:l = []:=by rw [← hl]; exact List.drop_of_length_le (by omega)
   subst hle
   have i1:¬ (k:Int) < (b.length:Int):=by omega
   clear hF hb h hk hl hlen HL
   go_enter Tryz.func130,Tryz.ntmps130
   go_upto_region 3 with fail
   refine wp_region_kept (by kernel_rfl) (by kernel_rfl) ?_
   iterate 18 go_big_quiet_step (fail)
   refine wpQuiet_nil ?_
   intro x
   have HB1:=hid x.below
   have c2:=cell_of (H.out.below x.below) 2 rfl
   generalize x.w = w1 at *
   go_wp2_with fail
   go_ret
   exact ⟨Or.inl ⟨rfl,rfl⟩,HB1.out⟩
end Go.Proofs.YticlgcfodlcpcaaGreatDoor
