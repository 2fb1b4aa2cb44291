/- The law NoteSigns,walked. -/
import Derived.Test.YticlgcfodlcpcaaGreatDoorNSgR
import Derived.Test.YticlgcfodlcpcaaGreatDoorNSgOpen
namespace Go.Proofs.YticlgcfodlcpcaaGreatDoor
open Go.Lib (hid byteCells)
open Go.RowKit
theorem scC_at {one two:List UInt8} {height:Int} {ov:Value} (h1:one.length = 32) (h2:two.length = 32):(scC one two height ov)[64]? = some (.int .i64 height)∧(scC one two height ov)[65]? = some ov:=by
 unfold scC
 have l1:(byteCells one).length = 32:=by rw [Lib.byteCells_length,h1]
 have l2:(byteCells two).length = 32:=by rw [Lib.byteCells_length,h2]
 constructor
 ·rw [List.getElem?_append_right (by omega),List.getElem?_append_right (by omega),l1,l2]; rfl
 ·rw [List.getElem?_append_right (by omega),List.getElem?_append_right (by omega),l1,l2]; rfl
structure L0 (W0:World) (b5 b6 b7:Nat) (s1 s2:List UInt8) (W:World):Prop where
 a5:W.heap[b5]? = some (.cells #[.pointer none,.pointer none] 29 (0,0))
 a6:W.heap[b6]? = some (.cells #[.pointer none,.pointer none] 31 (0,0))
 a7:W.heap[b7]? = some (.cells (byteCells s1 ++ byteCells s2).toArray 32 (0,0))
 bel:Below W0.heap.size W0 W
structure L1 (W0:World) (b5 b6 b7:Nat) (s1 s2:List UInt8) (h:Nat) (k0 d0:Nat) (l0:Value) (W:World):Prop where
 a5:W.heap[b5]? = some (.cells #[pt k0,.pointer none] 29 (0,0))
 a6:W.heap[b6]? = some (.cells #[pt d0,.pointer none] 31 (0,0))
 a7:W.heap[b7]? = some (.cells (byteCells s1 ++ byteCells s2).toArray 32 (0,0))
 kf0:KeyF W k0 s1 h 0
 r0:RK W d0 s1 h 0 (2 ^ h) l0
 bel:Below W0.heap.size W0 W
structure L2 (W0:World) (b5 b6:Nat) (s1 s2:List UInt8) (h:Nat) (k0 k1 d0 d1:Nat) (l0 l1:Value) (W:World):Prop where
 a5:W.heap[b5]? = some (.cells #[pt k0,pt k1] 29 (0,0))
 a6:W.heap[b6]? = some (.cells #[pt d0,pt d1] 31 (0,0))
 kf0:KeyF W k0 s1 h 0
 r0:RK W d0 s1 h 0 (2 ^ h) l0
 kf1:KeyF W k1 s2 h 0
 r1:RK W d1 s2 h 0 (2 ^ h) l1
 kk:k0 < k1
 dd:d0 < d1
 bel:Below W0.heap.size W0 W
def LR (W0:World) (b5 b6 b7:Nat) (s1 s2:List UInt8) (h:Nat) (iv:Value) (W:World):Prop:=
 (iv = .int .i64 0∧L0 W0 b5 b6 b7 s1 s2 W) ∨ (iv = .int .i64 1∧∃ k0 d0 l0,W0.heap.size ≤ k0∧W0.heap.size ≤ d0∧L1 W0 b5 b6 b7 s1 s2 h k0 d0 l0 W) ∨ (iv = .int .i64 2∧∃ k0 k1 d0 d1 l0 l1,W0.heap.size ≤ k0∧W0.heap.size ≤ d0∧L2 W0 b5 b6 s1 s2 h k0 k1 d0 d1 l0 l1 W)
theorem L0.below {W0 W W':World} {b5 b6 b7:Nat} {s1 s2:List UInt8} (g:L0 W0 b5 b6 b7 s1 s2 W) (hb:Below W.heap.size W W'):L0 W0 b5 b6 b7 s1 s2 W':=
 ⟨below_heap hb g.a5,below_heap hb g.a6,below_heap hb g.a7,g.bel.trans (hb.mono g.bel.size)⟩
theorem L1.below {W0 W W':World} {b5 b6 b7:Nat} {s1 s2:List UInt8} {h k0 d0:Nat} {l0:Value} (g:L1 W0 b5 b6 b7 s1 s2 h k0 d0 l0 W) (hb:Below W.heap.size W W'):L1 W0 b5 b6 b7 s1 s2 h k0 d0 l0 W':=
 ⟨below_heap hb g.a5,below_heap hb g.a6,below_heap hb g.a7,g.kf0.below hb,g.r0.below hb,g.bel.trans (hb.mono g.bel.size)⟩
theorem set_pair {W:World} {b5 b6 i:Nat} {x y:Value} {cs cs2:Array Value} {T T2:TypeId} (h5:W.heap[b5]? = some (.cells cs T (0,0))) (h6:W.heap[b6]? = some (.cells cs2 T2 (0,0))) (hne:b5 ≠ b6) :
  ((W.setCell ⟨b5,i,none⟩ x).setCell ⟨b6,i,none⟩ y).heap[b5]? = some (.cells (cs.set! i x) T (0,0))∧((W.setCell ⟨b5,i,none⟩ x).setCell ⟨b6,i,none⟩ y).heap[b6]? = some (.cells (cs2.set! i y) T2 (0,0)) ∧
  (∀ g,g ≠ b5→g ≠ b6→((W.setCell ⟨b5,i,none⟩ x).setCell ⟨b6,i,none⟩ y).heap[g]? = W.heap[g]?):=by
 refine ⟨(Below.heap_setCell _ ⟨b6,i,none⟩ _ b5 hne).trans (heap_setCell_same W b5 i _ _ x h5),?_,fun g h1 h2=>(Below.heap_setCell _ ⟨b6,i,none⟩ _ g h2).trans (Below.heap_setCell _ ⟨b5,i,none⟩ _ g h1)⟩
 exact heap_setCell_same _ b6 i _ _ y ((Below.heap_setCell _ ⟨b5,i,none⟩ _ b6 (fun e=>hne e.symm)).trans h6)
theorem KeyF.two {W:World} {b5 b6 i kb:Nat} {s:List UInt8} {h nx:Nat} {x y:Value} {cs cs2:Array Value} (hk:KeyF W kb s h nx) (h5:W.heap[b5]? = some (.cells cs 29 (0,0))) (h6:W.heap[b6]? = some (.cells cs2 31 (0,0))) (hne:b5 ≠ b6) :
  KeyF ((W.setCell ⟨b5,i,none⟩ x).setCell ⟨b6,i,none⟩ y) kb s h nx:=by
 obtain ⟨c,hr⟩:=hk.row
 have k1:=hk.butT (w':=W.setCell ⟨b5,i,none⟩ x) ((But.refl [b5] W).setCell (p:=⟨b5,i,none⟩) (by simp) x) h5 ka_ne_hash (row_ne h5 hr ka_ne_key).symm
 have h6':=(Below.heap_setCell W ⟨b5,i,none⟩ x b6 (fun e=>hne e.symm)).trans h6
 exact k1.butT ((But.refl [b6] _).setCell (p:=⟨b6,i,none⟩) (by simp) y) h6' ra_ne_hash (row_ne h6 hr ra_ne_key).symm
theorem RK.two {W:World} {b5 b6 i kb:Nat} {s:List UInt8} {h nx k:Nat} {lv x y:Value} {cs cs2:Array Value} (hk:RK W kb s h nx k lv) (h5:W.heap[b5]? = some (.cells cs 29 (0,0))) (h6:W.heap[b6]? = some (.cells cs2 31 (0,0))) (hne:b5 ≠ b6) :
  RK ((W.setCell ⟨b5,i,none⟩ x).setCell ⟨b6,i,none⟩ y) kb s h nx k lv:=by
 have hr:=hk.row
 have k1:=hk.butT (w':=W.setCell ⟨b5,i,none⟩ x) ((But.refl [b5] W).setCell (p:=⟨b5,i,none⟩) (by simp) x) h5 ka_ne_hash (row_ne h5 hr ka_ne_rk).symm
 have h6':=(Below.heap_setCell W ⟨b5,i,none⟩ x b6 (fun e=>hne e.symm)).trans h6
 exact k1.butT ((But.refl [b6] _).setCell (p:=⟨b6,i,none⟩) (by simp) y) h6' ra_ne_hash (row_ne h6 hr ra_ne_rk).symm
theorem ka_ne_ra:¬ (29:TypeId) = 31:=by decide
theorem ka_ne_hh:¬ (29:TypeId) = 32:=by decide
theorem ra_ne_hh:¬ (31:TypeId) = 32:=by decide
theorem L0.next {W0 W:World} {b5 b6 b7:Nat} {s1 s2:List UInt8} {h k0 d0:Nat} {l0:Value} (g:L0 W0 b5 b6 b7 s1 s2 W) (hk:KeyF W k0 s1 h 0) (hd:RK W d0 s1 h 0 (2 ^ h) l0) (g5:W0.heap.size ≤ b5) (g6:W0.heap.size ≤ b6) :
  L1 W0 b5 b6 b7 s1 s2 h k0 d0 l0 ((W.setCell ⟨b5,0,none⟩ (pt k0)).setCell ⟨b6,0,none⟩ (pt d0)):=by
 have hne:=row_ne g.a5 g.a6 ka_ne_ra
 obtain ⟨e1,e2,e3⟩:=set_pair (i:=0) (x:=pt k0) (y:=pt d0) g.a5 g.a6 hne
 exact ⟨e1,e2,(e3 b7 (row_ne g.a5 g.a7 ka_ne_hh).symm (row_ne g.a6 g.a7 ra_ne_hh).symm).trans g.a7,hk.two g.a5 g.a6 hne,hd.two g.a5 g.a6 hne,(g.bel.setCell (p:=⟨b5,0,none⟩) g5 _).setCell (p:=⟨b6,0,none⟩) g6 _⟩
theorem L1.next {W0 W:World} {b5 b6 b7:Nat} {s1 s2:List UInt8} {h k0 d0 k1 d1:Nat} {l0 l1:Value} (g:L1 W0 b5 b6 b7 s1 s2 h k0 d0 l0 W) (hk:KeyF W k1 s2 h 0) (hd:RK W d1 s2 h 0 (2 ^ h) l1) (kk:k0 < k1) (dd:d0 < d1) (g5:W0.heap.size ≤ b5) (g6:W0.heap.size ≤ b6) :
  L2 W0 b5 b6 s1 s2 h k0 k1 d0 d1 l0 l1 ((W.setCell ⟨b5,1,none⟩ (pt k1)).setCell ⟨b6,1,none⟩ (pt d1)):=by
 have hne:=row_ne g.a5 g.a6 ka_ne_ra
 obtain ⟨e1,e2,e3⟩:=set_pair (i:=1) (x:=pt k1) (y:=pt d1) g.a5 g.a6 hne
 exact ⟨e1,e2,g.kf0.two g.a5 g.a6 hne,g.r0.two g.a5 g.a6 hne,hk.two g.a5 g.a6 hne,hd.two g.a5 g.a6 hne,kk,dd,(g.bel.setCell (p:=⟨b5,1,none⟩) g5 _).setCell (p:=⟨b6,1,none⟩) g6 _⟩
theorem L2.below {W0 W W':World} {b5 b6:Nat} {s1 s2:List UInt8} {h k0 d0 k1 d1:Nat} {l0 l1:Value} (g:L2 W0 b5 b6 s1 s2 h k0 k1 d0 d1 l0 l1 W) (hb:Below W.heap.size W W'):L2 W0 b5 b6 s1 s2 h k0 k1 d0 d1 l0 l1 W':=
 ⟨below_heap hb g.a5,below_heap hb g.a6,g.kf0.below hb,g.r0.below hb,g.kf1.below hb,g.r1.below hb,g.kk,g.dd,g.bel.trans (hb.mono g.bel.size)⟩
theorem ka_ne_ft:¬ (29:TypeId) = 38:=by decide
theorem ra_ne_ft:¬ (31:TypeId) = 38:=by decide
theorem key_ne_ft:¬ (44:TypeId) = 38:=by decide
theorem rk_ne_ft:¬ (84:TypeId) = 38:=by decide
theorem ft_ne_hash:¬ (38:TypeId) = 23:=by decide
theorem op_ne_key:¬ (46:TypeId) = 44:=by decide
theorem SG.fault {W0 W W':World} {B:Lie} {s1 s2:List UInt8} {h n0 n1 m0 m1:Nat} (g:SG W0 B s1 s2 h n0 n1 m0 m1 W) {fb:Nat} {cs:Array Value} (hr:W.heap[fb]? = some (.cells cs 38 (0,0))) (hb:But [fb] W W') (hw:Below W0.heap.size W0 W'):SG W0 B s1 s2 h n0 n1 m0 m1 W':=by
 obtain ⟨c0,h0⟩:=g.kf0.row
 obtain ⟨c1,h1⟩:=g.kf1.row
 obtain ⟨cs,hz,hf⟩:=g.z
 exact ⟨hb.heap g.a5 (by rw [List.mem_singleton]; exact row_ne g.a5 hr ka_ne_ft),hb.heap g.a6 (by rw [List.mem_singleton]; exact row_ne g.a6 hr ra_ne_ft),g.kf0.butT hb hr ft_ne_hash (row_ne h0 hr key_ne_ft),g.kf1.butT hb hr ft_ne_hash (row_ne h1 hr key_ne_ft),g.r0.butT hb hr ft_ne_hash (row_ne g.r0.row hr rk_ne_ft),g.r1.butT hb hr ft_ne_hash (row_ne g.r1.row hr rk_ne_ft),⟨cs,hb.heap hz (by rw [List.mem_singleton]; exact row_ne hz hr key_ne_ft),hf⟩,g.kk,g.dd,g.g0,g.g1,g.g2,g.g3,hw⟩
theorem fault_setBut {W:World} {fb:Nat} {a b:Int} (hf:faultRow W fb a b) (c z:Int):faultRow (W.setCells fb 0 [.int .i64 c,.int .i64 z]) fb c z∧But [fb] W (W.setCells fb 0 [.int .i64 c,.int .i64 z]):=
 ⟨fault_set hf c z,((But.refl [fb] W).setCell (p:=⟨fb,0,none⟩) (by simp) _).setCell (p:=⟨fb,1,none⟩) (by simp) _⟩
theorem ErrAt.some3 {S:Nat→Addr} {w:World} {v:Value} {c:Nat} {p:Option Int} (h:ErrAt S w v c p) (hc:c ≠ 0):∃ T x,v = .iface T x∧(∀ W,(binOp .eql 34 (.iface T x) .nilIface).run Tryz.prog W = .ok (.bool false) W):=by
 rcases h with ⟨_,h,_⟩ | ⟨_,_,h,_⟩ | ⟨_,_,b,y,h,_⟩
 ·exact absurd h hc
 ·exact ⟨_,_,h,fun W=>run_err_eq (S c) W⟩
 ·exact ⟨_,_,h,fun W=>fault_eq_nil b W⟩
def SgT (W0:World) (B:Lie) (s1 s2:List UInt8) (h n0 n1:Nat) (C:Nat) (z:Int) (fv:Value) (W:World):Prop:=
 ∃ fb,fv = .pointer (some ⟨fb,0,none⟩)∧faultRow W fb (C:Int) z∧SG W0 B s1 s2 h n0 n1 n0 n1 W
def SgR (W0:World) (B:Lie) (s1 s2:List UInt8) (h:Nat) (OL:List Sop) (lv iv:Value) (W:World):Prop:=
 ∃ (i:Nat) (last:List UInt8) (n0 n1:Nat),iv = .int .i64 (i:Int)∧i ≤ OL.length∧lv = .string ⟨last.toArray⟩∧last.length ≤ 4194304∧n0 ≤ 2 ^ h∧n1 ≤ 2 ^ h∧SG W0 B s1 s2 h n0 n1 n0 n1 W
set_option maxHeartbeats 16000000 in
set_option maxRecDepth 100000 in
theorem signs_any (S:Nat→Addr) (one two:List UInt8) (height:Int) (ov:Value) (OL:List Sop) (h1:one.length = 32) (h2:two.length = 32) (hh:idxOk height) (hOL:OL.length ≤ 140737488351232) (w:World) (hF:FW S w) (hop:OpsIn w ov OL) :
  Calls Tryz.prog 3 #[.agg (scC one two height ov).toArray] w fun e w'=>e = .returned (.bool true)∧Below w.heap.size w w':=by
 have HF:=hid fun (W:World) (hW:Below w.heap.size w W)=>hF.below hW
 have HFW:=hid hF
 have HLA:=hid (fun (W W':World) (hW:Below w.heap.size w W) (hW':Below W.heap.size W W')=>hW.trans (hW'.mono hW.size))
 have HAL:=hid fun (W:World) (hW:Below w.heap.size w W)=>alive_any S W (hF.below hW)
 obtain ⟨hok,ao,ocap,rfl,hor⟩:=hop
 have HOK:=hid hok
 have HOR:=hid hor
 have HL1:=hid h1
 have HL2:=hid h2
 obtain ⟨c64,c65⟩:=scC_at (height:=height) (ov:=.slice ao OL.length ocap) h1 h2
 obtain ⟨KL,hKL⟩:∃ K,scC one two height (.slice ao OL.length ocap) = K:=⟨_,rfl⟩
 have HKL:=hid hKL
 rw [hKL] at c64 c65 ⊢
 have HX1:=hid (heap_one w (.cells KL.toArray 26 (0,0)))
 have HB1:=hid (below_one w (.cells KL.toArray 26 (0,0)))
 clear h1 h2 hKL hF hok hor
 by_cases hr:0 ≤ height∧height ≤ 2
 ·obtain ⟨h,rfl⟩:∃ h:Nat,height = (h:Int):=⟨height.toNat,by omega⟩
  have h2:h ≤ 2:=by omega
  have H2:=hid h2
  have g0:¬ (h:Int) < 0:=by omega
  have g2:¬ (2:Int) < (h:Int):=by omega
  clear hr hh h2
  go_enter Tryz.func3,Tryz.ntmps3
  go_upto_region 1 with fail
  generalize w.alloc (.cells KL.toArray 26) = w1 at *
  have hr1:=row_range HX1.out
  have k64:=hr1 64 _ c64
  have k65:=hr1 65 _ c65
  simp only [Nat.zero_add] at k64 k65
  rw [← HKL.out] at hr1
  have hra:=range_app2 hr1
  have HR1:=hid hra.1
  have HR2:=hid (range_app2 hra.2).1
  clear hr1 c64 c65 hra
  go_upto_region 5 with fail
  clear k64 k65 g0 g2
  go_upto_region 6 with fail
  have hb5:=below_one w1 (.cells #[.pointer none,.pointer none] 29 (0,0))
  have hx5:=heap_one w1 (.cells #[.pointer none,.pointer none] 29 (0,0))
  have HR1:=hid (range_below hb5 HR1.out)
  have HR2:=hid (range_below hb5 HR2.out)
  have HB2:=hid (HLA.out _ _ HB1.out hb5)
  have HSZ1:=hid HB1.out.size
  generalize w1.alloc (.cells #[.pointer none,.pointer none] 29) = w2 at *
  generalize w1.heap.size = b5 at *
  clear hb5
  go_upto_region 7 with fail
  have hb6:=below_one w2 (.cells #[.pointer none,.pointer none] 31 (0,0))
  have hx6:=heap_one w2 (.cells #[.pointer none,.pointer none] 31 (0,0))
  have hx5:=below_heap hb6 hx5
  have HR1:=hid (range_below hb6 HR1.out)
  have HR2:=hid (range_below hb6 HR2.out)
  have HB3:=hid (HLA.out _ _ HB2.out hb6)
  have HSZ2:=hid HB2.out.size
  generalize w2.alloc (.cells #[.pointer none,.pointer none] 31) = w3 at *
  generalize w2.heap.size = b6 at *
  clear hb6
  have HX5:=hid hx5
  have HX6:=hid hx6
  clear hx5 hx6
  go_upto_region 8 with (first | (refine wpList_hashLoad (by rfl) (.tmp 38) (by rfl) w.heap.size 0 (by rfl) one HL1.out HR1.out ?_) | (refine wpList_hashLoad (by rfl) (.tmp 40) (by rfl) w.heap.size 32 (by rfl) two HL2.out (by have h:=HR2.out; rw [Lib.byteCells_length,HL1.out] at h; exact h) ?_) | (refine wpList_buildTwo (by rfl) (.tmp 39) (.tmp 41) (by rfl) (by rfl) (by rfl) HL1.out HL2.out ?_) | (refine wpList_stTwo (by rfl) (.tmp 7) (.tmp 42) (by rfl) (by rfl) (by rfl) HL1.out HL2.out (by rfl) ?_))
  have hb7:=below_one w3 (.cells (byteCells one ++ byteCells two).toArray 32 (0,0))
  have HX7:=hid (heap_one w3 (.cells (byteCells one ++ byteCells two).toArray 32 (0,0)))
  have HX5:=hid (below_heap hb7 HX5.out)
  have HX6:=hid (below_heap hb7 HX6.out)
  have HB4:=hid (HLA.out _ _ HB3.out hb7)
  have HSZ3:=hid HB3.out.size
  generalize w3.alloc (.cells (byteCells one ++ byteCells two).toArray 32) = w4 at *
  generalize w3.heap.size = b7 at *
  clear hb7 HR1 HR2
  go_wp2_with fail
  go_loopw [8] (fun iv wr=>LR w b5 b6 b7 one two h iv wr) (fun iv _=>2 - (intOf iv).toNat)
  case atStart=>exact .inl ⟨rfl,HX5.out,HX6.out,HX7.out,HB4.out⟩
  case round=>
   rename World=>wr
   rcases hrel with ⟨rfl,g⟩ | ⟨rfl,k0,d0,l0,hk0,hd0,g⟩ | ⟨rfl,k0,k1,d0,d1,l0,l1,hk0,hd0,g⟩
   ·have HG:=hid g
    clear g
    go_upto_region 12 with (first | (refine wpList_hashLoad (by rfl) (.tmp 49) (by rfl) b7 0 (by rfl) one HL1.out (range_app2 (row_range HG.out.a7)).1 ?_) | (go_at_call 8; refine (keyNew_any S one h HL1.out (by have:=H2.out; omega) _ (HF.out _ HG.out.bel)).mono ?_; rintro e wk ⟨kb,lv,rfl,hkb,hk,hbk⟩; have HKF:=hid (show KeyF wk kb one h 0 from ⟨by have:=H2.out; omega,lv,hk⟩); have HGK:=hid (HG.out.below hbk); clear hk))
    go_upto_region 13 with (first | (refine wpList_hashLoad (by rfl) (.tmp 57) (by rfl) b7 0 (by rfl) one HL1.out (range_app2 (row_range HGK.out.a7)).1 ?_) | (go_at_call 9; refine (r23New_any one h HL1.out (by have:=H2.out; omega) _).mono ?_; rintro e wd ⟨rb,rl,rfl,hrb,hrk,hbd⟩; have HGD:=hid (HGK.out.below hbd); have HKD:=hid (HKF.out.below hbd); have HRD:=hid hrk; clear hrk))
    have hbf:=below_one wd (.cells #[.int .i64 0,.int .i64 0] 38)
    have hff:=fW_row wd
    have HGF:=hid (HGD.out.below hbf)
    have HKD:=hid (HKD.out.below hbf)
    have HRD:=hid (HRD.out.below hbf)
    have hff:faultRow (wd.alloc (.cells #[.int .i64 0,.int .i64 0] 38)) wd.heap.size 0 0:=hff
    generalize wd.alloc (.cells #[.int .i64 0,.int .i64 0] 38) = wf at *
    generalize wd.heap.size = fb at *
    clear hbf hbk hbd
    obtain ⟨d0,d1,f0,f1⟩:=faultRow.cells hff
    go_upto_region 15 with fail
    clear d0 d1 f0 f1 hff
    have c5:=cell_of HGF.out.a5 0 rfl
    have c6:=cell_of HGF.out.a6 0 rfl
    have e5:=frozen_row HGF.out.a5 0
    have e6:=frozen_row HGF.out.a6 0
    have hne:=row_ne HGF.out.a5 HGF.out.a6 ka_ne_ra
    have hne2:=hne.symm
    go_wp2_with fail
    exact ⟨.inr (.inl ⟨rfl,kb,rb,rl,by have:=HG.out.bel.size; omega,by have:=HGK.out.bel.size; omega,HGF.out.next HKD.out HRD.out HSZ1.out HSZ2.out⟩),by simp [intOf]⟩
   ·have HK0:=hid hk0
    have HD0:=hid hd0
    clear hk0 hd0
    have HG:=hid g
    clear g
    go_upto_region 12 with (first | (refine wpList_hashLoad (by rfl) (.tmp 49) (by rfl) b7 32 (by rfl) two HL2.out (by have h:=(range_app2 (row_range HG.out.a7)).2; rw [Lib.byteCells_length,HL1.out] at h; exact h) ?_) | (go_at_call 8; refine (keyNew_any S two h HL2.out (by have:=H2.out; omega) _ (HF.out _ HG.out.bel)).mono ?_; rintro e wk ⟨kb,lv,rfl,hkb,hk,hbk⟩; have HKF:=hid (show KeyF wk kb two h 0 from ⟨by have:=H2.out; omega,lv,hk⟩); have HGK:=hid (HG.out.below hbk); clear hk))
    go_upto_region 13 with (first | (refine wpList_hashLoad (by rfl) (.tmp 57) (by rfl) b7 32 (by rfl) two HL2.out (by have h:=(range_app2 (row_range HGK.out.a7)).2; rw [Lib.byteCells_length,HL1.out] at h; exact h) ?_) | (go_at_call 9; refine (r23New_any two h HL2.out (by have:=H2.out; omega) _).mono ?_; rintro e wd ⟨rb,rl,rfl,hrb,hrk,hbd⟩; have HGD:=hid (HGK.out.below hbd); have HKD:=hid (HKF.out.below hbd); have HRD:=hid hrk; clear hrk))
    have hbf:=below_one wd (.cells #[.int .i64 0,.int .i64 0] 38)
    have hff:=fW_row wd
    have HGF:=hid (HGD.out.below hbf)
    have HKD:=hid (HKD.out.below hbf)
    have HRD:=hid (HRD.out.below hbf)
    have hff:faultRow (wd.alloc (.cells #[.int .i64 0,.int .i64 0] 38)) wd.heap.size 0 0:=hff
    generalize wd.alloc (.cells #[.int .i64 0,.int .i64 0] 38) = wf at *
    generalize wd.heap.size = fb at *
    clear hbf hbk hbd
    obtain ⟨d0,d1,f0,f1⟩:=faultRow.cells hff
    go_upto_region 15 with fail
    clear d0 d1 f0 f1 hff
    have c5:=cell_of HGF.out.a5 1 rfl
    have c6:=cell_of HGF.out.a6 1 rfl
    have e5:=frozen_row HGF.out.a5 1
    have e6:=frozen_row HGF.out.a6 1
    have hne:=row_ne HGF.out.a5 HGF.out.a6 ka_ne_ra
    have hne2:=hne.symm
    go_wp2_with fail
    exact ⟨.inr (.inr ⟨rfl,k0,kb,d0,rb,l0,rl,HK0.out,HD0.out,HGF.out.next HKD.out HRD.out (by have:=HG.out.kf0.lt; omega) (by have:=HGK.out.r0.lt; omega) HSZ1.out HSZ2.out⟩),by simp [intOf]⟩
   ·have HG:=hid g
    have HK0:=hid hk0
    have HD0:=hid hd0
    clear g hk0 hd0
    go_upto_region 18 with fail
    have hbz:=below_one wr (.cells #[.int .u8 0,.int .u8 0,.int .u8 0,.int .u8 0,.int .u8 0,.int .u8 0,.int .u8 0,.int .u8 0,.int .u8 0,.int .u8 0,.int .u8 0,.int .u8 0,.int .u8 0,.int .u8 0,.int .u8 0,.int .u8 0,.int .u8 0,.int .u8 0,.int .u8 0,.int .u8 0,.int .u8 0,.int .u8 0,.int .u8 0,.int .u8 0,.int .u8 0,.int .u8 0,.int .u8 0,.int .u8 0,.int .u8 0,.int .u8 0,.int .u8 0,.int .u8 0,.slice none 0 0,.slice none 0 0,.slice none 0 0,.slice none 0 0,.slice none 0 0,.slice none 0 0,.slice none 0 0,.int .i64 0,.int .i64 0,.bool false] 44)
    have hrz:=heap_one wr (.cells #[.int .u8 0,.int .u8 0,.int .u8 0,.int .u8 0,.int .u8 0,.int .u8 0,.int .u8 0,.int .u8 0,.int .u8 0,.int .u8 0,.int .u8 0,.int .u8 0,.int .u8 0,.int .u8 0,.int .u8 0,.int .u8 0,.int .u8 0,.int .u8 0,.int .u8 0,.int .u8 0,.int .u8 0,.int .u8 0,.int .u8 0,.int .u8 0,.int .u8 0,.int .u8 0,.int .u8 0,.int .u8 0,.int .u8 0,.int .u8 0,.int .u8 0,.int .u8 0,.slice none 0 0,.slice none 0 0,.slice none 0 0,.slice none 0 0,.slice none 0 0,.slice none 0 0,.slice none 0 0,.int .i64 0,.int .i64 0,.bool false] 44)
    have HGZ:=hid (HG.out.below hbz)
    have HZ:=hid (show ∃ cs,(wr.alloc (.cells #[.int .u8 0,.int .u8 0,.int .u8 0,.int .u8 0,.int .u8 0,.int .u8 0,.int .u8 0,.int .u8 0,.int .u8 0,.int .u8 0,.int .u8 0,.int .u8 0,.int .u8 0,.int .u8 0,.int .u8 0,.int .u8 0,.int .u8 0,.int .u8 0,.int .u8 0,.int .u8 0,.int .u8 0,.int .u8 0,.int .u8 0,.int .u8 0,.int .u8 0,.int .u8 0,.int .u8 0,.int .u8 0,.int .u8 0,.int .u8 0,.int .u8 0,.int .u8 0,.slice none 0 0,.slice none 0 0,.slice none 0 0,.slice none 0 0,.slice none 0 0,.slice none 0 0,.slice none 0 0,.int .i64 0,.int .i64 0,.bool false] 44)).heap[wr.heap.size]? = some (.cells cs 44 (0,0))∧cs[41]? = some (.bool false) from ⟨_,hrz,rfl⟩)
    clear hbz hrz
    generalize wr.alloc (.cells #[.int .u8 0,.int .u8 0,.int .u8 0,.int .u8 0,.int .u8 0,.int .u8 0,.int .u8 0,.int .u8 0,.int .u8 0,.int .u8 0,.int .u8 0,.int .u8 0,.int .u8 0,.int .u8 0,.int .u8 0,.int .u8 0,.int .u8 0,.int .u8 0,.int .u8 0,.int .u8 0,.int .u8 0,.int .u8 0,.int .u8 0,.int .u8 0,.int .u8 0,.int .u8 0,.int .u8 0,.int .u8 0,.int .u8 0,.int .u8 0,.int .u8 0,.int .u8 0,.slice none 0 0,.slice none 0 0,.slice none 0 0,.slice none 0 0,.slice none 0 0,.slice none 0 0,.slice none 0 0,.int .i64 0,.int .i64 0,.bool false] 44) = wz at *
    generalize wr.heap.size = zb at *
    obtain ⟨B,hB⟩:∃ B:Lie,B = ⟨b5,b6,k0,k1,d0,d1,zb,l0,l1⟩:=⟨_,rfl⟩
    have HSG:=hid (show SG w B one two h 0 0 0 0 wz by
     subst hB
     have g:=HGZ.out
     have:=g.kk
     have:=g.dd
     exact ⟨g.a5,g.a6,g.kf0,g.kf1,g.r0,g.r1,HZ.out,g.kk,g.dd,HK0.out,by have:=HK0.out; show w.heap.size ≤ k1; omega,HD0.out,by have:=HD0.out; show w.heap.size ≤ d1; omega,g.bel⟩)
    have HBE:=hid hB
    clear hB
    go_wp2_with fail
    go_loopw [14,15] (fun lv iv wr=>SgR w B one two h OL lv iv wr) (fun _ iv _=>OL.length - (intOf iv).toNat)
    case atStart=>exact ⟨0,[],0,0,rfl,Nat.zero_le _,rfl,Nat.zero_le _,Nat.zero_le _,Nat.zero_le _,HSG.out⟩
    case round=>
     obtain ⟨i,last,n0,n1,rfl,hi,rfl,hll,hn0,hn1,hg⟩:=hrel
     rename World=>wr
     have HG:=hid hg
     have HLL:=hid hll
     have HN0:=hid hn0
     have HN1:=hid hn1
     have hBE:=HBE.out
     clear hg hll hn0 hn1 HBE HSG HZ HGZ
     subst hBE
     have i0:(0:Int) ≤ (i:Int):=by omega
     have lol:(OL.length:Int) ≤ 140737488351232:=by omega
     by_cases hlt:i < OL.length
     ·have i1:(i:Int) < (OL.length:Int):=by omega
      by_cases h12:i < 12
      ·have i2:(i:Int) < 12:=by omega
       obtain ⟨x,hx⟩:∃ x,OL[i]? = some x:=⟨_,List.getElem?_eq_getElem hlt⟩
       obtain ⟨g,o,hao,hr⟩:=HOR.out (fun e=>by rw [e] at hlt; simp at hlt)
       subst hao
       have hxo:=HOK.out x (List.mem_of_getElem? hx)
       obtain ⟨nt,nm,ag,wh⟩:=x
       obtain ⟨q1,q2,q3⟩:=hxo
       have HQ1:=hid (show nt.length ≤ 140737488351232 from q1)
       have HQ2:=hid (show nm.length ≤ 140737488351232 from q2)
       have hc:=hr i _ hx
       have c0:=below_cell HG.out.bel (hc 0 _ rfl)
       have c1:=below_cell HG.out.bel (hc 1 _ rfl)
       have c2:=below_cell HG.out.bel (hc 2 _ rfl)
       have c3:=below_cell HG.out.bel (hc 3 _ rfl)
       rw [Nat.add_zero] at c0
       have HLT:=hid hlt
       have HI1:=hid (fun (W:World) (hW:Below w.heap.size w W)=>(by
        have h2:=is_any S W (errV S 1) 1 none 1 (HF.out W hW).base (.inr (.inl ⟨by decide,by decide,rfl,rfl⟩))
        rwa [show isB 1 none 1 = true by decide] at h2:Calls Tryz.prog 11 #[errV S 1,.int .i64 1] W fun e w'=>e = .returned (.bool true)∧Below W.heap.size W w'))
       simp only [errV] at HI1
       have hwh:-3 ≤ wh.tmod 4∧wh.tmod 4 ≤ 3:=by
        rcases Int.le_total 0 wh with h0 | h0
        ·rw [Int.tmod_eq_emod_of_nonneg h0]; omega
        ·have e:wh = -(-wh):=by omega
         rw [e,Int.neg_tmod,Int.tmod_eq_emod_of_nonneg (by omega)]; omega
       obtain ⟨r,hrw⟩:∃ r,wh.tmod 4 = r:=⟨_,rfl⟩
       rw [hrw] at hwh
       obtain ⟨r1,r2⟩:=hwh
       have w1q:IntKind.i64.wrap r = r:=by rw [IntKind.wrap_i64]; omega
       have w2q:IntKind.i64.wrap (r + 4) = r + 4:=by rw [IntKind.wrap_i64]; omega
       have hq:(r + 4).tmod 4 = 0 ∨ (r + 4).tmod 4 = 1 ∨ (r + 4).tmod 4 = 2 ∨ (r + 4).tmod 4 = 3:=by
        rw [Int.tmod_eq_emod_of_nonneg (by omega)]
        omega
       clear hr hx hc q1 q2 q3 hlt h12 hi
       go_upto_region 23 with fail
       have hb8:=below_one wr (.cells #[.string ⟨nt.toArray⟩,.string ⟨nm.toArray⟩,.bool ag,.int .i64 wh] 46 (0,0))
       have HC8:=hid (heap_one wr (.cells #[.string ⟨nt.toArray⟩,.string ⟨nm.toArray⟩,.bool ag,.int .i64 wh] 46 (0,0)))
       have HG:=hid (HG.out.below hb8)
       generalize wr.alloc (.cells #[.string ⟨nt.toArray⟩,.string ⟨nm.toArray⟩,.bool ag,.int .i64 wh] 46) = w8 at *
       generalize wr.heap.size = xb at *
       clear c0 c1 c2 c3 hb8
       have c0:=cell_of HC8.out 0 rfl
       have c1:=cell_of HC8.out 1 rfl
       have c2:=cell_of HC8.out 2 rfl
       have c3:=cell_of HC8.out 3 rfl
       go_upto_if 99 with fail
       go_cut [17] (fun s17 wx=>∃ SN:List UInt8,s17 = .string ⟨SN.toArray⟩∧SN.length ≤ 140737488351232∧w8 = wx)
       case first=>
        cases ag with
        | false=>
         go_wp2_with fail
         go_meet
         exact ⟨nt,rfl,HQ1.out,rfl⟩
        | true=>
         go_wp2_with fail
         go_meet
         exact ⟨last,rfl,by have:=HLL.out; omega,rfl⟩
       case rest=>
        obtain ⟨SN,rfl,hsn,hw⟩:=hcut
        subst hw
        have HSNL:=hid hsn
        obtain ⟨q,hqq⟩:∃ q,(r + 4).tmod 4 = q:=⟨_,rfl⟩
        rw [hqq] at hq
        have HQ4:=hid hq
        have HQQ:=hid hqq
        have HRW:=hid hrw
        clear hsn hq hqq hrw HOK HOR
        go_upto_region 27 with (first | (refine wpList_rem (by rfl) (.tmp 102) (.const (.int .i64 4)) (by rfl) (by rfl) (by rfl) HRW.out ?_) | (refine wpList_rem (by rfl) (.tmp 104) (.const (.int .i64 4)) (by rfl) (by rfl) (by rfl) HQQ.out ?_))
        clear r1 r2 w1q w2q HQQ HRW
        rcases HQ4.out with rfl | rfl | rfl | rfl
        ·have HKG:=hid HK0.out
         have HDG:=hid HD0.out
         obtain ⟨C,hC⟩:∃ C,sgCode h n0 SN nm = C:=⟨_,rfl⟩
         obtain ⟨O,hO⟩:∃ O,(if C = 0 then sgOut one h n0 SN nm else []) = O:=⟨_,rfl⟩
         obtain ⟨N2,hN2⟩:∃ N2,(if C = 0 then n0 + 1 else n0) = N2:=⟨_,rfl⟩
         have HNS:=hid (fun (W:World) (bel:Below w.heap.size w W) (kf:KeyF W k0 one h n0)=>(by
          have h:=nsign_any S k0 one h n0 HN0.out SN nm (by have:=HSNL.out; omega) (by have:=HQ2.out; omega) w W HFW.out bel HKG.out kf
          unfold SgPost at h
          rw [hC,hO,hN2] at h
          exact h:Calls Tryz.prog 10 #[.string ⟨SN.toArray⟩,.string ⟨nm.toArray⟩,.pointer (some ⟨k0,0,none⟩)] W fun e w'=>∃ ev,e = .returned (.tuple #[.string ⟨O.toArray⟩,ev])∧ErrAt S w' ev C none∧KeyF w' k0 one h N2∧But [k0] W w'∧Below w.heap.size w w'))
         have HRS:=hid (fun (W:World) (bel:Below w.heap.size w W) (rk:RK W d0 one h n0 (2 ^ h) l0)=>(by
          have h:=r24Sign_any d0 one h n0 HN0.out (by have:=H2.out; omega) l0 SN nm (by have:=HSNL.out; omega) w W bel HDG.out rk
          unfold RSgPost at h
          rw [hC,hO,hN2] at h
          exact h:Calls Tryz.prog 12 #[.string ⟨SN.toArray⟩,.string ⟨nm.toArray⟩,.pointer (some ⟨d0,0,none⟩)] W fun e w'=>e = .returned (.tuple #[.string ⟨O.toArray⟩,.agg #[.int .i64 (C:Int),.int .i64 (fz C none)]])∧RK w' d0 one h N2 (2 ^ h) l0∧But [d0] W w'∧Below w.heap.size w w'))
         have hn2l:N2 ≤ 2 ^ h:=by
          rw [← hN2]
          split
          ·rename_i h0
           have:=sg_lt (hC.trans h0) HN0.out
           omega
          ·exact HN0.out
         have HN2L:=hid hn2l
         have HOL:=hid (show C = 0→O.length ≤ 4194304 from fun h0=>by
          rw [← hO,if_pos h0]
          exact sg_out_len (by have:=H2.out; omega) (hC.trans h0))
         have HSC:=hid (same_code C)
         obtain ⟨z,hz⟩:∃ z,fz C none = z:=⟨_,rfl⟩
         rw [hz] at HSC HRS
         obtain ⟨lv,hlv⟩:∃ lv:Int,((2 ^ h - N2:Nat):Int) = lv:=⟨_,rfl⟩
         have HKL:=hid (fun (W:World) (kf:KeyF W k0 one h N2)=>(by
          have h:=keyLeft_any k0 one h N2 hn2l W kf
          rw [hlv] at h
          exact h:Calls Tryz.prog 14 #[.pointer (some ⟨k0,0,none⟩)] W fun e w'=>e = .returned (.int .i64 lv)∧Below W.heap.size W w'))
         have HRL:=hid (fun (W:World) (rk:RK W d0 one h N2 (2 ^ h) l0)=>(by
          have h:=r23Left_any d0 one h N2 l0 hn2l (by have:=H2.out; omega) W rk
          rw [hlv] at h
          exact h:Calls Tryz.prog 15 #[.pointer (some ⟨d0,0,none⟩)] W fun e w'=>e = .returned (.int .i64 lv)∧Below W.heap.size W w'))
         clear hC hO hN2 hz hlv hn2l c0 c2 c3
         go_wp2_with fail
         have hdr:=Below.drew (Below.refl w8.heap.size w8)
         have HGA:=hid (HG.out.below hdr)
         have HCA:=hid (below_heap hdr HC8.out)
         refine wp_region_till 6 (SinceR w8.drew fun _=>True) (by kernel_rfl) ⟨fun _=>Below.refl _ _,trivial⟩ (fun hHeld=>?_)
         generalize w8.drew = wA at *
         clear hdr c1
         refine wT (i:=0) (v:=.string ⟨SN.toArray⟩) rfl (Or.inl ⟨by rfl,fun w _=>?_⟩) hHeld ?_
         ·go_simp
         simp only [List.getElem_toArray,List.getElem_cons_zero,Act.put,List.setIfInBounds_toArray,List.set_cons_zero,List.set_cons_succ]
         refine wT (i:=1) (v:=.pointer (some ⟨xb,1,none⟩)) rfl (Or.inl ⟨by rfl,fun w _=>?_⟩) hHeld ?_
         ·go_simp
         simp only [List.getElem_toArray,List.getElem_cons_succ,List.getElem_cons_zero,Act.put,List.setIfInBounds_toArray,List.set_cons_zero,List.set_cons_succ]
         refine wF (i:=2) (v:=.string ⟨nm.toArray⟩) rfl (Or.inl ⟨by rfl,fun w hSw=>?_⟩) hHeld ?_
         ·have c:=below_cell (hSw.1 rfl) (cell_of HCA.out 1 rfl)
          go_simp
         simp only [List.getElem_toArray,List.getElem_cons_succ,List.getElem_cons_zero,Act.put,List.setIfInBounds_toArray,List.set_cons_zero,List.set_cons_succ]
         refine wT (i:=3) (v:=.int .i64 0) rfl (Or.inl ⟨by rfl,fun w _=>?_⟩) hHeld ?_
         ·go_simp
         simp only [List.getElem_toArray,List.getElem_cons_succ,List.getElem_cons_zero,Act.put,List.setIfInBounds_toArray,List.set_cons_zero,List.set_cons_succ]
         refine wT (i:=4) (v:=.pointer (some ⟨b5,0,none⟩)) rfl (Or.inl ⟨by rfl,fun w _=>?_⟩) hHeld ?_
         ·go_simp
         simp only [List.getElem_toArray,List.getElem_cons_succ,List.getElem_cons_zero,Act.put,List.setIfInBounds_toArray,List.set_cons_zero,List.set_cons_succ]
         refine wF (i:=5) (v:=.pointer (some ⟨k0,0,none⟩)) rfl (Or.inl ⟨by rfl,fun w hSw=>?_⟩) hHeld ?_
         ·have c:w.cell? ⟨b5,0,none⟩ = some (.pointer (some ⟨k0,0,none⟩)):=below_cell (hSw.1 rfl) (cell_of HGA.out.a5 0 rfl)
          go_simp
         simp only [List.getElem_toArray,List.getElem_cons_succ,List.getElem_cons_zero,Act.put,List.setIfInBounds_toArray,List.set_cons_zero,List.set_cons_succ]
         refine wpAnyT_ready (rs:=[6]) (by kernel_rfl) (by simp) ?_
         refine AllReadyT.cons true rfl (by kernel_rfl) (fun K hK=>?_) AllReadyT.nil
         go_simp
         have HGW:=hid (HGA.out.below (hHeld.1 rfl))
         have HCW:=hid (below_heap (hHeld.1 rfl) HCA.out)
         refine (HNS.out _ HGW.out.bel HGW.out.kf0).mono ?_
         rintro e wn ⟨ev,rfl,hev,hkn,hbut,hbn⟩
         have HEV:=hid hev
         have HCN:=hid (hbut.heap HCW.out (by rw [List.mem_singleton]; obtain ⟨c,hr⟩:=HGW.out.kf0.row; exact row_ne HCW.out hr op_ne_key))
         have HGN:=hid (HGW.out.key0 hbut hkn hbn)
         clear hev hkn hbut hbn
         go_wp2_with fail
         refine hK.out _ _ ⟨fun h=>(by cases h),trivial⟩ (fun hHeld=>?_)
         clear hK K
         refine wT (i:=7) (v:=.tuple #[.string ⟨O.toArray⟩,ev]) rfl (Or.inl ⟨by rfl,fun w _=>?_⟩) hHeld ?_
         ·go_simp
         simp only [List.getElem_toArray,List.getElem_cons_succ,List.getElem_cons_zero,Act.put,List.setIfInBounds_toArray,List.set_cons_zero,List.set_cons_succ]
         refine wT (i:=8) (v:=.string ⟨O.toArray⟩) rfl (Or.inl ⟨by rfl,fun w _=>?_⟩) hHeld ?_
         ·go_simp
         simp only [List.getElem_toArray,List.getElem_cons_succ,List.getElem_cons_zero,Act.put,List.setIfInBounds_toArray,List.set_cons_zero,List.set_cons_succ]
         refine wT (i:=9) (v:=ev) rfl (Or.inl ⟨by rfl,fun w _=>?_⟩) hHeld ?_
         ·go_simp
         simp only [List.getElem_toArray,List.getElem_cons_succ,List.getElem_cons_zero,Act.put,List.setIfInBounds_toArray,List.set_cons_zero,List.set_cons_succ]
         refine wT (i:=10) (v:=.string ⟨O.toArray⟩) rfl (Or.inl ⟨by rfl,fun w _=>?_⟩) hHeld ?_
         ·go_simp
         simp only [List.getElem_toArray,List.getElem_cons_succ,List.getElem_cons_zero,Act.put,List.setIfInBounds_toArray,List.set_cons_zero,List.set_cons_succ]
         refine wT (i:=11) (v:=ev) rfl (Or.inl ⟨by rfl,fun w _=>?_⟩) hHeld ?_
         ·go_simp
         simp only [List.getElem_toArray,List.getElem_cons_succ,List.getElem_cons_zero,Act.put,List.setIfInBounds_toArray,List.set_cons_zero,List.set_cons_succ]
         refine wpAnyT_done (by kernel_rfl) ?_ _
         clear hHeld HGA HCA HGW HCW HNS
         go_upto_region 36 with fail
         go_cut [25,26] (fun s25 s26 wx=>s25 = .string ⟨O.toArray⟩∧SgT w ⟨b5,b6,k0,k1,d0,d1,zb,l0,l1⟩ one two h N2 n1 C z s26 wx)
         case first=>
          go_wp2_with fail
          have hdr:=Below.drew (Below.refl wn.heap.size wn)
          have HGB:=hid (HGN.out.below hdr)
          have HCB:=hid (below_heap hdr HCN.out)
          refine wp_region_till 6 (SinceR wn.drew fun _=>True) (by kernel_rfl) ⟨fun _=>Below.refl _ _,trivial⟩ (fun hHeld=>?_)
          generalize wn.drew = wB at *
          clear hdr
          refine wT (i:=0) (v:=.string ⟨SN.toArray⟩) rfl (Or.inl ⟨by rfl,fun w _=>?_⟩) hHeld ?_
          ·go_simp
          simp only [List.getElem_toArray,List.getElem_cons_zero,Act.put,List.setIfInBounds_toArray,List.set_cons_zero,List.set_cons_succ]
          refine wT (i:=1) (v:=.pointer (some ⟨xb,1,none⟩)) rfl (Or.inl ⟨by rfl,fun w _=>?_⟩) hHeld ?_
          ·go_simp
          simp only [List.getElem_toArray,List.getElem_cons_succ,List.getElem_cons_zero,Act.put,List.setIfInBounds_toArray,List.set_cons_zero,List.set_cons_succ]
          refine wF (i:=2) (v:=.string ⟨nm.toArray⟩) rfl (Or.inl ⟨by rfl,fun w hSw=>?_⟩) hHeld ?_
          ·have c:=below_cell (hSw.1 rfl) (cell_of HCB.out 1 rfl)
           go_simp
          simp only [List.getElem_toArray,List.getElem_cons_succ,List.getElem_cons_zero,Act.put,List.setIfInBounds_toArray,List.set_cons_zero,List.set_cons_succ]
          refine wT (i:=3) (v:=.int .i64 0) rfl (Or.inl ⟨by rfl,fun w _=>?_⟩) hHeld ?_
          ·go_simp
          simp only [List.getElem_toArray,List.getElem_cons_succ,List.getElem_cons_zero,Act.put,List.setIfInBounds_toArray,List.set_cons_zero,List.set_cons_succ]
          refine wT (i:=4) (v:=.pointer (some ⟨b6,0,none⟩)) rfl (Or.inl ⟨by rfl,fun w _=>?_⟩) hHeld ?_
          ·go_simp
          simp only [List.getElem_toArray,List.getElem_cons_succ,List.getElem_cons_zero,Act.put,List.setIfInBounds_toArray,List.set_cons_zero,List.set_cons_succ]
          refine wF (i:=5) (v:=.pointer (some ⟨d0,0,none⟩)) rfl (Or.inl ⟨by rfl,fun w hSw=>?_⟩) hHeld ?_
          ·have c:w.cell? ⟨b6,0,none⟩ = some (.pointer (some ⟨d0,0,none⟩)):=below_cell (hSw.1 rfl) (cell_of HGB.out.a6 0 rfl)
           go_simp
          simp only [List.getElem_toArray,List.getElem_cons_succ,List.getElem_cons_zero,Act.put,List.setIfInBounds_toArray,List.set_cons_zero,List.set_cons_succ]
          refine wpAnyT_ready (rs:=[6,10]) (by kernel_rfl) (by simp) ?_
          refine AllReadyT.cons true rfl (by kernel_rfl) (fun K hK=>?_) (AllReadyT.cons false rfl (by kernel_rfl) (fun K hK=>?_) (AllReadyT.nil))
          ·go_simp
           refine (HRS.out _ HGB.out.bel HGB.out.r0).mono ?_
           rintro e wo ⟨rfl,hrk,hbut,hbo⟩
           have HGP:=hid (HGB.out.ref0 hbut hrk hbo)
           clear hrk hbut hbo
           go_wp2_with fail
           refine hK.out _ _ ⟨fun h=>(by cases h),trivial⟩ (fun hHeld=>?_)
           clear hK K
           refine wT (i:=7) (v:=.tuple #[.string ⟨O.toArray⟩,.agg #[.int .i64 (C:Int),.int .i64 z]]) rfl (Or.inl ⟨by rfl,fun w _=>?_⟩) hHeld ?_
           ·go_simp
           simp only [List.getElem_toArray,List.getElem_cons_succ,List.getElem_cons_zero,Act.put,List.setIfInBounds_toArray,List.set_cons_zero,List.set_cons_succ]
           refine wT (i:=8) (v:=.string ⟨O.toArray⟩) rfl (Or.inl ⟨by rfl,fun w _=>?_⟩) hHeld ?_
           ·go_simp
           simp only [List.getElem_toArray,List.getElem_cons_succ,List.getElem_cons_zero,Act.put,List.setIfInBounds_toArray,List.set_cons_zero,List.set_cons_succ]
           refine wT (i:=9) (v:=.agg #[.int .i64 (C:Int),.int .i64 z]) rfl (Or.inl ⟨by rfl,fun w _=>?_⟩) hHeld ?_
           ·go_simp
           simp only [List.getElem_toArray,List.getElem_cons_succ,List.getElem_cons_zero,Act.put,List.setIfInBounds_toArray,List.set_cons_zero,List.set_cons_succ]
           refine wpAnyT_ready (rs:=[10]) (by kernel_rfl) (by simp) ?_
           refine AllReadyT.cons true rfl (by kernel_rfl) (fun K hK=>?_) AllReadyT.nil
           go_simp
           have hba:=below_one wo (.cells #[.int .i64 0,.int .i64 0] 38)
           have HFP:=hid (show faultRow (wo.alloc (.cells #[.int .i64 0,.int .i64 0] 38)) wo.heap.size 0 0 from fW_row wo)
           have HGP2:=hid (HGP.out.below hba)
           have HLE:=hid (show w.heap.size ≤ wo.heap.size from HGP.out.bel.size)
           refine hK.out _ _ ⟨fun h=>(by cases h),trivial⟩ (fun hHeld=>?_)
           clear hba
           generalize wo.alloc (.cells #[.int .i64 0,.int .i64 0] 38) = wp at *
           generalize wo.heap.size = fb at *
           have HGP:=hid HGP2.out
           clear hK K
           refine wT (i:=11) (v:=.string ⟨O.toArray⟩) rfl (Or.inl ⟨by rfl,fun w _=>?_⟩) hHeld ?_
           ·go_simp
           simp only [List.getElem_toArray,List.getElem_cons_succ,List.getElem_cons_zero,Act.put,List.setIfInBounds_toArray,List.set_cons_zero,List.set_cons_succ]
           refine wpAnyT_ready (rs:=[12]) (by kernel_rfl) (by simp) ?_
           refine AllReadyT.cons true rfl (by kernel_rfl) (fun K hK=>?_) AllReadyT.nil
           refine wp_store_mid 38 (.tmp 26) (.tmp 158) (by rfl) fb 0 #[.int .i64 (C:Int),.int .i64 z] (by rfl) (by rfl) (there_row HFP.out (Nat.le_refl _)) faultInfo (by rw [List.all_toArray]; rfl) ?_
           have hfs:=fault_setBut HFP.out (C:Int) z
           have HFS:=hid hfs.1
           have HGS:=hid (HGP.out.fault HFP.out hfs.2 (below_setCellsN HLE.out _ _ _ HGP.out.bel))
           clear hfs
           refine hK.out _ _ ⟨fun h=>(by cases h),trivial⟩ (fun hHeld=>?_)
           clear hK K
           refine wpAnyT_done (by kernel_rfl) ?_ _
           go_wp2_with fail
           go_meet
           exact ⟨rfl,fb,rfl,HFS.out,HGS.out⟩
          ·go_simp
           have hba:=below_one wB (.cells #[.int .i64 0,.int .i64 0] 38)
           have HFP:=hid (show faultRow (wB.alloc (.cells #[.int .i64 0,.int .i64 0] 38)) wB.heap.size 0 0 from fW_row wB)
           have HGP2:=hid (HGB.out.below hba)
           have HLE:=hid (show w.heap.size ≤ wB.heap.size from HGB.out.bel.size)
           refine hK.out _ _ ⟨fun _=>hba,trivial⟩ (fun hHeld=>?_)
           clear hba
           generalize wB.alloc (.cells #[.int .i64 0,.int .i64 0] 38) = wp at *
           generalize wB.heap.size = fb at *
           have HGP:=hid HGP2.out
           clear hK K
           refine wpAnyT_ready (rs:=[6]) (by kernel_rfl) (by simp) ?_
           refine AllReadyT.cons true rfl (by kernel_rfl) (fun K hK=>?_) AllReadyT.nil
           go_simp
           refine (HRS.out _ HGP.out.bel HGP.out.r0).mono ?_
           rintro e wo ⟨rfl,hrk,hbut,hbo⟩
           have HFP:=hid (show faultRow wo fb 0 0 from hbut.heap HFP.out (by rw [List.mem_singleton]; exact (row_ne HGP.out.r0.row HFP.out rk_ne_ft).symm))
           have HGP:=hid (HGP.out.ref0 hbut hrk hbo)
           clear hrk hbut hbo
           go_wp2_with fail
           refine hK.out _ _ ⟨fun h=>(by cases h),trivial⟩ (fun hHeld=>?_)
           clear hK K
           refine wT (i:=7) (v:=.tuple #[.string ⟨O.toArray⟩,.agg #[.int .i64 (C:Int),.int .i64 z]]) rfl (Or.inl ⟨by rfl,fun w _=>?_⟩) hHeld ?_
           ·go_simp
           simp only [List.getElem_toArray,List.getElem_cons_succ,List.getElem_cons_zero,Act.put,List.setIfInBounds_toArray,List.set_cons_zero,List.set_cons_succ]
           refine wT (i:=8) (v:=.string ⟨O.toArray⟩) rfl (Or.inl ⟨by rfl,fun w _=>?_⟩) hHeld ?_
           ·go_simp
           simp only [List.getElem_toArray,List.getElem_cons_succ,List.getElem_cons_zero,Act.put,List.setIfInBounds_toArray,List.set_cons_zero,List.set_cons_succ]
           refine wT (i:=9) (v:=.agg #[.int .i64 (C:Int),.int .i64 z]) rfl (Or.inl ⟨by rfl,fun w _=>?_⟩) hHeld ?_
           ·go_simp
           simp only [List.getElem_toArray,List.getElem_cons_succ,List.getElem_cons_zero,Act.put,List.setIfInBounds_toArray,List.set_cons_zero,List.set_cons_succ]
           refine wT (i:=11) (v:=.string ⟨O.toArray⟩) rfl (Or.inl ⟨by rfl,fun w _=>?_⟩) hHeld ?_
           ·go_simp
           simp only [List.getElem_toArray,List.getElem_cons_succ,List.getElem_cons_zero,Act.put,List.setIfInBounds_toArray,List.set_cons_zero,List.set_cons_succ]
           refine wpAnyT_ready (rs:=[12]) (by kernel_rfl) (by simp) ?_
           refine AllReadyT.cons true rfl (by kernel_rfl) (fun K hK=>?_) AllReadyT.nil
           refine wp_store_mid 38 (.tmp 26) (.tmp 158) (by rfl) fb 0 #[.int .i64 (C:Int),.int .i64 z] (by rfl) (by rfl) (there_row HFP.out (Nat.le_refl _)) faultInfo (by rw [List.all_toArray]; rfl) ?_
           have hfs:=fault_setBut HFP.out (C:Int) z
           have HFS:=hid hfs.1
           have HGS:=hid (HGP.out.fault HFP.out hfs.2 (below_setCellsN HLE.out _ _ _ HGP.out.bel))
           clear hfs
           refine hK.out _ _ ⟨fun h=>(by cases h),trivial⟩ (fun hHeld=>?_)
           clear hK K
           refine wpAnyT_done (by kernel_rfl) ?_ _
           go_wp2_with fail
           go_meet
           exact ⟨rfl,fb,rfl,HFS.out,HGS.out⟩
         case rest=>
          obtain ⟨rfl,fb,rfl,hfr,hg2⟩:=hcut
          rename World=>wx
          have HFX:=hid hfr
          have HGX:=hid hg2
          clear hfr hg2 HRS HGN
          go_wp2_with fail
          have hdr:=Below.drew (Below.refl wx.heap.size wx)
          have HGD:=hid (HGX.out.below hdr)
          have HFD:=hid (HFX.out.below hdr)
          refine wp_region_till 100 (BelK wx.drew) (by kernel_rfl) (Below.refl _ _) (fun hHeld=>?_)
          generalize wx.drew = wD at *
          clear hdr
          refine wT (i:=0) (v:=.string ⟨O.toArray⟩) rfl (Or.inl ⟨by rfl,fun w _=>?_⟩) hHeld ?_
          ·go_simp
          simp only [List.getElem_toArray,List.getElem_cons_zero,Act.put,List.setIfInBounds_toArray,List.set_cons_zero,List.set_cons_succ]
          refine wT (i:=1) (v:=.string ⟨O.toArray⟩) rfl (Or.inl ⟨by rfl,fun w _=>?_⟩) hHeld ?_
          ·go_simp
          simp only [List.getElem_toArray,List.getElem_cons_succ,List.getElem_cons_zero,Act.put,List.setIfInBounds_toArray,List.set_cons_zero,List.set_cons_succ]
          refine wT (i:=2) (v:=.bool false) rfl (Or.inl ⟨by rfl,fun w _=>?_⟩) hHeld ?_
          ·go_simp
          simp only [List.getElem_toArray,List.getElem_cons_succ,List.getElem_cons_zero,Act.put,List.setIfInBounds_toArray,List.set_cons_zero,List.set_cons_succ]
          refine wT (i:=3) (v:=.bool false) rfl (Or.inl ⟨by rfl,fun w _=>?_⟩) hHeld ?_
          ·go_simp
          simp only [List.getElem_toArray,List.getElem_cons_succ,List.getElem_cons_zero,Act.put,List.setIfInBounds_toArray,List.set_cons_zero,List.set_cons_succ]
          refine wT (i:=4) (v:=ev) rfl (Or.inl ⟨by rfl,fun w _=>?_⟩) hHeld ?_
          ·go_simp
          simp only [List.getElem_toArray,List.getElem_cons_succ,List.getElem_cons_zero,Act.put,List.setIfInBounds_toArray,List.set_cons_zero,List.set_cons_succ]
          refine wT (i:=5) (v:=.agg #[.int .i64 (C:Int),.int .i64 z]) rfl (yieldsIf_load_mid (by rfl) 38 (.tmp 26) (by rfl) fb 0 (by rfl) [.int .i64 (C:Int),.int .i64 z] _ (fun W ⟨_,h⟩=>row_range (HFD.out.below (BelK.out h))) Tryz.underlying38 rfl faultInfo) hHeld ?_
          simp only [List.getElem_toArray,List.getElem_cons_succ,List.getElem_cons_zero,Act.put,List.setIfInBounds_toArray,List.set_cons_zero,List.set_cons_succ]
          refine wpAnyT_ready (rs:=[6]) (by kernel_rfl) (by simp) ?_
          refine AllReadyT.cons false rfl (by kernel_rfl) (fun K hK=>?_) AllReadyT.nil
          go_simp
          have HGE:=hid (HGD.out.below (BelK.out hHeld))
          have hsm:=same_any S _ ev C none (C:Int) z (HF.out _ HGE.out.bel).base (errAt_none HEV.out _)
          rw [HSC.out] at hsm
          refine hsm.mono ?_
          clear hsm
          rintro e w6 ⟨rfl,hy⟩
          go_wp2_with fail
          have hy:=(BelK.out hHeld).trans (hy.mono (BelK.out hHeld).size)
          refine hK.out _ _ hy (fun hHeld=>?_)
          clear hy
          clear hK K
          refine wT (i:=7) (v:=.bool false) rfl (Or.inl ⟨by rfl,fun w _=>?_⟩) hHeld ?_
          ·go_simp
          simp only [List.getElem_toArray,List.getElem_cons_succ,List.getElem_cons_zero,Act.put,List.setIfInBounds_toArray,List.set_cons_zero,List.set_cons_succ]
          refine wT (i:=8) (v:=.bool false) rfl (Or.inl ⟨by rfl,fun w _=>?_⟩) hHeld ?_
          ·go_simp
          simp only [List.getElem_toArray,List.getElem_cons_succ,List.getElem_cons_zero,Act.put,List.setIfInBounds_toArray,List.set_cons_zero,List.set_cons_succ]
          refine wT (i:=9) (v:=.bool false) rfl (Or.inl ⟨by rfl,fun w _=>?_⟩) hHeld ?_
          ·go_simp
          simp only [List.getElem_toArray,List.getElem_cons_succ,List.getElem_cons_zero,Act.put,List.setIfInBounds_toArray,List.set_cons_zero,List.set_cons_succ]
          refine wT (i:=10) (v:=.int .i64 0) rfl (Or.inl ⟨by rfl,fun w _=>?_⟩) hHeld ?_
          ·go_simp
          simp only [List.getElem_toArray,List.getElem_cons_succ,List.getElem_cons_zero,Act.put,List.setIfInBounds_toArray,List.set_cons_zero,List.set_cons_succ]
          refine wT (i:=11) (v:=.pointer (some ⟨b5,0,none⟩)) rfl (Or.inl ⟨by rfl,fun w _=>?_⟩) hHeld ?_
          ·go_simp
          simp only [List.getElem_toArray,List.getElem_cons_succ,List.getElem_cons_zero,Act.put,List.setIfInBounds_toArray,List.set_cons_zero,List.set_cons_succ]
          refine wT (i:=12) (v:=.pointer (some ⟨k0,0,none⟩)) rfl (Or.inl ⟨by rfl,fun w hSw=>?_⟩) hHeld ?_
          ·obtain ⟨_,hb⟩:=hSw; have c:w.cell? ⟨b5,0,none⟩ = some (.pointer (some ⟨k0,0,none⟩)):=below_cell (BelK.out hb) (cell_of HGD.out.a5 0 rfl)
           go_simp
          simp only [List.getElem_toArray,List.getElem_cons_succ,List.getElem_cons_zero,Act.put,List.setIfInBounds_toArray,List.set_cons_zero,List.set_cons_succ]
          refine wT (i:=14) (v:=.int .i64 0) rfl (Or.inl ⟨by rfl,fun w _=>?_⟩) hHeld ?_
          ·go_simp
          simp only [List.getElem_toArray,List.getElem_cons_succ,List.getElem_cons_zero,Act.put,List.setIfInBounds_toArray,List.set_cons_zero,List.set_cons_succ]
          refine wT (i:=15) (v:=.pointer (some ⟨b6,0,none⟩)) rfl (Or.inl ⟨by rfl,fun w _=>?_⟩) hHeld ?_
          ·go_simp
          simp only [List.getElem_toArray,List.getElem_cons_succ,List.getElem_cons_zero,Act.put,List.setIfInBounds_toArray,List.set_cons_zero,List.set_cons_succ]
          refine wT (i:=16) (v:=.pointer (some ⟨d0,0,none⟩)) rfl (Or.inl ⟨by rfl,fun w hSw=>?_⟩) hHeld ?_
          ·obtain ⟨_,hb⟩:=hSw; have c:w.cell? ⟨b6,0,none⟩ = some (.pointer (some ⟨d0,0,none⟩)):=below_cell (BelK.out hb) (cell_of HGD.out.a6 0 rfl)
           go_simp
          simp only [List.getElem_toArray,List.getElem_cons_succ,List.getElem_cons_zero,Act.put,List.setIfInBounds_toArray,List.set_cons_zero,List.set_cons_succ]
          refine wpAnyT_ready (rs:=[13]) (by kernel_rfl) (by simp) ?_
          refine AllReadyT.cons false rfl (by kernel_rfl) (fun K hK=>?_) AllReadyT.nil
          go_simp
          have HGE:=hid (HGD.out.below (BelK.out hHeld))
          refine (HKL.out _ HGE.out.kf0).mono ?_
          rintro e w7 ⟨rfl,hy⟩
          go_wp2_with fail
          have hy:=(BelK.out hHeld).trans (hy.mono (BelK.out hHeld).size)
          refine hK.out _ _ hy (fun hHeld=>?_)
          clear hy
          clear hK K
          refine wpAnyT_ready (rs:=[17]) (by kernel_rfl) (by simp) ?_
          refine AllReadyT.cons false rfl (by kernel_rfl) (fun K hK=>?_) AllReadyT.nil
          go_simp
          have HGE:=hid (HGD.out.below (BelK.out hHeld))
          refine (HRL.out _ HGE.out.r0).mono ?_
          rintro e w9 ⟨rfl,hy⟩
          go_wp2_with fail
          have hy:=(BelK.out hHeld).trans (hy.mono (BelK.out hHeld).size)
          refine hK.out _ _ hy (fun hHeld=>?_)
          clear hy
          clear hK K
          refine wT (i:=18) (v:=.bool false) rfl (Or.inl ⟨by rfl,fun w _=>?_⟩) hHeld ?_
          ·go_simp
          simp only [List.getElem_toArray,List.getElem_cons_succ,List.getElem_cons_zero,Act.put,List.setIfInBounds_toArray,List.set_cons_zero,List.set_cons_succ]
          refine wT (i:=19) (v:=.bool false) rfl (Or.inl ⟨by rfl,fun w _=>?_⟩) hHeld ?_
          ·go_simp
          simp only [List.getElem_toArray,List.getElem_cons_succ,List.getElem_cons_zero,Act.put,List.setIfInBounds_toArray,List.set_cons_zero,List.set_cons_succ]
          refine wpAnyT_done (by kernel_rfl) ?_ _
          have HGZ:=hid (HGD.out.below (BelK.out hHeld))
          clear HGE HGD HFD HKL HRL HSC hHeld HGX HFX
          by_cases hc0:C = 0
          ·have hev:=HEV.out.zero2 hc0
           have HOL2:=hid (HOL.out hc0)
           clear HEV HOL hc0
           subst hev
           go_wp2_with fail
           go_roundw
           case rel=>exact ⟨i + 1,O,N2,n1,by go_num,HLT.out,rfl,HOL2.out,HN2L.out,HN1.out,HGZ.out⟩
           case measure=>have:=HLT.out; simp [intOf]; omega
          ·obtain ⟨T,x,hev,hne⟩:=HEV.out.some3 hc0
           clear HEV HOL hc0
           subst hev
           go_wp2_with fail
           go_roundw
           case rel=>exact ⟨i + 1,last,N2,n1,by go_num,HLT.out,rfl,HLL.out,HN2L.out,HN1.out,HGZ.out⟩
           case measure=>have:=HLT.out; simp [intOf]; omega
        ·have HKG:=hid (show w.heap.size ≤ k1 from HG.out.g1)
         have HDG:=hid (show w.heap.size ≤ d1 from HG.out.g3)
         obtain ⟨C,hC⟩:∃ C,sgCode h n1 SN nm = C:=⟨_,rfl⟩
         obtain ⟨O,hO⟩:∃ O,(if C = 0 then sgOut two h n1 SN nm else []) = O:=⟨_,rfl⟩
         obtain ⟨N2,hN2⟩:∃ N2,(if C = 0 then n1 + 1 else n1) = N2:=⟨_,rfl⟩
         have HNS:=hid (fun (W:World) (bel:Below w.heap.size w W) (kf:KeyF W k1 two h n1)=>(by
          have h:=nsign_any S k1 two h n1 HN1.out SN nm (by have:=HSNL.out; omega) (by have:=HQ2.out; omega) w W HFW.out bel HKG.out kf
          unfold SgPost at h
          rw [hC,hO,hN2] at h
          exact h:Calls Tryz.prog 10 #[.string ⟨SN.toArray⟩,.string ⟨nm.toArray⟩,.pointer (some ⟨k1,0,none⟩)] W fun e w'=>∃ ev,e = .returned (.tuple #[.string ⟨O.toArray⟩,ev])∧ErrAt S w' ev C none∧KeyF w' k1 two h N2∧But [k1] W w'∧Below w.heap.size w w'))
         have HRS:=hid (fun (W:World) (bel:Below w.heap.size w W) (rk:RK W d1 two h n1 (2 ^ h) l1)=>(by
          have h:=r24Sign_any d1 two h n1 HN1.out (by have:=H2.out; omega) l1 SN nm (by have:=HSNL.out; omega) w W bel HDG.out rk
          unfold RSgPost at h
          rw [hC,hO,hN2] at h
          exact h:Calls Tryz.prog 12 #[.string ⟨SN.toArray⟩,.string ⟨nm.toArray⟩,.pointer (some ⟨d1,0,none⟩)] W fun e w'=>e = .returned (.tuple #[.string ⟨O.toArray⟩,.agg #[.int .i64 (C:Int),.int .i64 (fz C none)]])∧RK w' d1 two h N2 (2 ^ h) l1∧But [d1] W w'∧Below w.heap.size w w'))
         have hn2l:N2 ≤ 2 ^ h:=by
          rw [← hN2]
          split
          ·rename_i h0
           have:=sg_lt (hC.trans h0) HN1.out
           omega
          ·exact HN1.out
         have HN2L:=hid hn2l
         have HOL:=hid (show C = 0→O.length ≤ 4194304 from fun h0=>by
          rw [← hO,if_pos h0]
          exact sg_out_len (by have:=H2.out; omega) (hC.trans h0))
         have HSC:=hid (same_code C)
         obtain ⟨z,hz⟩:∃ z,fz C none = z:=⟨_,rfl⟩
         rw [hz] at HSC HRS
         obtain ⟨lv,hlv⟩:∃ lv:Int,((2 ^ h - N2:Nat):Int) = lv:=⟨_,rfl⟩
         have HKL:=hid (fun (W:World) (kf:KeyF W k1 two h N2)=>(by
          have h:=keyLeft_any k1 two h N2 hn2l W kf
          rw [hlv] at h
          exact h:Calls Tryz.prog 14 #[.pointer (some ⟨k1,0,none⟩)] W fun e w'=>e = .returned (.int .i64 lv)∧Below W.heap.size W w'))
         have HRL:=hid (fun (W:World) (rk:RK W d1 two h N2 (2 ^ h) l1)=>(by
          have h:=r23Left_any d1 two h N2 l1 hn2l (by have:=H2.out; omega) W rk
          rw [hlv] at h
          exact h:Calls Tryz.prog 15 #[.pointer (some ⟨d1,0,none⟩)] W fun e w'=>e = .returned (.int .i64 lv)∧Below W.heap.size W w'))
         clear hC hO hN2 hz hlv hn2l c0 c2 c3
         go_wp2_with fail
         have hdr:=Below.drew (Below.refl w8.heap.size w8)
         have HGA:=hid (HG.out.below hdr)
         have HCA:=hid (below_heap hdr HC8.out)
         refine wp_region_till 6 (SinceR w8.drew fun _=>True) (by kernel_rfl) ⟨fun _=>Below.refl _ _,trivial⟩ (fun hHeld=>?_)
         generalize w8.drew = wA at *
         clear hdr c1
         refine wT (i:=0) (v:=.string ⟨SN.toArray⟩) rfl (Or.inl ⟨by rfl,fun w _=>?_⟩) hHeld ?_
         ·go_simp
         simp only [List.getElem_toArray,List.getElem_cons_zero,Act.put,List.setIfInBounds_toArray,List.set_cons_zero,List.set_cons_succ]
         refine wT (i:=1) (v:=.pointer (some ⟨xb,1,none⟩)) rfl (Or.inl ⟨by rfl,fun w _=>?_⟩) hHeld ?_
         ·go_simp
         simp only [List.getElem_toArray,List.getElem_cons_succ,List.getElem_cons_zero,Act.put,List.setIfInBounds_toArray,List.set_cons_zero,List.set_cons_succ]
         refine wF (i:=2) (v:=.string ⟨nm.toArray⟩) rfl (Or.inl ⟨by rfl,fun w hSw=>?_⟩) hHeld ?_
         ·have c:=below_cell (hSw.1 rfl) (cell_of HCA.out 1 rfl)
          go_simp
         simp only [List.getElem_toArray,List.getElem_cons_succ,List.getElem_cons_zero,Act.put,List.setIfInBounds_toArray,List.set_cons_zero,List.set_cons_succ]
         refine wT (i:=3) (v:=.int .i64 1) rfl (Or.inl ⟨by rfl,fun w _=>?_⟩) hHeld ?_
         ·go_simp
         simp only [List.getElem_toArray,List.getElem_cons_succ,List.getElem_cons_zero,Act.put,List.setIfInBounds_toArray,List.set_cons_zero,List.set_cons_succ]
         refine wT (i:=4) (v:=.pointer (some ⟨b5,1,none⟩)) rfl (Or.inl ⟨by rfl,fun w _=>?_⟩) hHeld ?_
         ·go_simp
         simp only [List.getElem_toArray,List.getElem_cons_succ,List.getElem_cons_zero,Act.put,List.setIfInBounds_toArray,List.set_cons_zero,List.set_cons_succ]
         refine wF (i:=5) (v:=.pointer (some ⟨k1,0,none⟩)) rfl (Or.inl ⟨by rfl,fun w hSw=>?_⟩) hHeld ?_
         ·have c:w.cell? ⟨b5,1,none⟩ = some (.pointer (some ⟨k1,0,none⟩)):=below_cell (hSw.1 rfl) (cell_of HGA.out.a5 1 rfl)
          go_simp
         simp only [List.getElem_toArray,List.getElem_cons_succ,List.getElem_cons_zero,Act.put,List.setIfInBounds_toArray,List.set_cons_zero,List.set_cons_succ]
         refine wpAnyT_ready (rs:=[6]) (by kernel_rfl) (by simp) ?_
         refine AllReadyT.cons true rfl (by kernel_rfl) (fun K hK=>?_) AllReadyT.nil
         go_simp
         have HGW:=hid (HGA.out.below (hHeld.1 rfl))
         have HCW:=hid (below_heap (hHeld.1 rfl) HCA.out)
         refine (HNS.out _ HGW.out.bel HGW.out.kf1).mono ?_
         rintro e wn ⟨ev,rfl,hev,hkn,hbut,hbn⟩
         have HEV:=hid hev
         have HCN:=hid (hbut.heap HCW.out (by rw [List.mem_singleton]; obtain ⟨c,hr⟩:=HGW.out.kf1.row; exact row_ne HCW.out hr op_ne_key))
         have HGN:=hid (HGW.out.key1 hbut hkn hbn)
         clear hev hkn hbut hbn
         go_wp2_with fail
         refine hK.out _ _ ⟨fun h=>(by cases h),trivial⟩ (fun hHeld=>?_)
         clear hK K
         refine wT (i:=7) (v:=.tuple #[.string ⟨O.toArray⟩,ev]) rfl (Or.inl ⟨by rfl,fun w _=>?_⟩) hHeld ?_
         ·go_simp
         simp only [List.getElem_toArray,List.getElem_cons_succ,List.getElem_cons_zero,Act.put,List.setIfInBounds_toArray,List.set_cons_zero,List.set_cons_succ]
         refine wT (i:=8) (v:=.string ⟨O.toArray⟩) rfl (Or.inl ⟨by rfl,fun w _=>?_⟩) hHeld ?_
         ·go_simp
         simp only [List.getElem_toArray,List.getElem_cons_succ,List.getElem_cons_zero,Act.put,List.setIfInBounds_toArray,List.set_cons_zero,List.set_cons_succ]
         refine wT (i:=9) (v:=ev) rfl (Or.inl ⟨by rfl,fun w _=>?_⟩) hHeld ?_
         ·go_simp
         simp only [List.getElem_toArray,List.getElem_cons_succ,List.getElem_cons_zero,Act.put,List.setIfInBounds_toArray,List.set_cons_zero,List.set_cons_succ]
         refine wT (i:=10) (v:=.string ⟨O.toArray⟩) rfl (Or.inl ⟨by rfl,fun w _=>?_⟩) hHeld ?_
         ·go_simp
         simp only [List.getElem_toArray,List.getElem_cons_succ,List.getElem_cons_zero,Act.put,List.setIfInBounds_toArray,List.set_cons_zero,List.set_cons_succ]
         refine wT (i:=11) (v:=ev) rfl (Or.inl ⟨by rfl,fun w _=>?_⟩) hHeld ?_
         ·go_simp
         simp only [List.getElem_toArray,List.getElem_cons_succ,List.getElem_cons_zero,Act.put,List.setIfInBounds_toArray,List.set_cons_zero,List.set_cons_succ]
         refine wpAnyT_done (by kernel_rfl) ?_ _
         clear hHeld HGA HCA HGW HCW HNS
         go_upto_region 36 with fail
         go_cut [25,26] (fun s25 s26 wx=>s25 = .string ⟨O.toArray⟩∧SgT w ⟨b5,b6,k0,k1,d0,d1,zb,l0,l1⟩ one two h n0 N2 C z s26 wx)
         case first=>
          go_wp2_with fail
          have hdr:=Below.drew (Below.refl wn.heap.size wn)
          have HGB:=hid (HGN.out.below hdr)
          have HCB:=hid (below_heap hdr HCN.out)
          refine wp_region_till 6 (SinceR wn.drew fun _=>True) (by kernel_rfl) ⟨fun _=>Below.refl _ _,trivial⟩ (fun hHeld=>?_)
          generalize wn.drew = wB at *
          clear hdr
          refine wT (i:=0) (v:=.string ⟨SN.toArray⟩) rfl (Or.inl ⟨by rfl,fun w _=>?_⟩) hHeld ?_
          ·go_simp
          simp only [List.getElem_toArray,List.getElem_cons_zero,Act.put,List.setIfInBounds_toArray,List.set_cons_zero,List.set_cons_succ]
          refine wT (i:=1) (v:=.pointer (some ⟨xb,1,none⟩)) rfl (Or.inl ⟨by rfl,fun w _=>?_⟩) hHeld ?_
          ·go_simp
          simp only [List.getElem_toArray,List.getElem_cons_succ,List.getElem_cons_zero,Act.put,List.setIfInBounds_toArray,List.set_cons_zero,List.set_cons_succ]
          refine wF (i:=2) (v:=.string ⟨nm.toArray⟩) rfl (Or.inl ⟨by rfl,fun w hSw=>?_⟩) hHeld ?_
          ·have c:=below_cell (hSw.1 rfl) (cell_of HCB.out 1 rfl)
           go_simp
          simp only [List.getElem_toArray,List.getElem_cons_succ,List.getElem_cons_zero,Act.put,List.setIfInBounds_toArray,List.set_cons_zero,List.set_cons_succ]
          refine wT (i:=3) (v:=.int .i64 1) rfl (Or.inl ⟨by rfl,fun w _=>?_⟩) hHeld ?_
          ·go_simp
          simp only [List.getElem_toArray,List.getElem_cons_succ,List.getElem_cons_zero,Act.put,List.setIfInBounds_toArray,List.set_cons_zero,List.set_cons_succ]
          refine wT (i:=4) (v:=.pointer (some ⟨b6,1,none⟩)) rfl (Or.inl ⟨by rfl,fun w _=>?_⟩) hHeld ?_
          ·go_simp
          simp only [List.getElem_toArray,List.getElem_cons_succ,List.getElem_cons_zero,Act.put,List.setIfInBounds_toArray,List.set_cons_zero,List.set_cons_succ]
          refine wF (i:=5) (v:=.pointer (some ⟨d1,0,none⟩)) rfl (Or.inl ⟨by rfl,fun w hSw=>?_⟩) hHeld ?_
          ·have c:w.cell? ⟨b6,1,none⟩ = some (.pointer (some ⟨d1,0,none⟩)):=below_cell (hSw.1 rfl) (cell_of HGB.out.a6 1 rfl)
           go_simp
          simp only [List.getElem_toArray,List.getElem_cons_succ,List.getElem_cons_zero,Act.put,List.setIfInBounds_toArray,List.set_cons_zero,List.set_cons_succ]
          refine wpAnyT_ready (rs:=[6,10]) (by kernel_rfl) (by simp) ?_
          refine AllReadyT.cons true rfl (by kernel_rfl) (fun K hK=>?_) (AllReadyT.cons false rfl (by kernel_rfl) (fun K hK=>?_) (AllReadyT.nil))
          ·go_simp
           refine (HRS.out _ HGB.out.bel HGB.out.r1).mono ?_
           rintro e wo ⟨rfl,hrk,hbut,hbo⟩
           have HGP:=hid (HGB.out.ref1 hbut hrk hbo)
           clear hrk hbut hbo
           go_wp2_with fail
           refine hK.out _ _ ⟨fun h=>(by cases h),trivial⟩ (fun hHeld=>?_)
           clear hK K
           refine wT (i:=7) (v:=.tuple #[.string ⟨O.toArray⟩,.agg #[.int .i64 (C:Int),.int .i64 z]]) rfl (Or.inl ⟨by rfl,fun w _=>?_⟩) hHeld ?_
           ·go_simp
           simp only [List.getElem_toArray,List.getElem_cons_succ,List.getElem_cons_zero,Act.put,List.setIfInBounds_toArray,List.set_cons_zero,List.set_cons_succ]
           refine wT (i:=8) (v:=.string ⟨O.toArray⟩) rfl (Or.inl ⟨by rfl,fun w _=>?_⟩) hHeld ?_
           ·go_simp
           simp only [List.getElem_toArray,List.getElem_cons_succ,List.getElem_cons_zero,Act.put,List.setIfInBounds_toArray,List.set_cons_zero,List.set_cons_succ]
           refine wT (i:=9) (v:=.agg #[.int .i64 (C:Int),.int .i64 z]) rfl (Or.inl ⟨by rfl,fun w _=>?_⟩) hHeld ?_
           ·go_simp
           simp only [List.getElem_toArray,List.getElem_cons_succ,List.getElem_cons_zero,Act.put,List.setIfInBounds_toArray,List.set_cons_zero,List.set_cons_succ]
           refine wpAnyT_ready (rs:=[10]) (by kernel_rfl) (by simp) ?_
           refine AllReadyT.cons true rfl (by kernel_rfl) (fun K hK=>?_) AllReadyT.nil
           go_simp
           have hba:=below_one wo (.cells #[.int .i64 0,.int .i64 0] 38)
           have HFP:=hid (show faultRow (wo.alloc (.cells #[.int .i64 0,.int .i64 0] 38)) wo.heap.size 0 0 from fW_row wo)
           have HGP2:=hid (HGP.out.below hba)
           have HLE:=hid (show w.heap.size ≤ wo.heap.size from HGP.out.bel.size)
           refine hK.out _ _ ⟨fun h=>(by cases h),trivial⟩ (fun hHeld=>?_)
           clear hba
           generalize wo.alloc (.cells #[.int .i64 0,.int .i64 0] 38) = wp at *
           generalize wo.heap.size = fb at *
           have HGP:=hid HGP2.out
           clear hK K
           refine wT (i:=11) (v:=.string ⟨O.toArray⟩) rfl (Or.inl ⟨by rfl,fun w _=>?_⟩) hHeld ?_
           ·go_simp
           simp only [List.getElem_toArray,List.getElem_cons_succ,List.getElem_cons_zero,Act.put,List.setIfInBounds_toArray,List.set_cons_zero,List.set_cons_succ]
           refine wpAnyT_ready (rs:=[12]) (by kernel_rfl) (by simp) ?_
           refine AllReadyT.cons true rfl (by kernel_rfl) (fun K hK=>?_) AllReadyT.nil
           refine wp_store_mid 38 (.tmp 26) (.tmp 158) (by rfl) fb 0 #[.int .i64 (C:Int),.int .i64 z] (by rfl) (by rfl) (there_row HFP.out (Nat.le_refl _)) faultInfo (by rw [List.all_toArray]; rfl) ?_
           have hfs:=fault_setBut HFP.out (C:Int) z
           have HFS:=hid hfs.1
           have HGS:=hid (HGP.out.fault HFP.out hfs.2 (below_setCellsN HLE.out _ _ _ HGP.out.bel))
           clear hfs
           refine hK.out _ _ ⟨fun h=>(by cases h),trivial⟩ (fun hHeld=>?_)
           clear hK K
           refine wpAnyT_done (by kernel_rfl) ?_ _
           go_wp2_with fail
           go_meet
           exact ⟨rfl,fb,rfl,HFS.out,HGS.out⟩
          ·go_simp
           have hba:=below_one wB (.cells #[.int .i64 0,.int .i64 0] 38)
           have HFP:=hid (show faultRow (wB.alloc (.cells #[.int .i64 0,.int .i64 0] 38)) wB.heap.size 0 0 from fW_row wB)
           have HGP2:=hid (HGB.out.below hba)
           have HLE:=hid (show w.heap.size ≤ wB.heap.size from HGB.out.bel.size)
           refine hK.out _ _ ⟨fun _=>hba,trivial⟩ (fun hHeld=>?_)
           clear hba
           generalize wB.alloc (.cells #[.int .i64 0,.int .i64 0] 38) = wp at *
           generalize wB.heap.size = fb at *
           have HGP:=hid HGP2.out
           clear hK K
           refine wpAnyT_ready (rs:=[6]) (by kernel_rfl) (by simp) ?_
           refine AllReadyT.cons true rfl (by kernel_rfl) (fun K hK=>?_) AllReadyT.nil
           go_simp
           refine (HRS.out _ HGP.out.bel HGP.out.r1).mono ?_
           rintro e wo ⟨rfl,hrk,hbut,hbo⟩
           have HFP:=hid (show faultRow wo fb 0 0 from hbut.heap HFP.out (by rw [List.mem_singleton]; exact (row_ne HGP.out.r1.row HFP.out rk_ne_ft).symm))
           have HGP:=hid (HGP.out.ref1 hbut hrk hbo)
           clear hrk hbut hbo
           go_wp2_with fail
           refine hK.out _ _ ⟨fun h=>(by cases h),trivial⟩ (fun hHeld=>?_)
           clear hK K
           refine wT (i:=7) (v:=.tuple #[.string ⟨O.toArray⟩,.agg #[.int .i64 (C:Int),.int .i64 z]]) rfl (Or.inl ⟨by rfl,fun w _=>?_⟩) hHeld ?_
           ·go_simp
           simp only [List.getElem_toArray,List.getElem_cons_succ,List.getElem_cons_zero,Act.put,List.setIfInBounds_toArray,List.set_cons_zero,List.set_cons_succ]
           refine wT (i:=8) (v:=.string ⟨O.toArray⟩) rfl (Or.inl ⟨by rfl,fun w _=>?_⟩) hHeld ?_
           ·go_simp
           simp only [List.getElem_toArray,List.getElem_cons_succ,List.getElem_cons_zero,Act.put,List.setIfInBounds_toArray,List.set_cons_zero,List.set_cons_succ]
           refine wT (i:=9) (v:=.agg #[.int .i64 (C:Int),.int .i64 z]) rfl (Or.inl ⟨by rfl,fun w _=>?_⟩) hHeld ?_
           ·go_simp
           simp only [List.getElem_toArray,List.getElem_cons_succ,List.getElem_cons_zero,Act.put,List.setIfInBounds_toArray,List.set_cons_zero,List.set_cons_succ]
           refine wT (i:=11) (v:=.string ⟨O.toArray⟩) rfl (Or.inl ⟨by rfl,fun w _=>?_⟩) hHeld ?_
           ·go_simp
           simp only [List.getElem_toArray,List.getElem_cons_succ,List.getElem_cons_zero,Act.put,List.setIfInBounds_toArray,List.set_cons_zero,List.set_cons_succ]
           refine wpAnyT_ready (rs:=[12]) (by kernel_rfl) (by simp) ?_
           refine AllReadyT.cons true rfl (by kernel_rfl) (fun K hK=>?_) AllReadyT.nil
           refine wp_store_mid 38 (.tmp 26) (.tmp 158) (by rfl) fb 0 #[.int .i64 (C:Int),.int .i64 z] (by rfl) (by rfl) (there_row HFP.out (Nat.le_refl _)) faultInfo (by rw [List.all_toArray]; rfl) ?_
           have hfs:=fault_setBut HFP.out (C:Int) z
           have HFS:=hid hfs.1
           have HGS:=hid (HGP.out.fault HFP.out hfs.2 (below_setCellsN HLE.out _ _ _ HGP.out.bel))
           clear hfs
           refine hK.out _ _ ⟨fun h=>(by cases h),trivial⟩ (fun hHeld=>?_)
           clear hK K
           refine wpAnyT_done (by kernel_rfl) ?_ _
           go_wp2_with fail
           go_meet
           exact ⟨rfl,fb,rfl,HFS.out,HGS.out⟩
         case rest=>
          obtain ⟨rfl,fb,rfl,hfr,hg2⟩:=hcut
          rename World=>wx
          have HFX:=hid hfr
          have HGX:=hid hg2
          clear hfr hg2 HRS HGN
          go_wp2_with fail
          have hdr:=Below.drew (Below.refl wx.heap.size wx)
          have HGD:=hid (HGX.out.below hdr)
          have HFD:=hid (HFX.out.below hdr)
          refine wp_region_till 100 (BelK wx.drew) (by kernel_rfl) (Below.refl _ _) (fun hHeld=>?_)
          generalize wx.drew = wD at *
          clear hdr
          refine wT (i:=0) (v:=.string ⟨O.toArray⟩) rfl (Or.inl ⟨by rfl,fun w _=>?_⟩) hHeld ?_
          ·go_simp
          simp only [List.getElem_toArray,List.getElem_cons_zero,Act.put,List.setIfInBounds_toArray,List.set_cons_zero,List.set_cons_succ]
          refine wT (i:=1) (v:=.string ⟨O.toArray⟩) rfl (Or.inl ⟨by rfl,fun w _=>?_⟩) hHeld ?_
          ·go_simp
          simp only [List.getElem_toArray,List.getElem_cons_succ,List.getElem_cons_zero,Act.put,List.setIfInBounds_toArray,List.set_cons_zero,List.set_cons_succ]
          refine wT (i:=2) (v:=.bool false) rfl (Or.inl ⟨by rfl,fun w _=>?_⟩) hHeld ?_
          ·go_simp
          simp only [List.getElem_toArray,List.getElem_cons_succ,List.getElem_cons_zero,Act.put,List.setIfInBounds_toArray,List.set_cons_zero,List.set_cons_succ]
          refine wT (i:=3) (v:=.bool false) rfl (Or.inl ⟨by rfl,fun w _=>?_⟩) hHeld ?_
          ·go_simp
          simp only [List.getElem_toArray,List.getElem_cons_succ,List.getElem_cons_zero,Act.put,List.setIfInBounds_toArray,List.set_cons_zero,List.set_cons_succ]
          refine wT (i:=4) (v:=ev) rfl (Or.inl ⟨by rfl,fun w _=>?_⟩) hHeld ?_
          ·go_simp
          simp only [List.getElem_toArray,List.getElem_cons_succ,List.getElem_cons_zero,Act.put,List.setIfInBounds_toArray,List.set_cons_zero,List.set_cons_succ]
          refine wT (i:=5) (v:=.agg #[.int .i64 (C:Int),.int .i64 z]) rfl (yieldsIf_load_mid (by rfl) 38 (.tmp 26) (by rfl) fb 0 (by rfl) [.int .i64 (C:Int),.int .i64 z] _ (fun W ⟨_,h⟩=>row_range (HFD.out.below (BelK.out h))) Tryz.underlying38 rfl faultInfo) hHeld ?_
          simp only [List.getElem_toArray,List.getElem_cons_succ,List.getElem_cons_zero,Act.put,List.setIfInBounds_toArray,List.set_cons_zero,List.set_cons_succ]
          refine wpAnyT_ready (rs:=[6]) (by kernel_rfl) (by simp) ?_
          refine AllReadyT.cons false rfl (by kernel_rfl) (fun K hK=>?_) AllReadyT.nil
          go_simp
          have HGE:=hid (HGD.out.below (BelK.out hHeld))
          have hsm:=same_any S _ ev C none (C:Int) z (HF.out _ HGE.out.bel).base (errAt_none HEV.out _)
          rw [HSC.out] at hsm
          refine hsm.mono ?_
          clear hsm
          rintro e w6 ⟨rfl,hy⟩
          go_wp2_with fail
          have hy:=(BelK.out hHeld).trans (hy.mono (BelK.out hHeld).size)
          refine hK.out _ _ hy (fun hHeld=>?_)
          clear hy
          clear hK K
          refine wT (i:=7) (v:=.bool false) rfl (Or.inl ⟨by rfl,fun w _=>?_⟩) hHeld ?_
          ·go_simp
          simp only [List.getElem_toArray,List.getElem_cons_succ,List.getElem_cons_zero,Act.put,List.setIfInBounds_toArray,List.set_cons_zero,List.set_cons_succ]
          refine wT (i:=8) (v:=.bool false) rfl (Or.inl ⟨by rfl,fun w _=>?_⟩) hHeld ?_
          ·go_simp
          simp only [List.getElem_toArray,List.getElem_cons_succ,List.getElem_cons_zero,Act.put,List.setIfInBounds_toArray,List.set_cons_zero,List.set_cons_succ]
          refine wT (i:=9) (v:=.bool false) rfl (Or.inl ⟨by rfl,fun w _=>?_⟩) hHeld ?_
          ·go_simp
          simp only [List.getElem_toArray,List.getElem_cons_succ,List.getElem_cons_zero,Act.put,List.setIfInBounds_toArray,List.set_cons_zero,List.set_cons_succ]
          refine wT (i:=10) (v:=.int .i64 1) rfl (Or.inl ⟨by rfl,fun w _=>?_⟩) hHeld ?_
          ·go_simp
          simp only [List.getElem_toArray,List.getElem_cons_succ,List.getElem_cons_zero,Act.put,List.setIfInBounds_toArray,List.set_cons_zero,List.set_cons_succ]
          refine wT (i:=11) (v:=.pointer (some ⟨b5,1,none⟩)) rfl (Or.inl ⟨by rfl,fun w _=>?_⟩) hHeld ?_
          ·go_simp
          simp only [List.getElem_toArray,List.getElem_cons_succ,List.getElem_cons_zero,Act.put,List.setIfInBounds_toArray,List.set_cons_zero,List.set_cons_succ]
          refine wT (i:=12) (v:=.pointer (some ⟨k1,0,none⟩)) rfl (Or.inl ⟨by rfl,fun w hSw=>?_⟩) hHeld ?_
          ·obtain ⟨_,hb⟩:=hSw; have c:w.cell? ⟨b5,1,none⟩ = some (.pointer (some ⟨k1,0,none⟩)):=below_cell (BelK.out hb) (cell_of HGD.out.a5 1 rfl)
           go_simp
          simp only [List.getElem_toArray,List.getElem_cons_succ,List.getElem_cons_zero,Act.put,List.setIfInBounds_toArray,List.set_cons_zero,List.set_cons_succ]
          refine wT (i:=14) (v:=.int .i64 1) rfl (Or.inl ⟨by rfl,fun w _=>?_⟩) hHeld ?_
          ·go_simp
          simp only [List.getElem_toArray,List.getElem_cons_succ,List.getElem_cons_zero,Act.put,List.setIfInBounds_toArray,List.set_cons_zero,List.set_cons_succ]
          refine wT (i:=15) (v:=.pointer (some ⟨b6,1,none⟩)) rfl (Or.inl ⟨by rfl,fun w _=>?_⟩) hHeld ?_
          ·go_simp
          simp only [List.getElem_toArray,List.getElem_cons_succ,List.getElem_cons_zero,Act.put,List.setIfInBounds_toArray,List.set_cons_zero,List.set_cons_succ]
          refine wT (i:=16) (v:=.pointer (some ⟨d1,0,none⟩)) rfl (Or.inl ⟨by rfl,fun w hSw=>?_⟩) hHeld ?_
          ·obtain ⟨_,hb⟩:=hSw; have c:w.cell? ⟨b6,1,none⟩ = some (.pointer (some ⟨d1,0,none⟩)):=below_cell (BelK.out hb) (cell_of HGD.out.a6 1 rfl)
           go_simp
          simp only [List.getElem_toArray,List.getElem_cons_succ,List.getElem_cons_zero,Act.put,List.setIfInBounds_toArray,List.set_cons_zero,List.set_cons_succ]
          refine wpAnyT_ready (rs:=[13]) (by kernel_rfl) (by simp) ?_
          refine AllReadyT.cons false rfl (by kernel_rfl) (fun K hK=>?_) AllReadyT.nil
          go_simp
          have HGE:=hid (HGD.out.below (BelK.out hHeld))
          refine (HKL.out _ HGE.out.kf1).mono ?_
          rintro e w7 ⟨rfl,hy⟩
          go_wp2_with fail
          have hy:=(BelK.out hHeld).trans (hy.mono (BelK.out hHeld).size)
          refine hK.out _ _ hy (fun hHeld=>?_)
          clear hy
          clear hK K
          refine wpAnyT_ready (rs:=[17]) (by kernel_rfl) (by simp) ?_
          refine AllReadyT.cons false rfl (by kernel_rfl) (fun K hK=>?_) AllReadyT.nil
          go_simp
          have HGE:=hid (HGD.out.below (BelK.out hHeld))
          refine (HRL.out _ HGE.out.r1).mono ?_
          rintro e w9 ⟨rfl,hy⟩
          go_wp2_with fail
          have hy:=(BelK.out hHeld).trans (hy.mono (BelK.out hHeld).size)
          refine hK.out _ _ hy (fun hHeld=>?_)
          clear hy
          clear hK K
          refine wT (i:=18) (v:=.bool false) rfl (Or.inl ⟨by rfl,fun w _=>?_⟩) hHeld ?_
          ·go_simp
          simp only [List.getElem_toArray,List.getElem_cons_succ,List.getElem_cons_zero,Act.put,List.setIfInBounds_toArray,List.set_cons_zero,List.set_cons_succ]
          refine wT (i:=19) (v:=.bool false) rfl (Or.inl ⟨by rfl,fun w _=>?_⟩) hHeld ?_
          ·go_simp
          simp only [List.getElem_toArray,List.getElem_cons_succ,List.getElem_cons_zero,Act.put,List.setIfInBounds_toArray,List.set_cons_zero,List.set_cons_succ]
          refine wpAnyT_done (by kernel_rfl) ?_ _
          have HGZ:=hid (HGD.out.below (BelK.out hHeld))
          clear HGE HGD HFD HKL HRL HSC hHeld HGX HFX
          by_cases hc0:C = 0
          ·have hev:=HEV.out.zero2 hc0
           have HOL2:=hid (HOL.out hc0)
           clear HEV HOL hc0
           subst hev
           go_wp2_with fail
           go_roundw
           case rel=>exact ⟨i + 1,O,n0,N2,by go_num,HLT.out,rfl,HOL2.out,HN0.out,HN2L.out,HGZ.out⟩
           case measure=>have:=HLT.out; simp [intOf]; omega
          ·obtain ⟨T,x,hev,hne⟩:=HEV.out.some3 hc0
           clear HEV HOL hc0
           subst hev
           go_wp2_with fail
           go_roundw
           case rel=>exact ⟨i + 1,last,n0,N2,by go_num,HLT.out,rfl,HLL.out,HN0.out,HN2L.out,HGZ.out⟩
           case measure=>have:=HLT.out; simp [intOf]; omega
        ·have HSN:=hid (nsign_nil S ⟨SN.toArray⟩ ⟨nm.toArray⟩ w8 (HF.out _ HG.out.bel).base)
         simp only [errV] at HSN
         go_wp2_with (first | (go_at_call 10; refine HSN.out.mono ?_; rintro e wn ⟨rfl,hbn⟩; have HGN:=hid (HG.out.below hbn)) | (go_at_call 11; refine (HI1.out _ HGN.out.bel).mono ?_; rintro e ws ⟨rfl,hbs⟩; have HGS:=hid (HGN.out.below hbs)))
         go_roundw
         case rel=>exact ⟨i + 1,last,n0,n1,by go_num,HLT.out,rfl,HLL.out,HN0.out,HN1.out,HGS.out⟩
         case measure=>have:=HLT.out; simp [intOf]; omega
        ·have HSN:=hid (nsign_zero S zb ⟨SN.toArray⟩ ⟨nm.toArray⟩ w8 (HF.out _ HG.out.bel).base (show w8.cell? ⟨zb,41,none⟩ = some (.bool false) from HG.out.zcell))
         simp only [errV] at HSN
         go_wp2_with (first | (go_at_call 10; refine HSN.out.mono ?_; rintro e wn ⟨rfl,hbn⟩; have HGN:=hid (HG.out.below hbn)) | (go_at_call 11; refine (HI1.out _ HGN.out.bel).mono ?_; rintro e ws ⟨rfl,hbs⟩; have HGS:=hid (HGN.out.below hbs)))
         go_roundw
         case rel=>exact ⟨i + 1,last,n0,n1,by go_num,HLT.out,rfl,HLL.out,HN0.out,HN1.out,HGS.out⟩
         case measure=>have:=HLT.out; simp [intOf]; omega
      ·have i2:¬ (i:Int) < 12:=by omega
       go_wp2_with (go_at_call 7; refine (HAL.out _ HG.out.bel).mono ?_; rintro e w2 ⟨rfl,hb2⟩)
       go_ret
       exact ⟨rfl,HLA.out _ _ HG.out.bel hb2⟩
     ·have i1:¬ (i:Int) < (OL.length:Int):=by omega
      go_wp2_with (go_at_call 7; refine (HAL.out _ HG.out.bel).mono ?_; rintro e w2 ⟨rfl,hb2⟩)
      go_ret
      exact ⟨rfl,HLA.out _ _ HG.out.bel hb2⟩
 ·by_cases hneg:height < 0
  ·go_enter Tryz.func3,Tryz.ntmps3
   go_upto_region 1 with fail
   generalize w.alloc (.cells KL.toArray 26) = w1 at *
   have hr1:=row_range HX1.out
   have k64:=hr1 64 _ c64
   have k65:=hr1 65 _ c65
   simp only [Nat.zero_add] at k64 k65
   clear hr1 c64 c65
   go_wp2_with (go_at_call 7; refine (HAL.out _ HB1.out).mono ?_; rintro e w2 ⟨rfl,hb2⟩)
   go_ret
   exact ⟨rfl,HLA.out _ _ HB1.out hb2⟩
  ·have h3:2 < height:=by omega
   go_enter Tryz.func3,Tryz.ntmps3
   go_upto_region 1 with fail
   generalize w.alloc (.cells KL.toArray 26) = w1 at *
   have hr1:=row_range HX1.out
   have k64:=hr1 64 _ c64
   have k65:=hr1 65 _ c65
   simp only [Nat.zero_add] at k64 k65
   clear hr1 c64 c65
   go_wp2_with (go_at_call 7; refine (HAL.out _ HB1.out).mono ?_; rintro e w2 ⟨rfl,hb2⟩)
   go_ret
   exact ⟨rfl,HLA.out _ _ HB1.out hb2⟩
end Go.Proofs.YticlgcfodlcpcaaGreatDoor
