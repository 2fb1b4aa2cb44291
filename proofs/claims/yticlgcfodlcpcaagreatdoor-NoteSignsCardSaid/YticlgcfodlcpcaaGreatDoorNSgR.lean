/- note. -/
import Derived.Test.YticlgcfodlcpcaaGreatDoorNSign
import Derived.Test.YticlgcfodlcpcaaGreatDoorNRef12
import Derived.Test.YticlgcfodlcpcaaGreatDoorNAlive
namespace Go.Proofs.YticlgcfodlcpcaaGreatDoor
open Go.Lib (hid byteCells)
open Go.RowKit
set_option maxHeartbeats 2000000 in
set_option maxRecDepth 100000 in
theorem keyLeft_nil (w:World) :
  Calls Tryz.prog 14 #[.pointer none] w fun e w'=>e = .returned (.int .i64 0)∧Below w.heap.size w w':=by
 go_enter Tryz.func14,Tryz.ntmps14
 go_wp2_with fail
 go_ret
 exact ⟨rfl,Below.refl _ _⟩
set_option maxHeartbeats 4000000 in
set_option maxRecDepth 100000 in
theorem nsign_nil (S:Nat→Addr) (note name:ByteArray) (w:World) (hF:Base S w) :
  Calls Tryz.prog 10 #[.string note,.string name,.pointer none] w fun e w'=>e = .returned (.tuple #[.string ⟨#[]⟩,errV S 1])∧Below w.heap.size w w':=by
 have HF:=hid hF
 have HL:=hid (keyLeft_nil w)
 have HS:=hid (fun (W:World) (hW:Below w.heap.size w W)=>keySign_nil S ⟨#[]⟩ W (hF.below hW))
 simp only [sgZ,errV] at HS
 clear hF
 go_enter Tryz.func10,Tryz.ntmps10
 go_upto_region 3 with (first | (go_at_call 14; refine HL.out.mono ?_; rintro e w1 ⟨rfl,hb1⟩) | (go_at_call 21; refine (HS.out _ hb1).mono ?_; rintro e w2 ⟨rfl,hb2⟩))
 have hb3:=(hb1.trans (hb2.mono hb1.size)).trans ((below_one w2 (.cells #[.int .i64 0,.slice none 0 0,.slice none 0 0] 73)).mono (hb1.trans (hb2.mono hb1.size)).size)
 generalize w2.alloc (.cells #[.int .i64 0,.slice none 0 0,.slice none 0 0] 73) = wA at *
 have HBA:=hid hb3
 have g1:=(HF.out.below HBA.out).var 1 (by decide) (by decide)
 have hIS:=is_code (S:=S) (w:=wA) (v:=errV S 1) (c:=1) (p:=none) (HF.out.below HBA.out) (.inr (.inl ⟨by decide,by decide,rfl,rfl⟩)) (by decide) 1 (by decide) (by decide)
 simp only [errV] at hIS
 have HIS:=hid hIS
 simp only [errG,errV] at g1
 clear hb1 hb2 hb3 hIS
 go_upto_region 4 with (go_at_call 32; refine HIS.out.mono ?_; rintro e w4 ⟨rfl,rfl⟩)
 clear HIS
 go_wp2_with fail
 go_quiet (fail)
 go_wp2_with fail
 go_ret2
 exact ⟨rfl,below_drewN HBA.out _⟩
set_option maxHeartbeats 2000000 in
set_option maxRecDepth 100000 in
theorem keyLeft_zero (kb:Nat) (w:World) (hz:w.cell? ⟨kb,41,none⟩ = some (.bool false)) :
  Calls Tryz.prog 14 #[.pointer (some ⟨kb,0,none⟩)] w fun e w'=>e = .returned (.int .i64 0)∧Below w.heap.size w w':=by
 go_enter Tryz.func14,Tryz.ntmps14
 go_wp2_with fail
 go_ret
 exact ⟨rfl,Below.refl _ _⟩
set_option maxHeartbeats 4000000 in
set_option maxRecDepth 100000 in
theorem nsign_zero (S:Nat→Addr) (kb:Nat) (note name:ByteArray) (w:World) (hF:Base S w) (hz:w.cell? ⟨kb,41,none⟩ = some (.bool false)) :
  Calls Tryz.prog 10 #[.string note,.string name,.pointer (some ⟨kb,0,none⟩)] w fun e w'=>e = .returned (.tuple #[.string ⟨#[]⟩,errV S 1])∧Below w.heap.size w w':=by
 have HF:=hid hF
 have HL:=hid (keyLeft_zero kb w hz)
 have HS:=hid (fun (W:World) (hW:Below w.heap.size w W)=>keySign_zero S kb ⟨#[]⟩ W (hF.below hW) (below_cell hW hz))
 clear hz
 simp only [sgZ,errV] at HS
 clear hF
 go_enter Tryz.func10,Tryz.ntmps10
 go_upto_region 3 with (first | (go_at_call 14; refine HL.out.mono ?_; rintro e w1 ⟨rfl,hb1⟩) | (go_at_call 21; refine (HS.out _ hb1).mono ?_; rintro e w2 ⟨rfl,hb2⟩))
 have hb3:=(hb1.trans (hb2.mono hb1.size)).trans ((below_one w2 (.cells #[.int .i64 0,.slice none 0 0,.slice none 0 0] 73)).mono (hb1.trans (hb2.mono hb1.size)).size)
 generalize w2.alloc (.cells #[.int .i64 0,.slice none 0 0,.slice none 0 0] 73) = wA at *
 have HBA:=hid hb3
 have g1:=(HF.out.below HBA.out).var 1 (by decide) (by decide)
 have hIS:=is_code (S:=S) (w:=wA) (v:=errV S 1) (c:=1) (p:=none) (HF.out.below HBA.out) (.inr (.inl ⟨by decide,by decide,rfl,rfl⟩)) (by decide) 1 (by decide) (by decide)
 simp only [errV] at hIS
 have HIS:=hid hIS
 simp only [errG,errV] at g1
 clear hb1 hb2 hb3 hIS
 go_upto_region 4 with (go_at_call 32; refine HIS.out.mono ?_; rintro e w4 ⟨rfl,rfl⟩)
 clear HIS
 go_wp2_with fail
 go_quiet (fail)
 go_wp2_with fail
 go_ret2
 exact ⟨rfl,below_drewN HBA.out _⟩
abbrev Sop:=List UInt8 × List UInt8 × Bool × Int
def opC (x:Sop):List Value:=[.string ⟨x.1.toArray⟩,.string ⟨x.2.1.toArray⟩,.bool x.2.2.1,.int .i64 x.2.2.2]
def opOk (x:Sop):Prop:=x.1.length ≤ 140737488351232∧x.2.1.length ≤ 140737488351232∧idxOk x.2.2.2
def OpsIn (W:World) (v:Value) (L:List Sop):Prop:=(∀ x ∈ L,opOk x)∧∃ ao cap,v = .slice ao L.length cap∧(L ≠ []→∃ g o,ao = some ⟨g,o,none⟩∧∀ (i:Nat) x,L[i]? = some x→W.rangeAt g (o + i * 4) (opC x))
def scC (one two:List UInt8) (height:Int) (ov:Value):List Value:=byteCells one ++ (byteCells two ++ [.int .i64 height,ov])
theorem range_app2 {W:World} {g o:Nat} {A B:List Value} (h:W.rangeAt g o (A ++ B)):W.rangeAt g o A∧W.rangeAt g (o + A.length) B:=
 ⟨fun j v hj=>h j v (by rw [List.getElem?_append_left (List.getElem?_eq_some_iff.1 hj).1]; exact hj),fun j v hj=>by
  have:=h (A.length + j) v (by rw [List.getElem?_append_right (by omega),Nat.add_sub_cancel_left]; exact hj)
  rwa [← Nat.add_assoc] at this⟩
set_option maxRecDepth 100000 in
theorem built_two (a b:List UInt8) (ha:a.length = 32) (hb:b.length = 32):Tryz.prog.built 32 (#[(0,hv a),(1,hv b)]:Array (Nat × Value)).toList = some (byteCells a ++ byteCells b).toArray:=by
 obtain ⟨f,rfl⟩:=as_fun a ha
 obtain ⟨g,rfl⟩:=as_fun b hb
 show Tryz.prog.built 32 _ = some _
 kernel_rfl
theorem wpList_buildTwo {ops:Array Oper} {rest:List Oper} {o:Oper} {a:Act} {W:World} {Q:Exit→Act→World→Prop} (hgd:o.guard = none) (x y:Operand) (ho:o.op = .build 32 #[(0,x),(1,y)])
  {s t:List UInt8} (hx:a.eval x = hv s) (hy:a.eval y = hv t) (hs:s.length = 32) (ht:t.length = 32)
  (hh:wpList Tryz.prog ops Q rest (a.put o.dst (.agg (byteCells s ++ byteCells t).toArray)) W):wpList Tryz.prog ops Q (o :: rest) a W:=
 wpList_plain hgd fun K hK=>by
  have hr:=run_build (P:=Tryz.prog) W 32 _ _ (built_two s t hs ht)
  unfold Oper.wp execOp
  simp only [ho,List.map_toArray,List.map_cons,List.map_nil,hx,hy,Sem.run_bind,hr,Result.andThen_ok,Sem.run_pure]
  exact hK _ _ hh
theorem infoTwo:(Tryz.prog.info? 32).map (·.size) = some 64:=by kernel_rfl
theorem wpList_stTwo {ops:Array Oper} {rest:List Oper} {o:Oper} {a:Act} {w2:World} {Q:Exit→Act→World→Prop} (hgd:o.guard = none) (x y:Operand) (ho:o.op = .store 32 x y)
  {s t:List UInt8} {old:Array Value} (hx:a.eval x = .pointer (some ⟨w2.heap.size,0,none⟩)) (hy:a.eval y = .agg (byteCells s ++ byteCells t).toArray) (hs:s.length = 32) (ht:t.length = 32) (hold:old.size = 64)
  (h:wpList Tryz.prog ops Q rest (a.put o.dst undef) (w2.alloc (.cells (byteCells s ++ byteCells t).toArray 32))):wpList Tryz.prog ops Q (o :: rest) a (w2.alloc (.cells old 32)):=by
 have h64:(byteCells s ++ byteCells t).toArray.size = 64:=by rw [List.size_toArray,List.length_append,Lib.byteCells_length,Lib.byteCells_length,hs,ht]
 refine wpList_store_row hgd 32 x y ho w2.heap.size _ hx hy 32 old (heap_alloc_new w2 _) (by rw [h64]; exact infoTwo) (by rw [h64,hold]) ?_ ?_
 ·have h1:=byteCells_all s
  have h2:=byteCells_all t
  rw [List.all_toArray] at h1 h2 ⊢
  rw [List.all_append,h1,h2]
  rfl
 rw [stored1]
 exact h
theorem row_ne {w:World} {a b:Nat} {cs cs2:Array Value} {T T2:TypeId} {f f2:Nat × Nat} (h:w.heap[a]? = some (.cells cs T f)) (h2:w.heap[b]? = some (.cells cs2 T2 f2)) (hne:T ≠ T2):a ≠ b:=fun e=>by
 rw [e,h2] at h
 simp only [Option.some.injEq,Obj.cells.injEq] at h
 exact hne h.2.1.symm
theorem own_ne_row {w:World} {B b:Nat} {e T:TypeId} {size n:Nat} {v:Value} {xs:List Value} {cs:Array Value} {f:Nat × Nat} (h:w.ownsRow B e size v n xs) (h2:w.heap[b]? = some (.cells cs T f)) (hne:T ≠ e) (g:Nat) (hg:v.ownBlock = some g):g ≠ b:=fun hgb=>by
 rcases h.2 with ⟨h0,_⟩ | ⟨g',cap,cur,h0,_,hg',_⟩
 ·rw [h0] at hg; cases hg
 ·rw [h0] at hg
  have:g' = g:=by simpa [Value.ownBlock] using hg
  rw [this,hgb,h2] at hg'
  simp only [Option.some.injEq,Obj.cells.injEq] at hg'
  exact hne hg'.2.1
theorem KeyF.row {w:World} {kb:Nat} {s:List UInt8} {h nx:Nat} (hk:KeyF w kb s h nx):∃ cs,w.heap[kb]? = some (.cells cs 44 (0,0)):=by
 obtain ⟨_,_,hk⟩:=hk
 obtain ⟨cs,hc,_⟩:=hk.hp
 exact ⟨cs,hc⟩
theorem KeyF.butT {w w':World} {kb b:Nat} {s:List UInt8} {h nx:Nat} {cs:Array Value} {T:TypeId} {f:Nat × Nat} (hk:KeyF w kb s h nx) (hb:But [b] w w') (hr:w.heap[b]? = some (.cells cs T f)) (hT:T ≠ 23) (hne:kb ≠ b):KeyF w' kb s h nx:=by
 obtain ⟨h6,lv,hk⟩:=hk
 obtain ⟨cs,hc,hC⟩:=hk.hp
 exact ⟨h6,lv,⟨cs,hb.heap hc (by rw [List.mem_singleton]; exact hne),hC⟩,hk.ls,fun t ht=>rowKeepK (hk.own t ht) fun g hg=>hb.block g ((hk.own t ht).lt g hg).2 (by rw [List.mem_singleton]; exact own_ne_row (hk.own t ht) hr hT g hg),hk.sep⟩
theorem RK.butT {w w':World} {rb b:Nat} {s:List UInt8} {h nx k:Nat} {lv:Value} {cs:Array Value} {T:TypeId} {f:Nat × Nat} (hk:RK w rb s h nx k lv) (hb:But [b] w w') (hr:w.heap[b]? = some (.cells cs T f)) (hT:T ≠ 23) (hne:rb ≠ b):RK w' rb s h nx k lv:=
 ⟨hb.heap hk.row (by rw [List.mem_singleton]; exact hne),hk.ls,rowKeepK hk.own fun g hg=>hb.block g (hk.own.lt g hg).2 (by rw [List.mem_singleton]; exact own_ne_row hk.own hr hT g hg)⟩
theorem kk_ne_hash:¬ (44:TypeId) = 23:=by decide
theorem ka_ne_hash:¬ (29:TypeId) = 23:=by decide
theorem ra_ne_hash:¬ (31:TypeId) = 23:=by decide
theorem key_ne_rk:¬ (44:TypeId) = 84:=by decide
theorem ka_ne_key:¬ (29:TypeId) = 44:=by decide
theorem ra_ne_key:¬ (31:TypeId) = 44:=by decide
theorem ka_ne_rk:¬ (29:TypeId) = 84:=by decide
theorem ra_ne_rk:¬ (31:TypeId) = 84:=by decide
abbrev pt (b:Nat):Value:=.pointer (some ⟨b,0,none⟩)
structure Lie where
 b5:Nat
 b6:Nat
 k0:Nat
 k1:Nat
 d0:Nat
 d1:Nat
 zb:Nat
 l0:Value
 l1:Value
structure SG (W0:World) (B:Lie) (s1 s2:List UInt8) (h n0 n1 m0 m1:Nat) (W:World):Prop where
 a5:W.heap[B.b5]? = some (.cells #[pt B.k0,pt B.k1] 29 (0,0))
 a6:W.heap[B.b6]? = some (.cells #[pt B.d0,pt B.d1] 31 (0,0))
 kf0:KeyF W B.k0 s1 h n0
 kf1:KeyF W B.k1 s2 h n1
 r0:RK W B.d0 s1 h m0 (2 ^ h) B.l0
 r1:RK W B.d1 s2 h m1 (2 ^ h) B.l1
 z:∃ cs,W.heap[B.zb]? = some (.cells cs 44 (0,0))∧cs[41]? = some (.bool false)
 kk:B.k0 < B.k1
 dd:B.d0 < B.d1
 g0:W0.heap.size ≤ B.k0
 g1:W0.heap.size ≤ B.k1
 g2:W0.heap.size ≤ B.d0
 g3:W0.heap.size ≤ B.d1
 bel:Below W0.heap.size W0 W
section
variable {W0 W W':World} {B:Lie} {s1 s2:List UInt8} {h n0 n1 m0 m1:Nat}
theorem SG.below (g:SG W0 B s1 s2 h n0 n1 m0 m1 W) (hb:Below W.heap.size W W'):SG W0 B s1 s2 h n0 n1 m0 m1 W':=by
 obtain ⟨cs,hz,hf⟩:=g.z
 exact ⟨below_heap hb g.a5,below_heap hb g.a6,g.kf0.below hb,g.kf1.below hb,g.r0.below hb,g.r1.below hb,⟨cs,below_heap hb hz,hf⟩,g.kk,g.dd,g.g0,g.g1,g.g2,g.g3,g.bel.trans (hb.mono g.bel.size)⟩
theorem SG.zcell (g:SG W0 B s1 s2 h n0 n1 m0 m1 W):W.cell? ⟨B.zb,41,none⟩ = some (.bool false):=by
 obtain ⟨cs,hz,hf⟩:=g.z
 exact cell_of hz 41 hf
theorem SG.zne {kb:Nat} {s:List UInt8} {nx:Nat} (g:SG W0 B s1 s2 h n0 n1 m0 m1 W) (hk:KeyF W kb s h nx):B.zb ≠ kb:=fun e=>by
 have h1:=hk.cells.1
 have h2:=g.zcell
 rw [e,h1] at h2
 cases h2
theorem SG.key0 (g:SG W0 B s1 s2 h n0 n1 m0 m1 W) {n:Nat} (hb:But [B.k0] W W') (hk:KeyF W' B.k0 s1 h n) (hw:Below W0.heap.size W0 W'):SG W0 B s1 s2 h n n1 m0 m1 W':=by
 obtain ⟨c,hr⟩:=g.kf0.row
 obtain ⟨cs,hz,hf⟩:=g.z
 have hne:=g.zne g.kf0
 have hkk:=g.kk
 exact ⟨hb.heap g.a5 (by rw [List.mem_singleton]; exact row_ne g.a5 hr ka_ne_key),hb.heap g.a6 (by rw [List.mem_singleton]; exact row_ne g.a6 hr ra_ne_key),hk,g.kf1.butT hb hr kk_ne_hash (by omega),g.r0.butT hb hr kk_ne_hash (fun e=>row_ne hr g.r0.row key_ne_rk e.symm),g.r1.butT hb hr kk_ne_hash (fun e=>row_ne hr g.r1.row key_ne_rk e.symm),⟨cs,hb.heap hz (by rw [List.mem_singleton]; exact hne),hf⟩,g.kk,g.dd,g.g0,g.g1,g.g2,g.g3,hw⟩
theorem SG.key1 (g:SG W0 B s1 s2 h n0 n1 m0 m1 W) {n:Nat} (hb:But [B.k1] W W') (hk:KeyF W' B.k1 s2 h n) (hw:Below W0.heap.size W0 W'):SG W0 B s1 s2 h n0 n m0 m1 W':=by
 obtain ⟨c,hr⟩:=g.kf1.row
 obtain ⟨cs,hz,hf⟩:=g.z
 have hne:=g.zne g.kf1
 have hkk:=g.kk
 exact ⟨hb.heap g.a5 (by rw [List.mem_singleton]; exact row_ne g.a5 hr ka_ne_key),hb.heap g.a6 (by rw [List.mem_singleton]; exact row_ne g.a6 hr ra_ne_key),g.kf0.butT hb hr kk_ne_hash (by omega),hk,g.r0.butT hb hr kk_ne_hash (fun e=>row_ne hr g.r0.row key_ne_rk e.symm),g.r1.butT hb hr kk_ne_hash (fun e=>row_ne hr g.r1.row key_ne_rk e.symm),⟨cs,hb.heap hz (by rw [List.mem_singleton]; exact hne),hf⟩,g.kk,g.dd,g.g0,g.g1,g.g2,g.g3,hw⟩
theorem SG.ref0 (g:SG W0 B s1 s2 h n0 n1 m0 m1 W) {n:Nat} (hb:But [B.d0] W W') (hk:RK W' B.d0 s1 h n (2 ^ h) B.l0) (hw:Below W0.heap.size W0 W'):SG W0 B s1 s2 h n0 n1 n m1 W':=by
 have hr:=g.r0.row
 obtain ⟨c0,h0⟩:=g.kf0.row
 obtain ⟨c1,h1⟩:=g.kf1.row
 obtain ⟨cs,hz,hf⟩:=g.z
 have hdd:=g.dd
 exact ⟨hb.heap g.a5 (by rw [List.mem_singleton]; exact row_ne g.a5 hr ka_ne_rk),hb.heap g.a6 (by rw [List.mem_singleton]; exact row_ne g.a6 hr ra_ne_rk),g.kf0.butT hb hr rk_ne_hash (row_ne h0 hr key_ne_rk),g.kf1.butT hb hr rk_ne_hash (row_ne h1 hr key_ne_rk),hk,g.r1.butT hb hr rk_ne_hash (by omega),⟨cs,hb.heap hz (by rw [List.mem_singleton]; exact row_ne hz hr key_ne_rk),hf⟩,g.kk,g.dd,g.g0,g.g1,g.g2,g.g3,hw⟩
theorem SG.ref1 (g:SG W0 B s1 s2 h n0 n1 m0 m1 W) {n:Nat} (hb:But [B.d1] W W') (hk:RK W' B.d1 s2 h n (2 ^ h) B.l1) (hw:Below W0.heap.size W0 W'):SG W0 B s1 s2 h n0 n1 m0 n W':=by
 have hr:=g.r1.row
 obtain ⟨c0,h0⟩:=g.kf0.row
 obtain ⟨c1,h1⟩:=g.kf1.row
 obtain ⟨cs,hz,hf⟩:=g.z
 have hdd:=g.dd
 exact ⟨hb.heap g.a5 (by rw [List.mem_singleton]; exact row_ne g.a5 hr ka_ne_rk),hb.heap g.a6 (by rw [List.mem_singleton]; exact row_ne g.a6 hr ra_ne_rk),g.kf0.butT hb hr rk_ne_hash (row_ne h0 hr key_ne_rk),g.kf1.butT hb hr rk_ne_hash (row_ne h1 hr key_ne_rk),g.r0.butT hb hr rk_ne_hash (by omega),hk,⟨cs,hb.heap hz (by rw [List.mem_singleton]; exact row_ne hz hr key_ne_rk),hf⟩,g.kk,g.dd,g.g0,g.g1,g.g2,g.g3,hw⟩
end
theorem same_code (c:Nat):sameB c none (c:Int) (fz c none) = true:=by
 by_cases h:c = 0
 ·subst h; rfl
 ·unfold sameB fz
  rw [if_neg h]
  simp [isB]
theorem sg_lt {h nx:Nat} {note name:List UInt8} (hc:sgCode h nx note name = 0) (hn:nx ≤ 2 ^ h):nx < 2 ^ h:=by
 have hne:nx ≠ 2 ^ h:=fun e=>by
  unfold sgCode at hc
  split at hc
  ·cases hc
  ·split at hc
   ·cases hc
   ·split at hc
    ·cases hc
    ·split at hc
     ·cases hc
     ·cases hc
 omega
theorem sg_name {h nx:Nat} {note name:List UInt8} (hc:sgCode h nx note name = 0):name.length ≤ 64:=by
 unfold sgCode at hc
 split at hc
 ·cases hc
 ·rename_i hne
  exact (name_len (by cases hb:nameOf name with
   | true=>rfl
   | false=>exact absurd hb hne)).1
theorem splitL_len {note b t:List UInt8} {L:Lines} (hs:splitL note = some (b,t,L)):b.length ≤ 1048577:=by
 unfold splitL at hs
 split at hs
 ·rename_i h0
  simp only [Option.some.injEq,Prod.mk.injEq] at hs
  obtain ⟨A,hA⟩:∃ A,splitN note = A:=⟨_,rfl⟩
  obtain ⟨⟨txt,L2⟩,c,p⟩:=A
  have:=(splitN_bound note hA).1 (by rw [hA] at h0; exact h0)
  rw [← hs.1]
  omega
 ·split at hs
  ·rename_i hm
   simp only [Option.some.injEq,Prod.mk.injEq] at hs
   have:=mayTxt_len note hm
   rw [← hs.1,List.length_append]
   simp only [List.length_cons,List.length_nil]
   omega
  ·cases hs
theorem sg_out_len {s:List UInt8} {h nx:Nat} {note name:List UInt8} (hh:h ≤ 6) (hc:sgCode h nx note name = 0):(sgOut s h nx note name).length ≤ 4194304:=by
 have hn:=sg_name hc
 unfold sgOut
 cases hs:splitL note with
 | none=>exact Nat.zero_le _
 | some x=>
  obtain ⟨b,t,L⟩:=x
  have hb:=splitL_len hs
  show (b ++ lineL (sgLine s h nx t name)).length ≤ 4194304
  have he:=encF_length nx (signF (ownF s nx) (msgF nx t)) (kpath s h nx) (signF_length _ _) (signF_len _ _) (kpath_len s h nx)
  rw [kpath_length] at he
  have h64:=b64_length (encF nx (signF (ownF s nx) (msgF nx t)) (kpath s h nx))
  rw [he] at h64
  unfold lineL sgLine dashL
  simp only [List.length_append,List.length_cons,List.length_nil]
  rw [h64]
  omega
theorem errAt_none {S:Nat→Addr} {w:World} {v:Value} {c:Nat} (h:ErrAt S w v c none) (W:World):ErrAt S W v c none:=by
 rcases h with h | h | ⟨_,_,_,_,_,_,hp⟩
 ·exact .inl h
 ·exact .inr (.inl h)
 ·cases hp
theorem r24Sign_any (rb:Nat) (s:List UInt8) (h nx:Nat) (hn:nx ≤ 2 ^ h) (hh:h ≤ 6) (lv:Value) (note name:List UInt8) (hnl:note.length ≤ 4611686018427386000) (w0 w:World) (hB0:Below w0.heap.size w0 w) (hrb:w0.heap.size ≤ rb) (hk:RK w rb s h nx (2 ^ h) lv) :
  Calls Tryz.prog 12 #[.string ⟨note.toArray⟩,.string ⟨name.toArray⟩,.pointer (some ⟨rb,0,none⟩)] w fun e w'=>RSgPost w0 w rb lv s h nx note name e w':=by
 rcases Nat.lt_or_ge nx (2 ^ h) with hlt | hge
 ·exact r24Sign_go rb s h nx hlt hh lv note name hnl w0 w hB0 hrb hk
 ·exact r24Sign_spent rb s h nx (by omega) hh lv note name hnl w0 w hB0 hrb hk
theorem run_rem4 (v:Int) (W:World):(binOp .rem 3 (.int .i64 v) (.int .i64 4)).run Tryz.prog W = .ok (.int .i64 (v.tmod 4)) W:=by
 simp [binOp,Op.intDiv]
theorem wpList_rem {ops:Array Oper} {rest:List Oper} {o:Oper} {a:Act} {W:World} {Q:Exit→Act→World→Prop} (hgd:o.guard = none) (x y:Operand) (ho:o.op = .binOp .rem 3 x y 3)
  {v r:Int} (hx:a.eval x = .int .i64 v) (hy:a.eval y = .int .i64 4) (hr:v.tmod 4 = r)
  (hh:wpList Tryz.prog ops Q rest (a.put o.dst (.int .i64 r)) W):wpList Tryz.prog ops Q (o :: rest) a W:=
 wpList_plain hgd fun K hK=>by
  have h:=run_rem4 v W
  rw [hr] at h
  unfold Oper.wp execOp
  simp only [ho,hx,hy]
  have e:∀ p q,eqGuard .rem 3 p q (.int .i64 v) (.int .i64 4) = pure ():=fun p q=>rfl
  simp only [e,Sem.run_bind,h,Result.andThen_ok,Sem.run_pure]
  exact hK _ _ hh
end Go.Proofs.YticlgcfodlcpcaaGreatDoor
