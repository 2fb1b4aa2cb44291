/- Maps with texts for keys that a call fills: V tells the elements by number; looked up with and without 'ok'. -/
import Derived.Test.YticlgcfodlcpcaaGreatDoorNReadL
import Derived.Maps.OwnSet
import Derived.DeepKeys4
namespace Go.Proofs.YticlgcfodlcpcaaGreatDoor
open Go.Lib (hid byteCells)
open Go.RowKit Go.Maps
theorem below_grownS {w w':World} {row:Option Nat} (h:Below w.heap.size w w'):w.grownBy w' row:=⟨h.os,h.tape,h.output,h.size,fun k hk _=>h.block k hk⟩
noncomputable def fV (V:Nat→Value) (i:Nat):Nat:=Classical.choose (⟨i,rfl⟩:∃ j,V i = V j)
theorem fV_spec (V:Nat→Value) (i:Nat):V (fV V i) = V i:=(Classical.choose_spec (⟨i,rfl⟩:∃ j,V i = V j)).symm
noncomputable def RV (V:Nat→Value) (v:Value):Option (DataW Unit × List MemPlace):=
 open Classical in if h:∃ j,v = V j then some (.lit (.int .i64 ((Classical.choose h:Nat):Int)),[]) else none
theorem RV_mk (V:Nat→Value) (i:Nat):RV V (V i) = some (.lit (.int .i64 ((fV V i:Nat):Int)),[]):=by
 have h:∃ j,V i = V j:=⟨i,rfl⟩
 unfold RV
 rw [dif_pos h]
 rfl
theorem RV_inv {V:Nat→Value} {v:Value} {j:Nat} {ps:List MemPlace} (h:RV V v = some (.lit (.int .i64 (j:Int)),ps)):v = V j:=by
 unfold RV at h
 split at h
 ·rename_i hx
  simp only [Option.some.injEq,Prod.mk.injEq,DataW.lit.injEq,Lit.int.injEq] at h
  have e:Classical.choose hx = j:=by have:=h.1.2; omega
  rw [← e]
  exact Classical.choose_spec hx
 ·cases h
noncomputable def sD (V:Nat→Value):List (List UInt8 × Nat)→DataW Unit
 | l=>l.foldl (fun D p=>D.put (.string p.1) (.lit (.int .i64 ((fV V p.2:Nat):Int)))) (.map [])
theorem sD_snoc (V:Nat→Value) (l:List (List UInt8 × Nat)) (p:List UInt8 × Nat):sD V (l ++ [p]) = (sD V l).put (.string p.1) (.lit (.int .i64 ((fV V p.2:Nat):Int))):=by simp [sD]
theorem snoc_indS {α:Type} {P:List α→Prop} (h0:P []) (h1:∀ l a,P l→P (l ++ [a])) (l:List α):P l:=by
 have h:∀ r:List α,P r.reverse:=fun r=>by
  induction r with
  | nil=>exact h0
  | cons a r ih=>rw [List.reverse_cons]; exact h1 _ _ ih
 have h2:=h l.reverse
 rwa [List.reverse_reverse] at h2
theorem sD_isMap (V:Nat→Value) (l:List (List UInt8 × Nat)):IsMap (sD V l):=by
 induction l using snoc_indS with
 | h0=>exact isMap_empty
 | h1 l p ih=>rw [sD_snoc]; exact ih.put _ _
theorem lookup_snocS (l:List (List UInt8 × Nat)) (p:List UInt8 × Nat) (s:List UInt8) (hd:∀ q ∈ l,q.1 ≠ p.1):(l ++ [p]).lookup s = if s = p.1 then some p.2 else l.lookup s:=by
 induction l with
 | nil=>
  simp only [List.nil_append,List.lookup]
  by_cases h:s = p.1
  ·rw [if_pos h,h]; simp
  ·rw [if_neg h,beq_eq_false_iff_ne.2 h]
 | cons q r ih=>
  simp only [List.cons_append,List.lookup]
  by_cases h:s = q.1
  ·rw [h]
   simp only [beq_self_eq_true]
   rw [if_neg (hd q (List.mem_cons_self ..))]
  ·rw [beq_eq_false_iff_ne.2 h]
   exact ih fun x hx=>hd x (List.mem_cons_of_mem _ hx)
theorem sD_look (V:Nat→Value) (l:List (List UInt8 × Nat)) (hd:l.Pairwise (fun p q=>p.1 ≠ q.1)) (s:List UInt8) (z:Nat) :
  Maps.has (sD V l) (.string s) = (l.lookup s).isSome∧(sD V l).atKey (.string s) (.lit (.int .i64 ((fV V z:Nat):Int))) = .lit (.int .i64 ((fV V ((l.lookup s).getD z):Nat):Int)):=by
 induction l using snoc_indS with
 | h0=>exact ⟨rfl,rfl⟩
 | h1 l p ih=>
  obtain ⟨h1,_,h2⟩:=List.pairwise_append.1 hd
  obtain ⟨i1,i2⟩:=ih h1
  rw [sD_snoc,lookup_snocS l p s (fun q hq=>h2 q hq p (List.mem_singleton.2 rfl))]
  by_cases h:s = p.1
  ·subst h
   rw [if_pos rfl]
   exact ⟨has_put_same (sD_isMap V l) (show WideAt.IsKeyLit (.string p.1) from trivial) _,atKey_put_same (sD_isMap V l) (show WideAt.IsKeyLit (.string p.1) from trivial) _ _⟩
  ·have hne:(Lit.string s) ≠ .string p.1:=fun e=>h (by injection e)
   rw [if_neg h,has_put_other hne,atKey_put_other hne]
   exact ⟨i1,i2⟩
def SMap (W:World) (V:Nat→Value) (m:Nat) (l:List (List UInt8 × Nat)):Prop:=W.ownsMap Tryz.prog 9 (RV V) m l.length (sD V l)
theorem SMap.below {w w':World} {V:Nat→Value} {m:Nat} {l:List (List UInt8 × Nat)} (h:SMap w V m l) (hb:Below w.heap.size w w'):SMap w' V m l:=World.ownsMap.kept h (below_grownS (row:=none) hb) (by simp)
theorem SMap.new (w:World) (V:Nat→Value):SMap (w.alloc (.map #[] 0)) V w.heap.size []:=World.ownsMap_made _ _ _ _
theorem keyOf_text (s:List UInt8) (hs:s.length ≤ 1048576):keyOf Tryz.prog 9 (.string ⟨s.toArray⟩) = some (.string s):=by
 rw [keyOf_string Tryz.underlying9]
 have h:(⟨s.toArray⟩:ByteArray).size ≤ maxLen:=by show s.toArray.size ≤ maxLen; unfold maxLen; simp; omega
 simp [mapKey,Tryz.underlying9,h]
theorem smap_look {W:World} {V:Nat→Value} {m:Nat} {l:List (List UInt8 × Nat)} (h:SMap W V m l) (hd:l.Pairwise (fun p q=>p.1 ≠ q.1)) {t e:TypeId} (ht:Tryz.prog.underlying t = some (.map 9 e)) (z:Nat) (hz:(zeroValue e).run Tryz.prog W = .ok (V z) W) (s:List UInt8) (hs:s.length ≤ 1048576) :
  (Instr.lookup t (.map (some m)) (.string ⟨s.toArray⟩) true).run Tryz.prog W = .ok (.tuple #[V ((l.lookup s).getD z),.bool (l.lookup s).isSome]) W:=by
 obtain ⟨v,ps,hrun,hv⟩:=World.ownsMap.look_ok h (string_keyed Tryz.underlying9) ht hz (RV_mk V z) (keyOf_text s hs)
 obtain ⟨h1,h2⟩:=sD_look V l hd s z
 rw [h2] at hv
 rw [RV_inv hv,h1,fV_spec V] at hrun
 exact hrun
theorem smap_get {W:World} {V:Nat→Value} {m:Nat} {l:List (List UInt8 × Nat)} (h:SMap W V m l) (hd:l.Pairwise (fun p q=>p.1 ≠ q.1)) {t e:TypeId} (ht:Tryz.prog.underlying t = some (.map 9 e)) (z:Nat) (hz:(zeroValue e).run Tryz.prog W = .ok (V z) W) (s:List UInt8) (hs:s.length ≤ 1048576) :
  (Instr.lookup t (.map (some m)) (.string ⟨s.toArray⟩) false).run Tryz.prog W = .ok (V ((l.lookup s).getD z)) W:=by
 obtain ⟨v,ps,hrun,hv⟩:=World.ownsMap.lookup h (string_keyed Tryz.underlying9) ht hz (RV_mk V z) (keyOf_text s hs)
 obtain ⟨_,h2⟩:=sD_look V l hd s z
 rw [h2] at hv
 rw [RV_inv hv,fV_spec V] at hrun
 exact hrun
theorem wpList_putS {ops:Array Oper} {rest:List Oper} {o:Oper} {a:Act} {W:World} {Q:Exit→Act→World→Prop} (hgd:o.guard = none) (m x v:Operand) (t:TypeId) (ho:o.op = .mapUpdate t m x v) {e:TypeId} (ht:Tryz.prog.underlying t = some (.map 9 e))
  {V:Nat→Value} {mb:Nat} {l:List (List UInt8 × Nat)} (hm:a.eval m = .map (some mb)) (h:SMap W V mb l) (hl:l.length ≤ 1048576) (s:List UInt8) (hs:s.length ≤ 1048576) (i:Nat) (hx:a.eval x = .string ⟨s.toArray⟩) (hv:a.eval v = V i)
  (hK:∀ W',SMap W' V mb (l ++ [(s,i)])→W.grownBy W' (some mb)→wpList Tryz.prog ops Q rest (a.put o.dst undef) W'):wpList Tryz.prog ops Q (o :: rest) a W:=
 wpList_mapUpdate_own W hgd m x v t ho 9 e (string_keyed Tryz.underlying9) ht (RV V) mb l.length (sD V l) hm h (by unfold maxLen; omega) _ _ (.string s) hx hv (keyOf_text s hs) _ [] (RV_mk V i) fun W' h1 h2=>
  hK W' (by
   unfold SMap
   rw [sD_snoc,List.length_append]
   exact h1) h2
end Go.Proofs.YticlgcfodlcpcaaGreatDoor
namespace Go.Proofs.YticlgcfodlcpcaaGreatDoor
open Go.Lib (hid byteCells)
open Go.RowKit
theorem index_hit:∀ (l:List UInt8) (c:UInt8) (i:Nat),Lib.index l [c] = (i:Int)→i < l.length∧l = l.take i ++ c :: l.drop (i + 1)
 | [],c,i,h=>by
  have e:Lib.index [] [c] = -1:=rfl
  rw [e] at h
  omega
 | b :: r,c,i,h=>by
  unfold Lib.index at h
  split at h
  ·rename_i hp
   have hi:i = 0:=by omega
   subst hi
   have hb:c = b:=by simpa [List.isPrefixOf] using hp
   subst hb
   exact ⟨by simp,by simp⟩
  ·have hge:=Lib.index_ge r [c]
   by_cases hneg:Lib.index r [c] = -1
   ·rw [hneg] at h
    simp at h
   ·obtain ⟨j,hr⟩:∃ j:Nat,Lib.index r [c] = (j:Int):=⟨(Lib.index r [c]).toNat,by omega⟩
    rw [if_neg (by simpa using hneg),hr] at h
    obtain ⟨h1,h2⟩:=index_hit r c j hr
    have hi:i = j + 1:=by omega
    subst hi
    refine ⟨by simp; omega,?_⟩
    conv=>lhs; rw [h2]
    simp
theorem cut_yes (l:List UInt8) (c:UInt8) (h:(Lib.cut l [c]).2.2 = true):l = (Lib.cut l [c]).1 ++ c :: (Lib.cut l [c]).2.1:=by
 unfold Lib.cut at h ⊢
 split at h
 ·rename_i hge
  rw [if_pos hge]
  obtain ⟨i,hi⟩:∃ i:Nat,Lib.index l [c] = (i:Int):=⟨(Lib.index l [c]).toNat,by omega⟩
  rw [hi,Int.toNat_natCast]
  exact (index_hit l c i hi).2
 ·cases h
theorem cut_lens (l:List UInt8) (c:UInt8) (h:(Lib.cut l [c]).2.2 = true):(Lib.cut l [c]).1.length + 1 + (Lib.cut l [c]).2.1.length = l.length∧l.drop ((Lib.cut l [c]).1.length + 1) = (Lib.cut l [c]).2.1:=by
 have e:=cut_yes l c h
 constructor
 ·have:=congrArg List.length e
  rw [List.length_append,List.length_cons] at this
  omega
 ·obtain ⟨a,ha⟩:∃ a,(Lib.cut l [c]).1 = a:=⟨_,rfl⟩
  obtain ⟨r,hr⟩:∃ r,(Lib.cut l [c]).2.1 = r:=⟨_,rfl⟩
  rw [ha,hr] at e
  rw [ha,hr,e,List.drop_append,List.drop_of_length_le (by omega)]
  simp
theorem endN_le (l:List UInt8) (h:endN l ≠ 0):endN l + 1 ≤ l.length∧Lib.lastIndex l [10,10] + 1 = (endN l:Int):=by
 unfold endN at h ⊢
 unfold Lib.lastIndex at h ⊢
 split
 ·rename_i hl
  rw [if_pos hl] at h
  rcases Lib.lastOcc_spec l [10,10] (l.length - [(10:UInt8),10].length + 1) with ⟨e,_⟩ | ⟨i,hi,e,_,_⟩
  ·rw [e] at h; simp at h
  ·rw [e]
   simp at hi hl ⊢
   omega
 ·rename_i hl
  rw [if_neg hl] at h
  simp at h
theorem endN_zero (l:List UInt8) (h:endN l = 0):Lib.lastIndex l [10,10] + 1 = 0:=by
 have hge:-1 ≤ Lib.lastIndex l [10,10]:=by
  unfold Lib.lastIndex
  split
  ·rcases Lib.lastOcc_spec l [10,10] (l.length - [(10:UInt8),10].length + 1) with ⟨e,_⟩ | ⟨i,hi,e,_,_⟩ <;> omega
  ·omega
 unfold endN at h
 omega
abbrev Lines:=List (List UInt8 × List UInt8)
theorem linesN_end (f p:Nat) (acc:Lines):linesN f p [] acc = .ok acc:=by cases f <;> simp [linesN]
theorem linesN_bad (f p:Nat) (l:List UInt8) (acc:Lines) (hl:l ≠ []) (h:(Lib.cut l [10]).2.2 = false ∨ readLn (Lib.cut l [10]).1 = none ∨ (∃ x,readLn (Lib.cut l [10]).1 = some x∧((acc.any fun y=>decide (y.1 = x.1)) = true ∨ acc.length = 16))):linesN (f + 1) p l acc = .error p:=by
 rw [linesN,if_neg hl]
 cases hr:readLn (Lib.cut l [10]).1 with
 | none=>rfl
 | some x=>
  simp only
  rw [if_pos]
  rw [hr] at h
  rcases h with h | h | ⟨y,hy,h⟩
  ·exact .inl h
  ·cases h
  ·cases hy; exact .inr h
theorem linesN_go (f p:Nat) (l:List UInt8) (acc:Lines) (hl:l ≠ []) (x:List UInt8 × List UInt8) (h1:(Lib.cut l [10]).2.2 = true) (h2:readLn (Lib.cut l [10]).1 = some x) (h3:(acc.any fun y=>decide (y.1 = x.1)) = false) (h4:acc.length ≠ 16) :
  linesN (f + 1) p l acc = linesN f (p + (Lib.cut l [10]).1.length + 1) (l.drop ((Lib.cut l [10]).1.length + 1)) (acc ++ [x]):=by
 rw [linesN,if_neg hl,h2]
 simp only
 rw [if_neg (by rw [h1,h3]; simp [h4]),(cut_lens l 10 h1).2]
def metL (acc:Lines):List (List UInt8 × Nat):=acc.map fun y=>(y.1,1)
theorem metL_look (acc:Lines) (s:List UInt8):(metL acc).lookup s = if (acc.any fun y=>decide (y.1 = s)) = true then some 1 else none:=by
 induction acc with
 | nil=>rfl
 | cons y r ih=>
  have e1:(metL (y :: r)).lookup s = if s = y.1 then some 1 else (metL r).lookup s:=by
   unfold metL
   rw [List.map_cons,List.lookup]
   by_cases h:s = y.1
   ·rw [if_pos h,beq_iff_eq.2 h]
   ·rw [if_neg h,beq_eq_false_iff_ne.2 h]
  have e2:((y :: r).any fun z=>decide (z.1 = s)) = (decide (y.1 = s) || r.any fun z=>decide (z.1 = s)):=List.any_cons ..
  rw [e1,ih]
  by_cases h:s = y.1
  ·rw [if_pos h,if_pos (by rw [e2,h]; simp)]
  ·have h2:¬ y.1 = s:=fun e=>h e.symm
   rw [if_neg h]
   have e3:((y :: r).any fun z=>decide (z.1 = s)) = (r.any fun z=>decide (z.1 = s)):=by rw [e2,decide_eq_false h2,Bool.false_or]
   rw [e3]
theorem metL_dist (acc:Lines) (h:acc.Pairwise fun p q=>p.1 ≠ q.1):(metL acc).Pairwise fun p q=>p.1 ≠ q.1:=by
 unfold metL
 rw [List.pairwise_map]
 exact h
theorem dist_snoc (acc:Lines) (x:List UInt8 × List UInt8) (h:acc.Pairwise fun p q=>p.1 ≠ q.1) (hx:(acc.any fun y=>decide (y.1 = x.1)) = false):(acc ++ [x]).Pairwise fun p q=>p.1 ≠ q.1:=by
 rw [List.pairwise_append]
 refine ⟨h,List.pairwise_singleton ..,fun p hp q hq e=>?_⟩
 rw [List.mem_singleton.1 hq] at e
 have:=List.any_eq_false.1 hx p hp
 simp [e] at this
end Go.Proofs.YticlgcfodlcpcaaGreatDoor
namespace Go.Proofs.YticlgcfodlcpcaaGreatDoor
open Go.Lib (hid byteCells)
open Go.RowKit
def lcells (L:Lines):List Value:=L.flatMap fun x=>[.string ⟨x.1.toArray⟩,.string ⟨x.2.toArray⟩]
theorem lcells_snoc (L:Lines) (x:List UInt8 × List UInt8):lcells (L ++ [x]) = lcells L ++ [.string ⟨x.1.toArray⟩,.string ⟨x.2.toArray⟩]:=by simp [lcells]
theorem lcells_at:∀ (L:Lines) (i:Nat) (x:List UInt8 × List UInt8),L[i]? = some x→(lcells L)[i * 2]? = some (.string ⟨x.1.toArray⟩)∧(lcells L)[i * 2 + 1]? = some (.string ⟨x.2.toArray⟩)
 | [],i,x,h=>by simp at h
 | y :: r,0,x,h=>by
  simp only [List.getElem?_cons_zero,Option.some.injEq] at h
  subst h
  exact ⟨rfl,rfl⟩
 | y :: r,i + 1,x,h=>by
  have ih:=lcells_at r i x (by simpa using h)
  have e1:lcells (y :: r) = .string ⟨y.1.toArray⟩ :: .string ⟨y.2.toArray⟩ :: lcells r:=rfl
  rw [e1,show (i + 1) * 2 = i * 2 + 1 + 1 by omega]
  simp only [List.getElem?_cons_succ]
  exact ih
def LnIn (W:World) (v:Value) (L:Lines):Prop:=∃ ao cap,v = .slice ao L.length cap∧L.length ≤ cap∧(L ≠ []→∃ g,ao = some ⟨g,0,none⟩∧W.rangeAt g 0 (lcells L))
theorem LnIn.below {w w':World} {v:Value} {L:Lines} (h:LnIn w v L) (hb:Below w.heap.size w w'):LnIn w' v L:=by
 obtain ⟨ao,cap,rfl,hc,h2⟩:=h
 refine ⟨ao,cap,rfl,hc,fun hne=>?_⟩
 obtain ⟨g,rfl,hr⟩:=h2 hne
 exact ⟨g,rfl,range_below hb hr⟩
theorem lnIn_of_owns {W:World} {B:Nat} {v:Value} {L:Lines} (h:W.ownsRow B 92 2 v L.length (lcells L)):LnIn W v L:=by
 obtain ⟨_,ho⟩:=h
 rcases ho with ⟨rfl,hn⟩ | ⟨g,cap,cur,rfl,_,hg,hc,_,_,htk⟩
 ·exact ⟨none,0,by rw [hn],by omega,fun hne=>absurd (List.length_eq_zero_iff.1 hn) hne⟩
 ·refine ⟨_,cap,rfl,hc,fun _=>⟨g,rfl,fun j u hj=>?_⟩⟩
  rw [Nat.zero_add]
  refine cell_of hg j ?_
  rw [← htk,List.getElem?_take] at hj
  split at hj
  ·simpa using hj
  ·cases hj
def VB:Nat→Value:=fun i=>.bool (i == 1)
set_option maxRecDepth 100000 in
theorem lineInfoA:(Tryz.prog.info? 92).map (fun i=>(i.zero,i.size,i.bytes)) = some (some (.agg #[.string ⟨#[]⟩,.string ⟨#[]⟩]),2,32):=by kernel_rfl
theorem wpList_appendLn {ops:Array Oper} {rest:List Oper} {o:Oper} {a:Act} {W:World} {Q:Exit→Act→World→Prop} (hgd:o.guard = none) (s x:Operand)
  (ho:o.op = .call { callee:=.builtin .append,args:=#[s,x],argTypes:=#[88,88] }) {B m g cap:Nat} {v:Value} {xs:List Value} {nm bs:List UInt8}
  (hs:a.eval s = v) (hown:W.ownsRow B 92 2 v m xs) (hx:a.eval x = .slice (some ⟨g,0,none⟩) 1 cap) (hr:W.heap[g]? = some (.cells #[.string ⟨nm.toArray⟩,.string ⟨bs.toArray⟩] 92 (0,0))) (hm:m ≤ 1000) (hB:B ≤ W.heap.size)
  (h:∀ v' W',W'.ownsRow B 92 2 v' (m + 1) (xs ++ [.string ⟨nm.toArray⟩,.string ⟨bs.toArray⟩])→W.grownBy W' v.ownBlock→wpList Tryz.prog ops Q rest (a.put o.dst v') W'):wpList Tryz.prog ops Q (o :: rest) a W:=
 wpList_plain hgd fun K hK=>by
  obtain ⟨i0,hi,hz⟩:=Option.map_eq_some_iff.1 lineInfoA
  simp only [Prod.mk.injEq] at hz
  obtain ⟨hz0,hz1,hz2⟩:=hz
  obtain ⟨v',W',hr2,h2,h3,_,_⟩:=run_append_own_at (P:=Tryz.prog) W B 88 o.type 92 i0 _ 2 32 Tryz.underlying88 hi hz0 hz1 hz2 rfl (by decide) v m xs hown ⟨g,0,none⟩ 1 cap [.string ⟨nm.toArray⟩,.string ⟨bs.toArray⟩] rfl (fun j u hj=>by
   rw [Addr.add_mid,Nat.zero_add]
   exact cell_of hr j (by rw [← hj]; simp)) (by intro u hu; simp at hu; rcases hu with rfl | rfl <;> rfl) (by unfold maxLen; omega) (by omega) hB
  unfold Oper.wp execOp
  simp only [ho,resolve,invoke,builtin,Sem.run_bind,Sem.run_pure,Result.andThen_ok,List.map_toArray,List.map_cons,List.map_nil,hs,hx,hr2]
  exact hK _ _ (h v' W' h2 h3)
def SplitPost (S:Nat→Addr) (w:World) (A:(List UInt8 × Lines) × Nat × Option Int) (e:Ending) (w':World):Prop:=
 ∃ v ev,e = .returned (.tuple #[.string ⟨A.1.1.toArray⟩,v,ev])∧LnIn w' v A.1.2∧ErrAt S w' ev A.2.1 A.2.2∧Below w.heap.size w w'
def SRel (s:List UInt8) (w:World) (e mb:Nat) (lv av:Value) (wr:World):Prop:=
 ∃ (acc:Lines) (p f:Nat),av = .int .i64 (p:Int)∧p ≤ s.length∧s.length ≤ p + f∧linesN s.length (e + 1) (s.drop (e + 1)) [] = linesN f p (s.drop p) acc∧wr.ownsRow w.heap.size 92 2 lv acc.length (lcells acc)∧lv.ownBlock ≠ some mb∧SMap wr VB mb (metL acc)∧acc.Pairwise (fun p q=>p.1 ≠ q.1)∧acc.length ≤ 16∧Below w.heap.size w wr
theorem lnNil (W:World):LnIn W (.slice none 0 0) []:=⟨none,0,rfl,Nat.le_refl _,fun h=>absurd rfl h⟩
theorem readLn_name (row:List UInt8) (x:List UInt8 × List UInt8) (h:readLn row = some x):x.1.length ≤ 64:=by
 unfold readLn at h
 split at h
 ·rename_i hc
  cases h
  have:=(name_len hc.2.2.1).1
  exact this
 ·cases h
theorem own_ne_map {W:World} {B k n mb:Nat} {T:TypeId} {v:Value} {xs:List Value} {V:Nat→Value} {l:List (List UInt8 × Nat)} (h:W.ownsRow B T k v n xs) (hm:SMap W V mb l):v.ownBlock ≠ some mb:=fun e=>by
 obtain ⟨es,clock,hb,_⟩:=hm
 rcases h.2 with ⟨rfl,_⟩ | ⟨g,cap,cur,rfl,_,hg,_⟩
 ·cases e
 ·simp only [Value.ownBlock,Option.some.injEq] at e
  rw [e,hb] at hg
  cases hg
theorem own_form {W:World} {B k n:Nat} {T:TypeId} {v:Value} {xs:List Value} (h:W.ownsRow B T k v n xs):∃ ao c,v = .slice ao n c:=by
 rcases h.2 with ⟨rfl,rfl⟩ | ⟨g,cap,cur,rfl,_⟩
 ·exact ⟨_,_,rfl⟩
 ·exact ⟨_,_,rfl⟩
theorem cut_text (S:Nat→Addr) (l:List UInt8) (hl:l.length ≤ 1048576) (W:World) (hF:Base S W):Calls Tryz.prog 73 #[.string ⟨l.toArray⟩,.string ⟨#[10]⟩] W fun e w'=>e = .returned (.tuple #[.string ⟨(Lib.cut l [10]).1.toArray⟩,.string ⟨(Lib.cut l [10]).2.1.toArray⟩,.bool (Lib.cut l [10]).2.2])∧Below W.heap.size W w':=by
 obtain ⟨m,hm⟩:=hF.mx
 refine (Tryz.strings_Cut ⟨l.toArray⟩ ⟨#[10]⟩ m W (by show l.toArray.size < _; simp; omega) hm).mono ?_
 rintro e w' ⟨he,n,rfl⟩
 exact ⟨he,rfl,rfl,rfl,Nat.le_refl _,fun _ _=>rfl⟩
set_option maxHeartbeats 8000000 in
set_option maxRecDepth 100000 in
theorem split_any (S:Nat→Addr) (s:List UInt8) (hs:s.length ≤ 4611686018427386000) (w:World) (hF:Base S w) :
  Calls Tryz.prog 33 #[.string ⟨s.toArray⟩] w fun e w'=>SplitPost S w (splitN s) e w':=by
 have HF:=hid hF
 obtain ⟨A,hA⟩:∃ A,splitN s = A:=⟨_,rfl⟩
 rw [hA]
 have hsz:(⟨s.toArray⟩:ByteArray).size = s.length:=by show s.toArray.size = _; simp
 have HSZ:=hid hsz
 have HO:=hid (odd_any ⟨s.toArray⟩ w)
 have HWR:=hid fun (z:Int) (W:World) (hW:Below w.heap.size w W)=>nwrong_any S z W (HF.out.below hW)
 have hLI:=fun W=>Tryz.strings_LastIndex ⟨s.toArray⟩ ⟨#[10,10]⟩ (by rw [hsz]; omega) W
 rw [show (⟨s.toArray⟩:ByteArray).data.toList = s from rfl] at HO hLI
 rw [show (⟨#[10,10]⟩:ByteArray).data.toList = [10,10] from rfl] at hLI
 clear hsz
 by_cases hbig:1048576 < s.length
 ·have hr:A = (([],[]),4,none):=by rw [← hA]; unfold splitN; rw [if_pos hbig]
  have g4:=hF.var 4 (by omega) (by omega)
  simp only [errG,errV] at g4
  rw [hr]
  have i1:(1048576:Int) < (s.length:Int):=by omega
  clear hF hA hr HO hbig hLI HWR
  go_enter Tryz.func33,Tryz.ntmps33
  go_wp2_with fail
  go_quiet (fail)
  go_wp2_with fail
  go_ret3
  exact ⟨_,_,rfl,lnNil _,.inr (.inl ⟨by decide,by decide,rfl,rfl⟩),⟨rfl,rfl,rfl,Nat.le_refl _,fun _ _=>rfl⟩⟩
 have hbig':¬ (1048576:Int) < (s.length:Int):=by omega
 have hlen:s.length ≤ 1048576:=by omega
 have hA1:A = match oddAt s.length 0 s with
  | some i=>(([],[]),3,some (i:Int))
  | none=>if endN s = 0 ∨ 524288 < endN s then (([],[]),3,some (s.length:Int)) else toldN s.length (s.take (endN s)) (linesN s.length (endN s + 1) (s.drop (endN s + 1)) []):=by rw [← hA]; unfold splitN; rw [if_neg hbig]; rfl
 clear hA hF hbig hs
 cases hodd:oddAt s.length 0 s with
 | some i=>
  rw [hodd] at hA1 HO
  simp only at hA1
  unfold oddV at HO
  subst hA1
  clear hodd hLI
  go_enter Tryz.func33,Tryz.ntmps33
  go_wp2_with (first | (go_at_call 70; refine HO.out.mono ?_; rintro e w1 ⟨rfl,hb1⟩; have HB1:=hid hb1; clear hb1) | (go_at_call 71; refine (HWR.out _ _ HB1.out).mono ?_; rintro e w3 ⟨ev,rfl,hev,hb3⟩))
  go_ret3
  exact ⟨_,ev,rfl,lnNil _,hev,HB1.out.trans (hb3.mono HB1.out.size)⟩
 | none=>
  rw [hodd] at hA1 HO
  simp only at hA1
  unfold oddV at HO
  clear hodd
  by_cases he0:endN s = 0
  ·have hLL:=endN_zero s he0
   obtain ⟨L,hL⟩:∃ L,Lib.lastIndex s [10,10] = L:=⟨_,rfl⟩
   rw [hL] at hLL hLI
   obtain rfl:L = -1:=by omega
   have HLI:=hid hLI
   rw [if_pos (.inl he0)] at hA1
   subst hA1
   clear hLI hL he0 hLL
   go_enter Tryz.func33,Tryz.ntmps33
   go_wp2_with (first | (go_at_call 70; refine HO.out.mono ?_; rintro e w1 ⟨rfl,hb1⟩; have HB1:=hid hb1; clear hb1) | (go_at_call 72; refine (HLI.out _).mono ?_; rintro e w2 ⟨rfl,hw2⟩; subst hw2) | (go_at_call 71; refine (HWR.out _ _ HB1.out).mono ?_; rintro e w3 ⟨ev,rfl,hev,hb3⟩))
   go_ret3
   exact ⟨_,ev,rfl,lnNil _,hev,HB1.out.trans (hb3.mono HB1.out.size)⟩
  ·obtain ⟨hel,hLL⟩:=endN_le s he0
   obtain ⟨e,he⟩:∃ e,endN s = e:=⟨_,rfl⟩
   rw [he] at hel hLL hA1 he0
   obtain ⟨L,hL⟩:∃ L,Lib.lastIndex s [10,10] = L:=⟨_,rfl⟩
   rw [hL] at hLL hLI
   obtain rfl:L = (e:Int) - 1:=by omega
   have HLI:=hid hLI
   clear hLI hL he hLL
   have e0:¬ (e:Int) = 0:=by omega
   have e1:(0:Int) ≤ (e:Int):=by omega
   have e2:(e:Int) ≤ 1048576:=by omega
   by_cases hem:524288 < e
   ·have e3:(524288:Int) < (e:Int):=by omega
    rw [if_pos (.inr hem)] at hA1
    subst hA1
    clear hem he0 hel
    go_enter Tryz.func33,Tryz.ntmps33
    go_wp2_with (first | (go_at_call 70; refine HO.out.mono ?_; rintro e w1 ⟨rfl,hb1⟩; have HB1:=hid hb1; clear hb1) | (go_at_call 72; refine (HLI.out _).mono ?_; rintro e w2 ⟨rfl,hw2⟩; subst hw2) | (go_at_call 71; refine (HWR.out _ _ HB1.out).mono ?_; rintro e w3 ⟨ev,rfl,hev,hb3⟩))
    go_ret3
    exact ⟨_,ev,rfl,lnNil _,hev,HB1.out.trans (hb3.mono HB1.out.size)⟩
   ·have e3:¬ (524288:Int) < (e:Int):=by omega
    rw [if_neg (by omega)] at hA1
    have HEL:=hid hel
    have HLEN:=hid hlen
    clear hem hel hlen
    have hmm:=@run_makeMap Tryz.prog
    have e0b:((e:Int) == 0) = false:=by rw [beq_eq_false_iff_ne]; exact e0
    have e3b:decide ((524288:Int) < (e:Int)) = false:=decide_eq_false e3
    go_enter Tryz.func33,Tryz.ntmps33
    go_upto_region 11 with (first | (go_at_call 70; refine HO.out.mono ?_; rintro e w1 ⟨rfl,hb1⟩; have HB1:=hid hb1; clear hb1) | (go_at_call 72; refine (HLI.out _).mono ?_; rintro e w2 ⟨rfl,hw2⟩; subst hw2))
    have HS0:=hid (show SRel s w e w2.heap.size (.slice none 0 0) (.int .i64 ((e + 1:Nat):Int)) (w2.alloc (.map #[] 0)) from
     ⟨[],e + 1,s.length,rfl,HEL.out,by omega,rfl,⟨rfl,.inl ⟨rfl,rfl⟩⟩,by simp [Value.ownBlock],SMap.new w2 VB,List.Pairwise.nil,by decide,HB1.out.alloc HB1.out.size _⟩)
    have HMB:=hid HB1.out.size
    generalize w2.alloc (.map #[] 0) = wm at *
    generalize w2.heap.size = mb at *
    clear HB1 hmm
    go_wp2_with fail
    go_loopw [8,10] (fun lv av wr=>SRel s w e mb lv av wr) (fun _ av _=>s.length - (intOf av).toNat)
    case atStart=>first | exact HS0.out | (have h:=HS0.out; simpa using h)
    case round=>
     obtain ⟨acc,p,f,rfl,hp,hf,hlin,hown,hne,hmap,hdist,h16,hbel⟩:=hrel
     rename World=>wr
     clear HS0
     obtain ⟨lao,lcap,rfl⟩:=own_form hown
     have HLIN:=hid hlin
     have HOWN:=hid hown
     have HMAP:=hid hmap
     have HDI:=hid hdist
     have HBL:=hid hbel
     have p0:(0:Int) ≤ (p:Int):=by omega
     have p1:(p:Int) ≤ (s.length:Int):=by omega
     have p2:(s.length:Int) ≤ 1048576:=by have:=HLEN.out; omega
     by_cases hlt:p < s.length
     ·have i1:(p:Int) < (s.length:Int):=by omega
      obtain ⟨f',rfl⟩:∃ f',f = f' + 1:=⟨f - 1,by omega⟩
      have hdl:(s.drop p).length = s.length - p:=by rw [List.length_drop]
      have hdn:s.drop p ≠ []:=fun e=>by rw [e] at hdl; simp at hdl; omega
      have hsl:∀ W:World,(Instr.slice 9 (.string ⟨s.toArray⟩) (some (.int .i64 (p:Int))) none none).run Tryz.prog W = .ok (.string ⟨(s.drop p).toArray⟩) W:=fun W=>by
       rw [run_slice_string_from_if W 9 ⟨s.toArray⟩ .i64 (p:Int) Tryz.underlying9,if_pos ⟨p0,by rw [HSZ.out]; exact p1⟩]
       refine congrArg (fun x=>Result.ok (Value.string x) W) (ByteArray.ext ?_)
       rw [ByteArray.data_extract,Int.toNat_natCast,HSZ.out]
       simp
       exact List.take_of_length_le (by rw [List.length_drop]; exact Nat.le_refl _)
      have hCU:=cut_text S (s.drop p) (by have:=HLEN.out; omega) wr (HF.out.below hbel)
      have hbad:=linesN_bad f' p (s.drop p) acc hdn
      have hgo:=linesN_go f' p (s.drop p) acc hdn
      have hcl:=cut_len (s.drop p) [10]
      have hcl2:=cut_lens (s.drop p) 10
      obtain ⟨row,hrow⟩:∃ x,(Lib.cut (s.drop p) [10]).1 = x:=⟨_,rfl⟩
      obtain ⟨rest,hrest⟩:∃ x,(Lib.cut (s.drop p) [10]).2.1 = x:=⟨_,rfl⟩
      obtain ⟨nd,hnd⟩:∃ x,(Lib.cut (s.drop p) [10]).2.2 = x:=⟨_,rfl⟩
      rw [hrow,hrest,hnd] at hCU hcl2
      rw [hrow,hnd] at hbad hgo
      rw [hrow,hrest] at hcl
      have HCU:=hid hCU
      have hRL:=fun x=>readLn_name row x
      have HRE:=hid fun (W:World) (hW:Below w.heap.size w W)=>nread_any S row (by have:=HLEN.out; omega) W (HF.out.below hW)
      obtain ⟨R,hR⟩:∃ R,readLn row = R:=⟨_,rfl⟩
      rw [hR] at HRE hbad hgo hRL
      have HRL:=hid hRL
      clear hRL
      have HBAD:=hid (fun h=>(show A = (([],[]),3,some (p:Int)) by rw [hA1,HLIN.out,hbad h]; rfl))
      have HGO:=hid hgo
      have HCL2:=hid hcl2
      have HCL:=hid hcl
      have HP:=hid hlt
      have HFL:=hid hf
      clear hCU hbad hgo hcl hcl2 hrow hrest hnd hR hdn hlin hown hne hmap hdist hbel hlt hf hp
      cases nd with
      | false=>
       have HAE:=hid (HBAD.out (.inl rfl))
       cases R with
       | none=>
        unfold readV at HRE
        go_upto_region 15 with (first | (go_at_call 73; refine HCU.out.mono ?_; rintro e w2 ⟨rfl,hb2⟩; have HB2:=hid (HBL.out.trans (hb2.mono HBL.out.size)); have HBS:=hid hb2; clear hb2) | (go_at_call 74; refine (HRE.out _ HB2.out).mono ?_; rintro e w4 ⟨rfl,hb4⟩; have HB4:=hid (HB2.out.trans (hb4.mono HB2.out.size)); have HBS:=hid (HBS.out.trans (hb4.mono HBS.out.size)); clear hb4))
        have HB5:=hid (HB4.out.trans ((below_one w4 (.cells #[.string ⟨#[]⟩,.string ⟨#[]⟩] 92)).mono HB4.out.size))
        have hxc:=heap_one w4 (.cells #[.string ⟨#[]⟩,.string ⟨#[]⟩] 92 (0,0))
        generalize w4.alloc (.cells #[.string ⟨#[]⟩,.string ⟨#[]⟩] 92) = w5 at *
        go_wp2_with (go_at_call 71; refine (HWR.out _ _ HB5.out).mono ?_; rintro e w3 ⟨ev,rfl,hev,hb3⟩)
        go_ret3
        refine ⟨.slice none 0 0,ev,?_,?_,?_,HB5.out.trans (hb3.mono HB5.out.size)⟩
        ·rw [HAE.out]; rfl
        ·rw [HAE.out]; exact lnNil _
        ·rw [HAE.out]; exact hev
       | some x=>
        unfold readV at HRE
        go_upto_region 15 with (first | (go_at_call 73; refine HCU.out.mono ?_; rintro e w2 ⟨rfl,hb2⟩; have HB2:=hid (HBL.out.trans (hb2.mono HBL.out.size)); have HBS:=hid hb2; clear hb2) | (go_at_call 74; refine (HRE.out _ HB2.out).mono ?_; rintro e w4 ⟨rfl,hb4⟩; have HB4:=hid (HB2.out.trans (hb4.mono HB2.out.size)); have HBS:=hid (HBS.out.trans (hb4.mono HBS.out.size)); clear hb4))
        have HB5:=hid (HB4.out.trans ((below_one w4 (.cells #[.string ⟨x.1.toArray⟩,.string ⟨x.2.toArray⟩] 92)).mono HB4.out.size))
        have hxc:=heap_one w4 (.cells #[.string ⟨x.1.toArray⟩,.string ⟨x.2.toArray⟩] 92 (0,0))
        generalize w4.alloc (.cells #[.string ⟨x.1.toArray⟩,.string ⟨x.2.toArray⟩] 92) = w5 at *
        go_wp2_with (go_at_call 71; refine (HWR.out _ _ HB5.out).mono ?_; rintro e w3 ⟨ev,rfl,hev,hb3⟩)
        go_ret3
        refine ⟨.slice none 0 0,ev,?_,?_,?_,HB5.out.trans (hb3.mono HB5.out.size)⟩
        ·rw [HAE.out]; rfl
        ·rw [HAE.out]; exact lnNil _
        ·rw [HAE.out]; exact hev
      | true=>
       cases R with
       | none=>
        have HAE:=hid (HBAD.out (.inr (.inl rfl)))
        unfold readV at HRE
        go_upto_region 15 with (first | (go_at_call 73; refine HCU.out.mono ?_; rintro e w2 ⟨rfl,hb2⟩; have HB2:=hid (HBL.out.trans (hb2.mono HBL.out.size)); have HBS:=hid hb2; clear hb2) | (go_at_call 74; refine (HRE.out _ HB2.out).mono ?_; rintro e w4 ⟨rfl,hb4⟩; have HB4:=hid (HB2.out.trans (hb4.mono HB2.out.size)); have HBS:=hid (HBS.out.trans (hb4.mono HBS.out.size)); clear hb4))
        have HB5:=hid (HB4.out.trans ((below_one w4 (.cells #[.string ⟨#[]⟩,.string ⟨#[]⟩] 92)).mono HB4.out.size))
        have hxc:=heap_one w4 (.cells #[.string ⟨#[]⟩,.string ⟨#[]⟩] 92 (0,0))
        generalize w4.alloc (.cells #[.string ⟨#[]⟩,.string ⟨#[]⟩] 92) = w5 at *
        go_wp2_with (go_at_call 71; refine (HWR.out _ _ HB5.out).mono ?_; rintro e w3 ⟨ev,rfl,hev,hb3⟩)
        go_ret3
        refine ⟨.slice none 0 0,ev,?_,?_,?_,HB5.out.trans (hb3.mono HB5.out.size)⟩
        ·rw [HAE.out]; rfl
        ·rw [HAE.out]; exact lnNil _
        ·rw [HAE.out]; exact hev
       | some x=>
        unfold readV at HRE
        obtain ⟨nm,bs⟩:=x
        obtain ⟨B,hB⟩:∃ B,(acc.any fun y=>decide (y.1 = nm)) = B:=⟨_,rfl⟩
        have HLK:=hid fun (W:World) (hW:SMap W VB mb (metL acc))=>(smap_get hW (metL_dist acc HDI.out) Tryz.underlying129 0 rfl nm (by have:=HRL.out _ rfl; simp only at this; omega):(Instr.lookup 129 (.map (some mb)) (.string ⟨nm.toArray⟩) false).run Tryz.prog W = .ok (VB (((metL acc).lookup nm).getD 0)) W)
        have hvb:VB (((metL acc).lookup nm).getD 0) = .bool B:=by
         rw [metL_look,hB]
         cases B <;> rfl
        rw [hvb] at HLK
        have hnm:nm.length ≤ 64:=HRL.out _ rfl
        have HNM:=hid hnm
        clear hvb
        go_upto_region 15 with (first | (go_at_call 73; refine HCU.out.mono ?_; rintro e w2 ⟨rfl,hb2⟩; have HB2:=hid (HBL.out.trans (hb2.mono HBL.out.size)); have HBS:=hid hb2; clear hb2) | (go_at_call 74; refine (HRE.out _ HB2.out).mono ?_; rintro e w4 ⟨rfl,hb4⟩; have HB4:=hid (HB2.out.trans (hb4.mono HB2.out.size)); have HBS:=hid (HBS.out.trans (hb4.mono HBS.out.size)); clear hb4))
        have HB5:=hid (HB4.out.trans ((below_one w4 (.cells #[.string ⟨nm.toArray⟩,.string ⟨bs.toArray⟩] 92)).mono HB4.out.size))
        have HBS5:=hid (HBS.out.trans ((below_one w4 (.cells #[.string ⟨nm.toArray⟩,.string ⟨bs.toArray⟩] 92)).mono HBS.out.size))
        have hxc:=heap_one w4 (.cells #[.string ⟨nm.toArray⟩,.string ⟨bs.toArray⟩] 92 (0,0))
        generalize w4.alloc (.cells #[.string ⟨nm.toArray⟩,.string ⟨bs.toArray⟩] 92) = w5 at *
        generalize w4.heap.size = xb at *
        have HXC:=hid hxc
        have HMP5:=hid (HMAP.out.below HBS5.out)
        have HOW5:=hid (rowKeepK HOWN.out fun g hg=>HBS5.out.block g (HOWN.out.lt g hg).2)
        have c0:=cell_of hxc 0 rfl
        have hlk:=HLK.out w5 HMP5.out
        clear hxc HB4 HBS HRE HCU HLK
        cases B with
        | true=>
         have HAE:=hid (HBAD.out (.inr (.inr ⟨_,rfl,.inl hB⟩)))
         clear hB
         go_wp2_with (go_at_call 71; refine (HWR.out _ _ HB5.out).mono ?_; rintro e w3 ⟨ev,rfl,hev,hb3⟩)
         go_ret3
         refine ⟨.slice none 0 0,ev,?_,?_,?_,HB5.out.trans (hb3.mono HB5.out.size)⟩
         ·rw [HAE.out]; rfl
         ·rw [HAE.out]; exact lnNil _
         ·rw [HAE.out]; exact hev
        | false=>
         by_cases h16e:acc.length = 16
         ·have HAE:=hid (HBAD.out (.inr (.inr ⟨_,rfl,.inr h16e⟩)))
          have l16:(acc.length:Int) = 16:=by omega
          clear hB h16 h16e
          go_wp2_with (go_at_call 71; refine (HWR.out _ _ HB5.out).mono ?_; rintro e w3 ⟨ev,rfl,hev,hb3⟩)
          go_ret3
          refine ⟨.slice none 0 0,ev,?_,?_,?_,HB5.out.trans (hb3.mono HB5.out.size)⟩
          ·rw [HAE.out]; rfl
          ·rw [HAE.out]; exact lnNil _
          ·rw [HAE.out]; exact hev
         ·have HGG:=hid (by first | exact HGO.out (nm,bs) rfl rfl hB h16e | exact HGO.out (nm,bs) trivial rfl hB h16e | exact HGO.out (nm,bs) trivial trivial hB h16e)
          have HDN:=hid (dist_snoc acc (nm,bs) HDI.out hB)
          have l16:¬ (acc.length:Int) = 16:=by omega
          have l16b:((acc.length:Int) == 16) = false:=by rw [beq_eq_false_iff_ne]; exact l16
          have H16:=hid (show acc.length < 16 by omega)
          clear hB h16 h16e
          go_upto_region 17 with fail
          go_upto_region 18 with (at_mapUpdate; refine wpList_putS (by rfl) (.tmp 79) (.tmp 81) _ 129 (by rfl) Tryz.underlying129 (by rfl) HMP5.out (by unfold metL; rw [List.length_map]; have:=H16.out; omega) nm (by have:=HNM.out; omega) 1 (by rfl) (by rfl) ?_; intro w6 hm6 hg6)
          have hxm:xb ≠ mb:=fun e=>by
           obtain ⟨es,clock,hb,_⟩:=HMP5.out
           have h:=HXC.out
           rw [e,hb] at h
           cases h
          have HX6:=hid ((hg6.block xb (lt_of_heap HXC.out) (fun e=>hxm (by injection e))).trans HXC.out)
          have HOW6:=hid (rowKeepK HOW5.out fun g hg=>hg6.block g (HOW5.out.lt g hg).2 (fun e=>own_ne_map HOW5.out HMP5.out (hg.trans e)))
          have HM6:=hid (show SMap w6 VB mb (metL (acc ++ [(nm,bs)])) by
           have e:metL (acc ++ [(nm,bs)]) = metL acc ++ [(nm,1)]:=by simp [metL]
           rw [e]
           exact hm6)
          have HB6:=hid (HB5.out.grown hg6 HB5.out.size (fun g hg=>by cases hg; exact HMB.out))
          have hb67:=below_one w6 (.cells #[.string ⟨nm.toArray⟩,.string ⟨bs.toArray⟩] 92)
          have HOW7:=hid (rowKeepK HOW6.out fun g hg=>hb67.block g (HOW6.out.lt g hg).2)
          have HM7:=hid (HM6.out.below hb67)
          have HB7:=hid (HB6.out.trans (hb67.mono HB6.out.size))
          have c0:=cell_of HX6.out 0 rfl
          have c1:=cell_of HX6.out 1 rfl
          clear hm6 hg6 hxm hb67 hlk HB5 HBS5 HXC HMP5 HOW5
          go_upto_region 19 with (refine wpList_appendLn (by rfl) (.tmp 82) (.tmp 84) (by rfl) (by rfl) HOW7.out (by rfl) (heap_one w6 _) (by have:=H16.out; omega) HB7.out.size ?_; intro v8 w8 h2 h3)
          obtain ⟨ao8,c8,rfl⟩:=own_form h2
          have HM8:=hid (World.ownsMap.kept HM7.out h3 (fun e=>own_ne_map HOW7.out HM7.out e.symm):SMap w8 VB mb (metL (acc ++ [(nm,bs)])))
          have HB8:=hid (HB7.out.grown h3 HB7.out.size (fun g hg=>(HOW7.out.lt g hg).1))
          have HOW8:=hid h2
          clear h2 h3 c0 c1 HX6 HOW6 HM6 HB6 HOW7 HM7 HB7
          have hrl:row.length + 1 + rest.length = s.length - p:=by
           have h:=(by first | exact (HCL2.out rfl).1 | exact (HCL2.out trivial).1 | exact HCL2.out.1:row.length + 1 + rest.length = (s.drop p).length)
           rw [List.length_drop] at h
           exact h
          have HRL2:=hid hrl
          have r1:(rest.length:Int) ≤ (s.length:Int):=by omega
          have r0:(0:Int) ≤ (s.length:Int) - (rest.length:Int):=by omega
          clear hrl
          go_wp2_with fail
          refine ⟨⟨acc ++ [(nm,bs)],p + row.length + 1,f',?_,?_,?_,?_,?_,?_,HM8.out,HDN.out,?_,HB8.out⟩,?_⟩
          ·have:=HRL2.out
           have:=HP.out
           congr 1
           omega
          ·have:=HRL2.out; have:=HP.out; omega
          ·have:=HFL.out; omega
          ·rw [HLIN.out,HGG.out,List.drop_drop]
           rfl
          ·rw [List.length_append,List.length_singleton,lcells_snoc]
           exact HOW8.out
          ·exact own_ne_map HOW8.out HM8.out
          ·rw [List.length_append,List.length_singleton]; have:=H16.out; omega
          ·have:=HRL2.out; have:=HP.out; simp [intOf]; omega
     ·obtain rfl:p = s.length:=by omega
      have i1:¬ (s.length:Int) < (s.length:Int):=by omega
      have HFIN:=hid (show A = toldN s.length (s.take e) (.ok acc) by rw [hA1,HLIN.out,List.drop_of_length_le (Nat.le_refl _),linesN_end])
      have HWB:=hid hbel
      clear hlin hown hne hmap hdist hbel hf hp hlt HLIN hA1
      cases acc with
      | nil=>
       have HAE:=hid (show A = (([],[]),3,some (s.length:Int)) from HFIN.out)
       go_wp2_with (go_at_call 71; refine (HWR.out _ _ HWB.out).mono ?_; rintro e w3 ⟨ev,rfl,hev,hb3⟩)
       go_ret3
       refine ⟨.slice none 0 0,ev,?_,?_,?_,HWB.out.trans (hb3.mono HWB.out.size)⟩
       ·rw [HAE.out]; rfl
       ·rw [HAE.out]; exact lnNil _
       ·rw [HAE.out]; exact hev
      | cons x r=>
       have HAE:=hid (show A = ((s.take e,x :: r),0,none) from HFIN.out)
       have hsl:∀ W:World,(Instr.slice 9 (.string ⟨s.toArray⟩) none (some (.int .i64 (e:Int))) none).run Tryz.prog W = .ok (.string ⟨(s.take e).toArray⟩) W:=fun W=>by
        rw [run_slice_string_to_if W 9 ⟨s.toArray⟩ .i64 (e:Int) Tryz.underlying9,if_pos ⟨e1,by rw [HSZ.out]; have:=HEL.out; omega⟩]
        refine congrArg (fun x=>Result.ok (Value.string x) W) (ByteArray.ext ?_)
        rw [ByteArray.data_extract,Int.toNat_natCast]
        simp
       have ln0:(((x :: r).length:Int) == 0) = false:=by rw [beq_eq_false_iff_ne,List.length_cons]; omega
       have hlnr:(x :: r).length = r.length + 1:=rfl
       have HLI2:=hid (lnIn_of_owns HOWN.out)
       go_wp2_with fail
       go_ret3
       refine ⟨.slice lao (x :: r).length lcap,.nilIface,?_,?_,?_,HWB.out⟩
       ·rw [HAE.out]; rfl
       ·rw [HAE.out]; exact HLI2.out
       ·rw [HAE.out]; exact ErrAt.nil S _
end Go.Proofs.YticlgcfodlcpcaaGreatDoor
