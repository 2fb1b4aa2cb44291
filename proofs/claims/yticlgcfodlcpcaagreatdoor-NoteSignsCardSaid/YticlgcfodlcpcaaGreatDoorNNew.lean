/- A load may be taken first in a region that draws its order,where its cell is written only by what waits for the operation t,and t waits for the load: S false  -/
import Derived.Deep.RegionHeld
import Derived.Test.YticlgcfodlcpcaaGreatDoorNOnce
import Derived.Maps.AppendAt
namespace Go
section
variable {P:Program} {ops:Array Oper} {Q:Exit→Act→World→Prop} {md:Region.Mode} {S:Bool→World→Prop} {t:Nat}
def wpAnyT (P:Program) (md:Region.Mode) (ops:Array Oper) (Q:Exit→Act→World→Prop) (S:Bool→World→Prop) (t:Nat):Nat→Array Bool→Act→World→Prop
 | 0,listed,a,w=>Region.ready md ops listed = []∧Q .normal a w
 | fuel + 1,listed,a,w=>
  (Region.ready md ops listed = []→Q .normal a w) ∧
  ∀ i ∈ Region.ready md ops listed,wpOp P ops Q i (fun a' w'=>S ((listed.setIfInBounds i true).getD t false) w'∧wpAnyT P md ops Q S t fuel (listed.setIfInBounds i true) a' w') a w
theorem wpAny_of_till:∀ (fuel:Nat) (listed:Array Bool) (a:Act) (w:World),wpAnyT P md ops Q S t fuel listed a w→wpAny P md ops Q fuel listed a w
 | 0,_,_,_,h=>h
 | fuel + 1,_,_,_,h=>⟨h.1,fun i hi=>wpOp_mono (fun a' w' h'=>wpAny_of_till fuel _ a' w' h'.2) (h.2 i hi)⟩
theorem wpAnyT_first {B:Bool→Prop} {i:Nat} {oi:Oper} {v:Value} (hi:ops[i]? = some oi) (hit:i ≠ t) (hsel:∀ (j:Nat) (o:Oper) cs b,ops[j]? = some o→o.op ≠ .select cs b)
  (hQ:∀ c a w,Q (.panic c) (a.put oi.dst v) w→Q (.panic c) a w)
  (hBB:∀ (listed:Array Bool) (j:Nat),i ∈ Region.ready md ops listed→B (listed.getD t false)→j ∈ Region.ready md ops listed→j ≠ i→B ((listed.setIfInBounds j true).getD t false)) :
  ∀ (fuel:Nat) (listed:Array Bool) (a:Act) (w:World),
   (∀ j oj,ops[j]? = some oj→j ≠ i→listed.getD j true = false→(∀ e ∈ oj.after,Region.binds md e = true→e.on ≠ i)→oi.apart ops oj = true) →
   i ∈ Region.ready md ops listed→YieldsIf P ops (fun w=>∃ b,B b∧S b w) oi v a→B (listed.getD t false)→S (listed.getD t false) w →
   wpAnyT P md ops Q S t fuel (listed.setIfInBounds i true) (a.put oi.dst v) w→wpAnyT P md ops Q S t (fuel + 1) listed a w:=by
 intro fuel
 induction fuel with
 | zero=>
  intro listed a w _ hr hy hb hS H
  refine ⟨fun h=>(by rw [h] at hr; cases hr),fun j hj=>?_⟩
  by_cases hji:j = i
  ·subst hji; exact hy.wpOp hi ⟨_,hb,hS⟩ ⟨by rw [getD_set_ne _ hit]; exact hS,H⟩
  ·have:=ready_mono hj hji
   rw [H.1] at this
   cases this
 | succ fuel ih=>
  intro listed a w hfree hr hy hb hS H
  refine ⟨fun h=>(by rw [h] at hr; cases hr),fun j hj=>?_⟩
  by_cases hji:j = i
  ·subst hji; exact hy.wpOp hi ⟨_,hb,hS⟩ ⟨by rw [getD_set_ne _ hit]; exact hS,H⟩
  ·have h1:=H.2 j (ready_mono hj hji)
   obtain ⟨hjun,oj,hoj,hall⟩:=mem_ready.1 hj
   have hnot:∀ e ∈ oj.after,Region.binds md e = true→e.on ≠ i:=fun e he hb heq=>by
    have h1:=hall e he hb
    have h0:=(mem_ready.1 hr).1
    rw [heq] at h1
    rcases Nat.lt_or_ge i listed.size with h' | h'
    ·simp [h'] at h0 h1; rw [h0] at h1; cases h1
    ·simp [Array.getElem?_eq_none h'] at h1
   have h2:=wpOp_putIf hoj (hfree j oj hoj hji hjun hnot) (fun cs b=>hsel i oi cs b hi) (fun cs b=>hsel j oj cs b hoj) hQ hy h1
   have hfree':∀ k ok,ops[k]? = some ok→k ≠ i→(listed.setIfInBounds j true).getD k true = false →
     (∀ e ∈ ok.after,Region.binds md e = true→e.on ≠ i)→oi.apart ops ok = true:=fun k ok hk hki hun hno=>by
    refine hfree k ok hk hki ?_ hno
    by_cases hjk:j = k
    ·subst hjk; exact hjun
    ·rw [getD_set_ne true hjk] at hun; exact hun
   have hb':=hBB listed j hr hb hj hji
   refine wpOp_mono (fun a' w' h3=>?_) h2
   have hs3:S ((listed.setIfInBounds j true).getD t false) w':=by
    have:=h3.2.1
    rw [Array.setIfInBounds_comm _ _ (Ne.symm hji),getD_set_ne _ hit] at this
    exact this
   refine ⟨hs3,ih (listed.setIfInBounds j true) a' w' hfree' (ready_mono hr (Ne.symm hji)) h3.1 hb' hs3 ?_⟩
   rw [Array.setIfInBounds_comm _ _ hji]
   exact h3.2.2
theorem wpAnyT_take {i:Nat} {oi:Oper} {v:Value} {fuel:Nat} {listed:Array Bool} {a:Act} {w:World} (hi:ops[i]? = some oi) (hit:i ≠ t)
  (hs:Region.noSelect ops = true) (hf:Region.free md ops listed i = true) (hr:(Region.ready md ops listed).contains i = true)
  (hQ:∀ c a w,Q (.panic c) (a.put oi.dst v) w→Q (.panic c) a w) (hy:YieldsIf P ops (fun w=>∃ b,S b w) oi v a) (hS:S (listed.getD t false) w)
  (h:wpAnyT P md ops Q S t fuel (listed.setIfInBounds i true) (a.put oi.dst v) w):wpAnyT P md ops Q S t (fuel + 1) listed a w:=
 wpAnyT_first (B:=fun _=>True) hi hit (Region.noSelect_spec hs) hQ (fun _ _ _ _ _ _=>trivial) fuel listed a w (Region.free_spec hi hf) (by simpa using hr)
  (hy.imp (fun ⟨x,hx⟩=>⟨x,fun w ⟨b,_,hb⟩=>hx w ⟨b,hb⟩⟩) id) trivial hS h
theorem wpAnyT_takeF {i:Nat} {oi:Oper} {v:Value} {fuel:Nat} {listed:Array Bool} {a:Act} {w:World} (hi:ops[i]? = some oi) (hit:i ≠ t)
  (hwt:(ops[t]?.any fun o=>o.after.any fun e=>Region.binds md e && e.on == i) = true) (ht:listed.getD t false = false)
  (hs:Region.noSelect ops = true) (hf:Region.free md ops listed i = true) (hr:(Region.ready md ops listed).contains i = true)
  (hQ:∀ c a w,Q (.panic c) (a.put oi.dst v) w→Q (.panic c) a w) (hy:YieldsIf P ops (S false) oi v a) (hS:S (listed.getD t false) w)
  (h:wpAnyT P md ops Q S t fuel (listed.setIfInBounds i true) (a.put oi.dst v) w):wpAnyT P md ops Q S t (fuel + 1) listed a w:=
 wpAnyT_first (B:=fun b=>b = false) hi hit (Region.noSelect_spec hs) hQ (fun L j hri hb hj hji=>by
  have hjt:j ≠ t:=fun e=>by
   subst e
   obtain ⟨hjun,oj,hoj,hall⟩:=mem_ready.1 hj
   rw [hoj] at hwt
   simp only [Option.any_some,Array.any_eq_true',Bool.and_eq_true,beq_iff_eq] at hwt
   obtain ⟨e,he,hbd,heq⟩:=hwt
   have h1:=hall e he hbd
   have h0:=(mem_ready.1 hri).1
   rw [heq] at h1
   rcases Nat.lt_or_ge i L.size with h' | h'
   ·simp [h'] at h0 h1; rw [h0] at h1; cases h1
   ·simp [Array.getElem?_eq_none h'] at h1
  rw [getD_set_ne _ hjt]
  exact hb) fuel listed a w (Region.free_spec hi hf) (by simpa using hr)
  (hy.imp (fun ⟨x,hx⟩=>⟨x,fun w ⟨b,hb0,hb⟩=>hx w (by rw [← hb0]; exact hb)⟩) id) ht hS h
theorem wT {i:Nat} {oi:Oper} {v:Value} {fuel:Nat} {listed:Array Bool} {a:Act} {w:World} (hi:ops[i]? = some oi) (hy:YieldsIf P ops (fun w=>∃ b,S b w) oi v a) (hS:S (listed.getD t false) w)
  (h:wpAnyT P md ops Q S t fuel (listed.setIfInBounds i true) (a.put oi.dst v) w) (hit:i ≠ t:=by decide) (hs:Region.noSelect ops = true:=by kernel_rfl) (hf:Region.free md ops listed i = true:=by kernel_rfl)
  (hr:(Region.ready md ops listed).contains i = true:=by kernel_rfl) (hQ:∀ c a w,Q (.panic c) (a.put oi.dst v) w→Q (.panic c) a w:=by exact fun _ _ _ h=>h):wpAnyT P md ops Q S t (fuel + 1) listed a w:=
 wpAnyT_take hi hit hs hf hr hQ hy hS h
theorem wF {i:Nat} {oi:Oper} {v:Value} {fuel:Nat} {listed:Array Bool} {a:Act} {w:World} (hi:ops[i]? = some oi) (hy:YieldsIf P ops (S false) oi v a) (hS:S (listed.getD t false) w)
  (h:wpAnyT P md ops Q S t fuel (listed.setIfInBounds i true) (a.put oi.dst v) w) (hit:i ≠ t:=by decide) (hwt:(ops[t]?.any fun o=>o.after.any fun e=>Region.binds md e && e.on == i) = true:=by kernel_rfl) (ht:listed.getD t false = false:=by rfl) (hs:Region.noSelect ops = true:=by kernel_rfl) (hf:Region.free md ops listed i = true:=by kernel_rfl)
  (hr:(Region.ready md ops listed).contains i = true:=by kernel_rfl) (hQ:∀ c a w,Q (.panic c) (a.put oi.dst v) w→Q (.panic c) a w:=by exact fun _ _ _ h=>h):wpAnyT P md ops Q S t (fuel + 1) listed a w:=
 wpAnyT_takeF hi hit hwt ht hs hf hr hQ hy hS h
def AllReadyT (P:Program) (md:Region.Mode) (ops:Array Oper) (Q:Exit→Act→World→Prop) (S:Bool→World→Prop) (t:Nat) (fuel:Nat) (listed:Array Bool) (a:Act) (w:World) (rs:List Nat):Prop:=
 ∀ i ∈ rs,wpOp P ops Q i (fun a' w'=>S ((listed.setIfInBounds i true).getD t false) w'∧wpAnyT P md ops Q S t fuel (listed.setIfInBounds i true) a' w') a w
theorem AllReadyT.nil {fuel:Nat} {listed:Array Bool} {a:Act} {w:World}:AllReadyT P md ops Q S t fuel listed a w []:=fun _ h=>by cases h
theorem AllReadyT.cons {fuel:Nat} {listed:Array Bool} {a:Act} {w:World} {i:Nat} {o:Oper} {rs:List Nat} (b:Bool) (ho:ops[i]? = some o) (hb:(listed.setIfInBounds i true).getD t false = b)
  (h:∀ K':Act→World→Prop,Shut (∀ a w,S b w→(S b w→wpAnyT P md ops Q S t fuel (listed.setIfInBounds i true) a w)→K' a w)→if Region.wanted o (yielded ops a.tmps) = true then Oper.wp P o a w K' Q else K' (a.put o.dst undef) w)
  (hs:AllReadyT P md ops Q S t fuel listed a w rs):AllReadyT P md ops Q S t fuel listed a w (i :: rs):=fun j hj=>by
 rcases List.mem_cons.1 hj with rfl | hj
 ·exact wpOp_step ho (fun K' hK=>h K' (fun a w hS hW=>hK a w ⟨by rw [hb]; exact hS,hW hS⟩))
 ·exact hs j hj
theorem wpAnyT_ready {rs:List Nat} {fuel:Nat} {listed:Array Bool} {a:Act} {w:World} (hr:Region.ready md ops listed = rs) (hne:rs ≠ [])
  (h:AllReadyT P md ops Q S t fuel listed a w rs):wpAnyT P md ops Q S t (fuel + 1) listed a w:=⟨fun h0=>absurd (hr ▸ h0) hne,hr ▸ h⟩
theorem wpAnyT_done {listed:Array Bool} {a:Act} {w:World} (hr:Region.ready md ops listed = []) (h:Q .normal a w) :
  ∀ fuel,wpAnyT P md ops Q S t fuel listed a w
 | 0=>⟨hr,h⟩
 | _ + 1=>⟨fun _=>h,by rw [hr]; simp⟩
theorem wp_region_till {id:Nat} {a:Act} {w:World} (t:Nat) (S:Bool→World→Prop) (hm:P.follows .mixedOrders = true) (hS:S false w.drew)
  (h:S false w.drew→wpAnyT P .any ops Q S t ops.size (Array.replicate ops.size false) a w.drew):(Code.region id ops true).wp P Q a w:=
 wp_region_any hm (wpAny_of_till _ _ _ _ (h hS))
end
end Go
namespace Go.Proofs.YticlgcfodlcpcaaGreatDoor
open Go.Lib (hid byteCells)
open Go.RowKit
theorem rowKeepK {w w':World} {B:Nat} {e:TypeId} {size:Nat} {v:Value} {n:Nat} {xs:List Value} (h:w.ownsRow B e size v n xs) (hb:∀ g,v.ownBlock = some g→w'.heap[g]? = w.heap[g]?):w'.ownsRow B e size v n xs:=by
 refine ⟨h.1,?_⟩
 rcases h.2 with h' | ⟨g,cap,cur,rfl,hg,hh,hr⟩
 ·exact .inl h'
 ·exact .inr ⟨g,cap,cur,rfl,hg,(hb g rfl).trans hh,hr⟩
def rowK (s:List UInt8) (t n:Nat):List (List UInt8):=(List.range n).map (knode s t)
theorem rowK_succ (s:List UInt8) (t n:Nat):rowK s t (n + 1) = rowK s t n ++ [knode s t n]:=by simp [rowK,List.range_succ]
theorem rowK_length (s:List UInt8) (t n:Nat):(rowK s t n).length = n:=by simp [rowK]
theorem rowK_len (s:List UInt8) (t n:Nat):∀ x ∈ rowK s t n,x.length = 32:=by
 intro x hx
 simp only [rowK,List.mem_map] at hx
 obtain ⟨i,_,rfl⟩:=hx
 exact knode_len s t i
theorem rowK_get (s:List UInt8) (t n i:Nat) (h:i < n):(rowK s t n)[i]? = some (knode s t i):=by
 unfold rowK
 rw [List.getElem?_map,List.getElem?_range h]
 rfl
def updV (lv:Nat→Value) (t:Nat) (v:Value):Nat→Value:=fun u=>if u = t then v else lv u
def updN (c:Nat→Nat) (t n:Nat):Nat→Nat:=fun u=>if u = t then n else c u
structure KeyC (cs:Array Value) (s:List UInt8) (h nx:Nat) (lv:Nat→Value):Prop where
 size:cs.size = 42
 sec:∀ j,j < 32→cs[j]? = (byteCells s)[j]?
 lev:∀ t,t < 7→cs[32 + t]? = some (lv t)
 hgt:cs[39]? = some (.int .i64 (h:Int))
 nxt:cs[40]? = some (.int .i64 (nx:Int))
 thr:cs[41]? = some (.bool true)
structure KeyW (w:World) (kb:Nat) (s:List UInt8) (h nx:Nat) (lv:Nat→Value) (cnt:Nat→Nat):Prop where
 hp:∃ cs,w.heap[kb]? = some (.cells cs 44 (0,0))∧KeyC cs s h nx lv
 ls:s.length = 32
 own:∀ t,t < 7→w.ownsRow (kb + 1) 23 32 (lv t) (cnt t) (hcells (rowK s t (cnt t)))
 sep:∀ t u g,t < 7→u < 7→t ≠ u→(lv t).ownBlock = some g→(lv u).ownBlock ≠ some g
section
variable {w:World} {kb:Nat} {s:List UInt8} {h nx:Nat} {lv:Nat→Value} {cnt:Nat→Nat}
theorem KeyW.lt (hk:KeyW w kb s h nx lv cnt):kb < w.heap.size:=by
 obtain ⟨cs,hc,_⟩:=hk.hp
 exact lt_of_heap hc
theorem KeyW.below {w':World} (hk:KeyW w kb s h nx lv cnt) (hb:Below w.heap.size w w'):KeyW w' kb s h nx lv cnt:=by
 obtain ⟨cs,hc,hC⟩:=hk.hp
 exact ⟨⟨cs,(hb.block kb hk.lt).trans hc,hC⟩,hk.ls,fun t ht=>rowKeepK (hk.own t ht) fun g hg=>hb.block g ((hk.own t ht).lt g hg).2,hk.sep⟩
theorem KeyW.frozen (hk:KeyW w kb s h nx lv cnt) (j:Nat):w.frozen? ⟨kb,j,none⟩ = false:=by
 obtain ⟨cs,hc,_⟩:=hk.hp
 exact frozen_row hc j
theorem KeyW.secAt (hk:KeyW w kb s h nx lv cnt):SecAt w kb s:=by
 obtain ⟨cs,hc,hC⟩:=hk.hp
 refine ⟨hk.ls,fun j v hj=>?_,hk.lt⟩
 rw [Nat.zero_add]
 have hj32:j < 32:=by
  have:=(List.getElem?_eq_some_iff.1 hj).1
  rw [Lib.byteCells_length,hk.ls] at this
  exact this
 exact cell_of hc j ((hC.sec j hj32).trans hj)
theorem KeyW.level (hk:KeyW w kb s h nx lv cnt) {t:Nat} (ht:t < 7):w.cell? ⟨kb,32 + t,none⟩ = some (lv t):=by
 obtain ⟨cs,hc,hC⟩:=hk.hp
 exact cell_of hc _ (hC.lev t ht)
theorem KeyW.height (hk:KeyW w kb s h nx lv cnt):w.cell? ⟨kb,39,none⟩ = some (.int .i64 (h:Int)):=by
 obtain ⟨cs,hc,hC⟩:=hk.hp
 exact cell_of hc _ hC.hgt
theorem KeyW.next (hk:KeyW w kb s h nx lv cnt):w.cell? ⟨kb,40,none⟩ = some (.int .i64 (nx:Int)):=by
 obtain ⟨cs,hc,hC⟩:=hk.hp
 exact cell_of hc _ hC.nxt
theorem KeyW.there (hk:KeyW w kb s h nx lv cnt):w.cell? ⟨kb,41,none⟩ = some (.bool true):=by
 obtain ⟨cs,hc,hC⟩:=hk.hp
 exact cell_of hc _ hC.thr
theorem KeyW.row (hk:KeyW w kb s h nx lv cnt) {t:Nat} (ht:t < 7):HsIn w (lv t) (rowK s t (cnt t)):=
 hsIn_of_owns (rowK_len s t _) (by rw [rowK_length]; exact hk.own t ht)
theorem KeyW.push (hk:KeyW w kb s h nx lv cnt) {t:Nat} (ht:t < 7) {Wd W5:World} {v':Value} (hb:Below w.heap.size w Wd)
  (h2:W5.ownsRow (kb + 1) 23 32 v' (cnt t + 1) (hcells (rowK s t (cnt t)) ++ byteCells (knode s t (cnt t)))) (h3:Wd.grownBy W5 (lv t).ownBlock) (h4:v'.ownBlock = (lv t).ownBlock ∨ v'.ownBlock = some Wd.heap.size) :
  (∃ u,W5.cell? ⟨kb,32 + t,none⟩ = some u)∧W5.frozen? ⟨kb,32 + t,none⟩ = false∧KeyW (W5.setCell ⟨kb,32 + t,none⟩ v') kb s h nx (updV lv t v') (updN cnt t (cnt t + 1)) ∧
  ∀ B w0,Below B w0 w→B ≤ kb→Below B w0 (W5.setCell ⟨kb,32 + t,none⟩ v'):=by
 have hd:=hk.below hb
 have hne:∀ u,u < 7→(lv u).ownBlock ≠ some kb:=fun u hu e=>by have:=((hk.own u hu).lt kb e).1; omega
 obtain ⟨cs,hc,hC⟩:=hd.hp
 have hc5:W5.heap[kb]? = some (.cells cs 44 (0,0)):=(h3.block kb hd.lt (fun e=>hne t ht e.symm)).trans hc
 obtain ⟨cs',e1,e2,e3⟩:=heap_setCells [v'] (32 + t) W5 kb cs _ _ hc5
 have e1':(W5.setCell ⟨kb,32 + t,none⟩ v').heap[kb]? = some (.cells cs' 44 (0,0)):=e1
 have hj:∀ j,j ≠ 32 + t→cs'[j]? = cs[j]?:=fun j hj=>by
  rw [e3,if_neg (by simp only [List.length_cons,List.length_nil]; omega)]
 have hjt:cs'[32 + t]? = some v':=by
  rw [e3,if_pos ⟨Nat.le_refl _,by simp only [List.length_cons,List.length_nil]; omega,by rw [hC.size]; omega⟩,Nat.sub_self]
  rfl
 have hs5:(W5.setCell ⟨kb,32 + t,none⟩ v').heap.size = W5.heap.size:=by simp
 have hoth:∀ g,g ≠ kb→(W5.setCell ⟨kb,32 + t,none⟩ v').heap[g]? = W5.heap[g]?:=fun g hg=>Below.heap_setCell W5 ⟨kb,32 + t,none⟩ v' g hg
 refine ⟨⟨lv t,?_⟩,?_,⟨⟨cs',e1',?_,?_,?_,?_,?_,?_⟩,hk.ls,?_,?_⟩,?_⟩
 ·exact cell_of hc5 _ (hC.lev t ht)
 ·exact frozen_row hc5 _
 ·rw [e2]; exact hC.size
 ·intro j hj32
  rw [hj j (by omega)]
  exact hC.sec j hj32
 ·intro u hu
  unfold updV
  split
  ·rename_i e
   subst e
   exact hjt
  ·rw [hj _ (by omega)]
   exact hC.lev u hu
 ·rw [hj 39 (by omega)]; exact hC.hgt
 ·rw [hj 40 (by omega)]; exact hC.nxt
 ·rw [hj 41 (by omega)]; exact hC.thr
 ·intro u hu
  unfold updV updN
  split
  ·rename_i e
   subst e
   rw [rowK_succ,hcells_snoc]
   exact rowKeepK h2 fun g hg=>hoth g (by have:=(h2.lt g hg).1; omega)
  ·rename_i e
   refine rowKeepK (hd.own u hu) fun g hg=>?_
   have hl:=(hd.own u hu).lt g hg
   rw [hoth g (by omega)]
   exact h3.block g hl.2 (fun e2=>hk.sep u t g hu ht e hg e2.symm)
 ·intro a b g ha hb' hab hg
  unfold updV at hg ⊢
  have key:∀ u,u < 7→u ≠ t→(lv u).ownBlock = some g→v'.ownBlock ≠ some g:=fun u hu hut hg he=>by
   rcases h4 with h4 | h4
   ·exact hk.sep u t g hu ht hut hg (h4.symm.trans he)
   ·have:=((hd.own u hu).lt g hg).2
    have e:=h4.symm.trans he
    simp at e
    omega
  split at hg
  ·rename_i e
   rw [if_neg (by omega)]
   intro hb2
   exact key b hb' (by omega) hb2 hg
  ·rename_i e
   split
   ·exact key a ha e hg
   ·exact hk.sep a b g ha hb' hab hg
 ·intro B w0 h0 hB
  refine Below.setCell ?_ (p:=⟨kb,32 + t,none⟩) hB _
  have hlt:=hk.lt
  refine (h0.trans (hb.mono (by omega))).grown h3 (by have:=h0.size; have:=hb.size; omega) fun g hg=>?_
  have:=((hk.own t ht).lt g hg).1
  omega
end
theorem step_buildHash {ops:Array Oper} {o:Oper} {a:Act} {K:Act→World→Prop} {Q:Exit→Act→World→Prop} {E:Prop} (zl:List UInt8) (hz:∀ w:World,(zeroValue 23).run Tryz.prog w = .ok (.agg (byteCells zl).toArray) w) (hgd:o.guard = none) (x:Operand) (ho:o.op = .buildSlice 41 1 #[(0,x)])
  {W:World} (H:List UInt8) (hx:a.eval x = .agg (byteCells H).toArray) (hH:H.length = 32)
  (h:K (a.put o.dst (.slice (some ⟨W.heap.size,0,none⟩) 1 1)) (W.alloc (.cells (byteCells H).toArray 23))) :
  if Region.wanted o (yielded ops a.tmps) = true then Oper.wp Tryz.prog o a W K Q else E:=by
 have hw:Region.wanted o (yielded ops a.tmps) = true:=by simp [Region.wanted,hgd]
 rw [if_pos hw]
 have hr:=run_buildSlice_hash zl hz H hH W
 unfold Oper.wp execOp
 simp only [ho,List.map_toArray,List.map_cons,List.map_nil,hx,Sem.run_bind,hr,Result.andThen_ok,Sem.run_pure]
 exact h
set_option maxRecDepth 100000 in
theorem step_append_hash {ops:Array Oper} {o:Oper} {a:Act} {K:Act→World→Prop} {Q:Exit→Act→World→Prop} {E:Prop} (hgd:o.guard = none) (s x:Operand)
  (ho:o.op = .call { callee:=.builtin .append,args:=#[s,x],argTypes:=#[41,41] }) {W:World} {B m g:Nat} {v:Value} {xs:List Value} {H:List UInt8}
  (hs:a.eval s = v) (hown:W.ownsRow B 23 32 v m xs) (hx:a.eval x = .slice (some ⟨g,0,none⟩) 1 1) (hH:HashAt W g H) (hm:m ≤ 1000) (hB:B ≤ W.heap.size)
  (h:∀ v' W',W'.ownsRow B 23 32 v' (m + 1) (xs ++ byteCells H)→W.grownBy W' v.ownBlock→(v'.ownBlock = v.ownBlock ∨ v'.ownBlock = some W.heap.size)→K (a.put o.dst v') W') :
  if Region.wanted o (yielded ops a.tmps) = true then Oper.wp Tryz.prog o a W K Q else E:=by
 have hw:Region.wanted o (yielded ops a.tmps) = true:=by simp [Region.wanted,hgd]
 rw [if_pos hw]
 obtain ⟨z,hzl,hinf⟩:=Tryz.infoHash
 obtain ⟨i0,hi,hz⟩:=Option.map_eq_some_iff.1 hinf
 simp only [Prod.mk.injEq] at hz
 obtain ⟨hz0,hz1,hz2⟩:=hz
 obtain ⟨v',W',hr,h2,h3,_,h5⟩:=run_append_own_at (P:=Tryz.prog) W B 41 o.type 23 i0 _ 32 32 Tryz.underlying41 hi hz0 hz1 hz2 (by show (byteCells z).toArray.size = 32; rw [hz_cells]; exact hzl) (by decide) v m xs hown ⟨g,0,none⟩ 1 1 (byteCells H) (by rw [Lib.byteCells_length,hH.2]) (fun j u hj=>by
  have ha:(⟨g,0,none⟩:Addr).add j = ⟨g,j,none⟩:=by simp [Addr.add]; intro h; exact h.symm
  rw [ha]
  exact cell_of hH.1 j (by rw [List.getElem?_toArray]; exact hj)) (cells_oneC H) (by unfold maxLen; omega) (by omega) hB
 unfold Oper.wp execOp
 simp only [ho,resolve,invoke,builtin,Sem.run_bind,Sem.run_pure,Result.andThen_ok,List.map_toArray,List.map_cons,List.map_nil,hs,hx,hr]
 exact h v' W' h2 h3 h5
def keyRest (h nx:Int):List Value:=[.slice none 0 0,.slice none 0 0,.slice none 0 0,.slice none 0 0,.slice none 0 0,.slice none 0 0,.slice none 0 0,.int .i64 h,.int .i64 nx,.bool true]
set_option maxRecDepth 100000 in
theorem built_key (s:List UInt8) (hs:s.length = 32) (h:Int):Tryz.prog.built 44 (#[(0,hv s),(2,.int .i64 h),(4,.bool true)]:Array (Nat × Value)).toList = some (byteCells s ++ keyRest h 0).toArray:=by
 match s,hs with
 | [a0,a1,a2,a3,a4,a5,a6,a7,a8,a9,a10,a11,a12,a13,a14,a15,a16,a17,a18,a19,a20,a21,a22,a23,a24,a25,a26,a27,a28,a29,a30,a31],_=>show Tryz.prog.built 44 _ = some _; kernel_rfl
theorem keyC_new (s:List UInt8) (hs:s.length = 32) (h:Nat):KeyC (byteCells s ++ keyRest (h:Int) 0).toArray s h 0 (fun _=>.slice none 0 0):=by
 have hl:(byteCells s).length = 32:=by rw [Lib.byteCells_length,hs]
 have hr:∀ j,(byteCells s ++ keyRest (h:Int) 0).toArray[32 + j]? = (keyRest (h:Int) 0)[j]?:=fun j=>by
  rw [List.getElem?_toArray,List.getElem?_append_right (by omega),hl,Nat.add_sub_cancel_left]
 refine ⟨?_,fun j hj=>?_,fun t ht=>?_,hr 7,hr 8,hr 9⟩
 ·rw [List.size_toArray,List.length_append,hl]; rfl
 ·rw [List.getElem?_toArray,List.getElem?_append_left (by omega)]
 ·rw [hr]
  rcases t with _ | _ | _ | _ | _ | _ | _ | t
  ·rfl
  ·rfl
  ·rfl
  ·rfl
  ·rfl
  ·rfl
  ·rfl
  ·omega
theorem keyW_new (w:World) (s:List UInt8) (hs:s.length = 32) (h:Nat):KeyW (w.alloc (.cells (byteCells s ++ keyRest (h:Int) 0).toArray 44)) w.heap.size s h 0 (fun _=>.slice none 0 0) (fun _=>0):=
 ⟨⟨_,heap_one w _,keyC_new s hs h⟩,hs,fun _ _=>⟨rfl,.inl ⟨rfl,rfl⟩⟩,fun _ _ g _ _ _ hg=>by cases hg⟩
theorem wpList_buildKey {ops:Array Oper} {rest:List Oper} {o:Oper} {a:Act} {W:World} {Q:Exit→Act→World→Prop} (hgd:o.guard = none) (x y:Operand) (ho:o.op = .build 44 #[(0,x),(2,y),(4,.const (.bool true))])
  {s:List UInt8} {h:Int} (hx:a.eval x = hv s) (hy:a.eval y = .int .i64 h) (hs:s.length = 32)
  (hh:wpList Tryz.prog ops Q rest (a.put o.dst (.agg (byteCells s ++ keyRest h 0).toArray)) W):wpList Tryz.prog ops Q (o :: rest) a W:=
 wpList_plain hgd fun K hK=>by
  have hr:=run_build (P:=Tryz.prog) W 44 _ _ (built_key s hs h)
  have hz:a.eval (.const (.bool true)) = .bool true:=rfl
  unfold Oper.wp execOp
  simp only [ho,List.map_toArray,List.map_cons,List.map_nil,hx,hy,hz,Sem.run_bind,hr,Result.andThen_ok,Sem.run_pure]
  exact hK _ _ hh
def SinceB (wA:World) (R:World→Prop):Bool→World→Prop:=fun b W=>(b = false→Below wA.heap.size wA W)∧R W
def oneN (k:Nat):Nat→Nat:=fun t=>if t = 0 then k else 0
theorem oneN_next (k:Nat):updN (oneN k) 0 (k + 1) = oneN (k + 1):=by
 funext t
 unfold updN oneN
 split <;> rfl
def cnt2 (h j i:Nat):Nat→Nat:=fun t=>if t ≤ j then 2 ^ (h - t) else if t = j + 1 then i else 0
theorem cnt2_start (h:Nat):oneN (2 ^ h) = cnt2 h 0 0:=by
 funext t
 unfold oneN cnt2
 rcases t with _ | t
 ·rfl
 ·rw [if_neg (by omega),if_neg (by omega)]
  split <;> rfl
theorem cnt2_next (h j i:Nat):updN (cnt2 h j i) (j + 1) (i + 1) = cnt2 h j (i + 1):=by
 funext t
 unfold updN cnt2
 by_cases h1:t = j + 1
 ·rw [if_pos h1,if_neg (by omega),if_pos h1]
 ·rw [if_neg h1,if_neg h1,if_neg h1]
theorem cnt2_full (h j:Nat):cnt2 h j (2 ^ (h - (j + 1))) = cnt2 h (j + 1) 0:=by
 funext t
 unfold cnt2
 by_cases h1:t = j + 1
 ·rw [if_neg (by omega),if_pos h1,if_pos (by omega),h1]
 ·by_cases h2:t ≤ j
  ·rw [if_pos h2,if_pos (by omega)]
  ·rw [if_neg h2,if_neg h1,if_neg (by omega)]
   split <;> rfl
theorem cnt2_end (h:Nat):cnt2 h h 0 = fun t=>if t ≤ h then 2 ^ (h - t) else 0:=by
 funext t
 unfold cnt2
 split
 ·rfl
 ·split <;> rfl
theorem KeyW.slice {w:World} {kb:Nat} {s:List UInt8} {h nx:Nat} {lv:Nat→Value} {cnt:Nat→Nat} (hk:KeyW w kb s h nx lv cnt) {t:Nat} (ht:t < 7) (hc:0 < cnt t) :
  ∃ g cap,lv t = .slice (some ⟨g,0,none⟩) (cnt t) cap∧kb < g∧w.rangeAt g 0 (hcells (rowK s t (cnt t))):=by
 have ho:=hk.own t ht
 rcases ho.2 with ⟨_,e⟩ | ⟨g,cap,cur,e,hg,_,_,_,_,_⟩
 ·omega
 ·obtain ⟨_,ao,c,e2,_,hr⟩:=hk.row ht
  rw [e] at e2
  injection e2 with e3 _ _
  obtain ⟨g2,o2,e4,hr2⟩:=hr (fun h0=>by have:=congrArg List.length h0; rw [rowK_length] at this; simp at this; omega)
  rw [← e3] at e4
  injection e4 with e5
  injection e5 with e6 e7 _
  subst e6 e7
  exact ⟨g,cap,e,hg,hr2⟩
def OutR (s:List UInt8) (h:Nat) (w:World) (kb:Nat) (iv:Value) (wr:World):Prop:=
 ∃ (j:Nat) (lv:Nat→Value),j ≤ h∧iv = .int .i64 (j:Int)∧KeyW wr kb s h 0 lv (cnt2 h j 0)∧Below w.heap.size w wr
def InR (s:List UInt8) (h j M:Nat) (w:World) (kb:Nat) (vj:Value) (iv:Value) (wr:World):Prop:=
 ∃ (i:Nat) (lv:Nat→Value),i ≤ M∧iv = .int .i64 (i:Int)∧lv j = vj∧KeyW wr kb s h 0 lv (cnt2 h j i)∧Below w.heap.size w wr
def NewR (s:List UInt8) (h:Nat) (w:World) (kb:Nat) (iv:Value) (wr:World):Prop:=
 ∃ (k:Nat) (lv:Nat→Value),k ≤ 2 ^ h∧iv = .int .i64 (k:Int)∧KeyW wr kb s h 0 lv (oneN k)∧Below w.heap.size w wr
theorem pow_h {h:Nat} (hh:h ≤ 6):wrap64 ((2:Int) ^ h) = ((2 ^ h:Nat):Int)∧2 ^ h ≤ 64:=by
 rcases h with _ | _ | _ | _ | _ | _ | _ | h
 ·exact ⟨by kernel_rfl,by decide⟩
 ·exact ⟨by kernel_rfl,by decide⟩
 ·exact ⟨by kernel_rfl,by decide⟩
 ·exact ⟨by kernel_rfl,by decide⟩
 ·exact ⟨by kernel_rfl,by decide⟩
 ·exact ⟨by kernel_rfl,by decide⟩
 ·exact ⟨by kernel_rfl,by decide⟩
 ·omega
set_option maxHeartbeats 4000000 in
set_option maxRecDepth 100000 in
theorem keyNew_any (S:Nat→Addr) (s:List UInt8) (h:Nat) (hs:s.length = 32) (hh:h ≤ 6) (w:World) (hF:FW S w) :
  Calls Tryz.prog 8 #[hv s,.int .i64 (h:Int)] w fun e w'=>∃ (kb:Nat) (lv:Nat→Value),e = .returned (.tuple #[.pointer (some ⟨kb,0,none⟩),.nilIface])∧w.heap.size ≤ kb∧KeyW w' kb s h 0 lv (fun t=>if t ≤ h then 2 ^ (h - t) else 0)∧Below w.heap.size w w':=by
 have HSL:=hid hs
 have HF:=hid hF
 have HH:=hid hh
 have i0:¬ (h:Int) < 0:=by omega
 have i1:¬ (6:Int) < (h:Int):=by omega
 have HPW:=hid (pow_h hh)
 obtain ⟨zl,_,hzl⟩:=zeroHash
 have HZL:=hid hzl
 clear hF hs hzl
 go_enter Tryz.func8,Tryz.ntmps8
 go_upto_region 3 with fail
 have H1:=hid (HashAt.new w s HSL.out)
 have HB:=hid (below_one w (.cells (byteCells s).toArray 23))
 generalize w.alloc (.cells (byteCells s).toArray 23) = w1 at *
 go_upto_region 4 with (first | (refine wpList_ldH (by rfl) (.tmp 2) (by rfl) (by rfl) H1.out ?_) | (refine wpList_buildKey (by rfl) (.tmp 19) (.tmp 20) (by rfl) (by rfl) (by rfl) HSL.out ?_))
 have HK:=hid (keyW_new w1 s HSL.out h)
 have HKB:=hid (show w.heap.size ≤ w1.heap.size from HB.out.size)
 have HB:=hid (HB.out.trans ((below_one w1 (.cells (byteCells s ++ keyRest (h:Int) 0).toArray 44)).mono HB.out.size))
 generalize w1.alloc (.cells (byteCells s ++ keyRest (h:Int) 0).toArray 44) = w2 at *
 generalize w1.heap.size = kb at *
 clear H1
 go_upto_region 6 with fail
 rw [HPW.out.1]
 obtain ⟨N,hN⟩:∃ N,2 ^ h = N:=⟨_,rfl⟩
 have hN64:N ≤ 64:=by rw [← hN]; exact HPW.out.2
 have HN64:=hid hN64
 have HNN:=hid hN
 rw [hN]
 clear hN hN64 HPW
 go_loopw [27] (fun iv wr=>NewR s h w kb iv wr) (fun iv _=>N - (intOf iv).toNat)
 case atStart=>exact ⟨0,_,Nat.zero_le _,rfl,⟨HK.out.hp,HK.out.ls,fun t ht=>by
  have e:oneN 0 t = 0:=by unfold oneN; split <;> rfl
  rw [e]
  exact HK.out.own t ht,HK.out.sep⟩,HB.out⟩
 case round=>
  obtain ⟨k,lv,hk,rfl,hkw,hbel⟩:=hrel
  rename World=>wA
  rw [HNN.out] at hk
  have HAB:=hid hbel
  by_cases hlt:k < N
  ·have i2:(k:Int) < (N:Int):=by omega
   have HKL:=hid (show k < 64 by have:=HN64.out; omega)
   have HLT:=hid hlt
   have HKA:=hid hkw
   obtain ⟨X1,hX1⟩:∃ X,ownF s k = X:=⟨_,rfl⟩
   obtain ⟨X2,hX2⟩:∃ X,publicF X1 = X:=⟨_,rfl⟩
   obtain ⟨X3,hX3⟩:∃ X,shaL (0 :: X2) = X:=⟨_,rfl⟩
   have l1:X1.length = 32:=by rw [← hX1]; exact shaL_len _
   have l2:X2.length = 32:=by rw [← hX2]; exact publicF_len _
   have HX3:=hid (show X3.length = 32 by rw [← hX3]; exact shaL_len _)
   have HKN:=hid (show knode s 0 k = X3 by rw [← hX3,← hX2,← hX1]; rfl)
   have HOW:=hid fun (W:World) (hb:Below wA.heap.size wA W)=>(by
    have h:=own_any S s kb k (by have:=HKL.out; omega) W (HF.out.below (HAB.out.trans (hb.mono HAB.out.size))) (HKA.out.below hb).secAt
    rw [hX1] at h
    exact h)
   have HPU:=hid fun (W:World) (hb:Below wA.heap.size wA W)=>(by
    have h:=public_any S X1 l1 W (HF.out.below (HAB.out.trans (hb.mono HAB.out.size)))
    rw [hX2] at h
    exact h)
   have HLE:=hid fun (W:World) (hb:Below wA.heap.size wA W)=>(by
    have h:=kleaf_any S X2 l2 W (HF.out.below (HAB.out.trans (hb.mono HAB.out.size)))
    rw [hX3] at h
    exact h)
   have k6:(k:Int) < 64:=by have:=HKL.out; omega
   clear hX1 hX2 hX3 l1 l2 hlt hkw hbel hk
   go_upto_region 8 with fail
   refine wp_region_till 12 (SinceB wA fun _=>True) (by kernel_rfl) ⟨fun _=>(Below.refl _ _).drew,trivial⟩ (fun hHeld=>?_)
   refine wT (i:=0) (v:=.pointer (some ⟨kb,0,none⟩)) rfl (Or.inl ⟨by rfl,fun w _=>?_⟩) hHeld ?_
   ·go_simp
   simp only [List.getElem_toArray,List.getElem_cons_zero,Act.put,List.setIfInBounds_toArray,List.set_cons_zero,List.set_cons_succ]
   refine wT (i:=1) (v:=.pointer (some ⟨kb,0,none⟩)) rfl (Or.inl ⟨by rfl,fun w _=>?_⟩) hHeld ?_
   ·go_simp
   simp only [List.getElem_toArray,List.getElem_cons_succ,List.getElem_cons_zero,Act.put,List.setIfInBounds_toArray,List.set_cons_zero,List.set_cons_succ]
   refine wT (i:=2) (v:=.pointer (some ⟨kb,0,none⟩)) rfl (Or.inl ⟨by rfl,fun w _=>?_⟩) hHeld ?_
   ·go_simp
   simp only [List.getElem_toArray,List.getElem_cons_succ,List.getElem_cons_zero,Act.put,List.setIfInBounds_toArray,List.set_cons_zero,List.set_cons_succ]
   refine wT (i:=3) (v:=.pointer (some ⟨kb,32,none⟩)) rfl (Or.inl ⟨by rfl,fun w _=>?_⟩) hHeld ?_
   ·go_simp
   simp only [List.getElem_toArray,List.getElem_cons_succ,List.getElem_cons_zero,Act.put,List.setIfInBounds_toArray,List.set_cons_zero,List.set_cons_succ]
   refine wT (i:=4) (v:=.pointer (some ⟨kb,32,none⟩)) rfl (Or.inl ⟨by rfl,fun w _=>?_⟩) hHeld ?_
   ·go_simp
   simp only [List.getElem_toArray,List.getElem_cons_succ,List.getElem_cons_zero,Act.put,List.setIfInBounds_toArray,List.set_cons_zero,List.set_cons_succ]
   refine wF (i:=5) (v:=lv 0) rfl (Or.inl ⟨by rfl,fun w hSw=>?_⟩) hHeld ?_
   ·have c:w.cell? ⟨kb,32,none⟩ = some (lv 0):=(HKA.out.below (hSw.1 rfl)).level (t:=0) (by decide)
    go_simp
   simp only [List.getElem_toArray,List.getElem_cons_succ,List.getElem_cons_zero,Act.put,List.setIfInBounds_toArray,List.set_cons_zero,List.set_cons_succ]
   refine wT (i:=6) (v:=.func (Fn.func 24) #[.pointer (some ⟨kb,0,none⟩)] #[]) rfl (Or.inl ⟨by rfl,fun w _=>?_⟩) hHeld ?_
   ·go_simp
   simp only [List.getElem_toArray,List.getElem_cons_succ,List.getElem_cons_zero,Act.put,List.setIfInBounds_toArray,List.set_cons_zero,List.set_cons_succ]
   refine wT (i:=7) (v:=.int .i64 (k:Int)) rfl (Or.inl ⟨by rfl,fun w _=>?_⟩) hHeld ?_
   ·go_simp
   simp only [List.getElem_toArray,List.getElem_cons_succ,List.getElem_cons_zero,Act.put,List.setIfInBounds_toArray,List.set_cons_zero,List.set_cons_succ]
   refine wT (i:=13) (v:=.pointer (some ⟨kb,0,none⟩)) rfl (Or.inl ⟨by rfl,fun w _=>?_⟩) hHeld ?_
   ·go_simp
   simp only [List.getElem_toArray,List.getElem_cons_succ,List.getElem_cons_zero,Act.put,List.setIfInBounds_toArray,List.set_cons_zero,List.set_cons_succ]
   refine wT (i:=14) (v:=.pointer (some ⟨kb,32,none⟩)) rfl (Or.inl ⟨by rfl,fun w _=>?_⟩) hHeld ?_
   ·go_simp
   simp only [List.getElem_toArray,List.getElem_cons_succ,List.getElem_cons_zero,Act.put,List.setIfInBounds_toArray,List.set_cons_zero,List.set_cons_succ]
   refine wpAnyT_ready (rs:=[8]) (by kernel_rfl) (by simp) ?_
   refine AllReadyT.cons false rfl (by kernel_rfl) (fun K hK=>?_) AllReadyT.nil
   go_simp
   refine (HOW.out _ (hHeld.1 rfl)).mono ?_
   rintro e wy ⟨rfl,hy⟩
   go_wp2_with fail
   have hy:=(hHeld.1 rfl).trans (hy.mono (hHeld.1 rfl).size)
   refine hK.out _ _ ⟨fun _=>hy,trivial⟩ (fun hHeld=>?_)
   clear hy
   clear hK K
   refine wpAnyT_ready (rs:=[9]) (by kernel_rfl) (by simp) ?_
   refine AllReadyT.cons false rfl (by kernel_rfl) (fun K hK=>?_) AllReadyT.nil
   go_simp
   refine (HPU.out _ (hHeld.1 rfl)).mono ?_
   rintro e wz ⟨rfl,hy⟩
   go_wp2_with fail
   have hy:=(hHeld.1 rfl).trans (hy.mono (hHeld.1 rfl).size)
   refine hK.out _ _ ⟨fun _=>hy,trivial⟩ (fun hHeld=>?_)
   clear hy
   clear hK K
   refine wpAnyT_ready (rs:=[10]) (by kernel_rfl) (by simp) ?_
   refine AllReadyT.cons false rfl (by kernel_rfl) (fun K hK=>?_) AllReadyT.nil
   go_simp
   refine (HLE.out _ (hHeld.1 rfl)).mono ?_
   rintro e wq ⟨rfl,hy⟩
   go_wp2_with fail
   have hy:=(hHeld.1 rfl).trans (hy.mono (hHeld.1 rfl).size)
   refine hK.out _ _ ⟨fun _=>hy,trivial⟩ (fun hHeld=>?_)
   clear hy
   clear hK K
   refine wpAnyT_ready (rs:=[11]) (by kernel_rfl) (by simp) ?_
   refine AllReadyT.cons false rfl (by kernel_rfl) (fun K hK=>?_) AllReadyT.nil
   refine step_buildHash zl HZL.out (by rfl) (.tmp 40) (by rfl) X3 (by rfl) HX3.out ?_
   have hy:=(hHeld.1 rfl).alloc (hHeld.1 rfl).size (.cells (byteCells X3).toArray 23)
   refine hK.out _ _ ⟨fun _=>hy,trivial⟩ (fun hHeld=>?_)
   clear hy
   clear hK K
   refine wpAnyT_ready (rs:=[12]) (by kernel_rfl) (by simp) ?_
   refine AllReadyT.cons true rfl (by kernel_rfl) (fun K hK=>?_) AllReadyT.nil
   refine step_append_hash (by rfl) (.tmp 35) (.tmp 41) (by rfl) (by rfl) ((HKA.out.below (hHeld.1 rfl)).own 0 (by decide)) (by rfl) (HashAt.new wq X3 HX3.out) (by have:=HKL.out; show k ≤ 1000; omega) (HKA.out.below (hHeld.1 rfl)).lt ?_
   intro v' W5 h2 h3 h5
   obtain ⟨vo,vk,vq,rfl⟩:∃ ao n c,v' = .slice ao n c:=by rcases h2.2 with ⟨h,_⟩ | ⟨_,_,_,h,_⟩ <;> exact ⟨_,_,_,h⟩
   obtain ⟨⟨u,q1⟩,q2,q3,q4⟩:=HKA.out.push (t:=0) (by decide) (hHeld.1 rfl) (by rw [← HKN.out] at h2; exact h2) h3 h5
   have HQ3:=hid q3
   have HQ4:=hid (q4 _ _ HAB.out HKB.out)
   clear q3 q4 h2 h3 h5
   refine hK.out _ _ ⟨fun h=>(by cases h),trivial⟩ (fun hHeld=>?_)
   clear hK K
   refine wT (i:=15) (v:=.pointer (some ⟨kb,32,none⟩)) rfl (Or.inl ⟨by rfl,fun w _=>?_⟩) hHeld ?_
   ·go_simp
   simp only [List.getElem_toArray,List.getElem_cons_succ,List.getElem_cons_zero,Act.put,List.setIfInBounds_toArray,List.set_cons_zero,List.set_cons_succ]
   refine wpAnyT_ready (rs:=[16]) (by kernel_rfl) (by simp) ?_
   refine AllReadyT.cons true rfl (by kernel_rfl) (fun K hK=>?_) AllReadyT.nil
   go_simp
   refine hK.out _ _ ⟨fun h=>(by cases h),trivial⟩ (fun hHeld=>?_)
   clear hK K
   refine wpAnyT_done (by kernel_rfl) ?_ _
   go_wp2_with fail
   exact ⟨⟨k + 1,_,HNN.out ▸ HLT.out,by go_num,oneN_next k ▸ HQ3.out,HQ4.out⟩,by have:=HLT.out; simp [intOf]; omega⟩
  ·obtain rfl:k = N:=by omega
   have i2:¬ (k:Int) < (k:Int):=by omega
   have hk0:=hkw
   rw [← HNN.out,cnt2_start] at hk0
   have HKA:=hid hk0
   clear hkw hk0 hbel hk hlt HK HB HNN HN64
   go_wp2_with fail
   go_loopw [48] (fun iv wr=>OutR s h w kb iv wr) (fun iv _=>h - (intOf iv).toNat)
   case atStart=>exact ⟨0,_,Nat.zero_le _,rfl,HKA.out,HAB.out⟩
   case round=>
    clear HKA HAB
    obtain ⟨j,lv2,hj,rfl,hkw,hbel⟩:=hrel
    rename World=>wB
    by_cases hlt:j < h
    ·have i3:(j:Int) < (h:Int):=by omega
     have j7:(j:Int) < 7:=by have:=HH.out; omega
     have j0:(0:Int) ≤ (j:Int):=by omega
     have HJH:=hid hlt
     have HJ7:=hid (show j + 1 < 7 by have:=HH.out; omega)
     obtain ⟨M,hM⟩:∃ M,2 ^ (h - (j + 1)) = M:=⟨_,rfl⟩
     have hM64:M ≤ 64:=by
      rw [← hM]
      exact Nat.le_trans (Nat.pow_le_pow_right (by decide) (by have:=HH.out; omega:h - (j + 1) ≤ 6)) (by decide)
     have hM1:1 ≤ M:=by rw [← hM]; exact Nat.one_le_two_pow
     have hn:cnt2 h j 0 j = 2 * M:=by
      show (if j ≤ j then 2 ^ (h - j) else _) = _
      rw [if_pos (Nat.le_refl j),← hM,show h - j = (h - (j + 1)) + 1 by omega,Nat.pow_succ,Nat.mul_comm]
     have hnI:∀ i,cnt2 h j i j = 2 * M:=fun i=>by
      rw [← hn]
      show (if j ≤ j then 2 ^ (h - j) else _) = (if j ≤ j then 2 ^ (h - j) else _)
      rw [if_pos (Nat.le_refl j),if_pos (Nat.le_refl j)]
     obtain ⟨g,cap,hvj,_,_⟩:=hkw.slice (t:=j) (by have:=HJ7.out; omega) (by rw [hn]; omega)
     rw [hn] at hvj
     have c1:=hkw.level (t:=j) (by have:=HJ7.out; omega)
     rw [hvj] at c1
     obtain ⟨n,hnn⟩:∃ n,2 * M = n:=⟨_,rfl⟩
     rw [hnn] at hvj c1
     have d1:(n:Int).tdiv 2 = (M:Int):=by rw [Int.tdiv_eq_ediv_of_nonneg (by omega)]; omega
     have HNM:=hid hnn
     have HMM:=hid hM
     have HM64:=hid hM64
     have HNI:=hid hnI
     have HVJ:=hid hvj
     have HKB2:=hid hkw
     have HBB:=hid hbel
     have m0:(M:Int) ≤ 64:=by omega
     have n0:(n:Int) ≤ 128:=by omega
     clear hkw hbel hlt hj hM hM64 hM1 hn hnI hvj hnn
     go_wp2_with fail
     go_loopw [60] (fun iv wr=>InR s h j M w kb (.slice (some ⟨g,0,none⟩) n cap) iv wr) (fun iv _=>M - (intOf iv).toNat)
     case atStart=>exact ⟨0,_,Nat.zero_le _,rfl,HVJ.out,HKB2.out,HBB.out⟩
     case round=>
      clear HKB2 HBB c1 HVJ
      obtain ⟨i,lv,hi,rfl,hvj,hkw,hbel⟩:=hrel
      rename World=>wA
      by_cases hlt:i < M
      ·have i4:(i:Int) < (M:Int):=by omega
       have i5:(0:Int) ≤ (i:Int):=by omega
       have HIM:=hid hlt
       have HI64:=hid (show i < 64 by have:=HM64.out; omega)
       have i6:(i:Int) < 64:=by have:=HI64.out; omega
       have i7:2 * (i:Int) < (n:Int):=by have:=HNM.out; omega
       have i8:2 * (i:Int) + 1 < (n:Int):=by have:=HNM.out; omega
       have t1:((j:Int) + 1).toNat = j + 1:=by omega
       have t2:(2 * (i:Int)).toNat = 2 * i:=by omega
       have t3:(2 * (i:Int) + 1).toNat = 2 * i + 1:=by omega
       have t4:(j:Int) + 1 < 7:=by have:=HJ7.out; omega
       have HKA:=hid hkw
       have HVJ:=hid hvj
       have HAB:=hid hbel
       have HCI:=hid (show cnt2 h j i (j + 1) = i by
        show (if j + 1 ≤ j then _ else if j + 1 = j + 1 then i else 0) = i
        rw [if_neg (by omega),if_pos rfl])
       obtain ⟨g2,cap2,e1,e2,e3⟩:=hkw.slice (t:=j) (by have:=HJ7.out; omega) (by rw [HNI.out]; omega)
       rw [hvj,HNI.out,HNM.out] at e1
       injection e1 with e1 e8 e9
       clear e8 e9
       injection e1 with e1
       injection e1 with e1 _ _
       subst e1
       rw [HNI.out] at e3
       obtain ⟨A,hA⟩:∃ A,knode s j (2 * i) = A:=⟨_,rfl⟩
       obtain ⟨C,hC⟩:∃ C,knode s j (2 * i + 1) = C:=⟨_,rfl⟩
       obtain ⟨N,hN⟩:∃ N,shaL (1 :: (A ++ C)) = N:=⟨_,rfl⟩
       have HKN:=hid (show knode s (j + 1) (cnt2 h j i (j + 1)) = N by rw [HCI.out,← hN,← hA,← hC]; rfl)
       have AL:=hid (show A.length = 32 by rw [← hA]; exact knode_len s j _)
       have CL:=hid (show C.length = 32 by rw [← hC]; exact knode_len s j _)
       have HNL:=hid (show N.length = 32 by rw [← hN]; exact shaL_len _)
       have HGK:=hid (show g ≠ kb by omega)
       have hra:=HsIn.at (rowK_len s j (2 * M)) e3 (i:=2 * i) (rowK_get s j (2 * M) (2 * i) (by omega))
       have hrc:=HsIn.at (rowK_len s j (2 * M)) e3 (i:=2 * i + 1) (rowK_get s j (2 * M) (2 * i + 1) (by omega))
       rw [Nat.zero_add,hA] at hra
       rw [Nat.zero_add,hC] at hrc
       have hgo:(lv j).ownBlock = some g:=by rw [hvj]; rfl
       have HGL:=hid (show g < wA.heap.size from ((hkw.own j (by have:=HJ7.out; omega)).lt g hgo).2)
       have HNE:=hid (show some g ≠ (lv (j + 1)).ownBlock from fun e=>hkw.sep j (j + 1) g (by have:=HJ7.out; omega) HJ7.out (by omega) hgo e.symm)
       have HRA:=hid hra
       have HRX:=hid hrc
       have HRG:=hid fun (W:World) (hW:W.heap[g]? = wA.heap[g]?)=>(⟨fun q v hv=>(World.cell?_of_block (a:=⟨g,2 * i * 32 + q,none⟩) hW).trans (HRA.out q v hv),fun q v hv=>(World.cell?_of_block (a:=⟨g,(2 * i + 1) * 32 + q,none⟩) hW).trans (HRX.out q v hv)⟩:W.rangeAt g (2 * i * 32) (byteCells A)∧W.rangeAt g ((2 * i + 1) * 32) (byteCells C))
       have HNO:=hid fun (W:World) (hb:Below wA.heap.size wA W)=>(by
        have h:=node_any A C AL.out CL.out W (HF.out.below (HAB.out.trans (hb.mono HAB.out.size))).tab (HF.out.below (HAB.out.trans (hb.mono HAB.out.size))).lt
        rw [hN] at h
        exact h)
       have t5:(0:Int) ≤ (j:Int) + 1:=by omega
       have t6:(0:Int) ≤ 2 * (i:Int):=by omega
       have t7:(0:Int) ≤ 2 * (i:Int) + 1:=by omega
       clear hA hC hN hra hrc hgo e2 e3 hvj hkw hbel hi hlt
       have w1:IntKind.i64.wrap ((j:Int) + 1) = (j:Int) + 1:=by rw [IntKind.wrap_i64]; omega
       have w2:IntKind.i64.wrap (2 * (i:Int)) = 2 * (i:Int):=by rw [IntKind.wrap_i64]; omega
       have w3:IntKind.i64.wrap (2 * (i:Int) + 1) = 2 * (i:Int) + 1:=by rw [IntKind.wrap_i64]; omega
       go_upto_region 17 with fail
       refine wp_region_till 23 (SinceB wA fun W=>W.rangeAt g (2 * i * 32) (byteCells A)∧W.rangeAt g ((2 * i + 1) * 32) (byteCells C)) (by kernel_rfl) ⟨fun _=>(Below.refl _ _).drew,HRG.out _ rfl⟩ (fun hHeld=>?_)
       refine wT (i:=0) (v:=.pointer (some ⟨kb,0,none⟩)) rfl (Or.inl ⟨by rfl,fun w _=>?_⟩) hHeld ?_
       ·go_simp
       simp only [List.getElem_toArray,List.getElem_cons_zero,Act.put,List.setIfInBounds_toArray,List.set_cons_zero,List.set_cons_succ]
       refine wT (i:=1) (v:=.int .i64 (j:Int)) rfl (Or.inl ⟨by rfl,fun w _=>?_⟩) hHeld ?_
       ·go_simp
       simp only [List.getElem_toArray,List.getElem_cons_succ,List.getElem_cons_zero,Act.put,List.setIfInBounds_toArray,List.set_cons_zero,List.set_cons_succ]
       refine wT (i:=2) (v:=.int .i64 ((j:Int) + 1)) rfl (Or.inl ⟨by rfl,fun w _=>?_⟩) hHeld ?_
       ·go_simp
       simp only [List.getElem_toArray,List.getElem_cons_succ,List.getElem_cons_zero,Act.put,List.setIfInBounds_toArray,List.set_cons_zero,List.set_cons_succ]
       refine wT (i:=3) (v:=.pointer (some ⟨kb,0,none⟩)) rfl (Or.inl ⟨by rfl,fun w _=>?_⟩) hHeld ?_
       ·go_simp
       simp only [List.getElem_toArray,List.getElem_cons_succ,List.getElem_cons_zero,Act.put,List.setIfInBounds_toArray,List.set_cons_zero,List.set_cons_succ]
       refine wT (i:=4) (v:=.int .i64 (j:Int)) rfl (Or.inl ⟨by rfl,fun w _=>?_⟩) hHeld ?_
       ·go_simp
       simp only [List.getElem_toArray,List.getElem_cons_succ,List.getElem_cons_zero,Act.put,List.setIfInBounds_toArray,List.set_cons_zero,List.set_cons_succ]
       refine wT (i:=5) (v:=.int .i64 ((j:Int) + 1)) rfl (Or.inl ⟨by rfl,fun w _=>?_⟩) hHeld ?_
       ·go_simp
       simp only [List.getElem_toArray,List.getElem_cons_succ,List.getElem_cons_zero,Act.put,List.setIfInBounds_toArray,List.set_cons_zero,List.set_cons_succ]
       refine wT (i:=6) (v:=.pointer (some ⟨kb,0,none⟩)) rfl (Or.inl ⟨by rfl,fun w _=>?_⟩) hHeld ?_
       ·go_simp
       simp only [List.getElem_toArray,List.getElem_cons_succ,List.getElem_cons_zero,Act.put,List.setIfInBounds_toArray,List.set_cons_zero,List.set_cons_succ]
       refine wT (i:=7) (v:=.pointer (some ⟨kb,32,none⟩)) rfl (Or.inl ⟨by rfl,fun w _=>?_⟩) hHeld ?_
       ·go_simp
       simp only [List.getElem_toArray,List.getElem_cons_succ,List.getElem_cons_zero,Act.put,List.setIfInBounds_toArray,List.set_cons_zero,List.set_cons_succ]
       refine wT (i:=8) (v:=.pointer (some ⟨kb,32 + (j + 1),none⟩)) rfl (Or.inl ⟨by rfl,fun w _=>?_⟩) hHeld ?_
       ·go_simp
       simp only [List.getElem_toArray,List.getElem_cons_succ,List.getElem_cons_zero,Act.put,List.setIfInBounds_toArray,List.set_cons_zero,List.set_cons_succ]
       refine wF (i:=9) (v:=lv (j + 1)) rfl (Or.inl ⟨by rfl,fun w hSw=>?_⟩) hHeld ?_
       ·have c:w.cell? ⟨kb,32 + (j + 1),none⟩ = some (lv (j + 1)):=(HKA.out.below (hSw.1 rfl)).level (t:=j + 1) HJ7.out
        go_simp
       simp only [List.getElem_toArray,List.getElem_cons_succ,List.getElem_cons_zero,Act.put,List.setIfInBounds_toArray,List.set_cons_zero,List.set_cons_succ]
       refine wT (i:=10) (v:=.slice (some ⟨g,0,none⟩) n cap) rfl (Or.inl ⟨by rfl,fun w _=>?_⟩) hHeld ?_
       ·go_simp
       simp only [List.getElem_toArray,List.getElem_cons_succ,List.getElem_cons_zero,Act.put,List.setIfInBounds_toArray,List.set_cons_zero,List.set_cons_succ]
       refine wT (i:=11) (v:=.int .i64 (i:Int)) rfl (Or.inl ⟨by rfl,fun w _=>?_⟩) hHeld ?_
       ·go_simp
       simp only [List.getElem_toArray,List.getElem_cons_succ,List.getElem_cons_zero,Act.put,List.setIfInBounds_toArray,List.set_cons_zero,List.set_cons_succ]
       refine wT (i:=12) (v:=.int .i64 (2 * (i:Int))) rfl (Or.inl ⟨by rfl,fun w _=>?_⟩) hHeld ?_
       ·go_simp
       simp only [List.getElem_toArray,List.getElem_cons_succ,List.getElem_cons_zero,Act.put,List.setIfInBounds_toArray,List.set_cons_zero,List.set_cons_succ]
       refine wT (i:=13) (v:=.pointer (some ⟨g,2 * i * 32,none⟩)) rfl (Or.inl ⟨by rfl,fun w _=>?_⟩) hHeld ?_
       ·go_simp
       simp only [List.getElem_toArray,List.getElem_cons_succ,List.getElem_cons_zero,Act.put,List.setIfInBounds_toArray,List.set_cons_zero,List.set_cons_succ]
       refine wT (i:=14) (v:=hv A) rfl (yieldsIf_load_mid (by rfl) 23 (.tmp 76) (by rfl) g (2 * i * 32) (by rfl) (byteCells A) _ (fun w ⟨_,h⟩=>h.2.1) Tryz.underlying23 rfl (by rw [Lib.byteCells_length,AL.out]; exact hashInfo)) hHeld ?_
       simp only [List.getElem_toArray,List.getElem_cons_succ,List.getElem_cons_zero,Act.put,List.setIfInBounds_toArray,List.set_cons_zero,List.set_cons_succ]
       refine wT (i:=15) (v:=.slice (some ⟨g,0,none⟩) n cap) rfl (Or.inl ⟨by rfl,fun w _=>?_⟩) hHeld ?_
       ·go_simp
       simp only [List.getElem_toArray,List.getElem_cons_succ,List.getElem_cons_zero,Act.put,List.setIfInBounds_toArray,List.set_cons_zero,List.set_cons_succ]
       refine wT (i:=16) (v:=.int .i64 (i:Int)) rfl (Or.inl ⟨by rfl,fun w _=>?_⟩) hHeld ?_
       ·go_simp
       simp only [List.getElem_toArray,List.getElem_cons_succ,List.getElem_cons_zero,Act.put,List.setIfInBounds_toArray,List.set_cons_zero,List.set_cons_succ]
       refine wT (i:=17) (v:=.int .i64 (2 * (i:Int))) rfl (Or.inl ⟨by rfl,fun w _=>?_⟩) hHeld ?_
       ·go_simp
       simp only [List.getElem_toArray,List.getElem_cons_succ,List.getElem_cons_zero,Act.put,List.setIfInBounds_toArray,List.set_cons_zero,List.set_cons_succ]
       refine wT (i:=18) (v:=.int .i64 (2 * (i:Int) + 1)) rfl (Or.inl ⟨by rfl,fun w _=>?_⟩) hHeld ?_
       ·go_simp
       simp only [List.getElem_toArray,List.getElem_cons_succ,List.getElem_cons_zero,Act.put,List.setIfInBounds_toArray,List.set_cons_zero,List.set_cons_succ]
       refine wT (i:=19) (v:=.pointer (some ⟨g,(2 * i + 1) * 32,none⟩)) rfl (Or.inl ⟨by rfl,fun w _=>?_⟩) hHeld ?_
       ·go_simp
       simp only [List.getElem_toArray,List.getElem_cons_succ,List.getElem_cons_zero,Act.put,List.setIfInBounds_toArray,List.set_cons_zero,List.set_cons_succ]
       refine wT (i:=20) (v:=hv C) rfl (yieldsIf_load_mid (by rfl) 23 (.tmp 82) (by rfl) g ((2 * i + 1) * 32) (by rfl) (byteCells C) _ (fun w ⟨_,h⟩=>h.2.2) Tryz.underlying23 rfl (by rw [Lib.byteCells_length,CL.out]; exact hashInfo)) hHeld ?_
       simp only [List.getElem_toArray,List.getElem_cons_succ,List.getElem_cons_zero,Act.put,List.setIfInBounds_toArray,List.set_cons_zero,List.set_cons_succ]
       refine wT (i:=24) (v:=.pointer (some ⟨kb,0,none⟩)) rfl (Or.inl ⟨by rfl,fun w _=>?_⟩) hHeld ?_
       ·go_simp
       simp only [List.getElem_toArray,List.getElem_cons_succ,List.getElem_cons_zero,Act.put,List.setIfInBounds_toArray,List.set_cons_zero,List.set_cons_succ]
       refine wT (i:=25) (v:=.pointer (some ⟨kb,32,none⟩)) rfl (Or.inl ⟨by rfl,fun w _=>?_⟩) hHeld ?_
       ·go_simp
       simp only [List.getElem_toArray,List.getElem_cons_succ,List.getElem_cons_zero,Act.put,List.setIfInBounds_toArray,List.set_cons_zero,List.set_cons_succ]
       refine wpAnyT_ready (rs:=[21]) (by kernel_rfl) (by simp) ?_
       refine AllReadyT.cons false rfl (by kernel_rfl) (fun K hK=>?_) AllReadyT.nil
       go_simp
       refine (HNO.out _ (hHeld.1 rfl)).mono ?_
       rintro e wy ⟨rfl,hy⟩
       go_wp2_with fail
       have hy:=(hHeld.1 rfl).trans (hy.mono (hHeld.1 rfl).size)
       refine hK.out _ _ ⟨fun _=>hy,HRG.out _ (hy.block g HGL.out)⟩ (fun hHeld=>?_)
       clear hy
       clear hK K
       refine wpAnyT_ready (rs:=[22]) (by kernel_rfl) (by simp) ?_
       refine AllReadyT.cons false rfl (by kernel_rfl) (fun K hK=>?_) AllReadyT.nil
       refine step_buildHash zl HZL.out (by rfl) (.tmp 84) (by rfl) N (by rfl) HNL.out ?_
       have hy:=(hHeld.1 rfl).alloc (hHeld.1 rfl).size (.cells (byteCells N).toArray 23)
       refine hK.out _ _ ⟨fun _=>hy,HRG.out _ (hy.block g HGL.out)⟩ (fun hHeld=>?_)
       clear hy
       clear hK K
       refine wpAnyT_ready (rs:=[23]) (by kernel_rfl) (by simp) ?_
       refine AllReadyT.cons true rfl (by kernel_rfl) (fun K hK=>?_) AllReadyT.nil
       refine step_append_hash (by rfl) (.tmp 72) (.tmp 85) (by rfl) (by rfl) ((HKA.out.below (hHeld.1 rfl)).own (j + 1) HJ7.out) (by rfl) (HashAt.new wy N HNL.out) (by rw [HCI.out]; have:=HI64.out; omega) (HKA.out.below (hHeld.1 rfl)).lt ?_
       intro v' W5 h2 h3 h5
       obtain ⟨vo,vk,vq,rfl⟩:∃ ao n c,v' = .slice ao n c:=by rcases h2.2 with ⟨h,_⟩ | ⟨_,_,_,h,_⟩ <;> exact ⟨_,_,_,h⟩
       obtain ⟨⟨u,q1⟩,q2,q3,q4⟩:=HKA.out.push (t:=(j + 1)) HJ7.out (hHeld.1 rfl) (by rw [← HKN.out] at h2; exact h2) h3 h5
       have HQ3:=hid q3
       have HQ4:=hid (q4 _ _ HAB.out HKB.out)
       have hw5:W5.heap[g]? = wA.heap[g]?:=(h3.block g (Nat.lt_of_lt_of_le HGL.out (hHeld.1 rfl).size) HNE.out).trans ((hHeld.1 rfl).block g HGL.out)
       have HRC:=hid (HRG.out _ hw5)
       have HRS:=hid (HRG.out _ ((Below.heap_setCell W5 ⟨kb,32 + (j + 1),none⟩ (.slice vo vk vq) g HGK.out).trans hw5))
       clear hw5
       clear q3 q4 h2 h3 h5
       refine hK.out _ _ ⟨fun h=>(by cases h),HRC.out⟩ (fun hHeld=>?_)
       clear hK K
       refine wT (i:=26) (v:=.pointer (some ⟨kb,32 + (j + 1),none⟩)) rfl (Or.inl ⟨by rfl,fun w _=>?_⟩) hHeld ?_
       ·go_simp
       simp only [List.getElem_toArray,List.getElem_cons_succ,List.getElem_cons_zero,Act.put,List.setIfInBounds_toArray,List.set_cons_zero,List.set_cons_succ]
       refine wpAnyT_ready (rs:=[27]) (by kernel_rfl) (by simp) ?_
       refine AllReadyT.cons true rfl (by kernel_rfl) (fun K hK=>?_) AllReadyT.nil
       go_simp
       refine hK.out _ _ ⟨fun h=>(by cases h),HRS.out⟩ (fun hHeld=>?_)
       clear hK K
       refine wpAnyT_done (by kernel_rfl) ?_ _
       clear w1 w2 w3 HRC HRS HRG HNO HRA HRX
       go_wp2_with fail
       rw [HCI.out,cnt2_next] at HQ3
       exact ⟨⟨i + 1,_,HIM.out,by go_num,(by unfold updV; rw [if_neg (by omega)]; exact HVJ.out),HQ3.out,HQ4.out⟩,by have:=HIM.out; simp [intOf]; omega⟩
      ·obtain rfl:i = M:=by omega
       have i4:¬ (i:Int) < (i:Int):=by omega
       rw [← HMM.out,cnt2_full] at hkw
       have HKA:=hid hkw
       have HAB:=hid hbel
       clear hkw hbel hi hlt hvj HMM
       go_wp2_with fail
       exact ⟨⟨j + 1,_,HJH.out,by go_num,HKA.out,HAB.out⟩,by have:=HJH.out; simp [intOf]; omega⟩
    ·obtain rfl:j = h:=by omega
     have i3:¬ (j:Int) < (j:Int):=by omega
     rw [cnt2_end] at hkw
     have HKA:=hid hkw
     have HAB:=hid hbel
     clear hkw hbel hj hlt
     go_wp2_with fail
     exact bodyPost_ret (results_tmp2 rfl _ _ _) rfl ⟨kb,rfl,HKB.out,⟨_,HKA.out⟩,HAB.out⟩
end Go.Proofs.YticlgcfodlcpcaaGreatDoor
