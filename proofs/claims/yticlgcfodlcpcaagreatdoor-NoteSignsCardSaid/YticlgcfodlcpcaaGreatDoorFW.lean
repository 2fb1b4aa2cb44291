/- The world of the forged stretch: what the error variables hold,a log of leaves,a slice of hashes,hashes compared. -/
import Derived.Test.YticlgcfodlcpcaaGreatDoorSha6
import Derived.Test.YticlgcfodlcpcaaGreatDoorKept
import Derived.Test.YticlgcfodlcpcaaGreatDoorNoteP
namespace Go.Proofs.YticlgcfodlcpcaaGreatDoor
open Go.Lib (hid byteCells)
open Go.RowKit
structure FW (S:Nat→Addr) (w:World):Prop where
 base:Base S w
 tab:TabSha w
 lt:21 < w.heap.size
theorem FW.below {S:Nat→Addr} {w w':World} (h:FW S w) (hb:Below w.heap.size w w'):FW S w' where
 base:=h.base.below hb
 tab:=tab_bel h.tab hb h.lt
 lt:=Nat.lt_of_lt_of_le h.lt hb.size
theorem FW.var {S:Nat→Addr} {w:World} (h:FW S w) (i:Nat) (h1:1 ≤ i) (h2:i ≤ 16):w.cell? ⟨errG i,0,none⟩ = some (errV S i):=h.base.var i h1 h2
def bs (s:ByteArray):List UInt8:=s.data.toList
def hcells (hs:List (List UInt8)):List Value:=hs.flatMap byteCells
def HsIn (W:World) (v:Value) (hs:List (List UInt8)):Prop:=
 (∀ h ∈ hs,h.length = 32)∧∃ ao cap,v = .slice ao hs.length cap∧hs.length ≤ cap∧(hs ≠ []→∃ g o,ao = some ⟨g,o,none⟩∧W.rangeAt g o (hcells hs))
theorem HsIn.below {w w':World} {v:Value} {hs:List (List UInt8)} (h:HsIn w v hs) (hb:Below w.heap.size w w'):HsIn w' v hs:=by
 obtain ⟨h1,ao,cap,rfl,hc,h2⟩:=h
 refine ⟨h1,ao,cap,rfl,hc,fun hne=>?_⟩
 obtain ⟨g,o,rfl,hr⟩:=h2 hne
 exact ⟨g,o,rfl,range_below hb hr⟩
theorem hcells_at:∀ (hs:List (List UInt8)) (i:Nat) (h:List UInt8),(∀ x ∈ hs,x.length = 32)→hs[i]? = some h→∀ j v,(byteCells h)[j]? = some v→(hcells hs)[i * 32 + j]? = some v
 | [],i,h,_,hi,_,_,_=>by simp at hi
 | x :: r,0,h,hl,hi,j,v,hj=>by
  simp only [List.getElem?_cons_zero,Option.some.injEq] at hi
  subst hi
  unfold hcells
  rw [List.flatMap_cons,List.getElem?_append_left (by simpa using (List.getElem?_eq_some_iff.1 hj).1),Nat.zero_mul,Nat.zero_add]
  exact hj
 | x :: r,i + 1,h,hl,hi,j,v,hj=>by
  have ih:=hcells_at r i h (fun y hy=>hl y (List.mem_cons_of_mem _ hy)) (by simpa using hi) j v hj
  have hx:(byteCells x).length = 32:=by rw [Lib.byteCells_length]; exact hl x (List.mem_cons_self ..)
  unfold hcells at ih ⊢
  rw [List.flatMap_cons,List.getElem?_append_right (by rw [hx]; omega),hx,show (i + 1) * 32 + j - 32 = i * 32 + j by omega]
  exact ih
theorem HsIn.at {W:World} {hs:List (List UInt8)} (hl:∀ x ∈ hs,x.length = 32) {g o:Nat} (hr:W.rangeAt g o (hcells hs)) {i:Nat} {h:List UInt8} (hi:hs[i]? = some h):W.rangeAt g (o + i * 32) (byteCells h):=by
 intro j v hj
 rw [Nat.add_assoc]
 exact hr _ _ (hcells_at hs i h hl hi j v hj)
theorem hcells_len:∀ (hs:List (List UInt8)),(∀ x ∈ hs,x.length = 32)→(hcells hs).length = hs.length * 32
 | [],_=>rfl
 | x :: r,hl=>by
  have ih:=hcells_len r (fun y hy=>hl y (List.mem_cons_of_mem _ hy))
  unfold hcells at ih ⊢
  rw [List.flatMap_cons,List.length_append,ih,Lib.byteCells_length,hl x (List.mem_cons_self ..),List.length_cons]
  omega
theorem z32_ex:∃ z:Array Value,(#[.int .u8 0,.int .u8 0,.int .u8 0,.int .u8 0,.int .u8 0,.int .u8 0,.int .u8 0,.int .u8 0,.int .u8 0,.int .u8 0,.int .u8 0,.int .u8 0,.int .u8 0,.int .u8 0,.int .u8 0,.int .u8 0,.int .u8 0,.int .u8 0,.int .u8 0,.int .u8 0,.int .u8 0,.int .u8 0,.int .u8 0,.int .u8 0,.int .u8 0,.int .u8 0,.int .u8 0,.int .u8 0,.int .u8 0,.int .u8 0,.int .u8 0,.int .u8 0]:Array Value) = z∧z.size = 32:=⟨_,rfl,rfl⟩
theorem hash_size {l:List UInt8} (h:l.length = 32):(byteCells l).toArray.size = 32:=by rw [List.size_toArray,Lib.byteCells_length,h]
theorem run_itemsX (d:Nat) (a b:List UInt8) (w:World):∀ is:List Nat,(∀ i ∈ is,i < a.length∧i < b.length) →
  (Op.eqItems (d + 1) 5 1 (byteCells a).toArray (byteCells b).toArray is).run Tryz.prog w = .ok (is.all fun i=>a[i]? == b[i]?) w
 | [],_=>by simp [Op.eqItems]
 | i :: is,h=>by
  obtain ⟨hi,hj⟩:=h i (List.mem_cons_self ..)
  have ea:(byteCells a).toArray[i * 1]? = some (.int .u8 (a[i].toNat:Int)):=by simp [byteCells,hi]
  have eb:(byteCells b).toArray[i * 1]? = some (.int .u8 (b[i].toNat:Int)):=by simp [byteCells,hj]
  have ih:=run_itemsX d a b w is fun j hj=>h j (List.mem_cons_of_mem _ hj)
  simp only [Op.eqItems,Sem.run_bind,run_part_plain w u8_plainT ea,run_part_plain w u8_plainT eb,Result.andThen_ok,run_equalIn_int w d 5 .u8 .u8 _ _ Tryz.underlying5]
  by_cases he:a[i] = b[i]
  ·have e1:(a[i]? == b[i]?) = true:=by rw [List.getElem?_eq_getElem hi,List.getElem?_eq_getElem hj,he]; simp
   simp only [he,List.all_cons,e1,Bool.true_and]
   simpa using ih
  ·have e1:(a[i]? == b[i]?) = false:=by rw [List.getElem?_eq_getElem hi,List.getElem?_eq_getElem hj]; simpa using he
   have e2:¬ (a[i].toNat:Int) = (b[i].toNat:Int):=fun e=>he (UInt8.toNat_inj.1 (by exact_mod_cast e))
   simp only [List.all_cons,e1,Bool.false_and]
   simp [e2]
theorem all_range_eq (a b:List UInt8) (ha:a.length = 32) (hb:b.length = 32):((List.range 32).all fun i=>a[i]? == b[i]?) = decide (a = b):=by
 by_cases h:a = b
 ·subst h
  simp
 ·rw [decide_eq_false h,List.all_eq_false]
  apply Classical.byContradiction
  intro hn
  refine h (List.ext_getElem? fun i=>?_)
  rcases Nat.lt_or_ge i 32 with hi | hi
  ·apply Classical.byContradiction
   intro he
   exact hn ⟨i,List.mem_range.2 hi,by simpa using he⟩
  ·rw [List.getElem?_eq_none (by omega),List.getElem?_eq_none (by omega)]
theorem run_hash_cmp (a b:List UInt8) (ha:a.length = 32) (hb:b.length = 32) (w:World) :
  (binOp .neq 23 (.agg (byteCells a).toArray) (.agg (byteCells b).toArray)).run Tryz.prog w = .ok (.bool (decide (a ≠ b))) w ∧
  (binOp .eql 23 (.agg (byteCells a).toArray) (.agg (byteCells b).toArray)).run Tryz.prog w = .ok (.bool (decide (a = b))) w:=by
 obtain ⟨e,hu,rfl⟩:=hashDesc
 obtain ⟨i,hi⟩:=Option.isSome_iff_exists.1 u8_infoT
 constructor
 ·rw [run_neq_struct,show (10000:Nat) = 9998 + 1 + 1 from rfl,run_equalIn_array w (9998 + 1) _ _ hu hi,u8_cellsT,run_itemsX 9998 a b w _ (fun j hj=>by rw [ha,hb]; exact ⟨List.mem_range.1 hj,List.mem_range.1 hj⟩),all_range_eq a b ha hb]
  simp
 ·rw [run_eql_struct,show (10000:Nat) = 9998 + 1 + 1 from rfl,run_equalIn_array w (9998 + 1) _ _ hu hi,u8_cellsT,run_itemsX 9998 a b w _ (fun j hj=>by rw [ha,hb]; exact ⟨List.mem_range.1 hj,List.mem_range.1 hj⟩),all_range_eq a b ha hb]
  rfl
end Go.Proofs.YticlgcfodlcpcaaGreatDoor
