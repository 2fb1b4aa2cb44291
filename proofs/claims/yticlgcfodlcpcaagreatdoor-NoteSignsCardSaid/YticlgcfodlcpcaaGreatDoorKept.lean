/- Regions that draw their order and whose calls make memory,but answer one value whatever was made: one walk of the lexical order,in any world in which what lay -/
import Derived.Test.YticlgcfodlcpcaaGreatDoorQuietTail
import Derived.Test.YticlgcfodlcpcaaGreatDoorNB
import Derived.Below
namespace Go.Proofs.YticlgcfodlcpcaaGreatDoor
open Go.Lib (hid byteCells)
open Go.RowKit
structure Kept (W:World) where
 w:World
 below:Below W.heap.size W w
instance (W:World):Nonempty (Kept W):=⟨⟨W,Below.refl _ _⟩⟩
abbrev KC (W:World):World→Prop:=fun w'=>∃ x:Kept W,w' = x.w
@[go_sem] theorem Kept.cell_old {W:World} (x:Kept W) {b o:Nat} (h:b < W.heap.size):x.w.cell? ⟨b,o,none⟩ = W.cell? ⟨b,o,none⟩:=x.below.cell (p:=⟨b,o,none⟩) h
@[go_sem] theorem Kept.frozen_old {W:World} (x:Kept W) {b o:Nat} (h:b < W.heap.size):x.w.frozen? ⟨b,o,none⟩ = W.frozen? ⟨b,o,none⟩:=x.below.frozen (p:=⟨b,o,none⟩) h
theorem Kept.heap_old {W:World} (x:Kept W) {b:Nat} {o:Obj} (h:W.heap[b]? = some o):x.w.heap[b]? = some o:=by
 have hb:b < W.heap.size:=by
  rcases Nat.lt_or_ge b W.heap.size with hlt | hge
  ·exact hlt
  ·rw [Array.getElem?_eq_none hge] at h; cases h
 rw [x.below.block b hb]
 exact h
theorem Kept.call {P:Program} {f:FuncId} {args:Array Value} {W:World} {x:Kept W} {v:Value}
  (h:Calls P f args x.w fun e w'=>e = .returned v∧Below x.w.heap.size x.w w'):Calls P f args x.w fun e w''=>e = .returned v∧∃ y:Kept W,w'' = y.w:=
 h.mono fun _ w' ⟨he,hb⟩=>⟨he,⟨w',x.below.trans (hb.mono x.below.size)⟩,rfl⟩
theorem wp_region_kept {P:Program} {id:Nat} {Q:Exit→Act→World→Prop} {a:Act} {W:World} {l:List Oper} (hm:P.follows .mixedOrders = true) (hB:Region.lexB .any l.toArray = true)
  (h:wpQuiet P l.toArray (fun w'=>∃ x:Kept W,w' = x.w) (fun a'=>∀ x:Kept W,Q .normal a' x.w) l a):(Code.region id l.toArray true).wp P Q a W:=
 wp_region_quiet (C:=KC W) hm hB ⟨⟨_,(Below.refl _ W).drew⟩,rfl⟩ (by
  have e:(fun a'=>∀ w',KC W w'→Q .normal a' w') = fun a'=>∀ x:Kept W,Q .normal a' x.w:=by
   funext a'
   exact propext ⟨fun h x=>h _ ⟨x,rfl⟩,fun h w' ⟨x,hx⟩=>hx ▸ h x⟩
  rw [e]
  exact h)
theorem wp_region_kept_tail {P:Program} {id:Nat} {Q:Exit→Act→World→Prop} {a:Act} {W:World} {l:List Oper} (n:Nat) (hm:P.follows .mixedOrders = true) (hB:Region.lexTailB .any l.toArray n = true)
  (h:wpQuiet P l.toArray (fun w'=>∃ x:Kept W,w' = x.w) (fun a'=>∀ x:Kept W,wpList P l.toArray Q (l.drop n) a' x.w) (l.take n) a):(Code.region id l.toArray true).wp P Q a W:=by
 simp only [Region.lexTailB,Bool.and_eq_true,decide_eq_true_eq] at hB
 obtain ⟨⟨⟨⟨hsel,hn⟩,hs⟩,hc⟩,hlex⟩:=hB
 have hn':n < l.length:=by simpa using hn
 have htl:(l.take n).length = n:=by simp; omega
 have hdl:(l.drop n).length = l.toArray.size - n:=by simp
 have inv0:HeadInv .any l.toArray n (Array.replicate l.toArray.size false):=
  ⟨by simp,fun j oj _ hl=>(by rw [getD_replicate_false] at hl; cases hl),fun t _ ht=>getD_in (by simpa using ht) (getD_replicate_false _ _)⟩
 have H:=wpAnyQL_lex (C:=KC W) (md:=.any) (g:=l.toArray.size - n) hsel hs hc hn (l.take n) 0 _ a (fun j hj=>by
  have hj':j < n:=by rw [htl] at hj; exact hj
  simp [hj']) (by simpa using htl) inv0 (by rw [htl]; exact hlex) h
 refine wp_region_any hm ?_
 have:=wpAny_of_headQ (C:=KC W) (Q':=Q) (g:=l.toArray.size - n) (fun listed a' w' hw hL=>by
  obtain ⟨x,rfl⟩:=hw
  have:=wpAny_of_seq (md:=.any) (Q':=Q) (l.drop n) n listed a' x.w (fun j=>by simp [List.getElem?_drop]) (by rw [hdl]; exact hL.1) (hL.2 x)
  rwa [hdl] at this) _ _ _ _ ⟨⟨_,(Below.refl _ W).drew⟩,rfl⟩ H
 rw [htl,show n + (l.toArray.size - n) = l.toArray.size by omega] at this
 exact this
theorem wpList_hashLoad {ops:Array Oper} {rest:List Oper} {o:Oper} {a:Act} {W:World} {Q:Exit→Act→World→Prop} (hw:Region.wanted o (yielded ops a.tmps) = true) (x:Operand) (ho:o.op = .load 23 x)
  (g off:Nat) (hx:a.eval x = .pointer (some ⟨g,off,none⟩)) (l:List UInt8) (hl:l.length = 32) (hr:W.rangeAt g off (byteCells l))
  (h:wpList Tryz.prog ops Q rest (a.put o.dst (.agg (byteCells l).toArray)) W):wpList Tryz.prog ops Q (o :: rest) a W:=
 wpList_step fun K hK=>by
  rw [if_pos hw]
  exact wp_load_mid 23 x ho g off hx (byteCells l) _ hr Tryz.underlying23 rfl (by rw [Lib.byteCells_length,hl]; exact hashInfo) (hK _ _ h)
theorem wpQuiet_hashLoad {ops:Array Oper} {W:World} {Q:Act→Prop} {rest:List Oper} {a:Act} {o:Oper} (hw:Region.wanted o (yielded ops a.tmps) = true) (x:Operand) (ho:o.op = .load 23 x)
  (g off:Nat) (hx:a.eval x = .pointer (some ⟨g,off,none⟩)) (l:List UInt8) (hl:l.length = 32) (hr:W.rangeAt g off (byteCells l))
  (h:wpQuiet Tryz.prog ops (fun w'=>∃ x:Kept W,w' = x.w) Q rest (a.put o.dst (.agg (byteCells l).toArray))):wpQuiet Tryz.prog ops (fun w'=>∃ x:Kept W,w' = x.w) Q (o :: rest) a:=
 wpQuiet_step fun K hK=>by
  rw [if_pos hw]
  refine ⟨.agg (byteCells l).toArray,fun w hw=>?_,hK _ h⟩
  obtain ⟨y,rfl⟩:=hw
  have hr':y.w.rangeAt g off (byteCells l):=range_below y.below hr
  unfold Oper.quietAt execOp
  simp only [ho,hx,Instr.loadAt,Instr.sureAddr,Sem.run_bind,Sem.run_pure,Result.andThen_ok,run_loadVar_mid y.w g off 23 (byteCells l) _ hr' Tryz.underlying23 rfl (by rw [hashInfo,Lib.byteCells_length,hl])]
  exact ⟨rfl,rfl⟩
end Go.Proofs.YticlgcfodlcpcaaGreatDoor
