/- What the walks below need of blocks,rows and hashes (taken out of elder texts by program). -/
import Derived.Test.YticlgcfodlcpcaaGreatDoorF64
import Derived.WalkSpells
import Derived.WalkLawsBesides
import Derived.OwnWalk
import Derived.Laws.CopyRow
import Derived.Laws.CopyOwn
import Derived.Laws.MakeOwn
import Derived.Laws.Tables
import Derived.Laws.OwnMore
import Derived.Lib.ItoaMem
import Derived.Deep.MidRow
import Derived.Deep.RegionHeld
import Derived.StillTailTactics
import Derived.BigQuiet
import Derived.IntWalk
import Derived.ChangeKeysEq
import Derived.Laws.StructEq
import Derived.Still
import Derived.Lib.ConvBytes
import Derived.Below
import Derived.StillTail
import Derived.Deep.Quiet
import Derived.Deep.QuietTactic
import Derived.WalkKit
import Derived.Lib.Hide
import Derived.Deep.RegionHeld3
import Derived.Deep.CutRange
import Derived.Deep.DeepCutAuto
import Derived.Outline
import Derived.Deep.CutBlock
import Derived.Laws.Rows
import Derived.Lib.ItoaNum
import Derived.ArgAppend
import Derived.Maps.AppendAt
import Derived.Deep.LoopGhost
import Derived.Laws.EntriesVeiled
import Derived.Maps.OwnSet
import Derived.DeepKeys4
namespace Go.Proofs.YticlgcfodlcpcaaGreatDoor
open Go.Lib (hid byteCells)
open Go.RowKit
-- of TileRow
theorem size_listT (s:ByteArray):s.data.toList.length = s.size:=Array.length_toList
-- of TileMay
theorem heap_one (w:World) (o:Obj):(w.alloc o).heap[w.heap.size]? = some o:=heap_alloc_new w o
theorem cell_of {W:World} {g:Nat} {cs:Array Value} {t:TypeId} {fr:Nat × Nat} (h:W.heap[g]? = some (.cells cs t fr)) (i:Nat) {v:Value} (hv:cs[i]? = some v):W.cell? ⟨g,i,none⟩ = some v:=by
 simp [World.cell?,h,hv]
theorem below_one (w:World) (o:Obj):Below w.heap.size w (w.alloc o):=(Below.refl _ _).alloc (Nat.le_refl _) _
-- of Hashes
theorem range_below {w w':World} (hb:Below w.heap.size w w') {g o:Nat} {cs:List Value} (h:w.rangeAt g o cs):w'.rangeAt g o cs:=fun j v hv=>below_cell hb (h j v hv)
theorem byteCells_all (l:List UInt8):(byteCells l).toArray.all (·.oneCell') = true:=by
 rw [List.all_toArray,List.all_eq_true]
 intro x hx
 obtain ⟨b,_,rfl⟩:=List.mem_map.1 hx
 rfl
theorem hashInfo:(Tryz.prog.info? 23).map (·.size) = some 32:=by kernel_rfl
theorem hashDesc:∃ e,Tryz.prog.underlying 23 = some (.array 32 e)∧e = 5:=⟨_,by kernel_rfl,rfl⟩
theorem stored1 (w2:World) (cs:Array Value) (t:TypeId) (old:Array Value):(w2.alloc (.cells old t)).setRow w2.heap.size cs = w2.alloc (.cells cs t):=by
 have h:(w2.heap.push (.cells old t))[w2.heap.size]? = some (.cells old t):=by simp
 unfold World.setRow World.alloc
 simp only
 congr 1
 refine Array.ext_getElem? fun j=>?_
 rw [Array.getElem?_modify]
 by_cases e:w2.heap.size = j
 ·subst e
  simp
 ·rw [if_neg e,Array.getElem?_push,Array.getElem?_push,if_neg (fun h=>e h.symm),if_neg (fun h=>e h.symm)]
theorem wpList_hash {ops:Array Oper} {rest:List Oper} {o:Oper} {a:Act} {w2:World} {Q:Exit→Act→World→Prop} (hgd:o.guard = none) (x y:Operand) (ho:o.op = .store 23 x y)
  {cs old:Array Value} (hx:a.eval x = .pointer (some ⟨w2.heap.size,0,none⟩)) (hy:a.eval y = .agg cs) (hcs:cs.size = 32) (hold:old.size = 32) (hone:cs.all (·.oneCell') = true)
  (h:wpList Tryz.prog ops Q rest (a.put o.dst undef) (w2.alloc (.cells cs 23))):wpList Tryz.prog ops Q (o :: rest) a (w2.alloc (.cells old 23)):=by
 refine wpList_store_row hgd 23 x y ho w2.heap.size cs hx hy 23 old (heap_alloc_new w2 _) (by rw [hcs]; exact hashInfo) (by rw [hcs,hold]) hone ?_
 rw [stored1]
 exact h
-- of HashD
theorem u8_plainT:Tryz.prog.plainKey 5 = true:=by kernel_rfl
theorem u8_cellsT:Tryz.prog.cellsOf 5 = 1:=by kernel_rfl
theorem u8_infoT:(Tryz.prog.info? 5).isSome = true:=by kernel_rfl
theorem h32_guardT:Tryz.prog.eqGuardType Tryz.prog.depth 23 = false:=by kernel_rfl
theorem bytes_belowH {B:Nat} {a w:World} (h:Below B a w) (e:TypeId) (s:ByteArray) (hB:B ≤ w.heap.size:=by omega):Below B a (Lib.bytesWorld w e s):=
 ⟨h.os,h.tape,h.output,Nat.le_trans h.size (by rw [Lib.bytesWorld_size]; omega),fun k hk=>(Lib.bytesWorld_at_old w e s k (by omega)).trans (h.block k hk)⟩
theorem owns_anyH {B:Nat} {w:World} {t:TypeId} {m:Nat} {v:Value} {n:Nat} {cs:List Value} (h:w.ownsRow B t m v n cs):∃ ao cap,v = .slice ao n cap:=by
 rcases h.2 with ⟨rfl,rfl⟩ | ⟨g,cap,cur,rfl,_⟩
 ·exact ⟨none,0,rfl⟩
 ·exact ⟨_,_,rfl⟩
theorem ownBlock_neH {w:World} {B:Nat} {e T:TypeId} {m:Nat} {v:Value} {n:Nat} {xs:List Value} {b:Nat} {cs:Array Value} {fr:Nat × Nat} (hown:w.ownsRow B e m v n xs) (hb:w.heap[b]? = some (.cells cs T fr)) (hTe:T ≠ e):v.ownBlock ≠ some b:=by
 rcases hown.2 with ⟨rfl,_⟩ | ⟨g,cap,cur,rfl,_,hg,_⟩
 ·intro h; cases h
 ·intro h
  have:g = b:=Option.some.inj h
  subst this
  rw [hb] at hg
  simp only [Option.some.injEq,Obj.cells.injEq] at hg
  exact hTe hg.2.1
def sliceLen:Value→Nat
 | .slice _ n _=>n
 | _=>0
theorem bytesCells_at (w:World) (e:TypeId) (s:ByteArray) (j:Nat) (v:Value) (h:(byteCells s.data.toList)[j]? = some v):(Lib.bytesCells w e s)[j]? = some v:=by
 unfold byteCells at h
 rw [List.getElem?_map] at h
 obtain ⟨b,hb,rfl⟩:=Option.map_eq_some_iff.1 h
 unfold Lib.bytesCells
 rw [Array.getElem?_append_left (by
  have:=(List.getElem?_eq_some_iff.1 hb).1
  rw [Array.size_map]
  simpa using this),Array.getElem?_map]
 rw [Array.getElem?_toList] at hb
 rw [hb]
 rfl
end Go.Proofs.YticlgcfodlcpcaaGreatDoor
