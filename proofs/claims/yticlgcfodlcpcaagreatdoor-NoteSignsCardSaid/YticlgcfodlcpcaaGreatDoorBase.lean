/- What every walk knows of the package-level variables (Base),kept by whatever leaves old memory alone; what an error value is (ErrAt: which sentinel,and its pl -/
import Derived.Test.YticlgcfodlcpcaaGreatDoorAs
import Derived.Below
import Derived.Lib.Hide
import Derived.Lib.LaidU8T
import Derived.Laws.Rows
import Derived.Outline
namespace Go.Proofs.YticlgcfodlcpcaaGreatDoor
open Go.RowKit
def errG:Nat→Nat
 | 1=>1 | 2=>0 | 3=>5 | 4=>2
 | 5=>6 | 6=>7 | 7=>8 | 8=>9
 | 9=>10 | 10=>11 | 11=>4 | 12=>3
 | 13=>12 | 14=>13 | 15=>14 | 16=>15 | _=>0
def errV (S:Nat→Addr) (i:Nat):Value:=.iface 251 (.pointer (some (S i)))
def blankTab:List Int:=[32,32,133,133,160,160,5760,5760,8192,8202,8232,8233,8239,8239,8287,8287,12288,12288]
def blankCells:Array Value:=(blankTab.map (Value.int .i32)).toArray
structure Base (S:Nat→Addr) (w:World):Prop where
 var:∀ i,1 ≤ i→i ≤ 16→w.cell? ⟨errG i,0,none⟩ = some (errV S i)
 blk:∀ i,1 ≤ i→i ≤ 16→∃ c t,w.heap[(S i).block]? = some (.cells c t (0,0))
 inj:∀ i j,1 ≤ i→i ≤ 16→1 ≤ j→j ≤ 16→S i = S j→i = j
 et:w.cell? ⟨19,0,none⟩ = some (.iface 185 (.agg #[.pointer (some ⟨22,34,none⟩)]))
 tab:Lib.Utf8Tabs 16 17 w
 bl:∃ t fr,w.heap[18]? = some (.cells blankCells t fr)
 mx:∃ m,w.cell? ⟨20,0,none⟩ = some (.int .i64 m)
theorem lt_of_cell {w:World} {p:Addr} {v:Value} (h:w.cell? p = some v):p.block < w.heap.size:=by
 rcases Nat.lt_or_ge p.block w.heap.size with h' | h'
 ·exact h'
 ·simp [World.cell?,Array.getElem?_eq_none h'] at h
theorem lt_of_heap {w:World} {b:Nat} {o:Obj} (h:w.heap[b]? = some o):b < w.heap.size:=by
 rcases Nat.lt_or_ge b w.heap.size with h' | h'
 ·exact h'
 ·simp [Array.getElem?_eq_none h'] at h
theorem below_cell {w w':World} (hb:Below w.heap.size w w') {p:Addr} {v:Value} (h:w.cell? p = some v):w'.cell? p = some v:=
 (hb.cell (lt_of_cell h)).trans h
theorem below_heap {w w':World} (hb:Below w.heap.size w w') {b:Nat} {o:Obj} (h:w.heap[b]? = some o):w'.heap[b]? = some o:=
 (hb.block b (lt_of_heap h)).trans h
theorem below_trans {w w1 w2:World} (h1:Below w.heap.size w w1) (h2:Below w1.heap.size w1 w2):Below w.heap.size w w2:=
 h1.trans (h2.mono h1.size)
theorem Base.below {S:Nat→Addr} {w w':World} (h:Base S w) (hb:Below w.heap.size w w'):Base S w' where
 var:=fun i h1 h2=>below_cell hb (h.var i h1 h2)
 blk:=fun i h1 h2=>by
  obtain ⟨c,t,hc⟩:=h.blk i h1 h2
  exact ⟨c,t,below_heap hb hc⟩
 inj:=h.inj
 et:=below_cell hb h.et
 tab:=⟨fun c hc=>below_cell hb (h.tab.1 c hc),fun i hi=>⟨below_cell hb (h.tab.2 i hi).1,below_cell hb (h.tab.2 i hi).2⟩⟩
 bl:=by
  obtain ⟨t,fr,hc⟩:=h.bl
  exact ⟨t,fr,below_heap hb hc⟩
 mx:=by
  obtain ⟨m,hm⟩:=h.mx
  exact ⟨m,below_cell hb hm⟩
theorem Base.ne {S:Nat→Addr} {w:World} (h:Base S w) {i j:Nat} (h1:1 ≤ i) (h2:i ≤ 16) (h3:1 ≤ j) (h4:j ≤ 16) (hne:i ≠ j):S i ≠ S j:=
 fun e=>hne (h.inj i j h1 h2 h3 h4 e)
def ErrAt (S:Nat→Addr) (w:World) (v:Value) (c:Nat) (p:Option Int):Prop:=
 (v = .nilIface∧c = 0∧p = none) ∨ (1 ≤ c∧c ≤ 16∧v = errV S c∧p = none) ∨
 (1 ≤ c∧c ≤ 16∧∃ b z,v = .iface 146 (.pointer (some ⟨b,0,none⟩))∧w.heap[b]? = some (.cells #[errV S c,.int .i64 z] 150 (0,0))∧p = some z)
theorem ErrAt.below {S:Nat→Addr} {w w':World} {v:Value} {c:Nat} {p:Option Int} (h:ErrAt S w v c p) (hb:Below w.heap.size w w'):ErrAt S w' v c p:=by
 rcases h with h | h | ⟨h1,h2,b,z,hv,hh,hp⟩
 ·exact .inl h
 ·exact .inr (.inl h)
 ·exact .inr (.inr ⟨h1,h2,b,z,hv,below_heap hb hh,hp⟩)
theorem ErrAt.nil (S:Nat→Addr) (w:World):ErrAt S w .nilIface 0 none:=.inl ⟨rfl,rfl,rfl⟩
theorem ErrAt.le {S:Nat→Addr} {w:World} {v:Value} {c:Nat} {p:Option Int} (h:ErrAt S w v c p):c ≤ 16:=by
 rcases h with ⟨_,h,_⟩ | ⟨_,h,_⟩ | ⟨_,h,_⟩ <;> omega
theorem is_code {S:Nat→Addr} {w:World} {v:Value} {c:Nat} {p:Option Int} (hB:Base S w) (h:ErrAt S w v c p) (hc:1 ≤ c) (j:Nat) (h1:1 ≤ j) (h2:j ≤ 16) :
  Calls Tryz.prog 32 #[v,errV S j] w fun e w'=>e = .returned (.bool (decide (c = j)))∧w = w':=by
 obtain ⟨cj,tj,hj⟩:=hB.blk j h1 h2
 rcases h with ⟨_,h,_⟩ | ⟨_,hc2,rfl,_⟩ | ⟨_,hc2,b,z,rfl,hb,_⟩
 ·omega
 ·obtain ⟨cc,tc,hcc⟩:=hB.blk c hc hc2
  by_cases e:c = j
  ·subst e
   simpa [errV] using is_same (S c) w
  ·have:=is_other (S c) (S j) cc cj tc tj w (hB.ne hc hc2 h1 h2 e) hcc hj
   simpa [errV,e] using this
 ·obtain ⟨cc,tc,hcc⟩:=hB.blk c hc hc2
  have h0:w.cell? ⟨b,0,none⟩ = some (errV S c):=by rw [cell_of_row w b 0 _ _ _ hb]; rfl
  by_cases e:c = j
  ·subst e
   simpa [errV] using is_fault_same b (S c) w h0
  ·have:=is_fault_other b (S c) (S j) cc cj tc tj w h0 (hB.ne hc hc2 h1 h2 e) hcc hj
   simpa [errV,e] using this
end Go.Proofs.YticlgcfodlcpcaaGreatDoor
