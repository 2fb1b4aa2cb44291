/- text.wrong and text.FromDecimal by contracts. -/
import Derived.Test.YticlgcfodlcpcaaGreatDoorB64
namespace Go.Proofs.YticlgcfodlcpcaaGreatDoor
open Go.RowKit
def toldAt {α:Type} (z:α):Except Nat α→α × Nat × Option Int
 | .ok x=>(x,0,none)
 | .error i=>(z,3,some (i:Int))
theorem wrong_any (S:Nat→Addr) (z:Int) (w:World) (hB:Base S w) :
  Calls Tryz.prog 141 #[.int .i64 z] w fun e w'=>e = .returned (.iface 146 (.pointer (some ⟨w.heap.size,0,none⟩)))∧w.alloc (.cells #[errV S 3,.int .i64 z] 150) = w':=by
 have g:=hB.var 3 (by omega) (by omega)
 simp only [errG,errV] at g ⊢
 clear hB
 go_enter Tryz.func141,Tryz.ntmps141
 go_wp2
 go_ret
 exact ⟨rfl,rfl⟩
theorem wrong_err (S:Nat→Addr) (z:Int) (w:World):ErrAt S (w.alloc (.cells #[errV S 3,.int .i64 z] 150)) (.iface 146 (.pointer (some ⟨w.heap.size,0,none⟩))) 3 (some z):=
 .inr (.inr ⟨by omega,by omega,_,z,rfl,heap_alloc_new w _,rfl⟩)
theorem wrong_below (S:Nat→Addr) (z:Int) (w:World):Below w.heap.size w (w.alloc (.cells #[errV S 3,.int .i64 z] 150)):=(Below.refl _ _).alloc (Nat.le_refl _) _
def Told (S:Nat→Addr) (w:World) (v:Value) (c:Nat) (p:Option Int) (e:Ending) (w':World):Prop:=
 ∃ ev,e = .returned (.tuple #[v,ev])∧ErrAt S w' ev c p∧Below w.heap.size w w'
theorem limit_told (S:Nat→Addr) (w:World) {w':World} (hb:Below w.heap.size w w') (v:Value):Told S w v 4 none (.returned (.tuple #[v,errV S 4])) w':=
 ⟨_,rfl,.inr (.inl ⟨by omega,by omega,rfl,rfl⟩),hb⟩
end Go.Proofs.YticlgcfodlcpcaaGreatDoor
