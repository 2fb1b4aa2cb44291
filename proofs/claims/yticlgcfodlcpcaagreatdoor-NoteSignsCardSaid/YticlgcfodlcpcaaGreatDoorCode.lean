/- cartularylaw01's Code,At,Is,IsAt and Same by contracts: which error,and where. -/
import Derived.Test.YticlgcfodlcpcaaGreatDoorBase
namespace Go.Proofs.YticlgcfodlcpcaaGreatDoor
open Go.Lib (hid byteCells)
open Go.RowKit
def sents (S:Nat→Addr):Array Value:=#[errV S 1,errV S 2,errV S 3,errV S 4,errV S 5,errV S 6,errV S 7,errV S 8,errV S 9,errV S 10,errV S 11,errV S 12,errV S 13,errV S 14,errV S 15,errV S 16]
theorem sents_get (S:Nat→Addr) (k:Nat) (h:k < 16):(sents S)[k]? = some (errV S (k + 1)):=by
 rcases (show k = 0 ∨ k = 1 ∨ k = 2 ∨ k = 3 ∨ k = 4 ∨ k = 5 ∨ k = 6 ∨ k = 7 ∨ k = 8 ∨ k = 9 ∨ k = 10 ∨ k = 11 ∨ k = 12 ∨ k = 13 ∨ k = 14 ∨ k = 15 by omega) with rfl | rfl | rfl | rfl | rfl | rfl | rfl | rfl | rfl | rfl | rfl | rfl | rfl | rfl | rfl | rfl <;> rfl
theorem code_nil (w:World):Calls Tryz.prog 38 #[.nilIface] w fun e w'=>e = .returned (.int .i64 0)∧w = w':=by
 go_enter Tryz.func38,Tryz.ntmps38
 go_wp2
 go_ret
 exact ⟨rfl,rfl⟩
set_option maxRecDepth 100000 in
theorem is_yes {S:Nat→Addr} {w:World} {v:Value} {p:Option Int} {j:Nat} (hB:Base S w) (h:ErrAt S w v j p) (h1:1 ≤ j) :
  Calls Tryz.prog 32 #[v,.iface 251 (.pointer (some (S j)))] w fun e w'=>e = .returned (.bool true)∧w = w':=by
 simpa [errV] using is_code hB h h1 j h1 h.le
theorem is_no {S:Nat→Addr} {w:World} {v:Value} {c:Nat} {p:Option Int} {j:Nat} (hB:Base S w) (h:ErrAt S w v c p) (hc:1 ≤ c) (h1:1 ≤ j) (h2:j ≤ 16) (hne:c ≠ j) :
  Calls Tryz.prog 32 #[v,.iface 251 (.pointer (some (S j)))] w fun e w'=>e = .returned (.bool false)∧w = w':=by
 simpa [errV,hne] using is_code hB h hc j h1 h2
set_option maxHeartbeats 2000000 in
theorem code_iface (S:Nat→Addr) (w:World) (t:TypeId) (x:Value) (c:Nat) (p:Option Int) (hB:Base S w) (h:ErrAt S w (.iface t x) c p) :
  Calls Tryz.prog 38 #[.iface t x] w fun e w'=>e = .returned (.int .i64 c)∧Below w.heap.size w w':=by
 have g1:=hB.var 1 (by omega) (by omega)
 have g2:=hB.var 2 (by omega) (by omega)
 have g3:=hB.var 3 (by omega) (by omega)
 have g4:=hB.var 4 (by omega) (by omega)
 have g5:=hB.var 5 (by omega) (by omega)
 have g6:=hB.var 6 (by omega) (by omega)
 have g7:=hB.var 7 (by omega) (by omega)
 have g8:=hB.var 8 (by omega) (by omega)
 have g9:=hB.var 9 (by omega) (by omega)
 have g10:=hB.var 10 (by omega) (by omega)
 have g11:=hB.var 11 (by omega) (by omega)
 have g12:=hB.var 12 (by omega) (by omega)
 have g13:=hB.var 13 (by omega) (by omega)
 have g14:=hB.var 14 (by omega) (by omega)
 have g15:=hB.var 15 (by omega) (by omega)
 have g16:=hB.var 16 (by omega) (by omega)
 simp only [errG,errV] at g1 g2 g3 g4 g5 g6 g7 g8 g9 g10 g11 g12 g13 g14 g15 g16
 have HB:=hid hB
 have HE:=hid h
 clear hB h
 go_enter Tryz.func38,Tryz.ntmps38
 go_wp2_with fail
 generalize hW:World.alloc _ _ = w1
 have hb:Below w.heap.size w w1:=by rw [← hW]; exact (Below.refl _ _).alloc (Nat.le_refl _) _
 have hcell:∀ k,k < 16→w1.cell? ⟨w.heap.size,k,none⟩ = some (.iface 251 (.pointer (some (S (k + 1))))):=fun k hk=>by
  rw [← hW,cell_of_row _ _ k _ _ _ (heap_alloc_new w _)]; exact sents_get S k hk
 have hc1:1 ≤ c:=by
  rcases HE.out with ⟨h,_⟩ | ⟨h,_⟩ | ⟨h,_⟩
  ·cases h
  ·exact h
  ·exact h
 have hc16:c ≤ 16:=HE.out.le
 have HB1:=hid (HB.out.below hb)
 have HE1:=hid (HE.out.below hb)
 clear hW g1 g2 g3 g4 g5 g6 g7 g8 g9 g10 g11 g12 g13 g14 g15 g16 HB HE
 go_loop [4,5] (fun n i=>∃ k:Nat,k ≤ 16∧i = .int .i64 k∧((k < c∧n = .int .i64 (-1)) ∨ (c ≤ k∧n = .int .i64 c))) (fun _ i=>16 - (intOf i).toNat)
 case atStart=>exact ⟨0,by omega,rfl,.inl ⟨by omega,rfl⟩⟩
 case round=>
  obtain ⟨k,hk,rfl,hn⟩:=hrel
  by_cases hlt:k < 16
  ·have hck:=hcell k hlt
   clear hcell
   rcases hn with ⟨hkc,rfl⟩ | ⟨hkc,rfl⟩
   ·by_cases he:c = k + 1
    ·subst he
     go_wp2_with (go_at_call 32; refine (is_yes HB1.out HE1.out (by omega)).mono ?_; rintro e w' ⟨rfl,rfl⟩)
     go_round
     case rel=>exact ⟨k + 1,by omega,by go_num,.inr ⟨by omega,by go_num⟩⟩
     case measure=>simp [intOf]; omega
    ·go_wp2_with (go_at_call 32; refine (is_no HB1.out HE1.out hc1 (by omega) (by omega) he).mono ?_; rintro e w' ⟨rfl,rfl⟩)
     go_round
     case rel=>exact ⟨k + 1,by omega,by go_num,.inl ⟨by omega,rfl⟩⟩
     case measure=>simp [intOf]; omega
   ·go_wp2_with (go_at_call 32; refine (is_no HB1.out HE1.out hc1 (by omega) (by omega) (by omega)).mono ?_; rintro e w' ⟨rfl,rfl⟩)
    go_round
    case rel=>exact ⟨k + 1,by omega,by go_num,.inr ⟨by omega,rfl⟩⟩
    case measure=>simp [intOf]; omega
  ·rcases hn with ⟨hkc,rfl⟩ | ⟨hkc,rfl⟩
   ·omega
   ·clear hcell
    go_wp2_with fail
    go_ret
    exact ⟨rfl,hb⟩
theorem code_any (S:Nat→Addr) (w:World) (v:Value) (c:Nat) (p:Option Int) (hB:Base S w) (h:ErrAt S w v c p) :
  Calls Tryz.prog 38 #[v] w fun e w'=>e = .returned (.int .i64 c)∧Below w.heap.size w w':=by
 have h':=h
 rcases h with ⟨rfl,rfl,_⟩ | ⟨_,_,rfl,_⟩ | ⟨_,_,b,z,rfl,_⟩
 ·refine (code_nil w).mono ?_
  rintro e w' ⟨rfl,rfl⟩
  exact ⟨rfl,Below.refl _ _⟩
 ·exact code_iface S w _ _ c p hB h'
 ·exact code_iface S w _ _ c p hB h'
end Go.Proofs.YticlgcfodlcpcaaGreatDoor
