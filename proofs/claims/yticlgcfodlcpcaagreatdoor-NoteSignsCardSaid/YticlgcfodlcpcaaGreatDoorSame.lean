/- cartularylaw01's At,Is,IsAt and Same by contracts. -/
import Derived.Test.YticlgcfodlcpcaaGreatDoorCode
namespace Go.Proofs.YticlgcfodlcpcaaGreatDoor
open Go.Lib (hid byteCells)
open Go.RowKit
theorem frozen_row {w:World} {b:Nat} {cs:Array Value} {t:TypeId} (h:w.heap[b]? = some (.cells cs t (0,0))) (j:Nat):w.frozen? ⟨b,j,none⟩ = false:=by
 simp [World.frozen?,h]
theorem asW_below (t:Addr) (w:World):Below w.heap.size w (asW t w):=by
 unfold asW
 exact (((Below.refl _ _).alloc (Nat.le_refl _) _).alloc (by simp) _).alloc (by simp; omega) _
theorem at_nil (w:World):Calls Tryz.prog 37 #[.nilIface] w fun e w'=>e = .returned (.tuple #[.int .i64 0,.bool false])∧Below w.heap.size w w':=by
 go_enter Tryz.func37,Tryz.ntmps37
 go_wp2_with (go_at_call 82; refine (as_nil _ _).mono ?_; rintro e w' ⟨rfl,rfl⟩)
 go_ret2
 exact ⟨rfl,(Below.refl _ _).alloc (Nat.le_refl _) _⟩
theorem at_sent (S:Nat→Addr) (w:World) (a:Addr) (hB:Base S w):Calls Tryz.prog 37 #[.iface 251 (.pointer (some a))] w fun e w'=>e = .returned (.tuple #[.int .i64 0,.bool false])∧Below w.heap.size w w':=by
 have hb1:Below w.heap.size w (w.alloc (.cells #[.pointer none] 146)):=(Below.refl _ _).alloc (Nat.le_refl _) _
 have hg:=(hB.below hb1).et
 have HG:=hid hg
 clear hg hB
 go_enter Tryz.func37,Tryz.ntmps37
 go_wp2_with (go_at_call 82; refine (as_sent _ _ _ HG.out).mono ?_; rintro e w' ⟨rfl,rfl⟩)
 go_ret2
 exact ⟨rfl,below_trans hb1 (asW_below _ _)⟩
set_option maxHeartbeats 1000000 in
theorem at_fault (S:Nat→Addr) (w:World) (b:Nat) (v:Value) (z:Int) (hB:Base S w) (hh:w.heap[b]? = some (.cells #[v,.int .i64 z] 150 (0,0))) :
  Calls Tryz.prog 37 #[.iface 146 (.pointer (some ⟨b,0,none⟩))] w fun e w'=>e = .returned (.tuple #[.int .i64 z,.bool true])∧Below w.heap.size w w':=by
 obtain ⟨w1,hw1⟩:∃ w1,w1 = w.alloc (.cells #[.pointer none] 146):=⟨_,rfl⟩
 have hb1:Below w.heap.size w w1:=by rw [hw1]; exact (Below.refl _ _).alloc (Nat.le_refl _) _
 have ht:w1.cell? ⟨w.heap.size,0,none⟩ = some (.pointer none):=by rw [hw1,cell_of_row _ _ 0 _ _ _ (heap_alloc_new w _)]; rfl
 have hf:w1.frozen? ⟨w.heap.size,0,none⟩ = false:=by rw [hw1]; exact frozen_row (heap_alloc_new w _) 0
 have hg:=(hB.below hb1).et
 have hh1:=below_heap hb1 hh
 have hfin:∀ w2,((asW ⟨w.heap.size,0,none⟩ w1).alloc (.cells #[.pointer (some ⟨b,0,none⟩)] 146)).setCell ⟨w.heap.size,0,none⟩ (.pointer (some ⟨b,0,none⟩)) = w2 →
   Below w.heap.size w w2∧w2.cell? ⟨w.heap.size,0,none⟩ = some (.pointer (some ⟨b,0,none⟩))∧w2.cell? ⟨b,1,none⟩ = some (.int .i64 z):=by
  rintro w2 rfl
  have hlt:w.heap.size < w1.heap.size:=by rw [hw1]; simp
  have hbelow1:Below w1.heap.size w1 ((asW ⟨w.heap.size,0,none⟩ w1).alloc (.cells #[.pointer (some ⟨b,0,none⟩)] 146)):=(asW_below _ _).alloc (asW_below _ _).size _
  have hbelow:Below w.heap.size w (((asW ⟨w.heap.size,0,none⟩ w1).alloc (.cells #[.pointer (some ⟨b,0,none⟩)] 146)).setCell ⟨w.heap.size,0,none⟩ (.pointer (some ⟨b,0,none⟩))):=
   (below_trans hb1 hbelow1).setCell (p:=⟨w.heap.size,0,none⟩) (Nat.le_refl _) _
  refine ⟨hbelow,World.cell?_setCell_same _ _ _ (below_cell hbelow1 ht),?_⟩
  have:=below_heap hbelow hh
  rw [cell_of_row _ _ 1 _ _ _ this]; rfl
 have HG:=hid hg
 have HT:=hid ht
 have HF:=hid hf
 have HI:=hid hfin
 clear hg ht hf hfin hh1 hh hB hb1
 go_enter Tryz.func37,Tryz.ntmps37
 go_wp2_with fail
 rw [← hw1]
 refine (as_fault _ _ _ _ HG.out HT.out HF.out).mono ?_
 rintro e w2 ⟨rfl,hw2⟩
 obtain ⟨hbl,h0,h1⟩:=HI.out w2 hw2
 clear hw2 HI hw1
 go_wp2
 go_ret2
 exact ⟨rfl,hbl⟩
theorem at_any (S:Nat→Addr) (w:World) (v:Value) (c:Nat) (p:Option Int) (hB:Base S w) (h:ErrAt S w v c p) :
  Calls Tryz.prog 37 #[v] w fun e w'=>e = .returned (.tuple #[.int .i64 (p.getD 0),.bool p.isSome])∧Below w.heap.size w w':=by
 rcases h with ⟨rfl,_,rfl⟩ | ⟨_,_,rfl,rfl⟩ | ⟨_,_,b,z,rfl,hh,rfl⟩
 ·exact at_nil w
 ·exact at_sent S w _ hB
 ·exact at_fault S w b _ z hB hh
def isB (c:Nat) (p:Option Int) (n:Int):Bool:=decide ((c:Int) = n) && decide (p.getD 0 = 0)
def isAtB (c:Nat) (p:Option Int) (n z:Int):Bool:=if n = 0 then decide (c = 0) else decide ((c:Int) = n) && decide (p = some z)
def sameB (c:Nat) (p:Option Int) (n z:Int):Bool:=if z = -1 then isB c p n else isAtB c p n z
theorem ret_bool {a b:Bool} (h:a = b):Ending.returned (.bool a) = Ending.returned (.bool b):=by rw [h]
set_option maxHeartbeats 1000000 in
theorem is_any (S:Nat→Addr) (w:World) (v:Value) (c:Nat) (p:Option Int) (n:Int) (hB:Base S w) (h:ErrAt S w v c p) :
  Calls Tryz.prog 11 #[v,.int .i64 n] w fun e w'=>e = .returned (.bool (isB c p n))∧Below w.heap.size w w':=by
 have HB:=hid hB
 have HE:=hid h
 clear hB h
 go_enter Tryz.func11,Tryz.ntmps11
 go_wp2_with fail
 refine (at_any S w v c p HB.out HE.out).mono ?_
 rintro e w1 ⟨rfl,hb1⟩
 go_wp2_with fail
 refine (code_any S w1 v c p (HB.out.below hb1) (HE.out.below hb1)).mono ?_
 rintro e w2 ⟨rfl,hb2⟩
 have hb:=below_trans hb1 hb2
 have hfin:∀ (x y:Bool),decide ((c:Int) = n) = x→decide (p.getD 0 = 0) = y→isB c p n = (x && y):=fun x y hx hy=>by rw [← hx,← hy]; rfl
 have hps:p.isSome = false→p.getD 0 = 0:=fun h=>by cases p with | none=>rfl | some _=>cases h
 have HF:=hid hfin
 have HP:=hid hps
 clear hfin hps hb1 hb2 HB HE
 generalize p.isSome = s at *
 generalize hz:p.getD 0 = z at *
 by_cases h1:(c:Int) = n
 ·cases s with
  | false=>
   have hz0:=HP.out rfl
   go_wp2
   go_ret
   exact ⟨ret_bool (by rw [HF.out true true (by simp [h1]) (by simp [hz0])]; rfl),hb⟩
  | true=>
   by_cases h2:z = 0
   ·subst h2
    go_wp2
    go_ret
    exact ⟨ret_bool (by rw [HF.out true true (by simp [h1]) (by simp)]; rfl),hb⟩
   ·go_wp2
    go_ret
    exact ⟨ret_bool (by rw [HF.out true false (by simp [h1]) (by simp [h2])]; simp [h2]),hb⟩
 ·go_wp2
  go_ret
  exact ⟨ret_bool (by rw [HF.out false _ (by simp [h1]) rfl]; rfl),hb⟩
set_option maxHeartbeats 1000000 in
theorem isAt_any (S:Nat→Addr) (w:World) (v:Value) (c:Nat) (p:Option Int) (n z:Int) (hB:Base S w) (h:ErrAt S w v c p) :
  Calls Tryz.prog 23 #[v,.int .i64 n,.int .i64 z] w fun e w'=>e = .returned (.bool (isAtB c p n z))∧Below w.heap.size w w':=by
 by_cases h0:n = 0
 ·subst h0
  by_cases hc:c = 0
  ·subst hc
   rcases h with ⟨rfl,_,rfl⟩ | ⟨h,_⟩ | ⟨h,_⟩
   ·go_enter Tryz.func23,Tryz.ntmps23
    go_wp2_with fail
    go_ret
    exact ⟨rfl,Below.refl _ _⟩
   ·omega
   ·omega
  ·obtain ⟨t,x,rfl⟩:∃ t x,v = .iface t x:=by
    rcases h with ⟨rfl,h,rfl⟩ | ⟨_,_,rfl,_⟩ | ⟨_,_,b,z,rfl,_⟩
    ·exact absurd h hc
    ·exact ⟨_,_,rfl⟩
    ·exact ⟨_,_,rfl⟩
   clear hB h
   go_enter Tryz.func23,Tryz.ntmps23
   go_wp2_with fail
   go_ret
   exact ⟨ret_bool (by simp [isAtB,hc]),Below.refl _ _⟩
 ·have HB:=hid hB
  have HE:=hid h
  clear hB h
  go_enter Tryz.func23,Tryz.ntmps23
  go_wp2_with fail
  refine (code_any S w v c p HB.out HE.out).mono ?_
  rintro e w1 ⟨rfl,hb1⟩
  by_cases h1:(c:Int) = n
  ·have hn:((c:Int) != n) = false:=by simp [h1]
   have H1:=hid h1
   clear h1
   go_wp2_with fail
   refine (at_any S w1 v c p (HB.out.below hb1) (HE.out.below hb1)).mono ?_
   rintro e w2 ⟨rfl,hb2⟩
   have hb:=below_trans hb1 hb2
   have hfin:isAtB c p n z = decide (p = some z):=by simp [isAtB,h0,H1.out]
   have HF:=hid hfin
   clear hfin HB HE hb1 hb2
   cases p with
   | none=>
    simp only [Option.isSome_none,Option.getD_none]
    go_wp2
    go_ret
    exact ⟨ret_bool (by rw [HF.out]; simp),hb⟩
   | some y=>
    simp only [Option.isSome_some,Option.getD_some]
    go_wp2
    go_ret
    exact ⟨ret_bool (by rw [HF.out]; simp [Bool.beq_eq_decide_eq]),hb⟩
  ·have hn:((c:Int) != n) = true:=by simp [h1]
   have hfin:isAtB c p n z = false:=by simp [isAtB,h0,h1]
   have HF:=hid hfin
   clear hfin HB HE
   go_wp2_with fail
   go_ret
   exact ⟨ret_bool (by rw [HF.out]),hb1⟩
set_option maxHeartbeats 1000000 in
theorem same_any (S:Nat→Addr) (w:World) (v:Value) (c:Nat) (p:Option Int) (n z:Int) (hB:Base S w) (h:ErrAt S w v c p) :
  Calls Tryz.prog 13 #[v,.agg #[.int .i64 n,.int .i64 z]] w fun e w'=>e = .returned (.bool (sameB c p n z))∧Below w.heap.size w w':=by
 have hb1:Below w.heap.size w (w.alloc (.cells #[.int .i64 n,.int .i64 z] 38)):=(Below.refl _ _).alloc (Nat.le_refl _) _
 have HB:=hid (hB.below hb1)
 have HE:=hid (h.below hb1)
 have HC:=hid hb1
 clear hB h hb1
 by_cases h1:z = -1
 ·have hfin:sameB c p n z = isB c p n:=by simp [sameB,h1]
  have HF:=hid hfin
  clear hfin
  subst h1
  go_enter Tryz.func13,Tryz.ntmps13
  go_wp2_with (go_at_call 11; refine (is_any S _ v c p n HB.out HE.out).mono ?_; rintro e w2 ⟨rfl,hb2⟩)
  go_ret
  exact ⟨ret_bool (by rw [HF.out]),below_trans HC.out hb2⟩
 ·have hfin:sameB c p n z = isAtB c p n z:=by simp [sameB,h1]
  have HF:=hid hfin
  clear hfin
  go_enter Tryz.func13,Tryz.ntmps13
  go_wp2_with (go_at_call 23; refine (isAt_any S _ v c p n z HB.out HE.out).mono ?_; rintro e w2 ⟨rfl,hb2⟩)
  go_ret
  exact ⟨ret_bool (by rw [HF.out]),below_trans HC.out hb2⟩
end Go.Proofs.YticlgcfodlcpcaaGreatDoor
