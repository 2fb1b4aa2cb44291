/- cartularylaw01.SameTexts by its contract. -/
import Derived.Test.YticlgcfodlcpcaaGreatDoorLines
namespace Go.Proofs.YticlgcfodlcpcaaGreatDoor
open Go.Lib (hid byteCells)
open Go.RowKit
def TextsIn (w:World) (v:Value) (L:List (List UInt8)):Prop:=
 ∃ ao c,v = .slice ao L.length c∧(L ≠ []→∃ b off,ao = some ⟨b,off,none⟩∧∀ k x,L[k]? = some x→w.cell? ⟨b,off + k,none⟩ = some (.string ⟨x.toArray⟩))
theorem TextsIn.below {w w':World} {v:Value} {L:List (List UInt8)} (h:TextsIn w v L) (hb:Below w.heap.size w w'):TextsIn w' v L:=by
 obtain ⟨ao,c,rfl,h⟩:=h
 refine ⟨ao,c,rfl,fun hne=>?_⟩
 obtain ⟨b,off,rfl,hc⟩:=h hne
 exact ⟨b,off,rfl,fun k x hx=>below_cell hb (hc k x hx)⟩
set_option maxHeartbeats 2000000 in
theorem sameTexts_any (w:World) (v u:Value) (L M:List (List UInt8)) (hL:TextsIn w v L) (hM:TextsIn w u M) (hlen:L.length ≤ 9223372036854775807) (hlenM:M.length ≤ 9223372036854775807) :
  Calls Tryz.prog 20 #[v,u] w fun e w'=>e = .returned (.bool (decide (L = M)))∧∃ n,w' = w.drewN n:=by
 obtain ⟨ao,c,rfl,hL⟩:=hL
 obtain ⟨bo,d,rfl,hM⟩:=hM
 by_cases hne:L.length = M.length
 ·have hn1:((L.length:Int) != (M.length:Int)) = false:=by simp [hne]
  by_cases h0:L = []
  ·subst h0
   have hM0:M = []:=List.eq_nil_of_length_eq_zero (by simpa using hne.symm)
   subst hM0
   clear hL hM hn1 hne
   simp only [List.length_nil] at *
   go_enter Tryz.func20,Tryz.ntmps20
   go_wp2_with fail
   refine wp_loop_rounds 1 ?_
   rw [rounds_succ]
   go_wp2_with fail
   go_ret
   exact ⟨rfl,0,rfl⟩
  ·obtain ⟨b,off,rfl,hc⟩:=hL h0
   obtain ⟨b',off',rfl,hc'⟩:=hM (fun e=>h0 (List.eq_nil_of_length_eq_zero (by rw [hne,e]; rfl)))
   have HN:=hid hne
   have HC:=hid hc
   have HC':=hid hc'
   clear hL hM hc hc' h0
   have HNI:=hid hne
   go_enter Tryz.func20,Tryz.ntmps20
   clear hne
   go_wp2_with fail
   go_loopw [5] (fun i wr=>∃ k n:Nat,k ≤ L.length∧i = .int .i64 k∧wr = w.drewN n∧L.take k = M.take k) (fun i _=>L.length - (intOf i).toNat)
   case atStart=>exact ⟨0,0,by omega,rfl,rfl,rfl⟩
   case round=>
    obtain ⟨k,n,hk,rfl,rfl,hrel⟩:=hrel
    have HR:=hid hrel
    clear hrel
    by_cases hlt:k < L.length
    ·obtain ⟨x,hx⟩:∃ x,L[k]? = some x:=⟨_,List.getElem?_eq_getElem hlt⟩
     have hltM:k < M.length:=by rw [← HN.out]; exact hlt
     obtain ⟨y,hy⟩:∃ y,M[k]? = some y:=⟨_,List.getElem?_eq_getElem hltM⟩
     have e1:∀ j,(w.drewN j).cell? ⟨b,off + k,none⟩ = some (.string ⟨x.toArray⟩):=fun j=>HC.out k x hx
     have e2:∀ j,(w.drewN j).cell? ⟨b',off' + k,none⟩ = some (.string ⟨y.toArray⟩):=fun j=>HC'.out k y hy
     have f1:=e1 0
     have f2:=e2 0
     simp only [World.drewN_zero] at f1 f2
     have i0:(0:Int) ≤ (k:Int):=by omega
     have i1:(k:Int) < (L.length:Int):=by omega
     have i2:(k:Int) < (M.length:Int):=by omega
     have HX:=hid hx
     have HY:=hid hy
     clear hx hy
     clear e1 e2
     by_cases hxy:x = y
     ·subst hxy
      go_wp2_with fail
      go_quiet (fail)
      go_wp2_with fail
      go_roundw
      case rel=>exact ⟨k + 1,_,by omega,by go_num,rfl,by rw [List.take_add_one,List.take_add_one,HR.out,HX.out,HY.out]⟩
      case measure=>simp [intOf]; omega
     ·have hb:(x == y) = false:=by simpa using hxy
      have hd:decide (L = M) = false:=by
       rw [decide_eq_false_iff_not]; intro e
       have:=HX.out; rw [e,HY.out] at this
       exact hxy (Option.some.inj this).symm
      have HD:=hid hd
      clear hd hxy
      go_wp2_with fail
      go_quiet (fail)
      go_wp2_with fail
      go_ret
      refine ⟨ret_bool (by rw [HD.out]),?_⟩
      rw [World.drewN_drewN]
      exact ⟨_,rfl⟩
    ·have hd:decide (L = M) = true:=by
      rw [decide_eq_true_eq]
      have:=HR.out
      rwa [List.take_of_length_le (by omega),List.take_of_length_le (by have:=HN.out; omega)] at this
     have HD:=hid hd
     clear hd
     go_wp2_with fail
     go_ret
     exact ⟨ret_bool (by rw [HD.out]),_,rfl⟩
 ·have hn1:((L.length:Int) != (M.length:Int)) = true:=by rw [bne_iff_ne]; omega
  have hd:decide (L = M) = false:=by rw [decide_eq_false_iff_not]; intro e; exact hne (by rw [e])
  have HD:=hid hd
  clear hL hM hne hd
  go_enter Tryz.func20,Tryz.ntmps20
  go_wp2_with fail
  go_ret
  exact ⟨ret_bool (by rw [HD.out]),0,rfl⟩
end Go.Proofs.YticlgcfodlcpcaaGreatDoor
