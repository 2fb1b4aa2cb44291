/- cartularyref03: group by its contract (printed by wip/gengroup. -/
import Derived.Test.YticlgcfodlcpcaaGreatDoorRefFH
import Derived.Test.YticlgcfodlcpcaaGreatDoorBackP
namespace Go.Proofs.YticlgcfodlcpcaaGreatDoor
open Go.Lib (hid byteCells)
open Go.RowKit
def badAt (l:List UInt8) (k:Nat):Bool:=badG (l.getD 1 0) (l.getD 2 0) k (l.getD k 0)
set_option maxRecDepth 10000 in
theorem groupL_at:∀ (l:List UInt8) (_:l.length ≤ 4) (k:Nat),k < l.length→(∀ j < k,badAt l j = false)→badAt l k = true→groupL l = k
 | [],_,k,hk,_,_=>by simp at hk
 | [a],_,k,hk,hj,hb=>by
  obtain rfl:k = 0:=by simpa using hk
  have hb:badG 0 0 0 a = true:=hb
  rw [gl1,hb]; rfl
 | [a,b],_,k,hk,hj,hb=>by
  simp only [List.length_cons,List.length_nil] at hk
  rcases (show k = 0 ∨ k = 1 by omega) with rfl | rfl
  ·have hb:badG b 0 0 a = true:=hb
   rw [gl2,hb]; rfl
  ·have h0:badG b 0 0 a = false:=hj 0 (by omega)
   have hb:badG b 0 1 b = true:=hb
   rw [gl2,h0,hb]; rfl
 | [a,b,c],_,k,hk,hj,hb=>by
  simp only [List.length_cons,List.length_nil] at hk
  rcases (show k = 0 ∨ k = 1 ∨ k = 2 by omega) with rfl | rfl | rfl
  ·have hb:badG b c 0 a = true:=hb
   rw [gl3,hb]; rfl
  ·have h0:badG b c 0 a = false:=hj 0 (by omega)
   have hb:badG b c 1 b = true:=hb
   rw [gl3,h0,hb]; rfl
  ·have h0:badG b c 0 a = false:=hj 0 (by omega)
   have h1:badG b c 1 b = false:=hj 1 (by omega)
   have hb:badG b c 2 c = true:=hb
   rw [gl3,h0,h1,hb]; rfl
 | [a,b,c,d],_,k,hk,hj,hb=>by
  simp only [List.length_cons,List.length_nil] at hk
  rcases (show k = 0 ∨ k = 1 ∨ k = 2 ∨ k = 3 by omega) with rfl | rfl | rfl | rfl
  ·have hb:badG b c 0 a = true:=hb
   rw [gl4,hb]; rfl
  ·have h0:badG b c 0 a = false:=hj 0 (by omega)
   have hb:badG b c 1 b = true:=hb
   rw [gl4,h0,hb]; rfl
  ·have h0:badG b c 0 a = false:=hj 0 (by omega)
   have h1:badG b c 1 b = false:=hj 1 (by omega)
   have hb:badG b c 2 c = true:=hb
   rw [gl4,h0,h1,hb]; rfl
  ·have h0:badG b c 0 a = false:=hj 0 (by omega)
   have h1:badG b c 1 b = false:=hj 1 (by omega)
   have h2:badG b c 2 c = false:=hj 2 (by omega)
   have hb:badG b c 3 d = true:=hb
   rw [gl4,h0,h1,h2,hb]; rfl
 | _ :: _ :: _ :: _ :: _ :: _,h,_,_,_,_=>by simp at h
set_option maxRecDepth 10000 in
theorem groupL_all:∀ (l:List UInt8) (_:l.length ≤ 4),(∀ j < l.length,badAt l j = false)→groupL l = l.length
 | [],_,_=>rfl
 | [a],_,hj=>by
  have h0:badG 0 0 0 a = false:=hj 0 (by simp)
  rw [gl1,h0]; rfl
 | [a,b],_,hj=>by
  have h0:badG b 0 0 a = false:=hj 0 (by simp)
  have h1:badG b 0 1 b = false:=hj 1 (by simp)
  rw [gl2,h0,h1]; rfl
 | [a,b,c],_,hj=>by
  have h0:badG b c 0 a = false:=hj 0 (by simp)
  have h1:badG b c 1 b = false:=hj 1 (by simp)
  have h2:badG b c 2 c = false:=hj 2 (by simp)
  rw [gl3,h0,h1,h2]; rfl
 | [a,b,c,d],_,hj=>by
  have h0:badG b c 0 a = false:=hj 0 (by simp)
  have h1:badG b c 1 b = false:=hj 1 (by simp)
  have h2:badG b c 2 c = false:=hj 2 (by simp)
  have h3:badG b c 3 d = false:=hj 3 (by simp)
  rw [gl4,h0,h1,h2,h3]; rfl
 | _ :: _ :: _ :: _ :: _ :: _,h,_=>by simp at h
theorem getD_of {l:List UInt8} {k:Nat} {c:UInt8} (h:l[k]? = some c):l.getD k 0 = c:=by simp [List.getD,h]
theorem num_neg (c:UInt8) (h:idx64 c < 0) (w:World):Calls Tryz.prog 147 #[.string ⟨#[65,66,67,68,69,70,71,72,73,74,75,76,77,78,79,80,81,82,83,84,85,86,87,88,89,90,97,98,99,100,101,102,103,104,105,106,107,108,109,110,111,112,113,114,115,116,117,118,119,120,121,122,48,49,50,51,52,53,54,55,56,57,43,47]⟩,.int .u8 (c.toNat:Int)] w fun e w'=>e = .returned (.int .i64 (-1))∧w = w':=by
 have:=num64_any c w
 rwa [show idx64 c = -1 by have:=idx64_bd c; omega] at this
theorem num_let (c:UInt8) (N:Nat) (h:idx64 c = N) (w:World):Calls Tryz.prog 147 #[.string ⟨#[65,66,67,68,69,70,71,72,73,74,75,76,77,78,79,80,81,82,83,84,85,86,87,88,89,90,97,98,99,100,101,102,103,104,105,106,107,108,109,110,111,112,113,114,115,116,117,118,119,120,121,122,48,49,50,51,52,53,54,55,56,57,43,47]⟩,.int .u8 (c.toNat:Int)] w fun e w'=>e = .returned (.int .i64 (N:Int))∧w = w':=by
 have:=num64_any c w
 rwa [h] at this
theorem ne61 {c:UInt8} (h:c ≠ 61):((c.toNat:Int) != 61) = true∧((c.toNat:Int) == 61) = false:=by
 have:¬ (c.toNat:Int) = 61:=fun e=>h (UInt8.toNat_inj.1 (by simpa using (by omega:c.toNat = 61)))
 exact ⟨by simpa using this,by simpa using this⟩
set_option maxHeartbeats 1000000 in
set_option maxRecDepth 100000 in
theorem group_any (g:ByteArray) (w:World) (hg:g.size ≤ 4) :
  Calls Tryz.prog 160 #[.string g] w fun e w'=>e = .returned (.int .i64 (groupL g.data.toList:Int))∧w = w':=by
 have hsz:=size_list g
 have HS:=hid hsz
 have HA:=hid (groupL_at g.data.toList (by omega))
 have HE:=hid (groupL_all g.data.toList (by omega))
 clear hsz
 go_enter Tryz.func160,Tryz.ntmps160
 go_wp2_with fail
 go_loop [3] (fun i=>∃ k:Nat,k ≤ g.size∧i = .int .i64 k∧∀ j < k,badAt g.data.toList j = false) (fun i=>g.size - (intOf i).toNat)
 case atStart=>exact ⟨0,by omega,rfl,fun j hj=>by omega⟩
 case round=>
  obtain ⟨k,hk,rfl,hj⟩:=hrel
  have HJ:=hid hj
  clear hj
  by_cases hlt:k < g.size
  ·obtain ⟨c,hc⟩:∃ c,g.data.toList[k]? = some c:=⟨_,List.getElem?_eq_getElem (by rw [size_list]; exact hlt)⟩
   have xk:=fun w=>run_idx (P:=Tryz.prog) Tryz.underlying9 g k c hc (k:Int) rfl .i64 w
   have hc256:=UInt8.toNat_lt c
   have hgc:=getD_of hc
   have hl2:k < g.data.toList.length:=by rw [HS.out]; exact hlt
   have HL:=hid hl2
   clear hl2
   have hgo:∀ b,badAt g.data.toList k = b→b = false→∀ j < k + 1,badAt g.data.toList j = false:=fun b h1 h2 j hj=>by
    rcases Nat.lt_or_ge j k with h | h
    ·exact HJ.out j h
    ·obtain rfl:j = k:=by omega
     rw [h1,h2]
   have HGO:=hid hgo
   clear hgo
   rcases (show k = 0 ∨ k = 1 ∨ k = 2 ∨ k = 3 by omega) with rfl | rfl | rfl | rfl
   ·have x0:∀ w,(Instr.index 9 (.string g) (.int .i64 0)).run Tryz.prog w = .ok (.int .u8 (c.toNat:Int)) w:=xk
    clear xk
    rcases kind64 c with ⟨N,hN,_,h61⟩ | rfl | ⟨hN,h61⟩
    ·have HN:=hid (num_let c N hN)
     obtain ⟨q1,q2⟩:=ne61 h61
     have HF:=hid (HGO.out _ (by unfold badAt; rw [hgc]; exact g_let hN h61 (by omega)) rfl)
     go_wp2_with ((go_at_call 147; refine (HN.out _).mono ?_; rintro e w' ⟨rfl,rfl⟩))
     go_round
     case rel=>exact ⟨0 + 1,by omega,by go_num,HF.out⟩
     case measure=>simp [intOf]; omega
    ·have q1:(((61:UInt8).toNat:Int) != 61) = false:=rfl
     have hb:=HA.out _ HL.out HJ.out (by unfold badAt; rw [hgc]; exact g_pad01 (by omega))
     have HF:=hid hb
     clear hb
     go_wp2_with (fail)
     go_ret
     exact ⟨ret_int (by rw [HF.out]; rfl),rfl⟩
    ·have HN:=hid (num_neg c hN)
     obtain ⟨q1,q2⟩:=ne61 h61
     have hb:=HA.out _ HL.out HJ.out (by unfold badAt; rw [hgc]; exact g_non hN h61)
     have HF:=hid hb
     clear hb
     go_wp2_with ((go_at_call 147; refine (HN.out _).mono ?_; rintro e w' ⟨rfl,rfl⟩))
     go_ret
     exact ⟨ret_int (by rw [HF.out]; rfl),rfl⟩
   ·have x0:∀ w,(Instr.index 9 (.string g) (.int .i64 1)).run Tryz.prog w = .ok (.int .u8 (c.toNat:Int)) w:=xk
    clear xk
    rcases kind64 c with ⟨N,hN,_,h61⟩ | rfl | ⟨hN,h61⟩
    ·have HN:=hid (num_let c N hN)
     obtain ⟨q1,q2⟩:=ne61 h61
     have HF:=hid (HGO.out _ (by unfold badAt; rw [hgc]; exact g_let hN h61 (by omega)) rfl)
     go_wp2_with ((go_at_call 147; refine (HN.out _).mono ?_; rintro e w' ⟨rfl,rfl⟩))
     go_round
     case rel=>exact ⟨1 + 1,by omega,by go_num,HF.out⟩
     case measure=>simp [intOf]; omega
    ·have q1:(((61:UInt8).toNat:Int) != 61) = false:=rfl
     have hb:=HA.out _ HL.out HJ.out (by unfold badAt; rw [hgc]; exact g_pad01 (by omega))
     have HF:=hid hb
     clear hb
     go_wp2_with (fail)
     go_ret
     exact ⟨ret_int (by rw [HF.out]; rfl),rfl⟩
    ·have HN:=hid (num_neg c hN)
     obtain ⟨q1,q2⟩:=ne61 h61
     have hb:=HA.out _ HL.out HJ.out (by unfold badAt; rw [hgc]; exact g_non hN h61)
     have HF:=hid hb
     clear hb
     go_wp2_with ((go_at_call 147; refine (HN.out _).mono ?_; rintro e w' ⟨rfl,rfl⟩))
     go_ret
     exact ⟨ret_int (by rw [HF.out]; rfl),rfl⟩
   ·have x0:∀ w,(Instr.index 9 (.string g) (.int .i64 2)).run Tryz.prog w = .ok (.int .u8 (c.toNat:Int)) w:=xk
    clear xk
    obtain ⟨b,hb⟩:∃ b,g.data.toList[1]? = some b:=⟨_,List.getElem?_eq_getElem (by rw [size_list]; omega)⟩
    have xb:∀ w,(Instr.index 9 (.string g) (.int .i64 1)).run Tryz.prog w = .ok (.int .u8 (b.toNat:Int)) w:=fun w=>run_idx (P:=Tryz.prog) Tryz.underlying9 g 1 b hb 1 rfl .i64 w
    have hgb:=getD_of hb
    have hb256:=UInt8.toNat_lt b
    have g1:=HJ.out 1 (by omega)
    unfold badAt at g1
    rw [hgb] at g1
    obtain ⟨b0,b1⟩:=badG_01 (by omega) g1
    obtain ⟨B,hB⟩:∃ B:Nat,idx64 b = B:=⟨(idx64 b).toNat,by omega⟩
    have HNB:=hid (num_let b B hB)
    clear hb g1 b0 b1
    rcases kind64 c with ⟨N,hN,_,h61⟩ | rfl | ⟨hN,h61⟩
    ·have HN:=hid (num_let c N hN)
     obtain ⟨q1,q2⟩:=ne61 h61
     have HF:=hid (HGO.out _ (by unfold badAt; rw [hgb,hgc]; exact g_let hN h61 (by omega)) rfl)
     go_wp2_with ((go_at_call 147; refine (HN.out _).mono ?_; rintro e w' ⟨rfl,rfl⟩))
     go_round
     case rel=>exact ⟨2 + 1,by omega,by go_num,HF.out⟩
     case measure=>simp [intOf]; omega
    ·have q1:(((61:UInt8).toNat:Int) != 61) = false:=rfl
     by_cases hz:B % 16 = 0
     ·have q2:((B:Int) % 16 != 0) = false:=by simp; omega
      have HF:=hid (HGO.out _ (by unfold badAt; rw [hgb,hgc]; rw [g_pad2 hB,decide_eq_false (by omega)]) rfl)
      go_wp2_with ((go_at_call 147; refine (HNB.out _).mono ?_; rintro e w' ⟨rfl,rfl⟩))
      go_round
      case rel=>exact ⟨2 + 1,by omega,by go_num,HF.out⟩
      case measure=>simp [intOf]; omega
     ·have q2:((B:Int) % 16 != 0) = true:=by simp; omega
      have hb:=HA.out _ HL.out HJ.out (by unfold badAt; rw [hgb,hgc]; rw [g_pad2 hB,decide_eq_true hz])
      have HF:=hid hb
      clear hb
      go_wp2_with ((go_at_call 147; refine (HNB.out _).mono ?_; rintro e w' ⟨rfl,rfl⟩))
      go_ret
      exact ⟨ret_int (by rw [HF.out]; rfl),rfl⟩
    ·have HN:=hid (num_neg c hN)
     obtain ⟨q1,q2⟩:=ne61 h61
     have hb:=HA.out _ HL.out HJ.out (by unfold badAt; rw [hgb,hgc]; exact g_non hN h61)
     have HF:=hid hb
     clear hb
     go_wp2_with ((go_at_call 147; refine (HN.out _).mono ?_; rintro e w' ⟨rfl,rfl⟩))
     go_ret
     exact ⟨ret_int (by rw [HF.out]; rfl),rfl⟩
   ·have x0:∀ w,(Instr.index 9 (.string g) (.int .i64 3)).run Tryz.prog w = .ok (.int .u8 (c.toNat:Int)) w:=xk
    clear xk
    obtain ⟨b,hb⟩:∃ b,g.data.toList[1]? = some b:=⟨_,List.getElem?_eq_getElem (by rw [size_list]; omega)⟩
    have xb:∀ w,(Instr.index 9 (.string g) (.int .i64 1)).run Tryz.prog w = .ok (.int .u8 (b.toNat:Int)) w:=fun w=>run_idx (P:=Tryz.prog) Tryz.underlying9 g 1 b hb 1 rfl .i64 w
    have hgb:=getD_of hb
    have hb256:=UInt8.toNat_lt b
    have g1:=HJ.out 1 (by omega)
    unfold badAt at g1
    rw [hgb] at g1
    obtain ⟨b0,b1⟩:=badG_01 (by omega) g1
    obtain ⟨B,hB⟩:∃ B:Nat,idx64 b = B:=⟨(idx64 b).toNat,by omega⟩
    have HNB:=hid (num_let b B hB)
    clear hb g1 b0 b1
    obtain ⟨d,hd⟩:∃ d,g.data.toList[2]? = some d:=⟨_,List.getElem?_eq_getElem (by rw [size_list]; omega)⟩
    have xd:∀ w,(Instr.index 9 (.string g) (.int .i64 2)).run Tryz.prog w = .ok (.int .u8 (d.toNat:Int)) w:=fun w=>run_idx (P:=Tryz.prog) Tryz.underlying9 g 2 d hd 2 rfl .i64 w
    have hgd:=getD_of hd
    have hd256:=UInt8.toNat_lt d
    have g2:=HJ.out 2 (by omega)
    unfold badAt at g2
    rw [hgd,hgb] at g2
    have g2:=badG_2 g2
    clear hd
    rcases kind64 c with ⟨N,hN,_,h61⟩ | rfl | ⟨hN,h61⟩
    ·have HN:=hid (num_let c N hN)
     obtain ⟨q1,q2⟩:=ne61 h61
     by_cases hd61:d = 61
     ·have q3:((d.toNat:Int) == 61) = true:=by rw [hd61]; rfl
      have hb:=HA.out _ HL.out HJ.out (by unfold badAt; rw [hgb,hgd,hgc]; subst hd61; exact g_let33 h61)
      have HF:=hid hb
      clear hb
      go_wp2_with ((go_at_call 147; refine (HN.out _).mono ?_; rintro e w' ⟨rfl,rfl⟩))
      go_ret
      exact ⟨ret_int (by rw [HF.out]; rfl),rfl⟩
     ·obtain ⟨q3,q4⟩:=ne61 hd61
      have HF:=hid (HGO.out _ (by unfold badAt; rw [hgb,hgd,hgc]; exact g_let hN h61 (fun h=>hd61 h.2)) rfl)
      go_wp2_with ((go_at_call 147; refine (HN.out _).mono ?_; rintro e w' ⟨rfl,rfl⟩))
      go_round
      case rel=>exact ⟨3 + 1,by omega,by go_num,HF.out⟩
      case measure=>simp [intOf]; omega
    ·have q1:(((61:UInt8).toNat:Int) != 61) = false:=rfl
     by_cases hd61:d = 61
     ·have q3:((d.toNat:Int) != 61) = false:=by rw [hd61]; rfl
      have HF:=hid (HGO.out _ (by unfold badAt; rw [hgb,hgd,hgc]; subst hd61; exact g_pad33) rfl)
      go_wp2_with (fail)
      go_round
      case rel=>exact ⟨3 + 1,by omega,by go_num,HF.out⟩
      case measure=>simp [intOf]; omega
     ·obtain ⟨q3,q4⟩:=ne61 hd61
      obtain ⟨D,hD⟩:∃ D:Nat,idx64 d = D:=⟨(idx64 d).toNat,by rcases g2 with h | h; exact absurd h.1 hd61; omega⟩
      have HND:=hid (num_let d D hD)
      by_cases hz:D % 4 = 0
      ·have q2:((D:Int) % 4 != 0) = false:=by simp; omega
       have HF:=hid (HGO.out _ (by unfold badAt; rw [hgb,hgd,hgc]; rw [g_pad3 hD hd61,decide_eq_false (by omega)]) rfl)
       go_wp2_with ((go_at_call 147; refine (HND.out _).mono ?_; rintro e w' ⟨rfl,rfl⟩))
       go_round
       case rel=>exact ⟨3 + 1,by omega,by go_num,HF.out⟩
       case measure=>simp [intOf]; omega
      ·have q2:((D:Int) % 4 != 0) = true:=by simp; omega
       have hb:=HA.out _ HL.out HJ.out (by unfold badAt; rw [hgb,hgd,hgc]; rw [g_pad3 hD hd61,decide_eq_true hz])
       have HF:=hid hb
       clear hb
       go_wp2_with ((go_at_call 147; refine (HND.out _).mono ?_; rintro e w' ⟨rfl,rfl⟩))
       go_ret
       exact ⟨ret_int (by rw [HF.out]; rfl),rfl⟩
    ·have HN:=hid (num_neg c hN)
     obtain ⟨q1,q2⟩:=ne61 h61
     have hb:=HA.out _ HL.out HJ.out (by unfold badAt; rw [hgb,hgd,hgc]; exact g_non hN h61)
     have HF:=hid hb
     clear hb
     go_wp2_with ((go_at_call 147; refine (HN.out _).mono ?_; rintro e w' ⟨rfl,rfl⟩))
     go_ret
     exact ⟨ret_int (by rw [HF.out]; rfl),rfl⟩
  ·have hf:=HE.out (fun j hj=>HJ.out j (by rw [HS.out] at hj; omega))
   have HF:=hid hf
   clear hf
   go_wp2_with fail
   go_ret
   exact ⟨ret_int (by rw [HF.out,HS.out]),rfl⟩
theorem rextract_list (s:ByteArray) (a b:Nat):(s.extract a b).data.toList = (s.data.toList.drop a).take (b - a):=by simp [List.extract_eq_take_drop]
theorem groupL_le (g:List UInt8) (h:g.length ≤ 4):groupL g ≤ g.length:=by
 match g,h with
 | [],_=>exact Nat.le_refl _
 | [a],_=>rw [gl1]; split <;> simp
 | [a,b],_=>rw [gl2]; (repeat' split) <;> simp
 | [a,b,c],_=>rw [gl3]; (repeat' split) <;> simp
 | [a,b,c,d],_=>rw [gl4]; (repeat' split) <;> simp
 | _ :: _ :: _ :: _ :: _ :: _,h=>simp at h
def W64Rel (s:ByteArray) (v:Value):Prop:=
 ∃ k:Nat,k ≤ s.size∧v = .int .i64 k∧w64 s.size 0 s.data.toList = w64 s.size k (s.data.toList.drop k)
set_option maxHeartbeats 2000000 in
set_option maxRecDepth 100000 in
theorem wrong64_any (s:ByteArray) (w:World) (hs:s.size ≤ 9223372036854775000) :
  Calls Tryz.prog 146 #[.string s] w fun e w'=>e = .returned (.int .i64 (w64 s.size 0 s.data.toList))∧w = w':=by
 have HS:=hid (size_list s)
 go_enter Tryz.func146,Tryz.ntmps146
 go_wp2_with fail
 go_loop [3] (fun i=>W64Rel s i) (fun i=>s.size - (intOf i).toNat)
 case atStart=>exact ⟨0,by omega,rfl,rfl⟩
 case round=>
  obtain ⟨k,hk,rfl,hrun⟩:=hrel
  have HR:=hid hrun
  clear hrun
  by_cases hlt:k < s.size
  ·have hTs:(s.extract k s.size).size = s.size - k:=by
    have e:=size_list (s.extract k s.size)
    rw [Lib.extract_to_end,List.length_drop,size_list] at e
    exact e.symm
   have hTl:(s.extract k s.size).data.toList = s.data.toList.drop k:=Lib.extract_to_end s k
   have hlen:(s.data.toList.drop k).length = s.size - k:=by rw [List.length_drop,size_list]
   match hd:s.data.toList.drop k with
   | []=>rw [hd] at hlen; simp at hlen; omega
   | a :: b :: c :: d :: r=>
    rw [hd] at hlen hTl
    simp only [List.length_cons] at hlen
    have hdr:s.data.toList.drop (k + 4) = r:=by rw [← List.drop_drop,hd]; rfl
    have hw:=HR.out
    rw [hd,w64_4] at hw
    have HDR:=hid hdr
    have HW:=hid hw
    have hgl:=groupL_le [a,b,c,d] (by simp)
    have hd256:=UInt8.toNat_lt d
    simp only [List.length_cons,List.length_nil] at hgl
    clear hdr hw
    by_cases hr:r = []
    ·have hr0:s.size - k = 4:=by rw [hr] at hlen; simp at hlen; omega
     have hG:=group_any (s.extract k s.size) w (by omega)
     rw [hTl,hr] at hG
     have x3:=fun w=>run_idx (P:=Tryz.prog) Tryz.underlying9 (s.extract k s.size) 3 d (by rw [hTl]; rfl) 3 rfl .i64 w
     have hT4:(s.extract k s.size).size = 4:=by omega
     by_cases hK:groupL [a,b,c,d] < 4
     ·have HG:=hid hG
      have hf:w64 s.size 0 s.data.toList = ((k + groupL [a,b,c,d]:Nat):Int):=by rw [HW.out,if_pos hK]
      have HF:=hid hf
      clear hf hG hTl hd hr hTs hlen
      generalize groupL [a,b,c,d] = K at *
      go_wp2_with (go_at_call 160; refine HG.out.mono ?_; rintro e w' ⟨rfl,rfl⟩)
      go_ret
      exact ⟨ret_int (by rw [HF.out]; omega),rfl⟩
     ·have hK4:groupL [a,b,c,d] = 4:=by omega
      rw [hK4] at hG
      have HG:=hid hG
      have hf:w64 s.size 0 s.data.toList = w64 s.size (k + 4) (s.data.toList.drop (k + 4)):=by rw [HW.out,if_neg hK,if_neg (by simp [hr]),HDR.out]
      have HF:=hid hf
      clear hf hG hTl hd hr hTs hlen hK hgl
      by_cases h61:d = 61
      ·have q:((d.toNat:Int) == 61) = true:=by rw [h61]; rfl
       clear h61
       go_wp2_with (go_at_call 160; refine HG.out.mono ?_; rintro e w' ⟨rfl,rfl⟩)
       go_round
       case rel=>exact ⟨k + 4,by omega,by go_num,HF.out⟩
       case measure=>simp [intOf]; omega
      ·have q:=(ne61 h61).2
       clear h61
       go_wp2_with (go_at_call 160; refine HG.out.mono ?_; rintro e w' ⟨rfl,rfl⟩)
       go_round
       case rel=>exact ⟨k + 4,by omega,by go_num,HF.out⟩
       case measure=>simp [intOf]; omega
    ·have hpos:=List.length_pos_iff.2 hr
     have hTgt:4 < (s.extract k s.size).size:=by omega
     have HTL:=hid hTl
     have HRN:=hid hr
     have hk4:k + 4 < s.size:=by omega
     have HGL:=hid hgl
     have e1:(k:Int) + 4 < (s.size:Int):=by omega
     clear hTl hd hr hlen hgl hTs
     go_wp2_with fail
     generalize hGe:(s.extract k s.size).extract 0 4 = G
     have hGl:G.data.toList = [a,b,c,d]:=by rw [← hGe,rextract_list,HTL.out]; rfl
     clear hGe
     have hGs:G.size = 4:=by rw [← size_list,hGl]; rfl
     have hG:=group_any G w (by omega)
     rw [hGl] at hG
     have x3:=fun w=>run_idx (P:=Tryz.prog) Tryz.underlying9 G 3 d (by rw [hGl]; rfl) 3 rfl .i64 w
     clear hGl
     by_cases hK:groupL [a,b,c,d] < 4
     ·have HG:=hid hG
      have hf:w64 s.size 0 s.data.toList = ((k + groupL [a,b,c,d]:Nat):Int):=by rw [HW.out,if_pos hK]
      have HF:=hid hf
      clear hf hG
      generalize groupL [a,b,c,d] = K at *
      refine HG.out.mono ?_
      rintro e w' ⟨rfl,rfl⟩
      go_wp2_with fail
      go_ret
      exact ⟨ret_int (by rw [HF.out]; omega),rfl⟩
     ·have hK4:groupL [a,b,c,d] = 4:=by have:=HGL.out; omega
      rw [hK4] at hG
      have HG:=hid hG
      by_cases h61:d = 61
      ·have q:((d.toNat:Int) == 61) = true:=by rw [h61]; rfl
       have hf:w64 s.size 0 s.data.toList = ((k + 4:Nat):Int):=by rw [HW.out,if_neg hK,if_pos ⟨h61,HRN.out⟩]
       have HF:=hid hf
       clear hf hG hK hK4 h61
       refine HG.out.mono ?_
       rintro e w' ⟨rfl,rfl⟩
       go_wp2_with fail
       go_ret
       exact ⟨ret_int (by rw [HF.out]; omega),rfl⟩
      ·have q:=(ne61 h61).2
       have hf:w64 s.size 0 s.data.toList = w64 s.size (k + 4) (s.data.toList.drop (k + 4)):=by rw [HW.out,if_neg hK,if_neg (fun h=>h61 h.1),HDR.out]
       have HF:=hid hf
       clear hf hG hK hK4 h61
       refine HG.out.mono ?_
       rintro e w' ⟨rfl,rfl⟩
       go_wp2_with fail
       go_round
       case rel=>exact ⟨k + 4,by omega,by go_num,HF.out⟩
       case measure=>simp [intOf]; omega
   | [a]=>
    rw [hd] at hlen hTl
    simp only [List.length_cons,List.length_nil] at hlen
    have hw:=HR.out
    rw [hd,wl1] at hw
    have HW:=hid hw
    have hG:=group_any (s.extract k s.size) w (by omega)
    rw [hTl] at hG
    have HG:=hid hG
    have hT4:(s.extract k s.size).size = 1:=by omega
    by_cases hK:groupL [a] < 1
    ·have hf:w64 s.size 0 s.data.toList = ((k + groupL [a]:Nat):Int):=by rw [HW.out,if_pos hK]
     have HF:=hid hf
     clear hf hG hTl hd hTs hlen hw
     generalize groupL [a] = K at *
     go_wp2_with (go_at_call 160; refine HG.out.mono ?_; rintro e w' ⟨rfl,rfl⟩)
     go_ret
     exact ⟨ret_int (by rw [HF.out]; omega),rfl⟩
    ·have hf:w64 s.size 0 s.data.toList = (s.size:Int):=by rw [HW.out,if_neg hK]
     have HF:=hid hf
     clear hf hG hTl hd hTs hlen hw
     generalize groupL [a] = K at *
     go_wp2_with (go_at_call 160; refine HG.out.mono ?_; rintro e w' ⟨rfl,rfl⟩)
     go_ret
     exact ⟨ret_int (by rw [HF.out]),rfl⟩
   | [a,b]=>
    rw [hd] at hlen hTl
    simp only [List.length_cons,List.length_nil] at hlen
    have hw:=HR.out
    rw [hd,wl2] at hw
    have HW:=hid hw
    have hG:=group_any (s.extract k s.size) w (by omega)
    rw [hTl] at hG
    have HG:=hid hG
    have hT4:(s.extract k s.size).size = 2:=by omega
    by_cases hK:groupL [a,b] < 2
    ·have hf:w64 s.size 0 s.data.toList = ((k + groupL [a,b]:Nat):Int):=by rw [HW.out,if_pos hK]
     have HF:=hid hf
     clear hf hG hTl hd hTs hlen hw
     generalize groupL [a,b] = K at *
     go_wp2_with (go_at_call 160; refine HG.out.mono ?_; rintro e w' ⟨rfl,rfl⟩)
     go_ret
     exact ⟨ret_int (by rw [HF.out]; omega),rfl⟩
    ·have hf:w64 s.size 0 s.data.toList = (s.size:Int):=by rw [HW.out,if_neg hK]
     have HF:=hid hf
     clear hf hG hTl hd hTs hlen hw
     generalize groupL [a,b] = K at *
     go_wp2_with (go_at_call 160; refine HG.out.mono ?_; rintro e w' ⟨rfl,rfl⟩)
     go_ret
     exact ⟨ret_int (by rw [HF.out]),rfl⟩
   | [a,b,c]=>
    rw [hd] at hlen hTl
    simp only [List.length_cons,List.length_nil] at hlen
    have hw:=HR.out
    rw [hd,wl3] at hw
    have HW:=hid hw
    have hG:=group_any (s.extract k s.size) w (by omega)
    rw [hTl] at hG
    have HG:=hid hG
    have hT4:(s.extract k s.size).size = 3:=by omega
    by_cases hK:groupL [a,b,c] < 3
    ·have hf:w64 s.size 0 s.data.toList = ((k + groupL [a,b,c]:Nat):Int):=by rw [HW.out,if_pos hK]
     have HF:=hid hf
     clear hf hG hTl hd hTs hlen hw
     generalize groupL [a,b,c] = K at *
     go_wp2_with (go_at_call 160; refine HG.out.mono ?_; rintro e w' ⟨rfl,rfl⟩)
     go_ret
     exact ⟨ret_int (by rw [HF.out]; omega),rfl⟩
    ·have hf:w64 s.size 0 s.data.toList = (s.size:Int):=by rw [HW.out,if_neg hK]
     have HF:=hid hf
     clear hf hG hTl hd hTs hlen hw
     generalize groupL [a,b,c] = K at *
     go_wp2_with (go_at_call 160; refine HG.out.mono ?_; rintro e w' ⟨rfl,rfl⟩)
     go_ret
     exact ⟨ret_int (by rw [HF.out]),rfl⟩
  ·have hf:w64 s.size 0 s.data.toList = -1:=by
    rw [HR.out,List.drop_eq_nil_of_le (by rw [HS.out]; omega)]; rfl
   have HF:=hid hf
   clear hf
   go_wp2_with fail
   go_ret
   exact ⟨ret_int HF.out.symm,rfl⟩
theorem w64_cases {n k:Nat} {l:List UInt8} (hn:k + l.length = n) (h:w64 n k l = -1):l = [] ∨ ∃ a b c d r A B,l = a :: b :: c :: d :: r∧w64 n (k + 4) r = -1∧idx64 a = ((A:Nat):Int)∧A < 64∧a ≠ 61∧idx64 b = ((B:Nat):Int)∧B < 64∧b ≠ 61 ∧
  ((c = 61∧d = 61) ∨ ∃ C,idx64 c = ((C:Nat):Int)∧C < 64∧c ≠ 61∧(d = 61 ∨ ∃ D,idx64 d = ((D:Nat):Int)∧D < 64∧d ≠ 61)):=by
 match l with
 | []=>exact .inl rfl
 | [a]=>rw [wl1] at h; split at h <;> omega
 | [a,b]=>rw [wl2] at h; split at h <;> omega
 | [a,b,c]=>rw [wl3] at h; split at h <;> omega
 | a :: b :: c :: d :: r=>
  rw [w64_4] at h
  split at h
  ·omega
  ·rename_i hg
   split at h
   ·omega
   ·obtain ⟨g0,g1,g2,g3⟩:=group_ok a b c d hg
    obtain ⟨a0,a1⟩:=badG_01 (by omega) g0
    obtain ⟨b0,b1⟩:=badG_01 (by omega) g1
    have ha:=idx64_bd a
    have hb:=idx64_bd b
    have hc:=idx64_bd c
    have hd:=idx64_bd d
    refine .inr ⟨a,b,c,d,r,(idx64 a).toNat,(idx64 b).toNat,rfl,h,by omega,by omega,a1,by omega,by omega,b1,?_⟩
    rcases badG_2 g2 with ⟨rfl,_⟩ | ⟨c0,c1⟩
    ·rcases badG_3 g3 with ⟨rfl,_⟩ | ⟨_,_,h'⟩
     ·exact .inl ⟨rfl,rfl⟩
     ·exact absurd rfl h'
    ·refine .inr ⟨(idx64 c).toNat,by omega,by omega,c1,?_⟩
     rcases badG_3 g3 with ⟨rfl,_⟩ | ⟨d0,d1,_⟩
     ·exact .inl rfl
     ·exact .inr ⟨(idx64 d).toNat,by omega,by omega,d1⟩
def RF64Rel (s:ByteArray) (w:World) (vo vi:Value) (wr:World):Prop:=
 ∃ (k:Nat) (out:List UInt8),k ≤ s.size∧vi = .int .i64 k∧out.length ≤ k∧wr.ownsRow (fW w).heap.size 5 1 vo out.length (byteCells out)∧Below (fW w).heap.size (fW w) wr ∧
  w64 s.size k (s.data.toList.drop k) = -1∧out ++ dec64 (s.data.toList.drop k) = dec64 s.data.toList
set_option maxHeartbeats 4000000 in
set_option maxRecDepth 100000 in
theorem refFromB64_any (s:ByteArray) (w:World) (hs:s.size ≤ 9223372036854775000) :
  Calls Tryz.prog 123 #[.string s] w fun e w'=>e = .returned (told2 (fromB64 s.data.toList))∧Below w.heap.size w w':=by
 have hsz:=size_list s
 have hans:=fromB64_ref s.data.toList
 rw [hsz] at hans
 generalize fromB64 s.data.toList = ans at *
 have HA:=hid hans
 have HS:=hid hsz
 clear hsz hans
 by_cases hbig:1048576 < s.size
 ·have HP:=hid fun W=>faultPlain_any 4 (by decide) W
  go_enter Tryz.func123,Tryz.ntmps123
  go_wp2_with fail
  refine (HP.out _).mono ?_
  rintro e w1 ⟨rfl,b1⟩
  have hh:=(fW_row w).below b1
  obtain ⟨c0,c1,f0,f1⟩:=hh.cells
  have HH:=hid hh
  have hb:=end_below (fW_below b1) 4 (-1)
  clear hh
  go_wp2_with fail
  refine ret_told rfl w.heap.size 4 (-1) (.string ⟨#[]⟩) (fault_set HH.out _ _) rfl rfl rfl ⟨?_,hb⟩
  have e:ans = ([],4,none):=by rw [HA.out,if_pos hbig]
  rw [e]; rfl
 ·have hW:=fun W=>wrong64_any s W (by omega)
  have hge:=w64_ge s.data.toList s.size 0
  by_cases hw:w64 s.size 0 s.data.toList = -1
  ·rw [hw] at hW
   have HW:=hid hW
   have HW0:=hid hw
   obtain ⟨i0,hi,hz0,hz1,hz2⟩:=info_parts Tryz.infoByte
   clear hW hge hw
   go_enter Tryz.func123,Tryz.ntmps123
   go_wp2_with fail
   refine (HW.out _).mono ?_
   rintro e w1 ⟨rfl,rfl⟩
   go_wp2_with fail
   go_loopw [5,6] (fun vo vi wr=>RF64Rel s w vo vi wr) (fun _ vi _=>s.size - (intOf vi).toNat)
   case atStart=>exact ⟨0,[],by omega,rfl,by simp,World.ownsRow_nil _ _ _ _,Below.refl _ _,HW0.out,rfl⟩
   case round=>
    obtain ⟨k,out,hk,rfl,hol,hown,hbel,hwk,hacc⟩:=hrel
    have HACC:=hid hacc
    have hcs:=w64_cases (by rw [List.length_drop,HS.out]; omega) hwk
    have HLEN:=hid (show (s.data.toList.drop k).length = s.size - k by rw [List.length_drop,HS.out])
    clear hacc hwk
    have hwsz:=hbel.size
    rw [fW_size] at hwsz
    by_cases hlt:k < s.size
    ·rcases hcs with h0 | ⟨a,b,c,d,r,A,B,hl,hwr,hA,hA64,ha,hB,hB64,hb,hcd⟩
     ·have:=HLEN.out; rw [h0] at this; simp at this; omega
     ·have hk4:k + 4 ≤ s.size:=by have:=HLEN.out; rw [hl] at this; simp only [List.length_cons] at this; omega
      have hget:∀ j,(s.data.toList.drop k)[j]? = s.data.toList[k + j]?:=fun j=>by rw [List.getElem?_drop]
      rw [hl] at hget
      have hdr:s.data.toList.drop (k + 4) = r:=by rw [← List.drop_drop,hl]; rfl
      have HDR:=hid hdr
      have HWR:=hid hwr
      have xa:=fun w=>run_idx (P:=Tryz.prog) Tryz.underlying9 s k a (hget 0).symm (k:Int) rfl .i64 w
      have xb:=fun w=>run_idx (P:=Tryz.prog) Tryz.underlying9 s (k + 1) b (hget 1).symm ((k:Int) + 1) (by omega) .i64 w
      have xc:=fun w=>run_idx (P:=Tryz.prog) Tryz.underlying9 s (k + 2) c (hget 2).symm ((k:Int) + 1 + 1) (by omega) .i64 w
      have xd:=fun w=>run_idx (P:=Tryz.prog) Tryz.underlying9 s (k + 3) d (hget 3).symm ((k:Int) + 1 + 1 + 1) (by omega) .i64 w
      have a256:=UInt8.toNat_lt a
      have b256:=UInt8.toNat_lt b
      have c256:=UInt8.toNat_lt c
      have d256:=UInt8.toNat_lt d
      have qa:=(ne61 ha).2
      have qb:=(ne61 hb).2
      have HNA:=hid (num_let a A hA)
      have HNB:=hid (num_let b B hB)
      have hacc:=HACC.out
      rw [hl] at hacc
      have na:num64 a = A:=by unfold num64; rw [hA]; simp
      have nb:num64 b = B:=by unfold num64; rw [hB]; simp
      clear hget hdr hwr hl hA hB ha hb
      rcases hcd with ⟨rfl,rfl⟩ | ⟨C,hC,hC64,hc,rfl | ⟨D,hD,hD64,hd⟩⟩
      ·skip
       have qc:(((61:UInt8).toNat:Int) == 61) = true:=rfl
       have hfin:out ++ [byteN (n4 A B 0 0 / 65536)] ++ dec64 r = dec64 s.data.toList:=by rw [← hacc,dec64,if_pos rfl,na,nb]; simp
       have HFIN:=hid hfin
       have e1:(((A:Int) * 64 + (B:Int)) * 64 * 64:Int).tmod 256 = (((A:Int) * 64 + (B:Int)) * 64 * 64) % 256:=Int.tmod_eq_emod_of_nonneg (by omega)
       have e2:((((A:Int) * 64 + (B:Int)) * 64 * 64) / 256:Int).tmod 256 = (((A:Int) * 64 + (B:Int)) * 64 * 64) / 256 % 256:=Int.tmod_eq_emod_of_nonneg (by omega)
       have h1:IntKind.u8.wrap ((((A:Int) * 64 + (B:Int)) * 64 * 64) / 65536) = ((byteN (n4 A B 0 0 / 65536)).toNat:Int):=by rw [byteN_val,IntKind.wrap_u8]; unfold n4; omega
       have h2:IntKind.u8.wrap ((((A:Int) * 64 + (B:Int)) * 64 * 64) / 256 % 256) = ((byteN (n4 A B 0 0 / 256 % 256)).toNat:Int):=by rw [byteN_val,IntKind.wrap_u8]; unfold n4; omega
       have h3:IntKind.u8.wrap ((((A:Int) * 64 + (B:Int)) * 64 * 64) % 256) = ((byteN (n4 A B 0 0 % 256)).toNat:Int):=by rw [byteN_val,IntKind.wrap_u8]; unfold n4; omega
       clear hacc hfin na nb
       generalize byteN (n4 A B 0 0 / 65536) = y1 at *
       generalize byteN (n4 A B 0 0 / 256 % 256) = y2 at *
       generalize byteN (n4 A B 0 0 % 256) = y3 at *
       have hone:=byteCells_one [y1]
       go_wp2_with fail
       refine wp_loop_rounds 5 ?_
       rw [rounds_succ]
       go_wp2_with fail
       refine (HNA.out _).mono ?_
       rintro e w2 ⟨rfl,rfl⟩
       go_wp2_with fail
       rw [rounds_succ]
       go_wp2_with fail
       refine (HNB.out _).mono ?_
       rintro e w2 ⟨rfl,rfl⟩
       go_wp2_with fail
       rw [rounds_succ]
       go_wp2_with fail
       rw [rounds_succ]
       go_wp2_with fail
       rw [rounds_succ]
       go_wp2_with (at_builtin; refine wpList_append_own _ rfl _ _ 117 rfl (fW w).heap.size 5 i0 (.int .u8 0) 1 1 Tryz.underlying117 hi hz0 hz1 hz2 rfl (by decide) _ _ _ rfl (hown.alloc _) ⟨wr.heap.size,0,none⟩ 1 3 (byteCells [y1]) rfl rfl ?c1x1 ?c2x1 ?c3x1 ?c4x1 ?c5x1 ?_)
       case c1x1=>
        intro j u hj
        have hj3:(byteCells [y1,y2,y3])[j]? = some u:=by
         have hlt:=(List.getElem?_eq_some_iff.1 hj).1
         simp [byteCells] at hlt
         match j,hlt,hj with
         | 0,_,hj=>exact hj
         | 1,_,hj=>first | exact hj | omega
         | 2,_,hj=>first | exact hj | omega
        exact (heap_news wr _ [y1,y2,y3] j).trans hj3
       case c2x1=>exact hone
       case c3x1=>unfold maxLen; omega
       case c4x1=>omega
       case c5x1=>simp [fW_size]; omega
       intro v' w1 hown' hgrow _
       rw [cells_app] at hown'
       have hbel1:Below (fW w).heap.size (fW w) w1:=(hbel.alloc hbel.size _).grown hgrow (by have:=hbel.size; simp; omega) (fun j hj=>(hown.lt j hj).1)
       have hown1:w1.ownsRow (fW w).heap.size 5 1 v' (out ++ [y1]).length (byteCells (out ++ [y1])):=by rw [List.length_append]; exact hown'
       clear hown hgrow hbel hown'
       go_wp2_with fail
       go_roundw
       case rel=>exact ⟨k + 4,_,by omega,by go_num,by simp; omega,hown1,hbel1,by rw [HDR.out]; exact HWR.out,by rw [HDR.out]; exact HFIN.out⟩
       case measure=>simp [intOf]; omega
      ·skip
       have qc:=(ne61 hc).2
       have qd:(((61:UInt8).toNat:Int) == 61) = true:=rfl
       have HNC:=hid (num_let c C hC)
       have nc:num64 c = C:=by unfold num64; rw [hC]; simp
       have hfin:out ++ [byteN (n4 A B C 0 / 65536),byteN (n4 A B C 0 / 256 % 256)] ++ dec64 r = dec64 s.data.toList:=by rw [← hacc,dec64,if_neg hc,if_pos rfl,na,nb,nc]; simp
       clear hC hc nc
       have HFIN:=hid hfin
       have e1:((((A:Int) * 64 + (B:Int)) * 64 + (C:Int)) * 64:Int).tmod 256 = ((((A:Int) * 64 + (B:Int)) * 64 + (C:Int)) * 64) % 256:=Int.tmod_eq_emod_of_nonneg (by omega)
       have e2:(((((A:Int) * 64 + (B:Int)) * 64 + (C:Int)) * 64) / 256:Int).tmod 256 = ((((A:Int) * 64 + (B:Int)) * 64 + (C:Int)) * 64) / 256 % 256:=Int.tmod_eq_emod_of_nonneg (by omega)
       have h1:IntKind.u8.wrap (((((A:Int) * 64 + (B:Int)) * 64 + (C:Int)) * 64) / 65536) = ((byteN (n4 A B C 0 / 65536)).toNat:Int):=by rw [byteN_val,IntKind.wrap_u8]; unfold n4; omega
       have h2:IntKind.u8.wrap (((((A:Int) * 64 + (B:Int)) * 64 + (C:Int)) * 64) / 256 % 256) = ((byteN (n4 A B C 0 / 256 % 256)).toNat:Int):=by rw [byteN_val,IntKind.wrap_u8]; unfold n4; omega
       have h3:IntKind.u8.wrap (((((A:Int) * 64 + (B:Int)) * 64 + (C:Int)) * 64) % 256) = ((byteN (n4 A B C 0 % 256)).toNat:Int):=by rw [byteN_val,IntKind.wrap_u8]; unfold n4; omega
       clear hacc hfin na nb
       generalize byteN (n4 A B C 0 / 65536) = y1 at *
       generalize byteN (n4 A B C 0 / 256 % 256) = y2 at *
       generalize byteN (n4 A B C 0 % 256) = y3 at *
       have hone:=byteCells_one [y1,y2]
       go_wp2_with fail
       refine wp_loop_rounds 5 ?_
       rw [rounds_succ]
       go_wp2_with fail
       refine (HNA.out _).mono ?_
       rintro e w2 ⟨rfl,rfl⟩
       go_wp2_with fail
       rw [rounds_succ]
       go_wp2_with fail
       refine (HNB.out _).mono ?_
       rintro e w2 ⟨rfl,rfl⟩
       go_wp2_with fail
       rw [rounds_succ]
       go_wp2_with fail
       refine (HNC.out _).mono ?_
       rintro e w2 ⟨rfl,rfl⟩
       go_wp2_with fail
       rw [rounds_succ]
       go_wp2_with fail
       rw [rounds_succ]
       go_wp2_with (at_builtin; refine wpList_append_own _ rfl _ _ 117 rfl (fW w).heap.size 5 i0 (.int .u8 0) 1 1 Tryz.underlying117 hi hz0 hz1 hz2 rfl (by decide) _ _ _ rfl (hown.alloc _) ⟨wr.heap.size,0,none⟩ 2 3 (byteCells [y1,y2]) rfl rfl ?c1x2 ?c2x2 ?c3x2 ?c4x2 ?c5x2 ?_)
       case c1x2=>
        intro j u hj
        have hj3:(byteCells [y1,y2,y3])[j]? = some u:=by
         have hlt:=(List.getElem?_eq_some_iff.1 hj).1
         simp [byteCells] at hlt
         match j,hlt,hj with
         | 0,_,hj=>exact hj
         | 1,_,hj=>first | exact hj | omega
         | 2,_,hj=>first | exact hj | omega
        exact (heap_news wr _ [y1,y2,y3] j).trans hj3
       case c2x2=>exact hone
       case c3x2=>unfold maxLen; omega
       case c4x2=>omega
       case c5x2=>simp [fW_size]; omega
       intro v' w1 hown' hgrow _
       rw [cells_app] at hown'
       have hbel1:Below (fW w).heap.size (fW w) w1:=(hbel.alloc hbel.size _).grown hgrow (by have:=hbel.size; simp; omega) (fun j hj=>(hown.lt j hj).1)
       have hown1:w1.ownsRow (fW w).heap.size 5 1 v' (out ++ [y1,y2]).length (byteCells (out ++ [y1,y2])):=by rw [List.length_append]; exact hown'
       clear hown hgrow hbel hown'
       go_wp2_with fail
       go_roundw
       case rel=>exact ⟨k + 4,_,by omega,by go_num,by simp; omega,hown1,hbel1,by rw [HDR.out]; exact HWR.out,by rw [HDR.out]; exact HFIN.out⟩
       case measure=>simp [intOf]; omega
      ·skip
       have qc:=(ne61 hc).2
       have qd:=(ne61 hd).2
       have HNC:=hid (num_let c C hC)
       have HND:=hid (num_let d D hD)
       have nc:num64 c = C:=by unfold num64; rw [hC]; simp
       have nd:num64 d = D:=by unfold num64; rw [hD]; simp
       have hfin:out ++ [byteN (n4 A B C D / 65536),byteN (n4 A B C D / 256 % 256),byteN (n4 A B C D % 256)] ++ dec64 r = dec64 s.data.toList:=by rw [← hacc,dec64,if_neg hc,if_neg hd,na,nb,nc,nd]; simp
       clear hC hc nc hD hd nd
       have HFIN:=hid hfin
       have e1:((((A:Int) * 64 + (B:Int)) * 64 + (C:Int)) * 64 + (D:Int):Int).tmod 256 = ((((A:Int) * 64 + (B:Int)) * 64 + (C:Int)) * 64 + (D:Int)) % 256:=Int.tmod_eq_emod_of_nonneg (by omega)
       have e2:(((((A:Int) * 64 + (B:Int)) * 64 + (C:Int)) * 64 + (D:Int)) / 256:Int).tmod 256 = ((((A:Int) * 64 + (B:Int)) * 64 + (C:Int)) * 64 + (D:Int)) / 256 % 256:=Int.tmod_eq_emod_of_nonneg (by omega)
       have h1:IntKind.u8.wrap (((((A:Int) * 64 + (B:Int)) * 64 + (C:Int)) * 64 + (D:Int)) / 65536) = ((byteN (n4 A B C D / 65536)).toNat:Int):=by rw [byteN_val,IntKind.wrap_u8]; unfold n4; omega
       have h2:IntKind.u8.wrap (((((A:Int) * 64 + (B:Int)) * 64 + (C:Int)) * 64 + (D:Int)) / 256 % 256) = ((byteN (n4 A B C D / 256 % 256)).toNat:Int):=by rw [byteN_val,IntKind.wrap_u8]; unfold n4; omega
       have h3:IntKind.u8.wrap (((((A:Int) * 64 + (B:Int)) * 64 + (C:Int)) * 64 + (D:Int)) % 256) = ((byteN (n4 A B C D % 256)).toNat:Int):=by rw [byteN_val,IntKind.wrap_u8]; unfold n4; omega
       clear hacc hfin na nb
       generalize byteN (n4 A B C D / 65536) = y1 at *
       generalize byteN (n4 A B C D / 256 % 256) = y2 at *
       generalize byteN (n4 A B C D % 256) = y3 at *
       have hone:=byteCells_one [y1,y2,y3]
       go_wp2_with fail
       refine wp_loop_rounds 5 ?_
       rw [rounds_succ]
       go_wp2_with fail
       refine (HNA.out _).mono ?_
       rintro e w2 ⟨rfl,rfl⟩
       go_wp2_with fail
       rw [rounds_succ]
       go_wp2_with fail
       refine (HNB.out _).mono ?_
       rintro e w2 ⟨rfl,rfl⟩
       go_wp2_with fail
       rw [rounds_succ]
       go_wp2_with fail
       refine (HNC.out _).mono ?_
       rintro e w2 ⟨rfl,rfl⟩
       go_wp2_with fail
       rw [rounds_succ]
       go_wp2_with fail
       refine (HND.out _).mono ?_
       rintro e w2 ⟨rfl,rfl⟩
       go_wp2_with fail
       rw [rounds_succ]
       go_wp2_with (at_builtin; refine wpList_append_own _ rfl _ _ 117 rfl (fW w).heap.size 5 i0 (.int .u8 0) 1 1 Tryz.underlying117 hi hz0 hz1 hz2 rfl (by decide) _ _ _ rfl (hown.alloc _) ⟨wr.heap.size,0,none⟩ 3 3 (byteCells [y1,y2,y3]) rfl rfl ?c1x3 ?c2x3 ?c3x3 ?c4x3 ?c5x3 ?_)
       case c1x3=>
        intro j u hj
        have hj3:(byteCells [y1,y2,y3])[j]? = some u:=by
         have hlt:=(List.getElem?_eq_some_iff.1 hj).1
         simp [byteCells] at hlt
         match j,hlt,hj with
         | 0,_,hj=>exact hj
         | 1,_,hj=>first | exact hj | omega
         | 2,_,hj=>first | exact hj | omega
        exact (heap_news wr _ [y1,y2,y3] j).trans hj3
       case c2x3=>exact hone
       case c3x3=>unfold maxLen; omega
       case c4x3=>omega
       case c5x3=>simp [fW_size]; omega
       intro v' w1 hown' hgrow _
       rw [cells_app] at hown'
       have hbel1:Below (fW w).heap.size (fW w) w1:=(hbel.alloc hbel.size _).grown hgrow (by have:=hbel.size; simp; omega) (fun j hj=>(hown.lt j hj).1)
       have hown1:w1.ownsRow (fW w).heap.size 5 1 v' (out ++ [y1,y2,y3]).length (byteCells (out ++ [y1,y2,y3])):=by rw [List.length_append]; exact hown'
       clear hown hgrow hbel hown'
       go_wp2_with fail
       go_roundw
       case rel=>exact ⟨k + 4,_,by omega,by go_num,by simp; omega,hown1,hbel1,by rw [HDR.out]; exact HWR.out,by rw [HDR.out]; exact HFIN.out⟩
       case measure=>simp [intOf]; omega
    ·have hf:ans = (out,0,none):=by
      have e:out = dec64 s.data.toList:=by rw [← HACC.out,List.drop_eq_nil_of_le (by rw [HS.out]; omega)]; simp [dec64]
      rw [HA.out,if_neg hbig,if_pos HW0.out,e]
     have HF2:=hid hf
     have hconv:=conv_own hown
     have hh:=(fW_row w).below hbel
     obtain ⟨c0,c1,f0,f1⟩:=hh.cells
     have HH:=hid hh
     have hb:=end_below (fW_below hbel) 0 0
     clear hf hh hcs
     go_wp2_with fail
     refine ret_told rfl w.heap.size 0 0 (.string ⟨out.toArray⟩) (fault_set HH.out _ _) rfl rfl rfl ⟨?_,hb⟩
     rw [HF2.out]; rfl
  ·obtain ⟨N,hN⟩:∃ N:Nat,w64 s.size 0 s.data.toList = N:=⟨(w64 s.size 0 s.data.toList).toNat,by omega⟩
   rw [hN] at hW
   have HW:=hid hW
   have HP:=hid fun W=>faultPlaced_any 3 (N:Int) W
   have hf:ans = ([],3,some (N:Int)):=by rw [HA.out,if_neg hbig,if_neg hw,hN]
   have HF:=hid hf
   clear hW hge hw hN hf
   go_enter Tryz.func123,Tryz.ntmps123
   go_wp2_with fail
   refine (HW.out _).mono ?_
   rintro e w0 ⟨rfl,rfl⟩
   go_wp2_with fail
   refine (HP.out _).mono ?_
   rintro e w1 ⟨rfl,b1⟩
   have hh:=(fW_row w).below b1
   obtain ⟨c0,c1,f0,f1⟩:=hh.cells
   have HH:=hid hh
   have hb:=end_below (fW_below b1) 3 (N:Int)
   clear hh
   go_wp2_with fail
   refine ret_told rfl w.heap.size 3 (N:Int) (.string ⟨#[]⟩) (fault_set HH.out _ _) rfl rfl rfl ⟨?_,hb⟩
   rw [HF.out]; rfl
theorem b64_3 (a b c:UInt8) (r:List UInt8):b64 (a :: b :: c :: r) = [L64 (n3 a b c / 262144),L64 (n3 a b c / 4096 % 64)] ++ [L64 (n3 a b c / 64 % 64)] ++ [L64 (n3 a b c % 64)] ++ b64 r:=by
 have h:=n3_lt a b c
 have e:b64 (a :: b :: c :: r) = L64 (n3 a b c / 262144 % 64) :: L64 (n3 a b c / 4096 % 64) :: L64 (n3 a b c / 64 % 64) :: L64 (n3 a b c % 64) :: b64 r:=rfl
 rw [e,show n3 a b c / 262144 % 64 = n3 a b c / 262144 by omega]
 rfl
theorem b64_2 (a b:UInt8):b64 [a,b] = [L64 (n3 a b 0 / 262144),L64 (n3 a b 0 / 4096 % 64)] ++ [L64 (n3 a b 0 / 64 % 64)] ++ [61]:=by
 have ha:=UInt8.toNat_lt a
 have hb:=UInt8.toNat_lt b
 have h0:(0:UInt8).toNat = 0:=rfl
 unfold b64 n3
 rw [h0,show (a.toNat * 65536 + b.toNat * 256 + 0) / 262144 = a.toNat / 4 by omega,show (a.toNat * 65536 + b.toNat * 256 + 0) / 4096 % 64 = a.toNat % 4 * 16 + b.toNat / 16 by omega,show (a.toNat * 65536 + b.toNat * 256 + 0) / 64 % 64 = b.toNat % 16 * 4 by omega]
 rfl
theorem b64_1 (a:UInt8):b64 [a] = [L64 (n3 a 0 0 / 262144),L64 (n3 a 0 0 / 4096 % 64)] ++ [61] ++ [61]:=by
 have ha:=UInt8.toNat_lt a
 have h0:(0:UInt8).toNat = 0:=rfl
 unfold b64 n3
 rw [h0,show (a.toNat * 65536 + 0 * 256 + 0) / 262144 = a.toNat / 4 by omega,show (a.toNat * 65536 + 0 * 256 + 0) / 4096 % 64 = a.toNat % 4 * 16 by omega]
 rfl
theorem news_at (W:World) (H:Nat) (hW:W.heap.size = H) (l:List UInt8):∀ j u,(byteCells l)[j]? = some u→(W.alloc (.cells (byteCells l).toArray 5)).cell? ((⟨H,0,none⟩:Addr).add j) = some u:=fun j u hj=>by
 rw [← hW]
 exact (heap_news W _ l j).trans hj
def RB64Rel (s:ByteArray) (w:World) (vo vi:Value) (wr:World):Prop:=
 ∃ (k:Nat) (out:List UInt8),k ≤ s.size + 2∧vi = .int .i64 k∧wr.ownsRow w.heap.size 5 1 vo out.length (byteCells out)∧Below w.heap.size w wr∧out ++ b64 (s.data.toList.drop k) = b64 s.data.toList
set_option maxHeartbeats 4000000 in
set_option maxRecDepth 100000 in
theorem refBase64_any (s:ByteArray) (w:World) (hs:(s.size + 2) / 3 * 4 ≤ 140737488355328) :
  Calls Tryz.prog 45 #[.string s] w fun e w'=>e = .returned (.string ⟨(b64 s.data.toList).toArray⟩)∧Below w.heap.size w w':=by
 have HS:=hid (size_list s)
 have HBL:=hid (b64_length s.data.toList)
 obtain ⟨i0,hi,hz0,hz1,hz2⟩:=info_parts Tryz.infoByte
 go_enter Tryz.func45,Tryz.ntmps45
 go_wp2_with fail
 go_loopw [3,4] (fun vo vi wr=>RB64Rel s w vo vi wr) (fun _ vi _=>s.size - (intOf vi).toNat)
 case atStart=>exact ⟨0,[],by omega,rfl,World.ownsRow_nil _ _ _ _,Below.refl _ _,rfl⟩
 case round=>
  obtain ⟨k,out,hk,rfl,hown,hbel,hacc⟩:=hrel
  have HACC:=hid hacc
  clear hacc
  have hwsz:=hbel.size
  by_cases hlt:k < s.size
  ·have hlen:(s.data.toList.drop k).length = s.size - k:=by rw [List.length_drop,HS.out]
   have hget:∀ j,(s.data.toList.drop k)[j]? = s.data.toList[k + j]?:=fun j=>by rw [List.getElem?_drop]
   have hol:out.length + (b64 (s.data.toList.drop k)).length = (s.size + 2) / 3 * 4:=by
    rw [← List.length_append,HACC.out,HBL.out,HS.out]
   have hacc:=HACC.out
   have hdd:s.data.toList.drop (k + 3) = (s.data.toList.drop k).drop 3:=by rw [List.drop_drop]
   have ek1:IntKind.i64.wrap ((k:Int) + 1) = (k:Int) + 1:=by rw [IntKind.wrap_i64]; omega
   match hl:s.data.toList.drop k with
   | []=>rw [hl] at hlen; simp at hlen; omega
   | a :: b :: c :: r=>
    rw [hl] at hlen hget hacc hol hdd
    rw [b64_length] at hol
    simp only [List.length_cons] at hlen hol
    have ho4:out.length + 4 ≤ 140737488355328:=by omega
    have l1:k + 2 < s.size:=by omega
    clear hlen hol
    have xa:=fun w=>run_idx (P:=Tryz.prog) Tryz.underlying9 s k a (hget 0).symm ((k:Int)) rfl .i64 w
    have a256:=UInt8.toNat_lt a
    have xb:=fun w=>run_idx (P:=Tryz.prog) Tryz.underlying9 s (k + 1) b (hget 1).symm ((k:Int) + 1) (by omega) .i64 w
    have b256:=UInt8.toNat_lt b
    have xc:=fun w=>run_idx (P:=Tryz.prog) Tryz.underlying9 s (k + 2) c (hget 2).symm ((k:Int) + 1 + 1) (by omega) .i64 w
    have c256:=UInt8.toNat_lt c
    rw [b64_3] at hacc
    have hN:=n3_lt a b c
    have hX:((a.toNat:Int) * 256 + (b.toNat:Int)) * 256 + (c.toNat:Int) = ((n3 a b c:Nat):Int):=by unfold n3; omega
    generalize n3 a b c = N at *
    have HF:=hid hacc
    have d0:=fun w=>idx_let w (N / 262144) (by omega) ((N:Int) / 262144) (by omega) .i64
    have d1:=fun w=>idx_let w (N / 4096 % 64) (by omega) ((N:Int) / 4096 % 64) (by omega) .i64
    have d2:=fun w=>idx_let w (N / 64 % 64) (by omega) ((N:Int) / 64 % 64) (by omega) .i64
    have d3:=fun w=>idx_let w (N % 64) (by omega) ((N:Int) % 64) (by omega) .i64
    have e1:((N:Int) / 4096).tmod 64 = (N:Int) / 4096 % 64:=Int.tmod_eq_emod_of_nonneg (by omega)
    have e2:((N:Int) / 64).tmod 64 = (N:Int) / 64 % 64:=Int.tmod_eq_emod_of_nonneg (by omega)
    have e3:(N:Int).tmod 64 = (N:Int) % 64:=Int.tmod_eq_emod_of_nonneg (by omega)
    have f0:IntKind.i64.wrap ((N:Int) / 262144) = (N:Int) / 262144:=by rw [IntKind.wrap_i64]; omega
    have f1:IntKind.i64.wrap ((N:Int) / 4096) = (N:Int) / 4096:=by rw [IntKind.wrap_i64]; omega
    have HDD:=hid hdd
    have hone:=byteCells_one [L64 (N / 262144),L64 (N / 4096 % 64)]
    have hnw:∀ (W:World),W.heap = wr.heap→∀ j u,(byteCells [L64 (N / 262144),L64 (N / 4096 % 64)])[j]? = some u→(W.alloc (.cells #[.int .u8 ((L64 (N / 262144)).toNat:Int),.int .u8 ((L64 (N / 4096 % 64)).toNat:Int)] 5)).cell? ((⟨wr.heap.size,0,none⟩:Addr).add j) = some u:=fun W hW=>news_at W _ (by rw [hW]) _
    clear hl hget hacc hdd hN
    go_wp2_with fail
    refine wp_loop_rounds 4 ?_
    rw [rounds_succ]
    go_wp2_with fail
    rw [rounds_succ]
    go_wp2_with fail
    rw [rounds_succ]
    go_wp2_with fail
    rw [rounds_succ]
    go_wp2_with fail
    go_region_law (first | (refine step_append_lies _ (by rfl) (.tmp 32) (.tmp 40) 117 (by rfl) w.heap.size 5 i0 (.int .u8 0) 1 1 Tryz.underlying117 hi hz0 hz1 hz2 rfl (by decide) _ _ _ (by rfl) (by exact hown.alloc _) ⟨wr.heap.size,0,none⟩ 2 2 (byteCells [L64 (N / 262144),L64 (N / 4096 % 64)]) (by rfl) (by rfl) (by exact hnw _ rfl) hone (by omega) (by unfold maxLen; omega) (by omega) (by simp; omega) _ rfl ?_; intro g cap w1 hown' hgrow _ _))
    all_goals
     have hbel1:Below w.heap.size w w1:=((below_drewN hbel 1).alloc hbel.size _).grown hgrow (by have:=hbel.size; simp; omega) (fun j hj=>(hown.lt j hj).1)
     rw [cells_app] at hown'
     have hown1:w1.ownsRow w.heap.size 5 1 (.slice (some ⟨g,0,none⟩) (out.length + 2) cap) (out ++ [L64 (N / 262144),L64 (N / 4096 % 64)]).length (byteCells (out ++ [L64 (N / 262144),L64 (N / 4096 % 64)])):=by rw [List.length_append]; exact hown'
     have hz1':=hbel1.size
     clear hown hgrow hbel hown' hnw hone
     go_wp2_with (at_builtin; refine wpList_append_own _ rfl _ _ 117 rfl w.heap.size 5 i0 (.int .u8 0) 1 1 Tryz.underlying117 hi hz0 hz1 hz2 rfl (by decide) _ _ _ rfl (hown1.alloc _) ⟨w1.heap.size,0,none⟩ 1 1 (byteCells [L64 (N / 64 % 64)]) rfl rfl (by exact news_at w1 _ rfl _) (byteCells_one [L64 (N / 64 % 64)]) (by simp only [List.length_append,List.length_cons,List.length_nil]; unfold maxLen; omega) (by simp only [List.length_append,List.length_cons,List.length_nil]; omega) (by simp; omega) ?_)
     intro v2 w2 hown2' hgrow2 _
     have hbel2:Below w.heap.size w w2:=(hbel1.alloc hbel1.size _).grown hgrow2 (by simp; omega) (fun j hj=>(hown1.lt j hj).1)
     rw [cells_app] at hown2'
     have hown2:w2.ownsRow w.heap.size 5 1 v2 (out ++ [L64 (N / 262144),L64 (N / 4096 % 64)] ++ [L64 (N / 64 % 64)]).length (byteCells (out ++ [L64 (N / 262144),L64 (N / 4096 % 64)] ++ [L64 (N / 64 % 64)])):=by simpa using hown2'
     have hz2':=hbel2.size
     clear hown1 hgrow2 hbel1 hown2'
     go_wp2_with (at_builtin; refine wpList_append_own _ rfl _ _ 117 rfl w.heap.size 5 i0 (.int .u8 0) 1 1 Tryz.underlying117 hi hz0 hz1 hz2 rfl (by decide) _ _ _ rfl (hown2.alloc _) ⟨w2.heap.size,0,none⟩ 1 1 (byteCells [L64 (N % 64)]) rfl rfl (by exact news_at w2 _ rfl _) (byteCells_one [L64 (N % 64)]) (by simp only [List.length_append,List.length_cons,List.length_nil]; unfold maxLen; omega) (by simp only [List.length_append,List.length_cons,List.length_nil]; omega) (by simp; omega) ?_)
     intro v3 w3 hown3' hgrow3 _
     have hbel3:Below w.heap.size w w3:=(hbel2.alloc hbel2.size _).grown hgrow3 (by simp; omega) (fun j hj=>(hown2.lt j hj).1)
     rw [cells_app] at hown3'
     have hown3:w3.ownsRow w.heap.size 5 1 v3 (out ++ [L64 (N / 262144),L64 (N / 4096 % 64)] ++ [L64 (N / 64 % 64)] ++ [L64 (N % 64)]).length (byteCells (out ++ [L64 (N / 262144),L64 (N / 4096 % 64)] ++ [L64 (N / 64 % 64)] ++ [L64 (N % 64)])):=by simpa using hown3'
     have hz3':=hbel3.size
     clear hown2 hgrow3 hbel2 hown3'
     go_wp2_with fail
     go_roundw
     case rel=>exact ⟨k + 3,_,by omega,by go_num,hown3,hbel3,by rw [HDD.out]; rw [← HF.out]; simp⟩
     case measure=>simp [intOf]; omega
   | [a,b]=>
    rw [hl] at hlen hget hacc hol hdd
    rw [b64_length] at hol
    simp only [List.length_cons,List.length_nil] at hlen hol
    have ho4:out.length + 4 ≤ 140737488355328:=by omega
    have l1:k + 1 < s.size:=by omega
    have l2:s.size ≤ k + 2:=by omega
    clear hlen hol
    have xa:=fun w=>run_idx (P:=Tryz.prog) Tryz.underlying9 s k a (hget 0).symm ((k:Int)) rfl .i64 w
    have a256:=UInt8.toNat_lt a
    have xb:=fun w=>run_idx (P:=Tryz.prog) Tryz.underlying9 s (k + 1) b (hget 1).symm ((k:Int) + 1) (by omega) .i64 w
    have b256:=UInt8.toNat_lt b
    rw [b64_2] at hacc
    have hN:=n3_lt a b 0
    have hX:((a.toNat:Int) * 256 + (b.toNat:Int)) * 256 = ((n3 a b 0:Nat):Int):=by unfold n3; simp; omega
    generalize n3 a b 0 = N at *
    have HF:=hid hacc
    have d0:=fun w=>idx_let w (N / 262144) (by omega) ((N:Int) / 262144) (by omega) .i64
    have d1:=fun w=>idx_let w (N / 4096 % 64) (by omega) ((N:Int) / 4096 % 64) (by omega) .i64
    have d2:=fun w=>idx_let w (N / 64 % 64) (by omega) ((N:Int) / 64 % 64) (by omega) .i64
    have d3:=fun w=>idx_let w (N % 64) (by omega) ((N:Int) % 64) (by omega) .i64
    have e1:((N:Int) / 4096).tmod 64 = (N:Int) / 4096 % 64:=Int.tmod_eq_emod_of_nonneg (by omega)
    have e2:((N:Int) / 64).tmod 64 = (N:Int) / 64 % 64:=Int.tmod_eq_emod_of_nonneg (by omega)
    have e3:(N:Int).tmod 64 = (N:Int) % 64:=Int.tmod_eq_emod_of_nonneg (by omega)
    have f0:IntKind.i64.wrap ((N:Int) / 262144) = (N:Int) / 262144:=by rw [IntKind.wrap_i64]; omega
    have f1:IntKind.i64.wrap ((N:Int) / 4096) = (N:Int) / 4096:=by rw [IntKind.wrap_i64]; omega
    have HDD:=hid hdd
    have hone:=byteCells_one [L64 (N / 262144),L64 (N / 4096 % 64)]
    have hnw:∀ (W:World),W.heap = wr.heap→∀ j u,(byteCells [L64 (N / 262144),L64 (N / 4096 % 64)])[j]? = some u→(W.alloc (.cells #[.int .u8 ((L64 (N / 262144)).toNat:Int),.int .u8 ((L64 (N / 4096 % 64)).toNat:Int)] 5)).cell? ((⟨wr.heap.size,0,none⟩:Addr).add j) = some u:=fun W hW=>news_at W _ (by rw [hW]) _
    clear hl hget hacc hdd hN
    go_wp2_with fail
    refine wp_loop_rounds 4 ?_
    rw [rounds_succ]
    go_wp2_with fail
    rw [rounds_succ]
    go_wp2_with fail
    rw [rounds_succ]
    go_wp2_with fail
    rw [rounds_succ]
    go_wp2_with fail
    go_region_law (first | (refine step_append_lies _ (by rfl) (.tmp 32) (.tmp 40) 117 (by rfl) w.heap.size 5 i0 (.int .u8 0) 1 1 Tryz.underlying117 hi hz0 hz1 hz2 rfl (by decide) _ _ _ (by rfl) (by exact hown.alloc _) ⟨wr.heap.size,0,none⟩ 2 2 (byteCells [L64 (N / 262144),L64 (N / 4096 % 64)]) (by rfl) (by rfl) (by exact hnw _ rfl) hone (by omega) (by unfold maxLen; omega) (by omega) (by simp; omega) _ rfl ?_; intro g cap w1 hown' hgrow _ _))
    all_goals
     have hbel1:Below w.heap.size w w1:=((below_drewN hbel 1).alloc hbel.size _).grown hgrow (by have:=hbel.size; simp; omega) (fun j hj=>(hown.lt j hj).1)
     rw [cells_app] at hown'
     have hown1:w1.ownsRow w.heap.size 5 1 (.slice (some ⟨g,0,none⟩) (out.length + 2) cap) (out ++ [L64 (N / 262144),L64 (N / 4096 % 64)]).length (byteCells (out ++ [L64 (N / 262144),L64 (N / 4096 % 64)])):=by rw [List.length_append]; exact hown'
     have hz1':=hbel1.size
     clear hown hgrow hbel hown' hnw hone
     go_wp2_with (at_builtin; refine wpList_append_own _ rfl _ _ 117 rfl w.heap.size 5 i0 (.int .u8 0) 1 1 Tryz.underlying117 hi hz0 hz1 hz2 rfl (by decide) _ _ _ rfl (hown1.alloc _) ⟨w1.heap.size,0,none⟩ 1 1 (byteCells [L64 (N / 64 % 64)]) rfl rfl (by exact news_at w1 _ rfl _) (byteCells_one [L64 (N / 64 % 64)]) (by simp only [List.length_append,List.length_cons,List.length_nil]; unfold maxLen; omega) (by simp only [List.length_append,List.length_cons,List.length_nil]; omega) (by simp; omega) ?_)
     intro v2 w2 hown2' hgrow2 _
     have hbel2:Below w.heap.size w w2:=(hbel1.alloc hbel1.size _).grown hgrow2 (by simp; omega) (fun j hj=>(hown1.lt j hj).1)
     rw [cells_app] at hown2'
     have hown2:w2.ownsRow w.heap.size 5 1 v2 (out ++ [L64 (N / 262144),L64 (N / 4096 % 64)] ++ [L64 (N / 64 % 64)]).length (byteCells (out ++ [L64 (N / 262144),L64 (N / 4096 % 64)] ++ [L64 (N / 64 % 64)])):=by simpa using hown2'
     have hz2':=hbel2.size
     clear hown1 hgrow2 hbel1 hown2'
     go_wp2_with (at_builtin; refine wpList_append_own _ rfl _ _ 117 rfl w.heap.size 5 i0 (.int .u8 0) 1 1 Tryz.underlying117 hi hz0 hz1 hz2 rfl (by decide) _ _ _ rfl (hown2.alloc _) ⟨w2.heap.size,0,none⟩ 1 1 (byteCells [61]) rfl rfl (by exact news_at w2 _ rfl _) (byteCells_one [61]) (by simp only [List.length_append,List.length_cons,List.length_nil]; unfold maxLen; omega) (by simp only [List.length_append,List.length_cons,List.length_nil]; omega) (by simp; omega) ?_)
     intro v3 w3 hown3' hgrow3 _
     have hbel3:Below w.heap.size w w3:=(hbel2.alloc hbel2.size _).grown hgrow3 (by simp; omega) (fun j hj=>(hown2.lt j hj).1)
     rw [cells_app] at hown3'
     have hown3:w3.ownsRow w.heap.size 5 1 v3 (out ++ [L64 (N / 262144),L64 (N / 4096 % 64)] ++ [L64 (N / 64 % 64)] ++ [61]).length (byteCells (out ++ [L64 (N / 262144),L64 (N / 4096 % 64)] ++ [L64 (N / 64 % 64)] ++ [61])):=by simpa using hown3'
     have hz3':=hbel3.size
     clear hown2 hgrow3 hbel2 hown3'
     go_wp2_with fail
     go_roundw
     case rel=>exact ⟨k + 3,_,by omega,by go_num,hown3,hbel3,by rw [HDD.out]; rw [← HF.out]; simp [b64]⟩
     case measure=>simp [intOf]; omega
   | [a]=>
    rw [hl] at hlen hget hacc hol hdd
    rw [b64_length] at hol
    simp only [List.length_cons,List.length_nil] at hlen hol
    have ho4:out.length + 4 ≤ 140737488355328:=by omega
    have l1:k + 0 < s.size:=by omega
    have l2:s.size ≤ k + 1:=by omega
    clear hlen hol
    have xa:=fun w=>run_idx (P:=Tryz.prog) Tryz.underlying9 s k a (hget 0).symm ((k:Int)) rfl .i64 w
    have a256:=UInt8.toNat_lt a
    rw [b64_1] at hacc
    have hN:=n3_lt a 0 0
    have hX:(a.toNat:Int) * 256 * 256 = ((n3 a 0 0:Nat):Int):=by unfold n3; simp; omega
    generalize n3 a 0 0 = N at *
    have HF:=hid hacc
    have d0:=fun w=>idx_let w (N / 262144) (by omega) ((N:Int) / 262144) (by omega) .i64
    have d1:=fun w=>idx_let w (N / 4096 % 64) (by omega) ((N:Int) / 4096 % 64) (by omega) .i64
    have d2:=fun w=>idx_let w (N / 64 % 64) (by omega) ((N:Int) / 64 % 64) (by omega) .i64
    have d3:=fun w=>idx_let w (N % 64) (by omega) ((N:Int) % 64) (by omega) .i64
    have e1:((N:Int) / 4096).tmod 64 = (N:Int) / 4096 % 64:=Int.tmod_eq_emod_of_nonneg (by omega)
    have e2:((N:Int) / 64).tmod 64 = (N:Int) / 64 % 64:=Int.tmod_eq_emod_of_nonneg (by omega)
    have e3:(N:Int).tmod 64 = (N:Int) % 64:=Int.tmod_eq_emod_of_nonneg (by omega)
    have f0:IntKind.i64.wrap ((N:Int) / 262144) = (N:Int) / 262144:=by rw [IntKind.wrap_i64]; omega
    have f1:IntKind.i64.wrap ((N:Int) / 4096) = (N:Int) / 4096:=by rw [IntKind.wrap_i64]; omega
    have HDD:=hid hdd
    have hone:=byteCells_one [L64 (N / 262144),L64 (N / 4096 % 64)]
    have hnw:∀ (W:World),W.heap = wr.heap→∀ j u,(byteCells [L64 (N / 262144),L64 (N / 4096 % 64)])[j]? = some u→(W.alloc (.cells #[.int .u8 ((L64 (N / 262144)).toNat:Int),.int .u8 ((L64 (N / 4096 % 64)).toNat:Int)] 5)).cell? ((⟨wr.heap.size,0,none⟩:Addr).add j) = some u:=fun W hW=>news_at W _ (by rw [hW]) _
    clear hl hget hacc hdd hN
    go_wp2_with fail
    refine wp_loop_rounds 4 ?_
    rw [rounds_succ]
    go_wp2_with fail
    rw [rounds_succ]
    go_wp2_with fail
    rw [rounds_succ]
    go_wp2_with fail
    rw [rounds_succ]
    go_wp2_with fail
    go_region_law (first | (refine step_append_lies _ (by rfl) (.tmp 32) (.tmp 40) 117 (by rfl) w.heap.size 5 i0 (.int .u8 0) 1 1 Tryz.underlying117 hi hz0 hz1 hz2 rfl (by decide) _ _ _ (by rfl) (by exact hown.alloc _) ⟨wr.heap.size,0,none⟩ 2 2 (byteCells [L64 (N / 262144),L64 (N / 4096 % 64)]) (by rfl) (by rfl) (by exact hnw _ rfl) hone (by omega) (by unfold maxLen; omega) (by omega) (by simp; omega) _ rfl ?_; intro g cap w1 hown' hgrow _ _))
    all_goals
     have hbel1:Below w.heap.size w w1:=((below_drewN hbel 1).alloc hbel.size _).grown hgrow (by have:=hbel.size; simp; omega) (fun j hj=>(hown.lt j hj).1)
     rw [cells_app] at hown'
     have hown1:w1.ownsRow w.heap.size 5 1 (.slice (some ⟨g,0,none⟩) (out.length + 2) cap) (out ++ [L64 (N / 262144),L64 (N / 4096 % 64)]).length (byteCells (out ++ [L64 (N / 262144),L64 (N / 4096 % 64)])):=by rw [List.length_append]; exact hown'
     have hz1':=hbel1.size
     clear hown hgrow hbel hown' hnw hone
     go_wp2_with (at_builtin; refine wpList_append_own _ rfl _ _ 117 rfl w.heap.size 5 i0 (.int .u8 0) 1 1 Tryz.underlying117 hi hz0 hz1 hz2 rfl (by decide) _ _ _ rfl (hown1.alloc _) ⟨w1.heap.size,0,none⟩ 1 1 (byteCells [61]) rfl rfl (by exact news_at w1 _ rfl _) (byteCells_one [61]) (by simp only [List.length_append,List.length_cons,List.length_nil]; unfold maxLen; omega) (by simp only [List.length_append,List.length_cons,List.length_nil]; omega) (by simp; omega) ?_)
     intro v2 w2 hown2' hgrow2 _
     have hbel2:Below w.heap.size w w2:=(hbel1.alloc hbel1.size _).grown hgrow2 (by simp; omega) (fun j hj=>(hown1.lt j hj).1)
     rw [cells_app] at hown2'
     have hown2:w2.ownsRow w.heap.size 5 1 v2 (out ++ [L64 (N / 262144),L64 (N / 4096 % 64)] ++ [61]).length (byteCells (out ++ [L64 (N / 262144),L64 (N / 4096 % 64)] ++ [61])):=by simpa using hown2'
     have hz2':=hbel2.size
     clear hown1 hgrow2 hbel1 hown2'
     go_wp2_with (at_builtin; refine wpList_append_own _ rfl _ _ 117 rfl w.heap.size 5 i0 (.int .u8 0) 1 1 Tryz.underlying117 hi hz0 hz1 hz2 rfl (by decide) _ _ _ rfl (hown2.alloc _) ⟨w2.heap.size,0,none⟩ 1 1 (byteCells [61]) rfl rfl (by exact news_at w2 _ rfl _) (byteCells_one [61]) (by simp only [List.length_append,List.length_cons,List.length_nil]; unfold maxLen; omega) (by simp only [List.length_append,List.length_cons,List.length_nil]; omega) (by simp; omega) ?_)
     intro v3 w3 hown3' hgrow3 _
     have hbel3:Below w.heap.size w w3:=(hbel2.alloc hbel2.size _).grown hgrow3 (by simp; omega) (fun j hj=>(hown2.lt j hj).1)
     rw [cells_app] at hown3'
     have hown3:w3.ownsRow w.heap.size 5 1 v3 (out ++ [L64 (N / 262144),L64 (N / 4096 % 64)] ++ [61] ++ [61]).length (byteCells (out ++ [L64 (N / 262144),L64 (N / 4096 % 64)] ++ [61] ++ [61])):=by simpa using hown3'
     have hz3':=hbel3.size
     clear hown2 hgrow3 hbel2 hown3'
     go_wp2_with fail
     go_roundw
     case rel=>exact ⟨k + 3,_,by omega,by go_num,hown3,hbel3,by rw [HDD.out]; rw [← HF.out]; simp [b64]⟩
     case measure=>simp [intOf]; omega
  ·have hf:out = b64 s.data.toList:=by
    rw [← HACC.out,List.drop_eq_nil_of_le (by rw [HS.out]; omega)]; simp [b64]
   have HF:=hid hf
   have hconv:=conv_own hown
   clear hf
   go_wp2_with fail
   go_ret
   exact ⟨ret_str HF.out,hbel⟩
end Go.Proofs.YticlgcfodlcpcaaGreatDoor
