/- note.odd,wrong and may by their contracts. note.may and note.read by their contracts. -/
import Derived.Test.YticlgcfodlcpcaaGreatDoorNoteP
import Derived.Test.YticlgcfodlcpcaaGreatDoorNEnc
import Derived.Lib.IndexBytes
namespace Go.Proofs.YticlgcfodlcpcaaGreatDoor
open Go.Lib (hid byteCells)
open Go.RowKit
def oddV (o:Option Nat):Value:=match o with | none=>.tuple #[.int .i64 0,.bool false] | some i=>.tuple #[.int .i64 (i:Int),.bool true]
def OddRel (s:ByteArray) (w:World) (K:Nat) (wr:World):Prop:=
 ∃ pos f:Nat,wr.heap[K]? = some (.stringIter s pos)∧s.size ≤ pos + f∧oddAt s.size 0 s.data.toList = oddAt f pos (s.data.toList.drop pos)∧Below w.heap.size w wr
set_option maxHeartbeats 4000000 in
set_option maxRecDepth 100000 in
theorem odd_any (s:ByteArray) (w:World) :
  Calls Tryz.prog 70 #[.string s] w fun e w'=>e = .returned (oddV (oddAt s.data.toList.length 0 s.data.toList))∧Below w.heap.size w w':=by
 rw [size_list]
 obtain ⟨O,hO⟩:∃ O,oddAt s.size 0 s.data.toList = O:=⟨_,rfl⟩
 have HO:=hid hO
 rw [hO]
 have hs0:OddRel s w w.heap.size (w.alloc (.stringIter s 0)):=⟨0,s.size,World.iter_heap w s 0,by omega,rfl,(Below.refl _ _).alloc (Nat.le_refl _) _⟩
 have HS0:=hid hs0
 clear hO hs0
 go_enter Tryz.func70,Tryz.ntmps70
 go_wp2_with fail
 go_loopw [] (fun wr=>OddRel s w w.heap.size wr) (fun wr=>s.size - wr.iterPos w.heap.size)
 case atStart=>exact HS0.out
 case round=>
  obtain ⟨pos,f,hit,hfu,hg,hbel⟩:=hrel
  rename World=>wr
  have HGD:=hid hg
  clear hg HS0
  have hlt:=lt_of_heap hit
  by_cases hp:pos < s.size
  ·have hnx:∀ ty,(Instr.next (.pointer (some ⟨w.heap.size,0,none⟩)) true ty).run Tryz.prog wr = _:=fun ty=>Lib.run_next_any_at wr w.heap.size s pos ty hit hp
   have hne:s.data.toList.drop pos ≠ []:=fun e=>by
    have:=congrArg List.length e
    rw [List.length_drop,size_list] at this; simp at this; omega
   obtain ⟨f',rfl⟩:∃ f',f = f' + 1:=⟨f - 1,by omega⟩
   have hhit:=oddAt_hit f' pos _ hne
   have hmiss:=oddAt_miss f' pos _ hne
   have hff:=fffd (s.data.toList.drop pos)
   rw [Lib.decodeL_drop] at hhit hmiss hff
   rw [List.drop_drop] at hmiss
   have hwd:=Lib.decodeL_width (s.data.toList.drop pos)
   rw [Lib.decodeL_drop] at hwd
   have hd1:=decode_le s pos
   have hit2:=Lib.iterAt_heap wr w.heap.size s pos (pos + (Utf8.decode s pos).2) hit
   have hbw2:=Lib.below_iterAt hbel (k:=w.heap.size) (Nat.le_refl _) s (pos + (Utf8.decode s pos).2)
   have hms:wr.iterPos w.heap.size = pos:=by simp only [World.iterPos,hit]
   have hHP:=fun W:World=>Tryz.strings_HasPrefix (s.extract pos s.size) ⟨#[239,191,189]⟩ W
   have e1:(s.extract pos s.size).data.toList = s.data.toList.drop pos:=Lib.extract_to_end s pos
   rw [e1,show (⟨#[239,191,189]⟩:ByteArray).data.toList = fffdL from rfl] at hHP
   generalize (Utf8.decode s pos).2 = wd at *
   generalize (Utf8.decode s pos).1 = R at *
   generalize hW2:wr.iterAt w.heap.size s (pos + wd) = W2 at *
   have HIT:=hid hit2
   have HMS:=hid hms
   have HBW:=hid hbw2
   have HHIT:=hid hhit
   have HMISS:=hid hmiss
   have p0:(0:Int) ≤ (pos:Int):=by omega
   have p1:(pos:Int) ≤ (s.size:Int):=by omega
   have R0:(0:Int) ≤ (R:Int):=by omega
   clear hhit hmiss hit2 hit hms hne hW2 hbw2
   by_cases hR:R = 65533
   ·have HPF:=hid hHP
    have hfd:=hff hR
    subst hR
    clear hff hHP
    by_cases h1:wd = 1
    ·have hv:Lib.hasPrefix (s.data.toList.drop pos) fffdL = false:=by rw [hfd]; simp [h1]
     rw [hv] at HPF
     have HF:=hid (show O = some pos by rw [← HO.out,HGD.out,HHIT.out (by unfold oddB; simp [h1])])
     clear hfd h1 hv
     go_wp2_with (go_at_call 108; refine (HPF.out _).mono ?_; rintro e w2 ⟨rfl,rfl⟩)
     go_ret2
     exact ⟨by rw [HF.out]; rfl,HBW.out⟩
    ·have hv:Lib.hasPrefix (s.data.toList.drop pos) fffdL = true:=by rw [hfd]; simp [h1]
     rw [hv] at HPF
     have HF:=hid (HMISS.out (by unfold oddB controlB; simp [h1]))
     clear hfd h1 hv
     go_wp2_with (go_at_call 108; refine (HPF.out _).mono ?_; rintro e w2 ⟨rfl,rfl⟩)
     refine ⟨⟨pos + wd,f',HIT.out,by omega,by rw [HGD.out,HF.out],HBW.out⟩,?_⟩
     rw [HMS.out]
     simp only [World.iterPos,HIT.out]
     omega
   ·have hR':¬ (R:Int) = 65533:=by omega
    clear hff hHP
    by_cases h10:R = 10
    ·have HF:=hid (HMISS.out (by unfold oddB; simp [h10]))
     subst h10
     clear hR hR'
     go_wp2_with fail
     refine ⟨⟨pos + wd,f',HIT.out,by omega,by rw [HGD.out,HF.out],HBW.out⟩,?_⟩
     rw [HMS.out]
     simp only [World.iterPos,HIT.out]
     omega
    ·have h10':¬ (R:Int) = 10:=by omega
     by_cases h32:R < 32
     ·have h32':(R:Int) < 32:=by omega
      have HF:=hid (show O = some pos by rw [← HO.out,HGD.out,HHIT.out (by
       unfold oddB controlB
       simp [h32',h10'])])
      clear hR h10 h32
      go_wp2_with fail
      go_ret2
      exact ⟨by rw [HF.out]; rfl,HBW.out⟩
     ·have h32':¬ (R:Int) < 32:=by omega
      by_cases h127:127 ≤ R
      ·have h127':(127:Int) ≤ (R:Int):=by omega
       by_cases h159:R ≤ 159
       ·have h159':(R:Int) ≤ 159:=by omega
        have HF:=hid (show O = some pos by rw [← HO.out,HGD.out,HHIT.out (by
         unfold oddB controlB
         simp [h127',h159',h10'])])
        clear hR h10 h32 h127 h159
        go_wp2_with fail
        go_ret2
        exact ⟨by rw [HF.out]; rfl,HBW.out⟩
       ·have h159':¬ (R:Int) ≤ 159:=by omega
        have HF:=hid (HMISS.out (by
         unfold oddB controlB
         simp [h32',h159',hR']))
        clear hR h10 h32 h127 h159
        go_wp2_with fail
        refine ⟨⟨pos + wd,f',HIT.out,by omega,by rw [HGD.out,HF.out],HBW.out⟩,?_⟩
        rw [HMS.out]
        simp only [World.iterPos,HIT.out]
        omega
      ·have h127':¬ (127:Int) ≤ (R:Int):=by omega
       have HF:=hid (HMISS.out (by
        unfold oddB controlB
        simp [h32',h127',hR']))
       clear hR h10 h32 h127
       go_wp2_with fail
       refine ⟨⟨pos + wd,f',HIT.out,by omega,by rw [HGD.out,HF.out],HBW.out⟩,?_⟩
       rw [HMS.out]
       simp only [World.iterPos,HIT.out]
       omega
  ·have hnx:∀ ty,(Instr.next (.pointer (some ⟨w.heap.size,0,none⟩)) true ty).run Tryz.prog wr = _:=fun ty=>Lib.run_next_end_at wr w.heap.size s pos ty hit hp
   have HF:=hid (show O = none by rw [← HO.out,HGD.out,List.drop_eq_nil_of_le (by rw [size_list]; omega),oddAt_end])
   clear hit
   go_wp2_with fail
   go_ret2
   exact ⟨by rw [HF.out]; rfl,hbel⟩
set_option maxHeartbeats 1000000 in
set_option maxRecDepth 100000 in
theorem nwrong_any (S:Nat→Addr) (z:Int) (w:World) (hF:Base S w) :
  Calls Tryz.prog 71 #[.int .i64 z] w fun e w'=>∃ ev,e = .returned ev∧ErrAt S w' ev 3 (some z)∧Below w.heap.size w w':=by
 have hv:=hF.var 3 (by decide) (by decide)
 simp only [errG,errV] at hv
 clear hF
 go_enter Tryz.func71,Tryz.ntmps71
 go_wp2_with fail
 go_ret
 exact ⟨_,rfl,wrong_err S z w,below_one w _⟩
theorem str_eq (a b:ByteArray):(a.toList == b.toList) = decide (a.data.toList = b.data.toList):=by
 rw [Lib.toList_data,Lib.toList_data]
 rw [Bool.eq_iff_iff]
 simp
theorem str_empty (s:ByteArray):s.toList.isEmpty = decide (s.size = 0):=by
 rw [Lib.toList_data,Bool.eq_iff_iff,List.isEmpty_iff,decide_eq_true_iff]
 exact ⟨fun h=>by have:=congrArg List.length h; simpa using this,fun h=>List.eq_nil_of_length_eq_zero (by simpa using h)⟩
set_option maxHeartbeats 2000000 in
set_option maxRecDepth 100000 in
theorem nmay_any (s:ByteArray) (hs:s.size ≤ 4611686018427387904) (w:World) :
  Calls Tryz.prog 34 #[.string s] w fun e w'=>e = .returned (.bool (mayTxt s.data.toList))∧Below w.heap.size w w':=by
 have HO:=hid (odd_any s w)
 have hsz:=size_list s
 have HM:=hid (show mayTxt s.data.toList = (decide (s.data.toList ≠ []) && decide (s.data.toList.length ≤ 524288) && (oddAt s.data.toList.length 0 s.data.toList).isNone && decide (s.data.toList.getLast? = some 10)) from rfl)
 obtain ⟨M,hM⟩:∃ M,mayTxt s.data.toList = M:=⟨_,rfl⟩
 rw [hM] at HM ⊢
 obtain ⟨O,hO⟩:∃ O,oddAt s.data.toList.length 0 s.data.toList = O:=⟨_,rfl⟩
 rw [hO] at HM HO
 rw [hsz] at HM
 clear hM hO
 by_cases h0:s.size = 0
 ·obtain rfl:s = ⟨#[]⟩:=ByteArray.ext (Array.eq_empty_of_size_eq_zero h0)
  have HF:=hid (show M = false by rw [HM.out]; rfl)
  cases O with
  | none=>
   unfold oddV at HO
   go_enter Tryz.func34,Tryz.ntmps34
   go_wp2_with (go_at_call 70; refine HO.out.mono ?_; rintro e w1 ⟨rfl,hb⟩)
   go_ret
   exact ⟨by rw [HF.out]; rfl,hb⟩
  | some i=>
   unfold oddV at HO
   go_enter Tryz.func34,Tryz.ntmps34
   go_wp2_with (go_at_call 70; refine HO.out.mono ?_; rintro e w1 ⟨rfl,hb⟩)
   go_ret
   exact ⟨by rw [HF.out]; rfl,hb⟩
 ·obtain ⟨x,hx⟩:∃ x,s.data.toList[s.size - 1]? = some x:=⟨_,List.getElem?_eq_getElem (by rw [hsz]; omega)⟩
  have hix:=fun W=>run_idx (P:=Tryz.prog) Tryz.underlying9 s (s.size - 1) x hx ((s.size:Int) - 1) (by omega) .i64 W
  have hlast:s.data.toList.getLast? = some x:=by rw [List.getLast?_eq_getElem?,hsz]; exact hx
  have hne:decide (s.data.toList ≠ []) = true:=decide_eq_true (fun e=>by rw [e] at hsz; simp at hsz; omega)
  rw [hlast,hne] at HM
  have hnes:s.toList.isEmpty = false:=by rw [str_empty]; exact decide_eq_false h0
  by_cases h1:s.size ≤ 524288
  ·have h1':(s.size:Int) ≤ 524288:=by omega
   cases O with
   | some i=>
    have HF:=hid (show M = false by rw [HM.out]; simp)
    unfold oddV at HO
    clear h0 hlast hne hx hix
    go_enter Tryz.func34,Tryz.ntmps34
    go_wp2_with (go_at_call 70; refine HO.out.mono ?_; rintro e w1 ⟨rfl,hb⟩)
    go_ret
    exact ⟨by rw [HF.out]; rfl,hb⟩
   | none=>
    unfold oddV at HO
    by_cases hx10:x = 10
    ·have HF:=hid (show M = true by rw [HM.out,hx10]; simp [h1])
     subst hx10
     clear h0 hlast hne hx
     go_enter Tryz.func34,Tryz.ntmps34
     go_wp2_with (go_at_call 70; refine HO.out.mono ?_; rintro e w1 ⟨rfl,hb⟩)
     go_ret
     exact ⟨by rw [HF.out]; rfl,hb⟩
    ·have HF:=hid (show M = false by rw [HM.out]; simp [hx10])
     have hx10':¬ (x.toNat:Int) = 10:=fun h=>hx10 (UInt8.toNat_inj.1 (by exact_mod_cast h))
     clear h0 hlast hne hx hx10
     go_enter Tryz.func34,Tryz.ntmps34
     go_wp2_with (go_at_call 70; refine HO.out.mono ?_; rintro e w1 ⟨rfl,hb⟩)
     go_ret
     exact ⟨ret_bool (by rw [HF.out,beq_eq_false_iff_ne]; exact hx10'),hb⟩
  ·have h1':¬ (s.size:Int) ≤ 524288:=by omega
   have HF:=hid (show M = false by rw [HM.out]; simp [h1])
   clear h0 hlast hne hx hix
   cases O with
   | none=>
    unfold oddV at HO
    go_enter Tryz.func34,Tryz.ntmps34
    go_wp2_with (go_at_call 70; refine HO.out.mono ?_; rintro e w1 ⟨rfl,hb⟩)
    go_ret
    exact ⟨by rw [HF.out]; rfl,hb⟩
   | some i=>
    unfold oddV at HO
    go_enter Tryz.func34,Tryz.ntmps34
    go_wp2_with (go_at_call 70; refine HO.out.mono ?_; rintro e w1 ⟨rfl,hb⟩)
    go_ret
    exact ⟨by rw [HF.out]; rfl,hb⟩
theorem ErrAt.zero2 {S:Nat→Addr} {w:World} {v:Value} {c:Nat} {p:Option Int} (h:ErrAt S w v c p) (hc:c = 0):v = .nilIface:=by
 rcases h with ⟨h,_⟩ | ⟨h,_⟩ | ⟨h,_⟩
 ·exact h
 ·omega
 ·omega
theorem ErrAt.some2 {S:Nat→Addr} {w:World} {v:Value} {c:Nat} {p:Option Int} (h:ErrAt S w v c p) (hc:c ≠ 0):∃ T x,v = .iface T x∧(∀ W,(binOp .neq 34 (.iface T x) .nilIface).run Tryz.prog W = .ok (.bool true) W):=by
 rcases h with ⟨_,h,_⟩ | ⟨_,_,h,_⟩ | ⟨_,_,b,y,h,_⟩
 ·exact absurd h hc
 ·exact ⟨_,_,h,fun W=>run_err_neq (S c) W⟩
 ·exact ⟨_,_,h,fun W=>fault_ne_nil b W⟩
def readV (o:Option (List UInt8 × List UInt8)):Value:=match o with
 | none=>.tuple #[.agg #[.string ⟨#[]⟩,.string ⟨#[]⟩],.bool false]
 | some x=>.tuple #[.agg #[.string ⟨x.1.toArray⟩,.string ⟨x.2.toArray⟩],.bool true]
theorem infoLine:(Tryz.prog.info? 92).map (·.size) = some 2:=by kernel_rfl
theorem one2L (a b:ByteArray):(#[.string a,.string b]:Array Value).all (·.oneCell') = true:=by simp [Value.oneCell']
theorem cut_len (l s:List UInt8):(Lib.cut l s).1.length ≤ l.length∧(Lib.cut l s).2.1.length ≤ l.length:=by
 unfold Lib.cut
 split
 ·simp only [List.length_take,List.length_drop]
  omega
 ·simp
theorem trim_len (l s:List UInt8):(Lib.trimPrefix l s).length ≤ l.length:=by
 unfold Lib.trimPrefix
 split
 ·simp
 ·exact Nat.le_refl _
set_option maxHeartbeats 4000000 in
set_option maxRecDepth 100000 in
theorem nread_any (S:Nat→Addr) (row:List UInt8) (hs:row.length ≤ 1048576) (w:World) (hF:Base S w) :
  Calls Tryz.prog 74 #[.string ⟨row.toArray⟩] w fun e w'=>e = .returned (readV (readLn row))∧Below w.heap.size w w':=by
 have HF:=hid hF
 have HRD:=hid (show readLn row = if Lib.hasPrefix row dashL = true∧(Lib.cut (Lib.trimPrefix row dashL) [32]).2.2 = true∧nameOf (Lib.cut (Lib.trimPrefix row dashL) [32]).1 = true∧(fromB64 (Lib.cut (Lib.trimPrefix row dashL) [32]).2.1).2.1 = 0∧(fromB64 (Lib.cut (Lib.trimPrefix row dashL) [32]).2.1).1 ≠ []∧(fromB64 (Lib.cut (Lib.trimPrefix row dashL) [32]).2.1).1.length ≤ 4096
  then some ((Lib.cut (Lib.trimPrefix row dashL) [32]).1,(fromB64 (Lib.cut (Lib.trimPrefix row dashL) [32]).2.1).1) else none from rfl)
 obtain ⟨RV,hRV⟩:∃ R,readLn row = R:=⟨_,rfl⟩
 rw [hRV] at HRD ⊢
 have hCP:=fun W=>Tryz.strings_CutPrefix ⟨row.toArray⟩ ⟨#[226,128,148,32]⟩ W
 rw [show (⟨row.toArray⟩:ByteArray).data.toList = row from rfl,show (⟨#[226,128,148,32]⟩:ByteArray).data.toList = dashL from rfl] at hCP
 have htl:=trim_len row dashL
 obtain ⟨P,hP⟩:∃ P,Lib.hasPrefix row dashL = P:=⟨_,rfl⟩
 obtain ⟨T,hT⟩:∃ T,Lib.trimPrefix row dashL = T:=⟨_,rfl⟩
 rw [hP,hT] at hCP HRD
 rw [hT] at htl
 have HCP:=hid hCP
 have hCU:∀ W,Below w.heap.size w W→Calls Tryz.prog 73 #[.string ⟨T.toArray⟩,.string ⟨#[32]⟩] W fun e w'=>e = .returned (.tuple #[.string ⟨(Lib.cut T [32]).1.toArray⟩,.string ⟨(Lib.cut T [32]).2.1.toArray⟩,.bool (Lib.cut T [32]).2.2])∧∃ n,w' = W.drewN n:=fun W hW=>by
  obtain ⟨m,hm⟩:=(HF.out.below hW).mx
  exact Tryz.strings_Cut ⟨T.toArray⟩ ⟨#[32]⟩ m W (by show T.toArray.size < _; simp; omega) hm
 have hcl:=cut_len T [32]
 obtain ⟨nm,hnm⟩:∃ x,(Lib.cut T [32]).1 = x:=⟨_,rfl⟩
 obtain ⟨lt,hlt⟩:∃ x,(Lib.cut T [32]).2.1 = x:=⟨_,rfl⟩
 obtain ⟨al,hal⟩:∃ x,(Lib.cut T [32]).2.2 = x:=⟨_,rfl⟩
 rw [hnm,hlt] at hcl
 rw [hnm,hlt,hal] at hCU HRD
 have HCU:=hid hCU
 have HNA:=hid fun (W:World) (hW:Below w.heap.size w W)=>name_any S ⟨nm.toArray⟩ W (by show nm.toArray.size ≤ _; simp; omega) (HF.out.below hW)
 have hFB:=fun (W:World) (hW:Below w.heap.size w W)=>fromBase64_any S ⟨lt.toArray⟩ W (by show lt.toArray.size ≤ _; simp; omega) (HF.out.below hW)
 rw [show (⟨nm.toArray⟩:ByteArray).data.toList = nm from rfl] at HNA
 rw [show (⟨lt.toArray⟩:ByteArray).data.toList = lt from rfl] at hFB
 obtain ⟨N,hN⟩:∃ N,nameOf nm = N:=⟨_,rfl⟩
 obtain ⟨bs,hbs⟩:∃ x,(fromB64 lt).1 = x:=⟨_,rfl⟩
 obtain ⟨cc,hcc⟩:∃ x,(fromB64 lt).2.1 = x:=⟨_,rfl⟩
 obtain ⟨pp,hpp⟩:∃ x,(fromB64 lt).2.2 = x:=⟨_,rfl⟩
 rw [hN] at HNA
 rw [hbs,hcc,hpp] at hFB
 rw [hN,hbs,hcc] at HRD
 have HFB:=hid hFB
 clear hCP hCU hFB hF hRV hP hT hnm hlt hal hN hbs hcc hpp hcl htl hs
 go_enter Tryz.func74,Tryz.ntmps74
 go_upto_region 1 with fail
 have h2:=heap_one w (.cells #[.string ⟨#[]⟩,.string ⟨#[]⟩] 92 (0,0))
 have H2:=hid h2
 have HB2:=hid (below_one w (.cells #[.string ⟨#[]⟩,.string ⟨#[]⟩] 92 (0,0)))
 generalize w.alloc (.cells #[.string ⟨#[]⟩,.string ⟨#[]⟩] 92 (0,0)) = w1 at *
 clear h2
 go_upto_region 3 with (first | (go_at_call 112; refine (HCP.out _).mono ?_; rintro e w2 ⟨rfl,rfl⟩) | (go_at_call 73; refine (HCU.out _ HB2.out).mono ?_; rintro e w2 ⟨rfl,k,rfl⟩))
 have hdn:Below w2.heap.size w2 (w2.drewN k):=⟨rfl,rfl,rfl,Nat.le_refl _,fun _ _=>rfl⟩
 have HBW:=hid (HB2.out.trans (hdn.mono HB2.out.size))
 have HPW:=hid (below_heap hdn H2.out)
 generalize w2.drewN k = w3 at *
 clear hdn HB2 H2 HCP HCU
 cases P with
 | false=>
  have HN0:=hid (show RV = none by rw [HRD.out,if_neg (by simp)])
  go_upto_region 4 with fail
  go_wp2_with (refine wpList_store_row (by rfl) 92 (.tmp 2) (.tmp 32) (by rfl) w.heap.size #[.string ⟨#[]⟩,.string ⟨#[]⟩] (by rfl) (by rfl) 92 _ HPW.out infoLine (by simp) (one2L _ _) ?_)
  refine bodyPost_ret (results_row_tmp rfl _ _ w.heap.size 92 _ (0,0) _ _ rfl rfl (setRow_heap _ w.heap.size _ #[.string ⟨#[]⟩,.string ⟨#[]⟩] 92 (0,0) HPW.out) Tryz.underlying92 rfl infoLine) rfl ⟨by rw [HN0.out]; rfl,below_setRow HBW.out (Nat.le_refl _) _⟩
 | true=>
  cases al with
  | false=>
   have HN0:=hid (show RV = none by rw [HRD.out,if_neg (by simp)])
   go_upto_region 4 with fail
   go_wp2_with (refine wpList_store_row (by rfl) 92 (.tmp 2) (.tmp 32) (by rfl) w.heap.size #[.string ⟨#[]⟩,.string ⟨#[]⟩] (by rfl) (by rfl) 92 _ HPW.out infoLine (by simp) (one2L _ _) ?_)
   refine bodyPost_ret (results_row_tmp rfl _ _ w.heap.size 92 _ (0,0) _ _ rfl rfl (setRow_heap _ w.heap.size _ #[.string ⟨#[]⟩,.string ⟨#[]⟩] 92 (0,0) HPW.out) Tryz.underlying92 rfl infoLine) rfl ⟨by rw [HN0.out]; rfl,below_setRow HBW.out (Nat.le_refl _) _⟩
  | true=>
   cases N with
   | false=>
    have HN0:=hid (show RV = none by rw [HRD.out,if_neg (by simp)])
    go_upto_region 4 with (go_at_call 17; refine (HNA.out _ HBW.out).mono ?_; rintro e w4 ⟨rfl,hb4⟩; have HPW:=hid (below_heap hb4 HPW.out); have HBW:=hid (HBW.out.trans (hb4.mono HBW.out.size)); clear hb4)
    go_wp2_with (refine wpList_store_row (by rfl) 92 (.tmp 2) (.tmp 32) (by rfl) w.heap.size #[.string ⟨#[]⟩,.string ⟨#[]⟩] (by rfl) (by rfl) 92 _ HPW.out infoLine (by simp) (one2L _ _) ?_)
    refine bodyPost_ret (results_row_tmp rfl _ _ w.heap.size 92 _ (0,0) _ _ rfl rfl (setRow_heap _ w.heap.size _ #[.string ⟨#[]⟩,.string ⟨#[]⟩] 92 (0,0) HPW.out) Tryz.underlying92 rfl infoLine) rfl ⟨by rw [HN0.out]; rfl,below_setRow HBW.out (Nat.le_refl _) _⟩
   | true=>
    go_upto_region 5 with (go_at_call 17; refine (HNA.out _ HBW.out).mono ?_; rintro e w4 ⟨rfl,hb4⟩; have HPW:=hid (below_heap hb4 HPW.out); have HBW:=hid (HBW.out.trans (hb4.mono HBW.out.size)); clear hb4)
    go_upto_region 6 with (go_at_call 113; refine (HFB.out _ HBW.out).mono ?_; rintro e w5 ⟨ev,rfl,hev,hb5⟩; have HPW:=hid (below_heap hb5 HPW.out); have HBW:=hid (HBW.out.trans (hb5.mono HBW.out.size)); have HEV:=hid hev; clear hb5 hev)
    by_cases hc:cc = 0
    ·obtain rfl:ev = .nilIface:=ErrAt.zero2 HEV.out hc
     by_cases hb0:bs = []
     ·have HN0:=hid (show RV = none by rw [HRD.out,if_neg (by simp [hb0])])
      subst hb0
      clear hc
      go_upto_region 7 with fail
      go_wp2_with (refine wpList_store_row (by rfl) 92 (.tmp 2) (.tmp 49) (by rfl) w.heap.size #[.string ⟨#[]⟩,.string ⟨#[]⟩] (by rfl) (by rfl) 92 _ HPW.out infoLine (by simp) (one2L _ _) ?_)
      refine bodyPost_ret (results_row_tmp rfl _ _ w.heap.size 92 _ (0,0) _ _ rfl rfl (setRow_heap _ w.heap.size _ #[.string ⟨#[]⟩,.string ⟨#[]⟩] 92 (0,0) HPW.out) Tryz.underlying92 rfl infoLine) rfl ⟨by rw [HN0.out]; rfl,below_setRow HBW.out (Nat.le_refl _) _⟩
     ·have hbe:bs.isEmpty = false:=by rw [Bool.eq_false_iff,ne_eq,List.isEmpty_iff]; exact hb0
      have hbz:(⟨bs.toArray⟩:ByteArray).size = bs.length:=by show bs.toArray.size = _; simp
      by_cases hl:bs.length ≤ 4096
      ·have hl':¬ (4096:Int) < (bs.length:Int):=by omega
       have HN0:=hid (show RV = some (nm,bs) by rw [HRD.out,if_pos (by simp [hc,hb0,hl])])
       clear hc hb0 hl
       go_upto_region 8 with fail
       go_wp2_with (refine wpList_store_row (by rfl) 92 (.tmp 2) (.tmp 52) (by rfl) w.heap.size #[.string ⟨nm.toArray⟩,.string ⟨bs.toArray⟩] (by rfl) (by rfl) 92 _ HPW.out infoLine (by simp) (one2L _ _) ?_)
       refine bodyPost_ret (results_row_tmp rfl _ _ w.heap.size 92 _ (0,0) _ _ rfl rfl (setRow_heap _ w.heap.size _ #[.string ⟨nm.toArray⟩,.string ⟨bs.toArray⟩] 92 (0,0) HPW.out) Tryz.underlying92 rfl infoLine) rfl ⟨by rw [HN0.out]; rfl,below_setRow HBW.out (Nat.le_refl _) _⟩
      ·have hl':(4096:Int) < (bs.length:Int):=by omega
       have HN0:=hid (show RV = none by rw [HRD.out,if_neg (fun h=>hl h.2.2.2.2.2)])
       clear hc hb0 hl
       go_upto_region 7 with fail
       go_wp2_with (refine wpList_store_row (by rfl) 92 (.tmp 2) (.tmp 49) (by rfl) w.heap.size #[.string ⟨#[]⟩,.string ⟨#[]⟩] (by rfl) (by rfl) 92 _ HPW.out infoLine (by simp) (one2L _ _) ?_)
       refine bodyPost_ret (results_row_tmp rfl _ _ w.heap.size 92 _ (0,0) _ _ rfl rfl (setRow_heap _ w.heap.size _ #[.string ⟨#[]⟩,.string ⟨#[]⟩] 92 (0,0) HPW.out) Tryz.underlying92 rfl infoLine) rfl ⟨by rw [HN0.out]; rfl,below_setRow HBW.out (Nat.le_refl _) _⟩
    ·obtain ⟨TT,xx,rfl,hne⟩:=ErrAt.some2 HEV.out hc
     have HN0:=hid (show RV = none by rw [HRD.out,if_neg (fun h=>hc h.2.2.2.1)])
     clear hc
     go_upto_region 7 with fail
     go_wp2_with (refine wpList_store_row (by rfl) 92 (.tmp 2) (.tmp 49) (by rfl) w.heap.size #[.string ⟨#[]⟩,.string ⟨#[]⟩] (by rfl) (by rfl) 92 _ HPW.out infoLine (by simp) (one2L _ _) ?_)
     refine bodyPost_ret (results_row_tmp rfl _ _ w.heap.size 92 _ (0,0) _ _ rfl rfl (setRow_heap _ w.heap.size _ #[.string ⟨#[]⟩,.string ⟨#[]⟩] 92 (0,0) HPW.out) Tryz.underlying92 rfl infoLine) rfl ⟨by rw [HN0.out]; rfl,below_setRow HBW.out (Nat.le_refl _) _⟩
end Go.Proofs.YticlgcfodlcpcaaGreatDoor
