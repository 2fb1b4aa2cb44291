/- text.FromBase64 by its contract: a machine that reads letter by letter. -/
import Derived.Test.YticlgcfodlcpcaaGreatDoorConv
import Derived.Test.YticlgcfodlcpcaaGreatDoorDec
namespace Go.Proofs.YticlgcfodlcpcaaGreatDoor
open Go.Lib (hid byteCells)
open Go.RowKit
def byteN (x:Nat):UInt8:=UInt8.ofNat x
def stepB (i:Nat) (c:UInt8) (bits pads:Nat) (done:Bool) (out:List UInt8):Option (Nat × Nat × Bool × List UInt8):=
 if done = true ∨ (idx64 c < 0∧c ≠ 61) ∨ (0 ≤ idx64 c∧0 < pads) ∨ (idx64 c < 0∧i % 4 < 2) then none
 else if idx64 c < 0 then
  if pads = 0 then
   if i % 4 = 3 then (if bits % 4 ≠ 0 then none else some (bits,1,true,out ++ [byteN (bits / 1024),byteN (bits / 4)]))
   else (if bits % 16 ≠ 0 then none else some (bits,1,false,out ++ [byteN (bits / 16)]))
  else some (bits,pads + 1,decide (i % 4 = 3),out)
 else some ((if i % 4 = 0 then 0 else bits) * 64 + (idx64 c).toNat,pads,done,
  if i % 4 = 3 then out ++ [byteN ((bits * 64 + (idx64 c).toNat) / 65536),byteN ((bits * 64 + (idx64 c).toNat) / 256),byteN (bits * 64 + (idx64 c).toNat)] else out)
def runB:Nat→Nat→Nat→Bool→List UInt8→List UInt8→Except Nat (List UInt8)
 | _,_,_,_,out,[]=>.ok out
 | i,bits,pads,done,out,c :: r=>match stepB i c bits pads done out with
  | none=>.error i
  | some (b,p,d,o)=>runB (i + 1) b p d o r
def endB (n:Nat):Except Nat (List UInt8)→Except Nat (List UInt8)
 | .error i=>.error i
 | .ok out=>if n % 4 ≠ 0 then .error n else .ok out
def fromB64 (l:List UInt8):List UInt8 × Nat × Option Int:=
 if 1048576 < l.length then ([],4,none) else toldAt [] (endB l.length (runB 0 0 0 false [] l))
theorem and_i64 (n k:Nat) (h:n < 9223372036854775808) (hk:2 ^ k - 1 < 9223372036854775808):bits .and .i64 (n:Int) ((2 ^ k - 1:Nat):Int) = ((n % 2 ^ k:Nat):Int):=by
 have hx:n &&& (2 ^ k - 1) < 2 ^ 63:=Nat.and_lt_two_pow _ (by omega)
 have e1:∀ a:Nat,a < 9223372036854775808→(BitVec.ofInt 64 (a:Int)).toNat = a:=fun a ha=>by
  rw [BitVec.ofInt_natCast,BitVec.toNat_ofNat]; exact Nat.mod_eq_of_lt (by omega)
 show IntKind.i64.wrap ((BitVec.ofInt 64 (n:Int) &&& BitVec.ofInt 64 ((2 ^ k - 1:Nat):Int)).toNat:Int) = _
 rw [BitVec.toNat_and,e1 n h,e1 _ hk,IntKind.wrap_i64,← Nat.and_two_pow_sub_one_eq_mod]
 omega
theorem or_i64 (x b k:Nat) (h:b < 2 ^ k) (h2:x * 2 ^ k + b < 9223372036854775808):bits .or .i64 ((x * 2 ^ k:Nat):Int) (b:Int) = ((x * 2 ^ k + b:Nat):Int):=by
 have e1:∀ a:Nat,a < 9223372036854775808→(BitVec.ofInt 64 (a:Int)).toNat = a:=fun a ha=>by
  rw [BitVec.ofInt_natCast,BitVec.toNat_ofNat]; exact Nat.mod_eq_of_lt (by omega)
 show IntKind.i64.wrap ((BitVec.ofInt 64 ((x * 2 ^ k:Nat):Int) ||| BitVec.ofInt 64 (b:Int)).toNat:Int) = _
 rw [BitVec.toNat_or,e1 _ (by omega),e1 _ (by omega),IntKind.wrap_i64,or_low x b k h]
 omega
theorem and3_i64 (n:Nat) (h:n < 9223372036854775808):bits .and .i64 (n:Int) 3 = (n:Int) % 4:=by
 have:=and_i64 n 2 h (by omega)
 simpa using this
theorem and15_i64 (n:Nat) (h:n < 9223372036854775808):bits .and .i64 (n:Int) 15 = (n:Int) % 16:=by
 have:=and_i64 n 4 h (by omega)
 simpa using this
theorem or6_i64 (x b:Nat) (h:b < 64) (h2:x < 16777216):bits .or .i64 ((x:Int) * 64) (b:Int) = (x:Int) * 64 + (b:Int):=by
 have:=or_i64 x b 6 h (by omega)
 simpa using this
def badB (k:Nat) (c:UInt8) (p:Nat) (d:Bool):Prop:=d = true ∨ (idx64 c < 0∧c ≠ 61) ∨ (0 ≤ idx64 c∧0 < p) ∨ (idx64 c < 0∧k % 4 < 2)
theorem stepB_none {k:Nat} {c:UInt8} {b p:Nat} {d:Bool} {out:List UInt8} (h:badB k c p d):stepB k c b p d out = none:=by unfold badB at h; unfold stepB; rw [if_pos h]
theorem stepB_pad3 {k:Nat} {c:UInt8} {b:Nat} {d:Bool} {out:List UInt8} (h:¬ badB k c 0 d) (hn:idx64 c < 0) (hk:k % 4 = 3) :
  stepB k c b 0 d out = if b % 4 ≠ 0 then none else some (b,1,true,out ++ [byteN (b / 1024),byteN (b / 4)]):=by
 unfold badB at h; unfold stepB; rw [if_neg h,if_pos hn,if_pos rfl,if_pos hk]
theorem stepB_pad2 {k:Nat} {c:UInt8} {b:Nat} {d:Bool} {out:List UInt8} (h:¬ badB k c 0 d) (hn:idx64 c < 0) (hk:k % 4 ≠ 3) :
  stepB k c b 0 d out = if b % 16 ≠ 0 then none else some (b,1,false,out ++ [byteN (b / 16)]):=by
 unfold badB at h; unfold stepB; rw [if_neg h,if_pos hn,if_pos rfl,if_neg hk]
theorem stepB_pads {k:Nat} {c:UInt8} {b p:Nat} {d:Bool} {out:List UInt8} (h:¬ badB k c p d) (hn:idx64 c < 0) (hp:p ≠ 0) :
  stepB k c b p d out = some (b,p + 1,decide (k % 4 = 3),out):=by
 unfold badB at h; unfold stepB; rw [if_neg h,if_pos hn,if_neg hp]
theorem stepB_let {k:Nat} {c:UInt8} {b p N:Nat} {d:Bool} {out:List UInt8} (h:¬ badB k c p d) (hn:idx64 c = N) :
  stepB k c b p d out = some ((if k % 4 = 0 then 0 else b) * 64 + N,p,d,if k % 4 = 3 then out ++ [byteN ((b * 64 + N) / 65536),byteN ((b * 64 + N) / 256),byteN (b * 64 + N)] else out):=by
 unfold badB at h; unfold stepB; rw [if_neg h,if_neg (by omega),hn,Int.toNat_natCast]
theorem byteN_val (x:Nat):((byteN x).toNat:Int) = (x:Int) % 256:=by
 unfold byteN
 rw [UInt8.toNat_ofNat']
 omega
theorem cells_app (l m:List UInt8):byteCells l ++ byteCells m = byteCells (l ++ m):=by simp [byteCells]
theorem heap_news (w:World) (t:TypeId) (l:List UInt8) (j:Nat):(w.alloc (.cells (byteCells l).toArray t)).cell? ((⟨w.heap.size,0,none⟩:Addr).add j) = (byteCells l)[j]?:=by
 have:((⟨w.heap.size,0,none⟩:Addr).add j) = ⟨w.heap.size,j,none⟩:=by
  unfold Addr.add
  by_cases h:j = 0
  ·subst h; rfl
  ·simp [h]
 rw [this,cell_of_row _ _ j _ _ _ (heap_alloc_new w _)]
 simp
theorem byteCells_one (l:List UInt8) (u:Value) (h:u ∈ byteCells l):u.oneCell' = true:=by
 simp only [byteCells,List.mem_map] at h
 obtain ⟨b,_,rfl⟩:=h
 rfl
def F64Rel (s:ByteArray) (w:World) (vo vb vp vd vi:Value) (wr:World):Prop:=
 ∃ (k b p:Nat) (d:Bool) (out:List UInt8),k ≤ s.size∧vi = .int .i64 k∧vb = .int .i64 b∧vp = .int .i64 p∧vd = .bool d∧wr.ownsRow w.heap.size 5 1 vo out.length (byteCells out) ∧
  b < 16777216∧(k % 4 = 1→b < 64)∧(k % 4 = 2→b < 4096)∧(k % 4 = 3→b < 262144)∧p ≤ k∧out.length ≤ 3 * k∧Below w.heap.size w wr ∧
  runB 0 0 0 false [] s.data.toList = runB k b p d out (s.data.toList.drop k)
set_option maxHeartbeats 4000000 in
set_option maxRecDepth 100000 in
theorem fromBase64_any (S:Nat→Addr) (s:ByteArray) (w:World) (hs:s.size ≤ 9223372036854775807) (hB:Base S w) :
  Calls Tryz.prog 113 #[.string s] w (Told S w (.string ⟨(fromB64 s.data.toList).1.toArray⟩) (fromB64 s.data.toList).2.1 (fromB64 s.data.toList).2.2):=by
 have hsz:=size_list s
 have HB:=hid hB
 by_cases hbig:1048576 < s.size
 ·have g4:=hB.var 4 (by omega) (by omega)
  simp only [errG,errV] at g4
  have hr:fromB64 s.data.toList = ([],4,none):=by unfold fromB64; rw [if_pos (by omega)]
  rw [hr]
  clear hB hr hsz
  go_enter Tryz.func113,Tryz.ntmps113
  go_wp2_with fail
  go_quiet (fail)
  go_wp2_with fail
  go_ret2
  exact limit_told S w (below_drewN (Below.refl _ _) _) _
 ·have hr:fromB64 s.data.toList = toldAt [] (endB s.size (runB 0 0 0 false [] s.data.toList)):=by unfold fromB64; rw [if_neg (by omega),hsz]
  rw [hr]
  have HS:=hid hsz
  obtain ⟨i0,hi,hz0,hz1,hz2⟩:=info_parts Tryz.infoByte
  clear hr hsz hB
  go_enter Tryz.func113,Tryz.ntmps113
  go_wp2_with (at_make; refine wpList_make_own _ rfl _ _ 117 rfl w.heap.size 5 i0 (.int .u8 0) 1 Tryz.underlying117 hi hz0 hz1 _ _ _ (s.size / 4 * 3) rfl rfl (by omega) (by rw [hz2]; omega) (by unfold maxLen; omega) (Nat.le_refl _) ?_; intro w0 hown0 hgrow0)
  have hbel0:Below w.heap.size w w0:=(Below.refl _ _).grown hgrow0 (Nat.le_refl _) (by simp)
  clear hgrow0
  go_loopw [4,5,6,7,8] (fun vo vb vp vd vi wr=>F64Rel s w vo vb vp vd vi wr) (fun _ _ _ _ vi _=>s.size - (intOf vi).toNat)
  case atStart=>exact ⟨0,0,0,false,[],by omega,rfl,rfl,rfl,rfl,by simpa [byteCells] using hown0,by omega,by omega,by omega,by omega,by omega,by simp,hbel0,rfl⟩
  case round=>
   obtain ⟨k,b,p,d,out,hk,rfl,rfl,rfl,rfl,hown,hb,hb1,hb2,hb3,hp,hol,hbel,hrun⟩:=hrel
   have HR:=hid hrun
   clear hrun hown0 hbel0
   by_cases hlt:k < s.size
   ·obtain ⟨c,hc⟩:∃ c,s.data.toList[k]? = some c:=⟨_,List.getElem?_eq_getElem (by rw [size_list]; exact hlt)⟩
    have hd:s.data.toList.drop k = c :: s.data.toList.drop (k + 1):=by
     rw [List.drop_eq_getElem_cons (by rw [size_list]; exact hlt)]
     congr 1
     rw [List.getElem?_eq_getElem (by rw [size_list]; exact hlt)] at hc
     exact Option.some.inj hc
    have hrun2:runB 0 0 0 false [] s.data.toList = match stepB k c b p d out with | none=>.error k | some (b,p,d,o)=>runB (k + 1) b p d o (s.data.toList.drop (k + 1)):=by
     rw [HR.out,hd]; rfl
    have HR2:=hid hrun2
    have xk:=fun w=>run_idx (P:=Tryz.prog) Tryz.underlying9 s k c hc (k:Int) rfl .i64 w
    have hc256:=UInt8.toNat_lt c
    have ek:=and3_i64 k (by omega)
    have hib:=idx64_bd c
    clear hd hc hrun2
    by_cases hbad:badB k c p d
    ·have hfin:toldAt [] (endB s.size (runB 0 0 0 false [] s.data.toList)) = ([],3,some (k:Int)):=by
      rw [HR2.out,stepB_none hbad]; rfl
     have HF:=hid hfin
     clear hfin
     have hwr:∀ W:World,Below w.heap.size w W→Calls Tryz.prog 141 #[.int .i64 (k:Int)] W fun e w'=>e = .returned (.iface 146 (.pointer (some ⟨W.heap.size,0,none⟩)))∧W.alloc (.cells #[errV S 3,.int .i64 (k:Int)] 150) = w':=
      fun W h=>wrong_any S k W (HB.out.below h)
     have HW:=hid (hwr wr hbel)
     clear hwr
     cases d with
     | true=>
      clear hbad
      go_wp2_with (first | (go_at_call 140; refine (idx64_any c _).mono ?_; rintro e w' ⟨rfl,rfl⟩) | (go_at_call 141; refine HW.out.mono ?_; rintro e w' ⟨rfl,rfl⟩))
      go_ret2
      rw [HF.out]
      exact ⟨_,rfl,wrong_err S k wr,hbel.trans ((wrong_below S k wr).mono hbel.size)⟩
     | false=>
      by_cases hn:idx64 c < 0
      ·have hn1:idx64 c = -1:=by omega
       have hI:∀ W,Calls Tryz.prog 140 #[.string ⟨#[65,66,67,68,69,70,71,72,73,74,75,76,77,78,79,80,81,82,83,84,85,86,87,88,89,90,97,98,99,100,101,102,103,104,105,106,107,108,109,110,111,112,113,114,115,116,117,118,119,120,121,122,48,49,50,51,52,53,54,55,56,57,43,47]⟩,.int .u8 (c.toNat:Int)] W fun e w'=>e = .returned (.int .i64 (-1))∧W = w':=fun W=>by have:=idx64_any c W; rwa [hn1] at this
       have HI:=hid hI
       clear hI
       by_cases h61:c = 61
       ·have hk2:k % 4 < 2:=by
         rcases hbad with h | h | h | h
         ·cases h
         ·exact absurd h61 h.2
         ·omega
         ·exact h.2
        have hk2':(k:Int) % 4 < 2:=by omega
        have hcn:((c.toNat:Int) != 61) = false:=by rw [h61]; rfl
        clear hbad hn hn1 h61 hib
        go_wp2_with (first | (go_at_call 140; refine (HI.out _).mono ?_; rintro e w' ⟨rfl,rfl⟩) | (go_at_call 141; refine HW.out.mono ?_; rintro e w' ⟨rfl,rfl⟩))
        go_ret2
        rw [HF.out]
        exact ⟨_,rfl,wrong_err S k wr,hbel.trans ((wrong_below S k wr).mono hbel.size)⟩
       ·have hcn:((c.toNat:Int) != 61) = true:=by
         rw [bne_iff_ne]; intro e; exact h61 (UInt8.toNat_inj.1 (by simpa using (by omega:c.toNat = 61)))
        clear hbad hn hn1 h61 hib
        go_wp2_with (first | (go_at_call 140; refine (HI.out _).mono ?_; rintro e w' ⟨rfl,rfl⟩) | (go_at_call 141; refine HW.out.mono ?_; rintro e w' ⟨rfl,rfl⟩))
        go_ret2
        rw [HF.out]
        exact ⟨_,rfl,wrong_err S k wr,hbel.trans ((wrong_below S k wr).mono hbel.size)⟩
      ·obtain ⟨N,hN⟩:∃ N:Nat,idx64 c = N:=⟨(idx64 c).toNat,by omega⟩
       have hI:∀ W,Calls Tryz.prog 140 #[.string ⟨#[65,66,67,68,69,70,71,72,73,74,75,76,77,78,79,80,81,82,83,84,85,86,87,88,89,90,97,98,99,100,101,102,103,104,105,106,107,108,109,110,111,112,113,114,115,116,117,118,119,120,121,122,48,49,50,51,52,53,54,55,56,57,43,47]⟩,.int .u8 (c.toNat:Int)] W fun e w'=>e = .returned (.int .i64 (N:Int))∧W = w':=fun W=>by have:=idx64_any c W; rwa [hN] at this
       have HI:=hid hI
       have hp0:0 < p:=by
        rcases hbad with h | h | h | h
        ·cases h
        ·omega
        ·exact h.2
        ·omega
       clear hI hbad hn hN hib
       go_wp2_with (first | (go_at_call 140; refine (HI.out _).mono ?_; rintro e w' ⟨rfl,rfl⟩) | (go_at_call 141; refine HW.out.mono ?_; rintro e w' ⟨rfl,rfl⟩))
       go_ret2
       rw [HF.out]
       exact ⟨_,rfl,wrong_err S k wr,hbel.trans ((wrong_below S k wr).mono hbel.size)⟩
    ·have hd0:d = false:=by
      cases d with
      | false=>rfl
      | true=>exact absurd (.inl rfl) hbad
     subst hd0
     by_cases hn:idx64 c < 0
     ·have hn1:idx64 c = -1:=by omega
      have hI:∀ W,Calls Tryz.prog 140 #[.string ⟨#[65,66,67,68,69,70,71,72,73,74,75,76,77,78,79,80,81,82,83,84,85,86,87,88,89,90,97,98,99,100,101,102,103,104,105,106,107,108,109,110,111,112,113,114,115,116,117,118,119,120,121,122,48,49,50,51,52,53,54,55,56,57,43,47]⟩,.int .u8 (c.toNat:Int)] W fun e w'=>e = .returned (.int .i64 (-1))∧W = w':=fun W=>by have:=idx64_any c W; rwa [hn1] at this
      have HI:=hid hI
      have h61:c = 61:=Classical.byContradiction fun h=>hbad (.inr (.inl ⟨hn,h⟩))
      have hk2:¬ k % 4 < 2:=fun h=>hbad (.inr (.inr (.inr ⟨hn,h⟩)))
      have hcn:((c.toNat:Int) != 61) = false:=by rw [h61]; rfl
      clear hI hn1 hib h61
      by_cases hp0:p = 0
      ·subst hp0
       by_cases hk3:k % 4 = 3
       ·have hk3':(k:Int) % 4 = 3:=by omega
        have er:=and3_i64 b (by omega)
        by_cases hbz:b % 4 = 0
        ·have hst:=stepB_pad3 (b:=b) (out:=out) hbad hn hk3
         rw [if_neg (by omega)] at hst
         rw [hst] at HR2
         have erz:(b:Int) % 4 = 0:=by omega
         have h1:IntKind.u8.wrap ((b:Int) / 1024) = ((byteN (b / 1024)).toNat:Int):=by rw [byteN_val,IntKind.wrap_u8]; omega
         have h2:IntKind.u8.wrap ((b:Int) / 4) = ((byteN (b / 4)).toNat:Int):=by rw [byteN_val,IntKind.wrap_u8]; omega
         clear hbad hst hb1 hb2 hb3 hn hk2 hk3 hbz
         go_wp2_with (first | (go_at_call 140; refine (HI.out _).mono ?_; rintro e w' ⟨rfl,rfl⟩) | (at_builtin; refine wpList_append_own _ rfl _ _ 117 rfl w.heap.size 5 i0 (.int .u8 0) 1 1 Tryz.underlying117 hi hz0 hz1 hz2 rfl (by decide) _ _ _ rfl (hown.alloc _) ⟨wr.heap.size,0,none⟩ 2 2 (byteCells [byteN (b / 1024),byteN (b / 4)]) rfl rfl ?c1 ?c2 ?c3 ?c4 ?c5 ?_))
         case c1=>
          intro j u hj
          first | exact (heap_news wr _ _ j).trans hj | exact hj
         case c2=>intro u hu; exact byteCells_one _ u hu
         case c3=>unfold maxLen; omega
         case c4=>omega
         case c5=>have:=hbel.size; simp; omega
         intro v' w1 hown' hgrow _
         rw [cells_app] at hown'
         have hbel1:Below w.heap.size w w1:=(hbel.alloc hbel.size _).grown hgrow (by have:=hbel.size; simp; omega) (fun j hj=>(hown.lt j hj).1)
         have hown1:w1.ownsRow w.heap.size 5 1 v' (out ++ [byteN (b / 1024),byteN (b / 4)]).length (byteCells (out ++ [byteN (b / 1024),byteN (b / 4)])):=by rw [List.length_append]; exact hown'
         clear hown hgrow hbel hown'
         go_wp2_with fail
         go_roundw
         case rel=>exact ⟨k + 1,b,1,true,_,by omega,by go_num,rfl,rfl,rfl,hown1,by omega,by omega,by omega,by omega,by omega,by simp; omega,hbel1,HR2.out⟩
         case measure=>simp [intOf]; omega
        ·have hst:=stepB_pad3 (b:=b) (out:=out) hbad hn hk3
         rw [if_pos (by omega)] at hst
         have HST:=hid hst
         have erz:((b:Int) % 4 != 0) = true:=by rw [bne_iff_ne]; omega
         clear hbad hst hb1 hb2 hb3 hn hk2 hk3 hbz
         have hfin:toldAt [] (endB s.size (runB 0 0 0 false [] s.data.toList)) = ([],3,some (k:Int)):=by
          rw [HR2.out,HST.out]; rfl
         have HF:=hid hfin
         have HW:=hid (wrong_any S (k:Int) wr (HB.out.below hbel))
         clear hfin
         go_wp2_with (first | (go_at_call 140; refine (HI.out _).mono ?_; rintro e w' ⟨rfl,rfl⟩) | (go_at_call 141; refine HW.out.mono ?_; rintro e w' ⟨rfl,rfl⟩))
         go_ret2
         rw [HF.out]
         exact ⟨_,rfl,wrong_err S k wr,hbel.trans ((wrong_below S k wr).mono hbel.size)⟩
       ·have hk3':(k:Int) % 4 = 2:=by omega
        have er:=and15_i64 b (by omega)
        by_cases hbz:b % 16 = 0
        ·have hst:=stepB_pad2 (b:=b) (out:=out) hbad hn hk3
         rw [if_neg (by omega)] at hst
         rw [hst] at HR2
         have erz:(b:Int) % 16 = 0:=by omega
         have HB2:=hid (hb2 (by omega))
         have h1:IntKind.u8.wrap ((b:Int) / 16) = ((byteN (b / 16)).toNat:Int):=by rw [byteN_val,IntKind.wrap_u8]; omega
         clear hbad hst hb1 hb2 hb3 hn hk2 hk3 hbz
         go_wp2_with (first | (go_at_call 140; refine (HI.out _).mono ?_; rintro e w' ⟨rfl,rfl⟩) | (at_builtin; refine wpList_append_own _ rfl _ _ 117 rfl w.heap.size 5 i0 (.int .u8 0) 1 1 Tryz.underlying117 hi hz0 hz1 hz2 rfl (by decide) _ _ _ rfl (hown.alloc _) ⟨wr.heap.size,0,none⟩ 1 1 (byteCells [byteN (b / 16)]) rfl rfl ?c1x1 ?c2x1 ?c3x1 ?c4x1 ?c5x1 ?_))
         case c1x1=>
          intro j u hj
          first | exact (heap_news wr _ _ j).trans hj | exact hj
         case c2x1=>intro u hu; exact byteCells_one _ u hu
         case c3x1=>unfold maxLen; omega
         case c4x1=>omega
         case c5x1=>have:=hbel.size; simp; omega
         intro v' w1 hown' hgrow _
         rw [cells_app] at hown'
         have hbel1:Below w.heap.size w w1:=(hbel.alloc hbel.size _).grown hgrow (by have:=hbel.size; simp; omega) (fun j hj=>(hown.lt j hj).1)
         have hown1:w1.ownsRow w.heap.size 5 1 v' (out ++ [byteN (b / 16)]).length (byteCells (out ++ [byteN (b / 16)])):=by rw [List.length_append]; exact hown'
         clear hown hgrow hbel hown'
         go_wp2_with fail
         go_roundw
         case rel=>exact ⟨k + 1,b,1,false,_,by omega,by go_num,rfl,rfl,rfl,hown1,by omega,by omega,by omega,fun _=>by have:=HB2.out; omega,by omega,by simp; omega,hbel1,HR2.out⟩
         case measure=>simp [intOf]; omega
        ·have hst:=stepB_pad2 (b:=b) (out:=out) hbad hn hk3
         rw [if_pos (by omega)] at hst
         have HST:=hid hst
         have erz:((b:Int) % 16 != 0) = true:=by rw [bne_iff_ne]; omega
         clear hbad hst hb1 hb2 hb3 hn hk2 hk3 hbz
         have hfin:toldAt [] (endB s.size (runB 0 0 0 false [] s.data.toList)) = ([],3,some (k:Int)):=by
          rw [HR2.out,HST.out]; rfl
         have HF:=hid hfin
         have HW:=hid (wrong_any S (k:Int) wr (HB.out.below hbel))
         clear hfin
         go_wp2_with (first | (go_at_call 140; refine (HI.out _).mono ?_; rintro e w' ⟨rfl,rfl⟩) | (go_at_call 141; refine HW.out.mono ?_; rintro e w' ⟨rfl,rfl⟩))
         go_ret2
         rw [HF.out]
         exact ⟨_,rfl,wrong_err S k wr,hbel.trans ((wrong_below S k wr).mono hbel.size)⟩
      ·have hst:=stepB_pads (b:=b) (out:=out) hbad hn hp0
       rw [hst] at HR2
       have hp0':((p:Int) == 0) = false:=by rw [beq_eq_false_iff_ne]; omega
       have HB23:=hid (show k % 4 = 2→b < 262144 from fun h=>by have:=hb2 h; omega)
       by_cases hk3:k % 4 = 3
       ·have hk3':(k:Int) % 4 = 3:=by omega
        have hdk:decide (k % 4 = 3) = true:=by simp [hk3]
        rw [hdk] at HR2
        clear hbad hst hb1 hb2 hb3 hn hk2 hk3 hdk
        go_wp2_with (first | (go_at_call 140; refine (HI.out _).mono ?_; rintro e w' ⟨rfl,rfl⟩))
        go_roundw
        case rel=>exact ⟨k + 1,b,p + 1,true,out,by omega,by go_num,rfl,by go_num,rfl,hown,by omega,by omega,by omega,by omega,by omega,by omega,hbel,HR2.out⟩
        case measure=>simp [intOf]; omega
       ·have hk3':(k:Int) % 4 = 2:=by omega
        have hdk:decide (k % 4 = 3) = false:=by simp [hk3]
        rw [hdk] at HR2
        clear hbad hst hb1 hb2 hb3 hn hk2 hk3 hdk
        go_wp2_with (first | (go_at_call 140; refine (HI.out _).mono ?_; rintro e w' ⟨rfl,rfl⟩))
        go_roundw
        case rel=>exact ⟨k + 1,b,p + 1,false,out,by omega,by go_num,rfl,by go_num,rfl,hown,by omega,by omega,by omega,fun _=>HB23.out (by omega),by omega,by omega,hbel,HR2.out⟩
        case measure=>simp [intOf]; omega
     ·obtain ⟨N,hN⟩:∃ N:Nat,idx64 c = N:=⟨(idx64 c).toNat,by omega⟩
      have hI:∀ W,Calls Tryz.prog 140 #[.string ⟨#[65,66,67,68,69,70,71,72,73,74,75,76,77,78,79,80,81,82,83,84,85,86,87,88,89,90,97,98,99,100,101,102,103,104,105,106,107,108,109,110,111,112,113,114,115,116,117,118,119,120,121,122,48,49,50,51,52,53,54,55,56,57,43,47]⟩,.int .u8 (c.toNat:Int)] W fun e w'=>e = .returned (.int .i64 (N:Int))∧W = w':=fun W=>by have:=idx64_any c W; rwa [hN] at this
      have HI:=hid hI
      have hp0:p = 0:=Classical.byContradiction fun h=>hbad (.inr (.inr (.inl ⟨by omega,by omega⟩)))
      have hN64:N < 64:=by omega
      subst hp0
      have hst:=stepB_let (b:=b) (out:=out) hbad hN
      rw [hst] at HR2
      clear hI hib hbad hn hN hst
      by_cases hk0:k % 4 = 0
      ·have hk0':(k:Int) % 4 = 0:=by omega
       rw [if_pos hk0,if_neg (by omega)] at HR2
       have eo:=or6_i64 0 N hN64 (by omega)
       have hz:(0 * 64 + N) = N:=by omega
       rw [hz] at HR2
       simp only [Int.natCast_zero,Int.zero_mul,Int.zero_add] at eo
       clear hb1 hb2 hb3 hk0 hz
       go_wp2_with (first | (go_at_call 140; refine (HI.out _).mono ?_; rintro e w' ⟨rfl,rfl⟩))
       go_roundw
       case rel=>exact ⟨k + 1,N,0,false,out,by omega,by go_num,rfl,rfl,rfl,hown,by omega,by omega,by omega,by omega,by omega,by omega,hbel,HR2.out⟩
       case measure=>simp [intOf]; omega
      ·have eo:=or6_i64 b N hN64 hb
       rw [if_neg hk0] at HR2
       by_cases hk3:k % 4 = 3
       ·have hk3':(k:Int) % 4 = 3:=by omega
        have HB3:=hid (hb3 hk3)
        rw [if_pos hk3] at HR2
        have h1:IntKind.u8.wrap (((b:Int) * 64 + (N:Int)) / 65536) = ((byteN ((b * 64 + N) / 65536)).toNat:Int):=by rw [byteN_val,IntKind.wrap_u8]; omega
        have h2:IntKind.u8.wrap (((b:Int) * 64 + (N:Int)) / 256) = ((byteN ((b * 64 + N) / 256)).toNat:Int):=by rw [byteN_val,IntKind.wrap_u8]; omega
        have h3:IntKind.u8.wrap ((b:Int) * 64 + (N:Int)) = ((byteN (b * 64 + N)).toNat:Int):=by rw [byteN_val,IntKind.wrap_u8]; omega
        clear hb1 hb2 hb3 hk0 hk3
        go_wp2_with (first | (go_at_call 140; refine (HI.out _).mono ?_; rintro e w' ⟨rfl,rfl⟩) | (at_builtin; refine wpList_append_own _ rfl _ _ 117 rfl w.heap.size 5 i0 (.int .u8 0) 1 1 Tryz.underlying117 hi hz0 hz1 hz2 rfl (by decide) _ _ _ rfl (hown.alloc _) ⟨wr.heap.size,0,none⟩ 3 3 (byteCells [byteN ((b * 64 + N) / 65536),byteN ((b * 64 + N) / 256),byteN (b * 64 + N)]) rfl rfl ?c1x2 ?c2x2 ?c3x2 ?c4x2 ?c5x2 ?_))
        case c1x2=>
         intro j u hj
         first | exact (heap_news wr _ _ j).trans hj | exact hj
        case c2x2=>intro u hu; exact byteCells_one _ u hu
        case c3x2=>unfold maxLen; omega
        case c4x2=>omega
        case c5x2=>have:=hbel.size; simp; omega
        intro v' w1 hown' hgrow _
        rw [cells_app] at hown'
        have hbel1:Below w.heap.size w w1:=(hbel.alloc hbel.size _).grown hgrow (by have:=hbel.size; simp; omega) (fun j hj=>(hown.lt j hj).1)
        have hown1:w1.ownsRow w.heap.size 5 1 v' (out ++ [byteN ((b * 64 + N) / 65536),byteN ((b * 64 + N) / 256),byteN (b * 64 + N)]).length (byteCells (out ++ [byteN ((b * 64 + N) / 65536),byteN ((b * 64 + N) / 256),byteN (b * 64 + N)])):=by rw [List.length_append]; exact hown'
        clear hown hgrow hbel hown'
        go_wp2_with fail
        go_roundw
        case rel=>exact ⟨k + 1,b * 64 + N,0,false,_,by omega,by go_num,by go_num,rfl,rfl,hown1,by have:=HB3.out; omega,by omega,by omega,by omega,by omega,by simp; omega,hbel1,HR2.out⟩
        case measure=>simp [intOf]; omega
       ·rw [if_neg hk3] at HR2
        have hk3':¬ (k:Int) % 4 = 3:=by omega
        have hk0':¬ (k:Int) % 4 = 0:=by omega
        have HB1:=hid hb1
        have HB2:=hid hb2
        have hkb3:((k:Int) % 4 == 3) = false:=by rw [beq_eq_false_iff_ne]; omega
        have hkb0:((k:Int) % 4 == 0) = false:=by rw [beq_eq_false_iff_ne]; omega
        have HK:=hid (show k % 4 = 1 ∨ k % 4 = 2 by omega)
        clear hb1 hb2 hb3 hk0 hk3 hk3' hk0'
        go_wp2_with (first | (go_at_call 140; refine (HI.out _).mono ?_; rintro e w' ⟨rfl,rfl⟩))
        go_roundw
        case rel=>
         have hk:=HK.out
         have h1:=HB1.out
         have h2:=HB2.out
         exact ⟨k + 1,b * 64 + N,0,false,out,by omega,by go_num,by go_num,rfl,rfl,hown,by omega,by omega,by omega,by omega,by omega,by omega,hbel,HR2.out⟩
        case measure=>simp [intOf]; omega
   ·have hfin:runB 0 0 0 false [] s.data.toList = .ok out:=by
     rw [HR.out,List.drop_eq_nil_of_le (by rw [size_list]; omega),runB]
    have HF:=hid hfin
    have em:=and3_i64 s.size (by omega)
    clear hfin hb1 hb2 hb3
    by_cases h4:s.size % 4 = 0
    ·have h4':(s.size:Int) % 4 = 0:=by omega
     have hconv:=conv_own hown
     go_wp2_with fail
     go_ret2
     rw [HF.out,endB,if_neg (by omega)]
     exact ⟨_,rfl,ErrAt.nil S _,hbel⟩
    ·have h4':((s.size:Int) % 4 != 0) = true:=by rw [bne_iff_ne]; omega
     have HW:=hid (wrong_any S (s.size:Int) wr (HB.out.below hbel))
     go_wp2_with (go_at_call 141; refine HW.out.mono ?_; rintro e w' ⟨rfl,rfl⟩)
     go_ret2
     rw [HF.out,endB,if_pos (by omega)]
     exact ⟨_,rfl,wrong_err S s.size wr,hbel.trans ((wrong_below S s.size wr).mono hbel.size)⟩
end Go.Proofs.YticlgcfodlcpcaaGreatDoor
