/- What a path and a proof say,in plain Lean: from below,as the program reckons,and from above,as the trees are made. -/
import Derived.Test.YticlgcfodlcpcaaGreatDoorNoteP
import Derived.Test.YticlgcfodlcpcaaGreatDoorNOnce
namespace Go.Proofs.YticlgcfodlcpcaaGreatDoor
open Go.Lib (hid byteCells)
end Go.Proofs.YticlgcfodlcpcaaGreatDoor
namespace Go.Proofs.YticlgcfodlcpcaaGreatDoor
open Go.Lib (hid byteCells)
open Go.RowKit
theorem and1_u64 (n:Nat) (h:n < 18446744073709551616):bits .and .u64 (n:Int) 1 = ((n % 2:Nat):Int):=by
 have:=u64_and_nat n 1 h (by omega)
 rw [show (1:Nat) = 2 ^ 1 - 1 from rfl,Nat.and_two_pow_sub_one_eq_mod] at this
 exact this
theorem upF_le:∀ f n l,(upF f n l).1 ≤ n∧(upF f n l).2 ≤ l:=by
 intro f
 induction f with
 | zero=>intro n l; exact ⟨Nat.le_refl _,Nat.le_refl _⟩
 | succ f ih=>
  intro n l
  unfold upF
  split
  ·have:=ih (n / 2) (l / 2)
   omega
  ·exact ⟨Nat.le_refl _,Nat.le_refl _⟩
theorem upF_more:∀ f n l,n < 2 ^ f→upF (f + 1) n l = upF f n l
 | 0,n,l,h=>by
  obtain rfl:n = 0:=by omega
  rfl
 | f + 1,n,l,h=>by
  show (if n % 2 = 0∧n ≠ 0 then upF (f + 1) (n / 2) (l / 2) else (n,l)) = (if n % 2 = 0∧n ≠ 0 then upF f (n / 2) (l / 2) else (n,l))
  by_cases c:n % 2 = 0∧n ≠ 0
  ·rw [if_pos c,if_pos c]
   exact upF_more f (n / 2) (l / 2) (by rw [Nat.pow_succ] at h; omega)
  ·rw [if_neg c,if_neg c]
theorem upF_step (n l:Nat) (h:n < 2 ^ 64) (c:n % 2 = 0∧n ≠ 0):upF 64 n l = upF 64 (n / 2) (l / 2):=by
 rw [← upF_more 64 n l h,upF,if_pos c]
theorem upF_stop (n l:Nat) (c:¬ (n % 2 = 0∧n ≠ 0)):upF 64 n l = (n,l):=by rw [upF,if_neg c]
set_option maxHeartbeats 1000000 in
set_option maxRecDepth 100000 in
theorem up_any (n l:Nat) (hn:n < 18446744073709551616) (hl:l < 18446744073709551616) (w:World) :
  Calls Tryz.prog 131 #[.int .u64 (n:Int),.int .u64 (l:Int)] w fun e w'=>e = .returned (.tuple #[.int .u64 ((upF 64 n l).1:Int),.int .u64 ((upF 64 n l).2:Int)])∧w = w':=by
 go_enter Tryz.func131,Tryz.ntmps131
 go_wp2_with fail
 go_loopw [0,1] (fun a b wr=>∃ x y:Nat,a = .int .u64 (x:Int)∧b = .int .u64 (y:Int)∧x < 18446744073709551616∧y < 18446744073709551616∧upF 64 n l = upF 64 x y∧w = wr) (fun a _ _=>(intOf a).toNat)
 case atStart=>exact ⟨n,l,rfl,rfl,hn,hl,rfl,rfl⟩
 case round=>
  obtain ⟨x,y,rfl,rfl,hx,hy,he,rfl⟩:=hrel
  have HE:=hid he
  have HX:=hid hx
  have HY:=hid hy
  have a1:=and1_u64 x hx
  have x0:(0:Int) ≤ (x:Int):=by omega
  have y0:(0:Int) ≤ (y:Int):=by omega
  rcases (show x % 2 = 0 ∨ x % 2 = 1 by omega) with h2 | h2
  ·replace a1:bits .and .u64 (x:Int) 1 = 0:=by rw [a1,h2]; rfl
   by_cases hz:x = 0
   ·subst hz
    clear he hx hy
    go_wp2_with fail
    go_ret2
    exact ⟨by rw [HE.out,upF_stop _ _ (by omega)]; rfl,rfl⟩
   ·have xn:¬ (x:Int) = 0:=by omega
    have HS:=hid (upF_step x y (by omega) ⟨h2,hz⟩)
    have HZ:=hid hz
    clear he hx hy h2 hz
    go_wp2_with fail
    exact ⟨⟨x / 2,y / 2,by go_num,by go_num,by have:=HX.out; omega,by have:=HY.out; omega,by rw [HE.out,HS.out],trivial⟩,by have:=HZ.out; simp [intOf]; omega⟩
  ·replace a1:bits .and .u64 (x:Int) 1 = 1:=by rw [a1,h2]; rfl
   have HS:=hid (upF_stop x y (by omega))
   clear he hx hy h2
   go_wp2_with fail
   go_ret2
   exact ⟨by rw [HE.out,HS.out]; rfl,rfl⟩
def rootE (idx size:Nat) (leaf:List UInt8) (path:List (List UInt8)):Nat:=if 9223372036854775808 < size ∨ size ≤ idx then 5 else if (rootF idx (size - 1) leaf path).isSome then 0 else 10
def errN (S:Nat→Addr) (n:Nat):Value:=if n = 0 then .nilIface else errV S n
def RootPost (S:Nat→Addr) (idx size:Nat) (leaf:List UInt8) (path:List (List UInt8)) (w:World) (x:Ending) (w':World):Prop:=
 (∃ T:List UInt8,T.length = 32∧x = .returned (.tuple #[hv T,errN S (rootE idx size leaf path)])∧(rootE idx size leaf path = 0→rootF idx (size - 1) leaf path = some T))∧Below w.heap.size w w'
def VRel (idx size:Nat) (leaf z:List UInt8) (path:List (List UInt8)) (w:World) (g11:Nat) (iv lv kv:Value) (wr:World):Prop:=
 ∃ (k n l:Nat) (H:List UInt8),k ≤ path.length∧kv = .int .i64 (k:Int)∧iv = .int .u64 (n:Int)∧lv = .int .u64 (l:Int)∧n < 9223372036854775808∧l < 9223372036854775808∧rootF idx (size - 1) leaf path = rootF n l H (path.drop k)∧HashAt wr g11 H∧HashAt wr (w.heap.size + 1) z∧Below w.heap.size w wr
set_option maxHeartbeats 8000000 in
set_option maxRecDepth 100000 in
theorem vroot_any (S:Nat→Addr) (idx size:Nat) (hi:idx < 18446744073709551616) (hs:size < 18446744073709551616) (leaf:List UInt8) (hl:leaf.length = 32) (path:List (List UInt8)) (u:Value) (hp:path.length ≤ 140737488355328) (w:World) (hF:FW S w) (hu:HsIn w u path) :
  Calls Tryz.prog 95 #[.int .u64 (idx:Int),.int .u64 (size:Int),hv leaf,u] w fun x w'=>RootPost S idx size leaf path w x w':=by
 obtain ⟨z32,hz32,hzs⟩:=z32_ex2
 obtain ⟨h32,ao,cap,rfl,_,hr⟩:=hu
 have HR:=hid hr
 have H32:=hid h32
 have HLL:=hid hl
 have HZS:=hid hzs
 have HF:=hid hF
 have hlt5:errG 5 < w.heap.size:=lt_of_cell (hF.var 5 (by omega) (by omega))
 have hlt10:errG 10 < w.heap.size:=lt_of_cell (hF.var 10 (by omega) (by omega))
 have HL5:=hid hlt5
 have HL10:=hid hlt10
 clear hF hl hzs hr h32 hlt5 hlt10
 go_enter Tryz.func95,Tryz.ntmps95
 go_upto_region 1 with fail
 have h6:=HashAt.new w leaf HLL.out
 have hb6:=below_one w (.cells (byteCells leaf).toArray 23)
 have hs6:(w.alloc (.cells (byteCells leaf).toArray 23)).heap.size = w.heap.size + 1:=by simp
 generalize w.alloc (.cells (byteCells leaf).toArray 23) = w6 at *
 have h8:=HashAt.new w6 z32 HZS.out
 have hb8:=below_one w6 (.cells (byteCells z32).toArray 23)
 rw [hs6] at h8
 have H6:=hid (h6.below hb8)
 have H8:=hid h8
 have HBO:=hid (hb6.trans (hb8.mono hb6.size))
 generalize w6.alloc (.cells (byteCells z32).toArray 23) = wo at *
 clear h6 hb6 hs6 h8 hb8
 by_cases hbad:9223372036854775808 < size ∨ size ≤ idx
 ·have HE:=hid (show rootE idx size leaf path = 5 by unfold rootE; rw [if_pos hbad])
  by_cases c1:9223372036854775808 < size
  ·have i1:(9223372036854775808:Int) < (size:Int):=by omega
   clear hbad c1
   go_upto_region 2 with fail
   have ge:=(HF.out.below HBO.out).var 5 (by omega) (by omega)
   have hdr:Below wo.heap.size wo wo.drew:=(Below.refl _ _).drew
   have HR0:=hid (show Below w.heap.size w wo.drew∧(wo.drew).cell? ⟨errG 5,0,none⟩ = some (errV S 5)∧(wo.drew).there (w.heap.size + 1) 0 32 from ⟨HBO.out.trans (hdr.mono HBO.out.size),below_cell hdr ge,(H8.out.below hdr).there⟩)
   have HR1:=hid (show Below w.heap.size w (wo.drew.setCells (w.heap.size + 1) 0 (byteCells z32))∧((wo.drew.setCells (w.heap.size + 1) 0 (byteCells z32))).cell? ⟨errG 5,0,none⟩ = some (errV S 5)∧((wo.drew.setCells (w.heap.size + 1) 0 (byteCells z32))).there (w.heap.size + 1) 0 32 from
    ⟨below_setCellsN (show w.heap.size ≤ w.heap.size + 1 by omega) _ _ _ (HBO.out.trans (hdr.mono HBO.out.size)),(World.cell?_of_block (w:=wo.drew) (setCells_other (byteCells z32) 0 wo.drew (w.heap.size + 1) _ (show errG 5 ≠ w.heap.size + 1 by have:=HL5.out; omega))).trans (below_cell hdr ge),World.there_setCells (H8.out.below hdr).there _ _ _⟩)
   have HRZ:=hid (show HashAt (wo.drew.setCells (w.heap.size + 1) 0 (byteCells z32)) (w.heap.size + 1) z32 by
    rw [(H8.out.below hdr).setCells HZS.out]
    exact (H8.out.below hdr).set HZS.out)
   have hund:=Tryz.underlying23
   have hinf:(Tryz.prog.info? 23).map (fun x=>x.size) = some (byteCells z32).length:=by rw [Lib.byteCells_length,HZS.out]; exact hashInfo
   have hl32:(byteCells z32).length = 32:=by rw [Lib.byteCells_length,HZS.out]
   have hone:=cells_oneC z32
   clear ge hdr
   simp only [errG,errV] at HR0 HR1
   go_region_held3 (fun W'=>Below w.heap.size w W'∧W'.cell? ⟨6,0,none⟩ = some (.iface 251 (.pointer (some (S 5))))∧W'.there (w.heap.size + 1) 0 32)
    (first | (with_reducible exact HR0.out) | (with_reducible exact HR1.out))
    (fail)
   generalize wo.drew.setCells (w.heap.size + 1) 0 (byteCells z32) = wZ at *
   go_wp2_with fail
   exact bodyPost_ret (results_Ht rfl rfl _ _ _ _ _ rfl rfl HRZ.out) rfl ⟨⟨z32,HZS.out,by rw [HE.out]; rfl,fun h=>by rw [HE.out] at h; cases h⟩,HR1.out.1⟩
  ·have i1:¬ (9223372036854775808:Int) < (size:Int):=by omega
   have i2:(size:Int) ≤ (idx:Int):=by omega
   clear hbad c1
   go_upto_region 2 with fail
   have ge:=(HF.out.below HBO.out).var 5 (by omega) (by omega)
   have hdr:Below wo.heap.size wo wo.drew:=(Below.refl _ _).drew
   have HR0:=hid (show Below w.heap.size w wo.drew∧(wo.drew).cell? ⟨errG 5,0,none⟩ = some (errV S 5)∧(wo.drew).there (w.heap.size + 1) 0 32 from ⟨HBO.out.trans (hdr.mono HBO.out.size),below_cell hdr ge,(H8.out.below hdr).there⟩)
   have HR1:=hid (show Below w.heap.size w (wo.drew.setCells (w.heap.size + 1) 0 (byteCells z32))∧((wo.drew.setCells (w.heap.size + 1) 0 (byteCells z32))).cell? ⟨errG 5,0,none⟩ = some (errV S 5)∧((wo.drew.setCells (w.heap.size + 1) 0 (byteCells z32))).there (w.heap.size + 1) 0 32 from
    ⟨below_setCellsN (show w.heap.size ≤ w.heap.size + 1 by omega) _ _ _ (HBO.out.trans (hdr.mono HBO.out.size)),(World.cell?_of_block (w:=wo.drew) (setCells_other (byteCells z32) 0 wo.drew (w.heap.size + 1) _ (show errG 5 ≠ w.heap.size + 1 by have:=HL5.out; omega))).trans (below_cell hdr ge),World.there_setCells (H8.out.below hdr).there _ _ _⟩)
   have HRZ:=hid (show HashAt (wo.drew.setCells (w.heap.size + 1) 0 (byteCells z32)) (w.heap.size + 1) z32 by
    rw [(H8.out.below hdr).setCells HZS.out]
    exact (H8.out.below hdr).set HZS.out)
   have hund:=Tryz.underlying23
   have hinf:(Tryz.prog.info? 23).map (fun x=>x.size) = some (byteCells z32).length:=by rw [Lib.byteCells_length,HZS.out]; exact hashInfo
   have hl32:(byteCells z32).length = 32:=by rw [Lib.byteCells_length,HZS.out]
   have hone:=cells_oneC z32
   clear ge hdr
   simp only [errG,errV] at HR0 HR1
   go_region_held3 (fun W'=>Below w.heap.size w W'∧W'.cell? ⟨6,0,none⟩ = some (.iface 251 (.pointer (some (S 5))))∧W'.there (w.heap.size + 1) 0 32)
    (first | (with_reducible exact HR0.out) | (with_reducible exact HR1.out))
    (fail)
   generalize wo.drew.setCells (w.heap.size + 1) 0 (byteCells z32) = wZ at *
   go_wp2_with fail
   exact bodyPost_ret (results_Ht rfl rfl _ _ _ _ _ rfl rfl HRZ.out) rfl ⟨⟨z32,HZS.out,by rw [HE.out]; rfl,fun h=>by rw [HE.out] at h; cases h⟩,HR1.out.1⟩
 ·have c1:size ≤ 9223372036854775808:=by omega
  have c2:idx < size:=by omega
  have i1:¬ (9223372036854775808:Int) < (size:Int):=by omega
  have i2:¬ (size:Int) ≤ (idx:Int):=by omega
  have HE:=hid (show rootE idx size leaf path = if (rootF idx (size - 1) leaf path).isSome then 0 else 10 by unfold rootE; rw [if_neg hbad])
  obtain ⟨l0,hl0⟩:∃ l0,size - 1 = l0:=⟨_,rfl⟩
  have q1:(size:Int) - 1 = (l0:Int):=by omega
  have q2:IntKind.u64.wrap ((size:Int) - 1) = (l0:Int):=by rw [IntKind.wrap_u64]; omega
  have q3:IntKind.u64.wrap (l0:Int) = (l0:Int):=by rw [IntKind.wrap_u64]; omega
  have HC1:=hid c1
  have HC2:=hid c2
  have HL0:=hid hl0
  clear hbad c1 c2 hl0
  go_upto_region 3 with fail
  go_cut [10,11] (fun s1 s2 wx=>∃ g,s1 = .int .u64 (l0:Int)∧s2 = .pointer (some ⟨g,0,none⟩)∧HashAt wx g leaf∧wo.heap.size ≤ g∧Below wo.heap.size wo wx)
  case first=>
   have HK:=hid (fun (W':World) (hb:Below wo.heap.size wo W')=>(⟨hb,(H6.out.below hb).range⟩:Below wo.heap.size wo W'∧W'.rangeAt w.heap.size 0 (byteCells leaf)))
   have hone:=cells_oneC leaf
   have hund:=Tryz.underlying23
   have hinf:(Tryz.prog.info? 23).map (fun x=>x.size) = some (byteCells leaf).length:=by rw [Lib.byteCells_length,HLL.out]; exact hashInfo
   have hr3:HashAt ((wo.alloc (.cells (byteCells z32).toArray 23)).drew) wo.heap.size z32:=(HashAt.new wo z32 HZS.out).below ((Below.refl _ _).drew)
   have hthr:((wo.alloc (.cells (byteCells z32).toArray 23)).drew).there wo.heap.size 0 (byteCells leaf).length:=by rw [Lib.byteCells_length,HLL.out]; exact hr3.there
   have hsc:=hr3.setCells HLL.out
   have hsr:=hr3.set HLL.out
   have hsb:=below_setRow (below_one wo (.cells (byteCells z32).toArray 23)).drew (Nat.le_refl _) (byteCells leaf).toArray
   go_region_held3 (fun W'=>Below wo.heap.size wo W'∧W'.rangeAt w.heap.size 0 (byteCells leaf))
    (first | exact HK.out _ (below_drewN (Below.refl _ _) 1) | exact HK.out _ (below_one wo _).drew | (rw [hsc]; exact HK.out _ hsb))
    (fail)
   all_goals (go_wp2_with fail; go_meet; exact ⟨_,by rfl,rfl,by first | exact hsr | (rw [hsc]; exact hsr),Nat.le_refl _,by first | exact hsb | (rw [hsc]; exact hsb)⟩)
  case rest=>
   obtain ⟨g11,rfl,rfl,h11,hg11,hbx⟩:=hcut
   have HG8:=hid (show w.heap.size + 1 < g11 from by have h1:=H8.out.lt; omega)
   have H8:=hid (H8.out.below hbx)
   have HBX:=hid (HBO.out.trans (hbx.mono HBO.out.size))
   have H11:=hid h11
   clear h11 hg11 hbx HBO H6
   go_wp2_with fail
   go_loopw [0,10,28] (fun iv lv kv wr=>VRel idx size leaf z32 path w g11 iv lv kv wr) (fun _ _ kv _=>path.length - (intOf kv).toNat)
   case atStart=>exact ⟨0,idx,l0,leaf,Nat.zero_le _,rfl,rfl,rfl,by have:=HC1.out; have:=HC2.out; omega,by have:=HC1.out; have:=HC2.out; have:=HL0.out; omega,by rw [HL0.out]; rfl,H11.out,H8.out,HBX.out⟩
   case round=>
    obtain ⟨k,n,l,H,hk,rfl,rfl,rfl,hn,hll,hrt,h11,h8,hbel⟩:=hrel
    rename World=>wA
    have HA11:=hid h11
    have HA8:=hid h8
    have HAB:=hid hbel
    have HNN:=hid hn
    have HLN:=hid hll
    by_cases hlt:k < path.length
    ·obtain ⟨p,hpk⟩:∃ p,path[k]? = some p:=⟨_,List.getElem?_eq_getElem hlt⟩
     have hdr:path.drop k = p :: path.drop (k + 1):=by
      rw [List.drop_eq_getElem_cons hlt]
      congr 1
      rw [List.getElem?_eq_getElem hlt] at hpk
      exact Option.some.inj hpk
     have i3:(k:Int) < (path.length:Int):=by omega
     have i0:(0:Int) ≤ (k:Int):=by omega
     obtain ⟨g,o,rfl,hrow⟩:=HR.out (fun e=>by rw [e] at hlt; simp at hlt)
     have HRP:=hid (range_below hbel (HsIn.at H32.out hrow hpk))
     have HPL:=hid (H32.out p (List.mem_of_getElem? hpk))
     rw [hdr] at hrt
     have HRT:=hid hrt
     have HLT:=hid hlt
     clear hrt hdr hrow h11 h8 hbel hn hll hlt hpk
     go_upto_region 7 with (first | (refine wpList_hashLoad2 (by rfl) (.tmp 30) (by rfl) g (o + k * 32) (by rfl) p HPL.out HRP.out ?_) | (refine wpList_hash (by rfl) (.tmp 13) (.tmp 31) (by rfl) (by rfl) (by rfl) (hash_size HPL.out) (hash_size HZS.out) (byteCells_all p) ?_))
     have hB13:=HashAt.new wA p HPL.out
     have hbB:=below_one wA (.cells (byteCells p).toArray 23)
     have HB13:=hid hB13
     have HB11:=hid (HA11.out.below hbB)
     have HB8:=hid (HA8.out.below hbB)
     have HBB:=hid (HAB.out.trans (hbB.mono HAB.out.size))
     generalize wA.alloc (.cells (byteCells p).toArray 23) = wB at *
     generalize wA.heap.size = g13 at *
     clear hB13 hbB
     by_cases hz:l = 0
     ·subst hz
      have HEV:=hid (show rootE idx size leaf path = 10 by rw [HE.out,HRT.out,rootF,if_pos rfl]; rfl)
      go_upto_region 8 with fail
      have ge:=(HF.out.below HBB.out).var 10 (by omega) (by omega)
      have hdr:Below wB.heap.size wB wB.drew:=(Below.refl _ _).drew
      have HR0:=hid (show Below w.heap.size w wB.drew∧(wB.drew).cell? ⟨errG 10,0,none⟩ = some (errV S 10)∧(wB.drew).there (w.heap.size + 1) 0 32 from ⟨HBB.out.trans (hdr.mono HBB.out.size),below_cell hdr ge,(HB8.out.below hdr).there⟩)
      have HR1:=hid (show Below w.heap.size w (wB.drew.setCells (w.heap.size + 1) 0 (byteCells z32))∧((wB.drew.setCells (w.heap.size + 1) 0 (byteCells z32))).cell? ⟨errG 10,0,none⟩ = some (errV S 10)∧((wB.drew.setCells (w.heap.size + 1) 0 (byteCells z32))).there (w.heap.size + 1) 0 32 from
       ⟨below_setCellsN (show w.heap.size ≤ w.heap.size + 1 by omega) _ _ _ (HBB.out.trans (hdr.mono HBB.out.size)),(World.cell?_of_block (w:=wB.drew) (setCells_other (byteCells z32) 0 wB.drew (w.heap.size + 1) _ (show errG 10 ≠ w.heap.size + 1 by have:=HL10.out; omega))).trans (below_cell hdr ge),World.there_setCells (HB8.out.below hdr).there _ _ _⟩)
      have HRZ:=hid (show HashAt (wB.drew.setCells (w.heap.size + 1) 0 (byteCells z32)) (w.heap.size + 1) z32 by
       rw [(HB8.out.below hdr).setCells HZS.out]
       exact (HB8.out.below hdr).set HZS.out)
      have hund:=Tryz.underlying23
      have hinf:(Tryz.prog.info? 23).map (fun x=>x.size) = some (byteCells z32).length:=by rw [Lib.byteCells_length,HZS.out]; exact hashInfo
      have hl32:(byteCells z32).length = 32:=by rw [Lib.byteCells_length,HZS.out]
      have hone:=cells_oneC z32
      clear ge hdr
      simp only [errG,errV] at HR0 HR1
      go_region_held3 (fun W'=>Below w.heap.size w W'∧W'.cell? ⟨11,0,none⟩ = some (.iface 251 (.pointer (some (S 10))))∧W'.there (w.heap.size + 1) 0 32)
       (first | (with_reducible exact HR0.out) | (with_reducible exact HR1.out))
       (fail)
      generalize wB.drew.setCells (w.heap.size + 1) 0 (byteCells z32) = wZ at *
      go_wp2_with fail
      exact bodyPost_ret (results_Ht rfl rfl _ _ _ _ _ rfl rfl HRZ.out) rfl ⟨⟨z32,HZS.out,by rw [HEV.out]; rfl,fun h=>by rw [HEV.out] at h; cases h⟩,HR1.out.1⟩
     ·have j1:¬ (l:Int) = 0:=by omega
      have a1:=and1_u64 n (by have:=HNN.out; omega)
      have x0:(0:Int) ≤ (n:Int):=by omega
      have y0:(0:Int) ≤ (l:Int):=by omega
      have HLZ:=hid hz
      by_cases hside:n % 2 = 1 ∨ n = l
      ·have HRS:=hid (show rootF idx (size - 1) leaf path = rootF ((upF 64 n l).1 / 2) ((upF 64 n l).2 / 2) (shaL (1 :: (p ++ H))) (path.drop (k + 1)) by rw [HRT.out,rootF,if_neg hz,if_pos hside])
       obtain ⟨N,hN⟩:∃ N,shaL (1 :: (p ++ H)) = N:=⟨_,rfl⟩
       rw [hN] at HRS
       have HNL:=hid (show N.length = 32 by rw [← hN]; exact shaL_len _)
       have HND:=hid (by
        have h:=node_any p H HPL.out HB11.out.2 wB (HF.out.below HBB.out).tab (HF.out.below HBB.out).lt
        rw [hN] at h
        exact h)
       have HUP:=hid fun (W:World)=>up_any n l (by have:=HNN.out; omega) (by have:=HLN.out; omega) W
       have hul:=upF_le 64 n l
       obtain ⟨n',hn'⟩:∃ n',(upF 64 n l).1 = n':=⟨_,rfl⟩
       obtain ⟨l',hl'⟩:∃ l',(upF 64 n l).2 = l':=⟨_,rfl⟩
       rw [hn',hl'] at HUP HRS hul
       have HUL:=hid hul
       clear hN hn' hl' hul
       have HT:(bits .and .u64 (n:Int) 1 = 1) ∨ (bits .and .u64 (n:Int) 1 = 0∧n = l):=by
        rcases hside with h | h
        ·exact Or.inl (by rw [a1,h]; rfl)
        ·rcases (show n % 2 = 1 ∨ n % 2 = 0 by omega) with h2 | h2
         ·exact Or.inl (by rw [a1,h2]; rfl)
         ·exact Or.inr ⟨by rw [a1,h2]; rfl,h⟩
       clear a1 hside hz
       rcases HT with t1 | ⟨t1,rfl⟩
       ·go_wp2_with (first | (refine wpList_ldH (by rfl) (.tmp 13) (by rfl) (by rfl) HB13.out ?_) | (refine wpList_ldH (by rfl) (.tmp 11) (by rfl) (by rfl) HB11.out ?_) | (go_at_call 27; refine HND.out.mono ?_))
        first
         | rintro x wC rfl hbC
         | rintro x wC ⟨rfl,hbC⟩
        have HC11:=hid (HB11.out.below hbC)
        have HC8:=hid (HB8.out.below hbC)
        have HCB:=hid (HBB.out.trans (hbC.mono HBB.out.size))
        clear hbC
        go_wp2_with (refine wpList_stH (by rfl) (.tmp 11) (.tmp 46) (by rfl) (by rfl) (by rfl) HC11.out HNL.out ?_)
        have HD11:=hid (HC11.out.set HNL.out)
        have HD8:=hid (HC8.out.other (k:=g11) (byteCells N).toArray (by have:=HG8.out; omega))
        have HDB:=hid (below_setRow HCB.out (show w.heap.size ≤ g11 by have:=HG8.out; omega) (byteCells N).toArray)
        generalize wC.setRow g11 (byteCells N).toArray = wD at *
        go_wp2_with (go_at_call 131; refine (HUP.out _).mono ?_; rintro e w' ⟨rfl,rfl⟩)
        exact ⟨⟨k + 1,n' / 2,l' / 2,N,HLT.out,by go_num,by go_num,by go_num,by have:=HNN.out; have:=HUL.out; omega,by have:=HLN.out; have:=HUL.out; omega,HRS.out,HD11.out,HD8.out,HDB.out⟩,by have:=HLT.out; simp [intOf]; omega⟩
       ·go_wp2_with (first | (refine wpList_ldH (by rfl) (.tmp 13) (by rfl) (by rfl) HB13.out ?_) | (refine wpList_ldH (by rfl) (.tmp 11) (by rfl) (by rfl) HB11.out ?_) | (go_at_call 27; refine HND.out.mono ?_))
        first
         | rintro x wC rfl hbC
         | rintro x wC ⟨rfl,hbC⟩
        have HC11:=hid (HB11.out.below hbC)
        have HC8:=hid (HB8.out.below hbC)
        have HCB:=hid (HBB.out.trans (hbC.mono HBB.out.size))
        clear hbC
        go_wp2_with (refine wpList_stH (by rfl) (.tmp 11) (.tmp 46) (by rfl) (by rfl) (by rfl) HC11.out HNL.out ?_)
        have HD11:=hid (HC11.out.set HNL.out)
        have HD8:=hid (HC8.out.other (k:=g11) (byteCells N).toArray (by have:=HG8.out; omega))
        have HDB:=hid (below_setRow HCB.out (show w.heap.size ≤ g11 by have:=HG8.out; omega) (byteCells N).toArray)
        generalize wC.setRow g11 (byteCells N).toArray = wD at *
        go_wp2_with (go_at_call 131; refine (HUP.out _).mono ?_; rintro e w' ⟨rfl,rfl⟩)
        exact ⟨⟨k + 1,n' / 2,l' / 2,N,HLT.out,by go_num,by go_num,by go_num,by have:=HNN.out; have:=HUL.out; omega,by have:=HLN.out; have:=HUL.out; omega,HRS.out,HD11.out,HD8.out,HDB.out⟩,by have:=HLT.out; simp [intOf]; omega⟩
      ·have a0:bits .and .u64 (n:Int) 1 = 0:=by rw [a1,show n % 2 = 0 by omega]; rfl
       have e0:¬ (n:Int) = (l:Int):=by omega
       have HRS:=hid (show rootF idx (size - 1) leaf path = rootF (n / 2) (l / 2) (shaL (1 :: (H ++ p))) (path.drop (k + 1)) by rw [HRT.out,rootF,if_neg hz,if_neg hside])
       obtain ⟨N,hN⟩:∃ N,shaL (1 :: (H ++ p)) = N:=⟨_,rfl⟩
       rw [hN] at HRS
       have HNL:=hid (show N.length = 32 by rw [← hN]; exact shaL_len _)
       have HND:=hid (by
        have h:=node_any H p HB11.out.2 HPL.out wB (HF.out.below HBB.out).tab (HF.out.below HBB.out).lt
        rw [hN] at h
        exact h)
       clear hN a1 hside hz
       go_wp2_with (first | (refine wpList_ldH (by rfl) (.tmp 13) (by rfl) (by rfl) HB13.out ?_) | (refine wpList_ldH (by rfl) (.tmp 11) (by rfl) (by rfl) HB11.out ?_) | (go_at_call 27; refine HND.out.mono ?_))
       first
        | rintro x wC rfl hbC
        | rintro x wC ⟨rfl,hbC⟩
       have HC11:=hid (HB11.out.below hbC)
       have HC8:=hid (HB8.out.below hbC)
       have HCB:=hid (HBB.out.trans (hbC.mono HBB.out.size))
       clear hbC
       go_wp2_with (refine wpList_stH (by rfl) (.tmp 11) (.tmp 55) (by rfl) (by rfl) (by rfl) HC11.out HNL.out ?_)
       have HD11:=hid (HC11.out.set HNL.out)
       have HD8:=hid (HC8.out.other (k:=g11) (byteCells N).toArray (by have:=HG8.out; omega))
       have HDB:=hid (below_setRow HCB.out (show w.heap.size ≤ g11 by have:=HG8.out; omega) (byteCells N).toArray)
       generalize wC.setRow g11 (byteCells N).toArray = wD at *
       go_wp2_with fail
       exact ⟨⟨k + 1,n / 2,l / 2,N,HLT.out,by go_num,by go_num,by go_num,by have:=HNN.out; omega,by have:=HLN.out; omega,HRS.out,HD11.out,HD8.out,HDB.out⟩,by have:=HLT.out; simp [intOf]; omega⟩
    ·obtain rfl:k = path.length:=by omega
     have i3:¬ (path.length:Int) < (path.length:Int):=by omega
     rw [List.drop_of_length_le (Nat.le_refl _)] at hrt
     by_cases hz:l = 0
     ·subst hz
      have HEV:=hid (show rootE idx size leaf path = 0 by rw [HE.out,hrt,rootF,if_pos rfl]; rfl)
      have HRV:=hid (show rootF idx (size - 1) leaf path = some H by rw [hrt,rootF,if_pos rfl])
      clear hrt h11 h8 hbel hn hll hlt
      go_wp2_with (first | (refine wpList_ldH (by rfl) (.tmp 11) (by rfl) (by rfl) HA11.out ?_) | (refine wpList_stH (by rfl) (.tmp 8) (.tmp 65) (by rfl) (by rfl) (by rfl) HA8.out HA11.out.2 ?_))
      have HD8:=hid (HA8.out.set HA11.out.2)
      have HDB:=hid (below_setRow HAB.out (Nat.le_succ _) (byteCells H).toArray)
      generalize wA.setRow (w.heap.size + 1) (byteCells H).toArray = wD at *
      go_wp2_with fail
      exact bodyPost_ret (results_Ht rfl rfl _ _ _ _ _ rfl rfl HD8.out) rfl ⟨⟨H,HA11.out.2,by rw [HEV.out]; rfl,fun _=>HRV.out⟩,HDB.out⟩
     ·have j1:¬ (l:Int) = 0:=by omega
      have HEV:=hid (show rootE idx size leaf path = 10 by rw [HE.out,hrt,rootF,if_neg hz]; rfl)
      clear hrt h11 h8 hbel hn hll hlt hz
      go_upto_region 17 with fail
      have ge:=(HF.out.below HAB.out).var 10 (by omega) (by omega)
      have hdr:Below wA.heap.size wA wA.drew:=(Below.refl _ _).drew
      have HR0:=hid (show Below w.heap.size w wA.drew∧(wA.drew).cell? ⟨errG 10,0,none⟩ = some (errV S 10)∧(wA.drew).there (w.heap.size + 1) 0 32 from ⟨HAB.out.trans (hdr.mono HAB.out.size),below_cell hdr ge,(HA8.out.below hdr).there⟩)
      have HR1:=hid (show Below w.heap.size w (wA.drew.setCells (w.heap.size + 1) 0 (byteCells z32))∧((wA.drew.setCells (w.heap.size + 1) 0 (byteCells z32))).cell? ⟨errG 10,0,none⟩ = some (errV S 10)∧((wA.drew.setCells (w.heap.size + 1) 0 (byteCells z32))).there (w.heap.size + 1) 0 32 from
       ⟨below_setCellsN (show w.heap.size ≤ w.heap.size + 1 by omega) _ _ _ (HAB.out.trans (hdr.mono HAB.out.size)),(World.cell?_of_block (w:=wA.drew) (setCells_other (byteCells z32) 0 wA.drew (w.heap.size + 1) _ (show errG 10 ≠ w.heap.size + 1 by have:=HL10.out; omega))).trans (below_cell hdr ge),World.there_setCells (HA8.out.below hdr).there _ _ _⟩)
      have HRZ:=hid (show HashAt (wA.drew.setCells (w.heap.size + 1) 0 (byteCells z32)) (w.heap.size + 1) z32 by
       rw [(HA8.out.below hdr).setCells HZS.out]
       exact (HA8.out.below hdr).set HZS.out)
      have hund:=Tryz.underlying23
      have hinf:(Tryz.prog.info? 23).map (fun x=>x.size) = some (byteCells z32).length:=by rw [Lib.byteCells_length,HZS.out]; exact hashInfo
      have hl32:(byteCells z32).length = 32:=by rw [Lib.byteCells_length,HZS.out]
      have hone:=cells_oneC z32
      clear ge hdr
      simp only [errG,errV] at HR0 HR1
      go_region_held3 (fun W'=>Below w.heap.size w W'∧W'.cell? ⟨11,0,none⟩ = some (.iface 251 (.pointer (some (S 10))))∧W'.there (w.heap.size + 1) 0 32)
       (first | (with_reducible exact HR0.out) | (with_reducible exact HR1.out))
       (fail)
      generalize wA.drew.setCells (w.heap.size + 1) 0 (byteCells z32) = wZ at *
      go_wp2_with fail
      exact bodyPost_ret (results_Ht rfl rfl _ _ _ _ _ rfl rfl HRZ.out) rfl ⟨⟨z32,HZS.out,by rw [HEV.out]; rfl,fun h=>by rw [HEV.out] at h; cases h⟩,HR1.out.1⟩
end Go.Proofs.YticlgcfodlcpcaaGreatDoor
namespace Go.Proofs.YticlgcfodlcpcaaGreatDoor
open Go.Lib (hid byteCells)
open Go.RowKit
def inclE (idx size:Nat) (leaf:List UInt8) (path:List (List UInt8)) (root:List UInt8):Nat:=if rootE idx size leaf path = 0 then (if rootF idx (size - 1) leaf path = some root then 0 else 10) else rootE idx size leaf path
theorem run_err_neq (a:Addr) (w:World):(binOp .neq 34 (.iface 251 (.pointer (some a))) .nilIface).run Tryz.prog w = .ok (.bool true) w:=by kernel_rfl
set_option maxHeartbeats 4000000 in
set_option maxRecDepth 100000 in
theorem inclusion_any (S:Nat→Addr) (idx size:Nat) (hi:idx < 18446744073709551616) (hs:size < 18446744073709551616) (leaf root:List UInt8) (hl:leaf.length = 32) (hr:root.length = 32) (path:List (List UInt8)) (u:Value) (hp:path.length ≤ 140737488355328) (w:World) (hF:FW S w) (hu:HsIn w u path) :
  Calls Tryz.prog 54 #[.int .u64 (idx:Int),.int .u64 (size:Int),hv leaf,u,hv root] w fun x w'=>x = .returned (errN S (inclE idx size leaf path root))∧Below w.heap.size w w':=by
 obtain ⟨z32,hz32,hzs⟩:=z32_ex2
 have HLL:=hid hl
 have HRL:=hid hr
 have HZS:=hid hzs
 have HF:=hid hF
 have HU:=hid hu
 obtain ⟨_,ao,cap,rfl,_,_⟩:=hu
 clear hF hl hr hzs
 go_enter Tryz.func54,Tryz.ntmps54
 go_upto_region 1 with fail
 have h7:=HashAt.new w leaf HLL.out
 have hb7:=below_one w (.cells (byteCells leaf).toArray 23)
 have hs7:(w.alloc (.cells (byteCells leaf).toArray 23)).heap.size = w.heap.size + 1:=by simp
 generalize w.alloc (.cells (byteCells leaf).toArray 23) = w7 at *
 have h9:=HashAt.new w7 root HRL.out
 have hb9:=below_one w7 (.cells (byteCells root).toArray 23)
 rw [hs7] at h9
 have H7:=hid (h7.below hb9)
 have H9:=hid h9
 have HBO:=hid (hb7.trans (hb9.mono hb7.size))
 generalize w7.alloc (.cells (byteCells root).toArray 23) = wo at *
 have HRT:=hid (vroot_any S idx size hi hs leaf HLL.out path _ hp wo (HF.out.below HBO.out) (HU.out.below HBO.out))
 clear h7 hb7 hs7 h9 hb9
 go_wp2_with (first | (refine wpList_ldH (by rfl) (.tmp 7) (by rfl) (by rfl) H7.out ?_) | (go_at_call 95; refine HRT.out.mono ?_))
 rintro x w1 ⟨⟨T,hT,rfl,hTV⟩,hb1⟩
 have HTL:=hid hT
 have HTV:=hid hTV
 have H9:=hid (H9.out.below hb1)
 have HB1:=hid (HBO.out.trans (hb1.mono HBO.out.size))
 have g10:=(HF.out.below HB1.out).var 10 (by omega) (by omega)
 simp only [errG,errV] at g10
 clear hb1 hT hTV HRT
 obtain ⟨n,hn⟩:∃ n,rootE idx size leaf path = n:=⟨_,rfl⟩
 have HIE:=hid (show inclE idx size leaf path root = if n = 0 then (if rootF idx (size - 1) leaf path = some root then 0 else 10) else n by rw [inclE,hn])
 rw [hn] at HTV ⊢
 by_cases hz:n = 0
 ·subst hz
  have HTE:=hid (HTV.out rfl)
  have HE0:=hid (show errN S 0 = .nilIface from rfl)
  rw [HE0.out]
  clear hn
  go_upto_region 4 with (refine wpList_hash (by rfl) (.tmp 11) (.tmp 19) (by rfl) (by rfl) (by rfl) (hash_size HTL.out) (hash_size HZS.out) (byteCells_all T) ?_)
  have h11:=HashAt.new w1 T HTL.out
  have hb2:=below_one w1 (.cells (byteCells T).toArray 23)
  have H11:=hid h11
  have H9:=hid (H9.out.below hb2)
  have HB2:=hid (HB1.out.trans (hb2.mono HB1.out.size))
  have g10:=below_cell hb2 g10
  generalize w1.alloc (.cells (byteCells T).toArray 23) = w2 at *
  generalize w1.heap.size = g11 at *
  clear h11 hb2
  by_cases hTR:T = root
  ·have HP:=hid (show inclE idx size leaf path root = 0 by rw [HIE.out,HTE.out,hTR]; simp)
   have HD:=hid (show false = decide (T ≠ root) by simp [hTR])
   clear hTR
   go_wp2_with (first | (refine wpList_ldH (by rfl) (.tmp 11) (by rfl) (by rfl) H11.out ?_) | (refine wpList_ldH (by rfl) (.tmp 9) (by rfl) (by rfl) H9.out ?_) | (refine wpList_hashNe (by rfl) (.tmp 24) (.tmp 25) _ (by rfl) T root (by rfl) (by rfl) HTL.out HRL.out false HD.out ?_))
   go_ret
   exact ⟨by rw [HP.out]; rfl,HB2.out⟩
  ·have HP:=hid (show inclE idx size leaf path root = 10 by rw [HIE.out,HTE.out]; simp [hTR])
   have HD:=hid (show true = decide (T ≠ root) from (decide_eq_true hTR).symm)
   clear hTR
   go_wp2_with (first | (refine wpList_ldH (by rfl) (.tmp 11) (by rfl) (by rfl) H11.out ?_) | (refine wpList_ldH (by rfl) (.tmp 9) (by rfl) (by rfl) H9.out ?_) | (refine wpList_hashNe (by rfl) (.tmp 24) (.tmp 25) _ (by rfl) T root (by rfl) (by rfl) HTL.out HRL.out true HD.out ?_))
   go_ret
   exact ⟨by rw [HP.out]; rfl,HB2.out⟩
 ·have HP:=hid (show inclE idx size leaf path root = n by rw [HIE.out,if_neg hz])
  have HEN:=hid (show errN S n = .iface 251 (.pointer (some (S n))) by unfold errN errV; rw [if_neg hz])
  have hre:=fun w=>run_err_neq (S n) w
  rw [HEN.out]
  clear hn hz
  go_upto_region 2 with (refine wpList_hash (by rfl) (.tmp 11) (.tmp 19) (by rfl) (by rfl) (by rfl) (hash_size HTL.out) (hash_size HZS.out) (byteCells_all T) ?_)
  have hb2:=below_one w1 (.cells (byteCells T).toArray 23)
  have HB2:=hid (HB1.out.trans (hb2.mono HB1.out.size))
  generalize w1.alloc (.cells (byteCells T).toArray 23) = w2 at *
  clear hb2
  go_wp2_with fail
  go_ret
  exact ⟨by rw [HP.out,HEN.out]; rfl,HB2.out⟩
end Go.Proofs.YticlgcfodlcpcaaGreatDoor
