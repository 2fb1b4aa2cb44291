/- hash. -/
import Derived.Test.YticlgcfodlcpcaaGreatDoorNT
import Derived.Test.YticlgcfodlcpcaaGreatDoorNoteP
namespace Go.Proofs.YticlgcfodlcpcaaGreatDoor
open Go.Lib (hid byteCells)
open Go.RowKit
theorem catL_chain (l:List UInt8):catL [⟨#[2]⟩,⟨l.toArray⟩] = 2 :: l:=by simp [catL]
theorem sum_at (S:Nat→Addr) (L:List ByteArray) (n:Nat) (hn:L.length = n) (h10:n ≤ 1000000) (hsz:(catL L).length ≤ 4611686018427387000) (W:World) (hF:FW S W) :
  Calls Tryz.prog 55 #[.slice (some ⟨W.heap.size,0,none⟩) n n] (W.alloc (.cells (L.map Value.string).toArray 9)) fun e w'=>e = .returned (hv (shaL (catL L)))∧Below W.heap.size W w':=by
 subst hn
 have hb:=below_one W (.cells (L.map Value.string).toArray 9)
 refine (shaSum_any L W.heap.size 0 L.length _ (fun j v hv=>?_) (fun _=>by simp) (hF.below hb).tab (hF.below hb).lt h10 hsz).mono ?_
 ·rw [Nat.zero_add]
  exact cell_of (heap_one W _) j (by rw [List.getElem?_toArray]; exact hv)
 ·rintro e w' ⟨rfl,h⟩
  exact ⟨rfl,hb.trans (h.mono hb.size)⟩
theorem sum_in (S:Nat→Addr) (L:List ByteArray) (n g:Nat) (hn:L.length = n) (h10:n ≤ 1000000) (hsz:(catL L).length ≤ 4611686018427387000) (W:World) (hF:FW S W) (hg:∃ T fr,W.heap[g]? = some (.cells (L.map Value.string).toArray T fr)) :
  Calls Tryz.prog 55 #[.slice (some ⟨g,0,none⟩) n n] W fun e w'=>e = .returned (hv (shaL (catL L)))∧Below W.heap.size W w':=by
 subst hn
 obtain ⟨T,fr,hg⟩:=hg
 exact shaSum_any L g 0 L.length _ (fun j v hv=>by
  rw [Nat.zero_add]
  exact cell_of hg j (by rw [List.getElem?_toArray]; exact hv)) (fun _=>lt_of_heap hg) hF.tab hF.lt h10 hsz
def ChRel (h z:List UInt8) (n:Nat) (w:World) (g2 g4:Nat) (iv:Value) (wr:World):Prop:=
 ∃ k:Nat,k ≤ n∧iv = .int .i64 (k:Int)∧HashAt wr g2 (chainF k h)∧HashAt wr g4 z∧Below w.heap.size w wr
set_option maxHeartbeats 2000000 in
set_option maxRecDepth 100000 in
theorem chain_any (S:Nat→Addr) (n:Nat) (hn:n ≤ 255) (h:List UInt8) (hh:h.length = 32) (w:World) (hF:FW S w) :
  Calls Tryz.prog 99 #[hv h,.int .i64 (n:Int)] w fun e w'=>e = .returned (.tuple #[hv (chainF n h),.nilIface])∧Below w.heap.size w w':=by
 obtain ⟨z32,hz32,hzs⟩:=z32_ex2
 have HHL:=hid hh
 have HF:=hid hF
 have HZS:=hid hzs
 have n0:¬ (n:Int) < 0:=by omega
 have n1:¬ (255:Int) < (n:Int):=by omega
 clear hF hh hzs
 go_enter Tryz.func99,Tryz.ntmps99
 go_upto_region 1 with fail
 have h2:=HashAt.new w h HHL.out
 have hb2:=below_one w (.cells (byteCells h).toArray 23)
 have hs2:(w.alloc (.cells (byteCells h).toArray 23)).heap.size = w.heap.size + 1:=by simp
 generalize w.alloc (.cells (byteCells h).toArray 23) = w2 at *
 have h4:=HashAt.new w2 z32 HZS.out
 have hb4:=below_one w2 (.cells (byteCells z32).toArray 23)
 rw [hs2] at h4
 have H2:=hid (h2.below hb4)
 have H4:=hid h4
 have HB:=hid (hb2.trans (hb4.mono hb2.size))
 have HNE:=hid (show w.heap.size ≠ w.heap.size + 1 by omega)
 generalize w2.alloc (.cells (byteCells z32).toArray 23) = wo at *
 have HG2:=hid (Nat.le_refl w.heap.size)
 have HG4:=hid (Nat.le_succ w.heap.size)
 clear h2 hb2 hs2 h4 hb4 hz32
 go_wp2_with fail
 go_loopw [15] (fun iv wr=>ChRel h z32 n w w.heap.size (w.heap.size + 1) iv wr) (fun iv _=>n - (intOf iv).toNat)
 case atStart=>exact ⟨0,Nat.zero_le _,rfl,H2.out,H4.out,HB.out⟩
 case round=>
  obtain ⟨k,hk,rfl,h2,h4,hbel⟩:=hrel
  rename World=>wA
  have HKL:=hid (chainF_len k h HHL.out)
  have HKN:=hid (show chainF (k + 1) h = shaL (2 :: chainF k h) from rfl)
  have H2A:=hid h2
  have H4A:=hid h4
  have HBA:=hid hbel
  by_cases hlt:k < n
  ·have i1:(k:Int) < (n:Int):=by omega
   generalize chainF k h = X at *
   have c1:=conv_hash h2
   have HSM:=hid (sum_at S [⟨#[2]⟩,⟨X.toArray⟩] 2 rfl (by decide) (by rw [catL_chain,List.length_cons,HKL.out]; decide) wA (HF.out.below hbel))
   rw [catL_chain,← HKN.out] at HSM
   clear h2 h4 hbel
   go_wp2_with (go_at_call 55; refine HSM.out.mono ?_)
   first
    | rintro x wB rfl hbB
    | rintro x wB ⟨rfl,hbB⟩
   have HNL:=hid (show (chainF (k + 1) h).length = 32 by rw [HKN.out]; exact shaL_len _)
   have H2B:=hid (H2A.out.below hbB)
   have H4B:=hid (H4A.out.below hbB)
   have HBB:=hid (HBA.out.trans (hbB.mono HBA.out.size))
   clear hbB
   go_wp2_with (refine wpList_stH (by rfl) (.tmp 2) (.tmp 20) (by rfl) (by rfl) (by rfl) H2B.out HNL.out ?_)
   have H2C:=hid (H2B.out.set HNL.out)
   have H4C:=hid (H4B.out.other (byteCells (chainF (k + 1) h)).toArray (Ne.symm HNE.out))
   have HBC:=hid (below_setRow HBB.out HG2.out (byteCells (chainF (k + 1) h)).toArray)
   generalize wB.setRow w.heap.size (byteCells (chainF (k + 1) h)).toArray = wC at *
   go_wp2_with fail
   exact ⟨⟨k + 1,hlt,by go_num,H2C.out,H4C.out,HBC.out⟩,by simp [intOf]; omega⟩
  ·obtain rfl:k = n:=by omega
   have i1:¬ (k:Int) < (k:Int):=by omega
   clear h2 h4 hbel
   go_wp2_with (first | (refine wpList_ldH (by rfl) (.tmp 2) (by rfl) (by rfl) H2A.out ?_) | (refine wpList_stH (by rfl) (.tmp 4) (.tmp 22) (by rfl) (by rfl) (by rfl) H4A.out HKL.out ?_))
   have H4C:=hid (H4A.out.set HKL.out)
   have HBC:=hid (below_setRow HBA.out HG4.out (byteCells (chainF k h)).toArray)
   generalize wA.setRow (w.heap.size + 1) (byteCells (chainF k h)).toArray = wC at *
   go_wp2_with fail
   exact bodyPost_ret (results_Ht rfl rfl _ _ _ _ _ rfl rfl H4C.out) rfl ⟨rfl,HBC.out⟩
set_option maxHeartbeats 1000000 in
set_option maxRecDepth 100000 in
theorem on_any (S:Nat→Addr) (n:Nat) (hn:n ≤ 255) (h:List UInt8) (hh:h.length = 32) (w:World) (hF:FW S w) :
  Calls Tryz.prog 58 #[hv h,.int .i64 (n:Int)] w fun e w'=>e = .returned (hv (chainF n h))∧Below w.heap.size w w':=by
 obtain ⟨z32,hz32,hzs⟩:=z32_ex2
 have HHL:=hid hh
 have HZS:=hid hzs
 have HKL:=hid (chainF_len n h hh)
 go_enter Tryz.func58,Tryz.ntmps58
 go_upto_region 1 with fail
 have h2:=HashAt.new w h HHL.out
 have hb2:=below_one w (.cells (byteCells h).toArray 23)
 have hs2:(w.alloc (.cells (byteCells h).toArray 23)).heap.size = w.heap.size + 1:=by simp
 generalize w.alloc (.cells (byteCells h).toArray 23) = w2 at *
 have h4:=HashAt.new w2 z32 HZS.out
 have hb4:=below_one w2 (.cells (byteCells z32).toArray 23)
 rw [hs2] at h4
 have H2:=hid (h2.below hb4)
 have H4:=hid h4
 have HB:=hid (hb2.trans (hb4.mono hb2.size))
 have HNE:=hid (show w.heap.size ≠ w.heap.size + 1 by omega)
 generalize w2.alloc (.cells (byteCells z32).toArray 23) = wo at *
 have HG2:=hid (Nat.le_refl w.heap.size)
 have HG4:=hid (Nat.le_succ w.heap.size)
 have HCH:=hid (chain_any S n hn h hh wo (hF.below HB.out))
 clear h2 hb2 hs2 h4 hb4 hz32 hF hh hzs
 go_wp2_with (first | (refine wpList_ldH (by rfl) (.tmp 2) (by rfl) (by rfl) H2.out ?_) | (go_at_call 99; refine HCH.out.mono ?_))
 first
  | rintro x wB rfl hbB
  | rintro x wB ⟨rfl,hbB⟩
 have H2B:=hid (H2.out.below hbB)
 have H4B:=hid (H4.out.below hbB)
 have HBB:=hid (HB.out.trans (hbB.mono HB.out.size))
 clear hbB
 go_upto_region 2 with (refine wpList_stH (by rfl) (.tmp 2) (.tmp 9) (by rfl) (by rfl) (by rfl) H2B.out HKL.out ?_)
 have H2C:=hid (H2B.out.set HKL.out)
 have H4C:=hid (H4B.out.other (byteCells (chainF n h)).toArray (Ne.symm HNE.out))
 have HBC:=hid (below_setRow HBB.out HG2.out (byteCells (chainF n h)).toArray)
 generalize wB.setRow w.heap.size (byteCells (chainF n h)).toArray = wC at *
 go_wp2_with (first | (refine wpList_ldH (by rfl) (.tmp 2) (by rfl) (by rfl) H2C.out ?_) | (refine wpList_stH (by rfl) (.tmp 4) (.tmp 11) (by rfl) (by rfl) (by rfl) H4C.out HKL.out ?_))
 have H4D:=hid (H4C.out.set HKL.out)
 have HBD:=hid (below_setRow HBC.out HG4.out (byteCells (chainF n h)).toArray)
 generalize wC.setRow (w.heap.size + 1) (byteCells (chainF n h)).toArray = wD at *
 go_wp2_with fail
 exact bodyPost_ret (results_H rfl _ _ _ _ rfl H4D.out) rfl ⟨rfl,HBD.out⟩
theorem catL_leaf (s:ByteArray):catL [⟨#[0]⟩,s] = leafT (bs s):=by simp [catL,leafT,bs]
set_option maxHeartbeats 1000000 in
set_option maxRecDepth 100000 in
theorem hleaf_any (s:ByteArray) (hs:s.size ≤ 140737488355328) (w:World) (htab:TabSha w) (hgB:21 < w.heap.size) :
  Calls Tryz.prog 57 #[.string s] w fun e w'=>e = .returned (.agg (byteCells (shaL (leafT (bs s)))).toArray)∧Below w.heap.size w w':=by
 obtain ⟨z32,hz32,hzs⟩:=z32_ex
 obtain ⟨T,hT⟩:∃ T,shaL (leafT (bs s)) = T:=⟨_,rfl⟩
 have HTL:=hid (show T.length = 32 by rw [← hT]; exact shaL_len _)
 have HSM:=hid fun (W:World) (hbw:Below w.heap.size w W)=>(by
  have h:=shaSum_any [⟨#[0]⟩,s] W.heap.size 0 2 (W.alloc (.cells #[.string ⟨#[0]⟩,.string s] 9)) (fun j v hv=>by
   rw [Nat.zero_add]
   exact cell_of (heap_one W _) j (by rw [List.getElem?_toArray]; exact hv)) (fun _=>by simp) (tab_bel htab (hbw.alloc hbw.size _) hgB) (by have:=hbw.size; simp; omega) (show 2 ≤ 1000000 by decide) (by rw [catL_leaf]; simp only [leafT,bs,List.length_cons,Array.length_toList]; have:s.data.size = s.size:=rfl; omega)
  rw [catL_leaf,hT] at h
  exact h:Calls Tryz.prog 55 #[.slice (some ⟨W.heap.size,0,none⟩) 2 2] (W.alloc (.cells #[.string ⟨#[0]⟩,.string s] 9)) fun e w'=>e = .returned (.agg (byteCells T).toArray)∧Below (W.alloc (.cells #[.string ⟨#[0]⟩,.string s] 9)).heap.size (W.alloc (.cells #[.string ⟨#[0]⟩,.string s] 9)) w')
 rw [hT]
 clear hT htab hgB hs
 go_enter Tryz.func57,Tryz.ntmps57
 go_upto_region 1 with fail
 clear hz32
 have hwo:=heap_one w (.cells z32 23)
 have hbo:=below_one w (.cells z32 23)
 have hso:(w.alloc (.cells z32 23)).heap.size = w.heap.size + 1:=by simp
 generalize (w.alloc (.cells z32 23)) = wo at *
 have HWO:=hid hwo
 have HBO:=hid hbo
 have HSO:=hid hso
 have HZS:=hid hzs
 clear hwo hbo hso hzs
 go_wp2_with (go_at_call 55; refine (HSM.out wo HBO.out).mono ?_)
 first
  | rintro e wy rfl hbg
  | rintro e wy ⟨rfl,hbg⟩
 have hwy:=(below_one wo (.cells #[.string ⟨#[0]⟩,.string s] 9)).trans (hbg.mono (by simp))
 have HRW:=hid ((hwy.block w.heap.size (by have:=HSO.out; omega)).trans HWO.out)
 have HFB:=hid (HBO.out.trans (hwy.mono (by have:=HSO.out; omega)))
 clear hbg hwy
 go_wp2_with (refine wpList_store_row (by rfl) 23 (.tmp 2) (.tmp 5) (by rfl) w.heap.size (byteCells T).toArray (by rfl) (by rfl) 23 z32 HRW.out (by rw [hash_size HTL.out]; exact hashInfo) (by rw [hash_size HTL.out,HZS.out]) (byteCells_all T) ?_)
 have HRE:=hid (setRow_heap wy w.heap.size _ (byteCells T).toArray 23 (0,0) HRW.out)
 have HBR:=hid (below_setRow HFB.out (Nat.le_refl _) (byteCells T).toArray)
 generalize wy.setRow w.heap.size (byteCells T).toArray = wJ at *
 go_wp2_with fail
 exact bodyPost_ret (results_row0 rfl _ _ w.heap.size 23 _ (0,0) _ rfl HRE.out Tryz.underlying23 rfl (by rw [hash_size HTL.out]; exact hashInfo)) rfl ⟨rfl,HBR.out⟩
def icells (l:List Nat):List Value:=l.map fun n:Nat=>.int .i64 (n:Int)
theorem icells_len (l:List Nat):(icells l).length = l.length:=by simp [icells]
def NumsAt (W:World) (g:Nat) (l:List Nat):Prop:=W.heap[g]? = some (.cells (icells l).toArray 169 (0,0))
theorem NumsAt.below {w w':World} {g:Nat} {l:List Nat} (h:NumsAt w g l) (hb:Below w.heap.size w w'):NumsAt w' g l:=below_heap hb h
theorem NumsAt.cell {w:World} {g i n:Nat} {l:List Nat} (h:NumsAt w g l) (hi:l[i]? = some n):w.cell? ⟨g,i,none⟩ = some (.int .i64 (n:Int)):=cell_of h i (by simp [icells,hi])
theorem NumsAt.set {w:World} {g i n:Nat} {l:List Nat} (h:NumsAt w g l):NumsAt (w.setCell ⟨g,i,none⟩ (.int .i64 (n:Int))) g (l.set i n):=by
 unfold NumsAt at h ⊢
 unfold World.setCell
 simp [Array.getElem?_modify,h,icells]
def fillN (F:Nat→Nat) (n k:Nat):List Nat:=(List.range n).map fun i=>if i < k then F i else 0
theorem fillN_next (F:Nat→Nat) (n k:Nat):(fillN F n k).set k (F k) = fillN F n (k + 1):=by
 refine List.ext_getElem (by simp [fillN]) fun i h1 h2=>?_
 simp only [fillN,List.getElem_set,List.getElem_map,List.getElem_range]
 by_cases c:k = i
 ·subst c
  rw [if_pos rfl,if_pos (by omega)]
 ·rw [if_neg c]
  by_cases c2:i < k
  ·rw [if_pos c2,if_pos (by omega)]
  ·rw [if_neg c2,if_neg (by omega)]
theorem fillN_zero (F:Nat→Nat) (n:Nat):fillN F n 0 = List.replicate n 0:=by
 refine List.ext_getElem (by simp [fillN]) fun i h1 h2=>?_
 simp [fillN]
theorem fillN_get (F:Nat→Nat) (n k i:Nat) (h:i < n):(fillN F n k)[i]? = some (if i < k then F i else 0):=by simp [fillN,h]
def digL (m:List UInt8):List Nat:=(List.range 67).map (dig m)
abbrev digV (m:List UInt8):Value:=.agg (icells (digL m)).toArray
theorem digInfo:(Tryz.prog.info? 169).map (·.size) = some 67:=by kernel_rfl
theorem icells_one (l:List Nat):(icells l).toArray.all (·.oneCell') = true:=by
 rw [List.all_toArray,List.all_eq_true]
 intro v hv
 simp only [icells,List.mem_map] at hv
 obtain ⟨n,_,rfl⟩:=hv
 rfl
theorem zeroDigits:Tryz.zeroCells169 = (icells (List.replicate 67 0)).toArray:=by kernel_rfl
theorem hash_cell {W:World} {g i:Nat} {m:List UInt8} (h:HashAt W g m) {x:UInt8} (hx:m[i]? = some x):W.cell? ⟨g,i,none⟩ = some (.int .u8 (x.toNat:Int)):=cell_of h.1 i (by simp [byteCells,hx])
theorem HashAt.setC {w:World} {g k i:Nat} {l:List UInt8} {v:Value} (h:HashAt w g l) (hne:g ≠ k):HashAt (w.setCell ⟨k,i,none⟩ v) g l:=⟨(Below.heap_setCell w ⟨k,i,none⟩ v g hne).trans h.1,h.2⟩
theorem NumsAt.setC {w:World} {g k i:Nat} {l:List Nat} {v:Value} (h:NumsAt w g l) (hne:g ≠ k):NumsAt (w.setCell ⟨k,i,none⟩ v) g l:=(Below.heap_setCell w ⟨k,i,none⟩ v g hne).trans h
theorem u8_and15 (n:Nat) (h:n < 16):bits .and .u8 (n:Int) 15 = (n:Int):=by
 have:=u8and n 4 (by omega) (by decide)
 rw [show ((2 ^ 4 - 1:Nat):Int) = 15 from rfl] at this
 rw [this,Nat.mod_eq_of_lt (by omega)]
def tailN (m:List UInt8) (i:Nat):List Nat:=(List.range 67).map fun j=>if j < 64 ∨ 67 ≤ j + i then dig m j else 0
theorem tailN_zero (m:List UInt8):tailN m 0 = fillN (dig m) 67 64:=by
 refine List.map_congr_left fun j hj=>?_
 have:=List.mem_range.1 hj
 by_cases c:j < 64
 ·rw [if_pos (Or.inl c),if_pos c]
 ·rw [if_neg (by omega),if_neg c]
theorem tailN_three (m:List UInt8):tailN m 3 = digL m:=by
 refine List.map_congr_left fun j _=>?_
 rw [if_pos (by omega)]
theorem tailN_next (m:List UInt8) (i p:Nat) (_:i < 3) (hp:p + i = 66):(tailN m i).set p (dig m p) = tailN m (i + 1):=by
 refine List.ext_getElem (by simp [tailN]) fun j h1 h2=>?_
 simp only [tailN,List.getElem_set,List.getElem_map,List.getElem_range]
 have hj:j < 67:=by simpa [tailN] using h2
 by_cases c:p = j
 ·subst c
  rw [if_pos rfl,if_pos (by omega)]
 ·rw [if_neg c]
  by_cases c2:j < 64 ∨ 67 ≤ j + i
  ·rw [if_pos c2,if_pos (by omega)]
  ·rw [if_neg c2,if_neg (by omega)]
theorem tailN_get (m:List UInt8) (i p:Nat) (hp:p < 67):∃ n,(tailN m i)[p]? = some n:=⟨_,List.getElem?_eq_getElem (by simpa [tailN] using hp)⟩
def TlRel (m:List UInt8) (w:World) (iv:Value) (wr:World):Prop:=
 ∃ i:Nat,i ≤ 3∧iv = .int .i64 (i:Int)∧NumsAt wr (w.heap.size + 1) (List.replicate 67 0)∧NumsAt wr (w.heap.size + 1 + 1) (tailN m i)∧Below w.heap.size w wr
def RdRel (m:List UInt8) (w:World) (sv iv:Value) (wr:World):Prop:=
 ∃ k:Nat,k ≤ 64∧iv = .int .i64 (k:Int)∧sv = .int .i64 (nibSum m k:Int)∧HashAt wr w.heap.size m∧NumsAt wr (w.heap.size + 1) (List.replicate 67 0)∧NumsAt wr (w.heap.size + 1 + 1) (fillN (dig m) 67 k)∧Below w.heap.size w wr
set_option maxHeartbeats 2000000 in
set_option maxRecDepth 100000 in
theorem read_any (m:List UInt8) (hm:m.length = 32) (w:World) :
  Calls Tryz.prog 94 #[hv m] w fun e w'=>e = .returned (digV m)∧Below w.heap.size w w':=by
 have HML:=hid hm
 clear hm
 go_enter Tryz.func94,Tryz.ntmps94
 go_upto_region 2 with fail
 have hz:=zeroDigits
 have h1:=HashAt.new w m HML.out
 have hb1:=below_one w (.cells (byteCells m).toArray 23)
 have hs1:(w.alloc (.cells (byteCells m).toArray 23)).heap.size = w.heap.size + 1:=by simp
 generalize w.alloc (.cells (byteCells m).toArray 23) = w1 at *
 rw [hz]
 have h2:NumsAt (w1.alloc (.cells (icells (List.replicate 67 0)).toArray 169)) w1.heap.size (List.replicate 67 0):=heap_one w1 _
 have hb2:=below_one w1 (.cells (icells (List.replicate 67 0)).toArray 169)
 have hs2:(w1.alloc (.cells (icells (List.replicate 67 0)).toArray 169)).heap.size = w.heap.size + 1 + 1:=by simp [hs1]
 generalize w1.alloc (.cells (icells (List.replicate 67 0)).toArray 169) = w2 at *
 have h3:NumsAt (w2.alloc (.cells (icells (List.replicate 67 0)).toArray 169)) w2.heap.size (List.replicate 67 0):=heap_one w2 _
 have hb3:=below_one w2 (.cells (icells (List.replicate 67 0)).toArray 169)
 rw [hs1] at h2
 rw [hs2] at h3
 have H1:=hid ((h1.below hb2).below hb3)
 have H2:=hid (h2.below hb3)
 have H3:=hid (show NumsAt (w2.alloc (.cells (icells (List.replicate 67 0)).toArray 169)) (w.heap.size + 1 + 1) (fillN (dig m) 67 0) by rw [fillN_zero]; exact h3)
 have HB:=hid ((hb1.trans (hb2.mono hb1.size)).trans (hb3.mono (by rw [hs2]; omega)))
 generalize w2.alloc (.cells (icells (List.replicate 67 0)).toArray 169) = wo at *
 clear h1 hb1 hs1 h2 hb2 hs2 h3 hb3 hz
 go_wp2_with fail
 go_loopw [4,7] (fun sv iv wr=>RdRel m w sv iv wr) (fun _ iv _=>64 - (intOf iv).toNat)
 case atStart=>exact ⟨0,by omega,rfl,rfl,H1.out,H2.out,H3.out,HB.out⟩
 case round=>
  obtain ⟨k,hk,rfl,rfl,h1,h2,h3,hbel⟩:=hrel
  rename World=>wA
  have HA1:=hid h1
  have HA2:=hid h2
  have HA3:=hid h3
  have HAB:=hid hbel
  have hsl:=nibSum_le m k
  have HSN:=hid (show nibSum m (k + 1) = nibSum m k + (15 - nib m k) from rfl)
  by_cases hlt:k < 64
  ·have i1:(k:Int) < 64:=by omega
   have i0:(0:Int) ≤ (k:Int):=by omega
   obtain ⟨x,hx⟩:∃ x,m[k / 2]? = some x:=⟨_,List.getElem?_eq_getElem (by rw [HML.out]; omega)⟩
   have c1:=hash_cell h1 hx
   have HX:=hid hx
   obtain ⟨q,hq⟩:∃ q,k / 2 = q:=⟨_,rfl⟩
   rw [hq] at c1
   have q1:(k:Int) / 2 = (q:Int):=by omega
   have q2:(0:Int) ≤ (q:Int):=by omega
   have q3:(q:Int) < 32:=by omega
   have c3:=h3.cell (fillN_get (dig m) 67 k k (by omega))
   rw [if_neg (Nat.lt_irrefl k)] at c3
   have f3:=frozen_row h3 k
   obtain ⟨d,hd⟩:∃ d,nib m k = d:=⟨_,rfl⟩
   have HDG:=hid (show dig m k = d by unfold dig; rw [if_pos hlt,hd])
   have hd15:d ≤ 15:=by rw [← hd]; exact nib_le m k
   have d0:(0:Int) ≤ (d:Int):=by omega
   have d1:(d:Int) ≤ 15:=by omega
   rw [hd] at HSN
   have HSD:=hid (show ((nibSum m k:Nat):Int) + (15 - (d:Int)) = ((nibSum m (k + 1):Nat):Int) by rw [HSN.out]; omega)
   have hs1:(nibSum m k:Int) ≤ 960:=by omega
   have hxb:=x.toNat_lt
   have HXG:=hid (show m.getD (k / 2) 0 = x by rw [List.getD_eq_getElem?_getD,hx]; rfl)
   have HNB:=hid hd
   clear h1 h2 h3 hbel hx hd hsl
   generalize nibSum m k = sm at *
   rcases (show k % 2 = 0 ∨ k % 2 = 1 by omega) with he | he
   ·have m1:(k:Int) % 2 = 0:=by omega
    have b1:bits .and .u8 ((x.toNat:Int) / 16) 15 = (d:Int):=by
     have h:=HNB.out
     unfold nib at h
     rw [if_pos he,HXG.out] at h
     have h2:=u8_and15 (x.toNat / 16) (by omega)
     rw [Int.natCast_ediv] at h2
     rw [← h]
     exact h2
    clear hq he hk hxb hd15
    go_wp2_with fail
    exact ⟨⟨k + 1,hlt,by go_num,by rw [HSD.out],HA1.out.setC (by omega),HA2.out.setC (by omega),by rw [← fillN_next,HDG.out]; exact HA3.out.set,HAB.out.setCell (p:=⟨w.heap.size + 1 + 1,k,none⟩) (by simp; omega) _⟩,by simp [intOf]; omega⟩
   ·have m1:(k:Int) % 2 = 1:=by omega
    have b1:bits .and .u8 (x.toNat:Int) 15 = (d:Int):=by
     have h:=HNB.out
     unfold nib at h
     rw [if_neg (by omega),HXG.out] at h
     rw [u8_m15,← h]
     omega
    clear hq he hk hxb hd15
    go_wp2_with fail
    exact ⟨⟨k + 1,hlt,by go_num,by rw [HSD.out],HA1.out.setC (by omega),HA2.out.setC (by omega),by rw [← fillN_next,HDG.out]; exact HA3.out.set,HAB.out.setCell (p:=⟨w.heap.size + 1 + 1,k,none⟩) (by simp; omega) _⟩,by simp [intOf]; omega⟩
  ·obtain rfl:k = 64:=by omega
   have i1:¬ ((64:Nat):Int) < 64:=by omega
   have HA3:=hid (show NumsAt wA (w.heap.size + 1 + 1) (tailN m 0) by rw [tailN_zero]; exact HA3.out)
   obtain ⟨sm,hsm⟩:∃ sm,nibSum m 64 = sm:=⟨_,rfl⟩
   rw [hsm] at hsl ⊢
   have HSM:=hid hsm
   have s0:(0:Int) ≤ (sm:Int):=by omega
   have s1:(sm:Int) ≤ 960:=by omega
   clear h1 h2 h3 hbel hk hlt hsm hsl HSN HA1
   go_wp2_with fail
   go_loopw [30] (fun iv wr=>TlRel m w iv wr) (fun iv _=>3 - (intOf iv).toNat)
   case atStart=>exact ⟨0,by omega,rfl,HA2.out,HA3.out,HAB.out⟩
   case round=>
    obtain ⟨i,hi,rfl,h2,h3,hbel⟩:=hrel
    rename World=>wC
    have HC2:=hid h2
    have HC3:=hid h3
    have HCB:=hid hbel
    by_cases hlt:i < 3
    ·obtain ⟨p,hp⟩:∃ p,p + i = 66:=⟨66 - i,by omega⟩
     obtain ⟨n0,hn0⟩:=tailN_get m i p (by omega)
     have c3:=h3.cell hn0
     have f3:=frozen_row h3 p
     have HDG:=hid (show dig m p = sm / 16 ^ i % 16 by unfold dig; rw [if_neg (by omega),HSM.out,show 66 - p = i by omega])
     have HTN:=hid (tailN_next m i p hlt hp)
     have HP:=hid (show p ≠ w.heap.size + 1 + 1 ∨ True from Or.inr trivial)
     clear h2 h3 hbel hn0 HP
     rcases (show i = 0 ∨ i = 1 ∨ i = 2 by omega) with rfl | rfl | rfl
     ·obtain rfl:p = 66:=by omega
      have b1:bits .and .i64 (sm:Int) 15 = ((dig m 66:Nat):Int):=by rw [and15_i64 sm (by omega),HDG.out]; omega
      clear hp hlt hi HDG
      go_wp2_with fail
      exact ⟨⟨1,by omega,by go_num,HC2.out.setC (by omega),by rw [← HTN.out]; exact HC3.out.set,HCB.out.setCell (p:=⟨w.heap.size + 1 + 1,66,none⟩) (by simp; omega) _⟩,by simp [intOf]⟩
     ·obtain rfl:p = 65:=by omega
      have b1:bits .and .i64 ((sm:Int) / 16) 15 = ((dig m 65:Nat):Int):=by
       have h:=and15_i64 (sm / 16) (by omega)
       rw [Int.natCast_ediv] at h
       rw [show ((sm:Int) / 16) = (sm:Int) / ((16:Nat):Int) from rfl,h,HDG.out]
       omega
      clear hp hlt hi HDG
      go_wp2_with fail
      exact ⟨⟨2,by omega,by go_num,HC2.out.setC (by omega),by rw [← HTN.out]; exact HC3.out.set,HCB.out.setCell (p:=⟨w.heap.size + 1 + 1,65,none⟩) (by simp; omega) _⟩,by simp [intOf]⟩
     ·obtain rfl:p = 64:=by omega
      have b1:bits .and .i64 ((sm:Int) / 256) 15 = ((dig m 64:Nat):Int):=by
       have h:=and15_i64 (sm / 256) (by omega)
       rw [Int.natCast_ediv] at h
       rw [show ((sm:Int) / 256) = (sm:Int) / ((256:Nat):Int) from rfl,h,HDG.out]
       omega
      clear hp hlt hi HDG
      go_wp2_with fail
      exact ⟨⟨3,by omega,by go_num,HC2.out.setC (by omega),by rw [← HTN.out]; exact HC3.out.set,HCB.out.setCell (p:=⟨w.heap.size + 1 + 1,64,none⟩) (by simp; omega) _⟩,by simp [intOf]⟩
    ·obtain rfl:i = 3:=by omega
     have HC3:=hid (show NumsAt wC (w.heap.size + 1 + 1) (digL m) by rw [← tailN_three]; exact HC3.out)
     clear h2 h3 hbel hlt hi
     have hsz:(icells (digL m)).toArray.size = 67:=by rw [List.size_toArray,icells_len]; simp [digL]
     go_wp2_with (first | (refine wpList_load_row (by rfl) 169 (.tmp 3) (by rfl) (w.heap.size + 1 + 1) (by rfl) 169 (icells (digL m)).toArray (0,0) _ HC3.out Tryz.underlying169 rfl (by rw [hsz]; exact digInfo) ?_) | (refine wpList_store_row (by rfl) 169 (.tmp 2) (.tmp 42) (by rfl) (w.heap.size + 1) (icells (digL m)).toArray (by rfl) (by rfl) 169 (icells (List.replicate 67 0)).toArray HC2.out (by rw [hsz]; exact digInfo) (by rw [hsz,List.size_toArray,icells_len,List.length_replicate]) (icells_one _) ?_))
     have H2D:=hid (setRow_heap wC (w.heap.size + 1) _ (icells (digL m)).toArray 169 (0,0) HC2.out)
     have HBD:=hid (below_setRow HCB.out (Nat.le_succ _) (icells (digL m)).toArray)
     generalize wC.setRow (w.heap.size + 1) (icells (digL m)).toArray = wD at *
     go_wp2_with fail
     exact bodyPost_ret (results_row0 rfl _ _ (w.heap.size + 1) 169 _ (0,0) _ rfl H2D.out Tryz.underlying169 rfl (by rw [hsz]; exact digInfo)) rfl ⟨rfl,HBD.out⟩
set_option maxHeartbeats 2000000 in
set_option maxRecDepth 100000 in
theorem begin_any (S:Nat→Addr) (i:Nat) (hi:i < 67) (s:List UInt8) (hs:s.length = 32) (w:World) (hF:FW S w) :
  Calls Tryz.prog 59 #[hv s,.int .i64 (i:Int)] w fun e w'=>e = .returned (hv (beginF s i))∧Below w.heap.size w w':=by
 obtain ⟨z32,hz32,hzs⟩:=z32_ex2
 have HSL:=hid hs
 have HF:=hid hF
 have HZS:=hid hzs
 have i0:(0:Int) ≤ (i:Int):=by omega
 have i1:(i:Int) / 256 = 0:=by omega
 have i2:(i:Int) < 256:=by omega
 have w1:IntKind.u8.wrap (i:Int) = (i:Int):=by rw [IntKind.wrap_u8]; omega
 have w0:IntKind.u8.wrap 0 = 0:=by rw [IntKind.wrap_u8]; rfl
 clear hF hs hzs
 go_enter Tryz.func59,Tryz.ntmps59
 go_upto_region 1 with fail
 have h2:=HashAt.new w s HSL.out
 have hb2:=below_one w (.cells (byteCells s).toArray 23)
 have hs2:(w.alloc (.cells (byteCells s).toArray 23)).heap.size = w.heap.size + 1:=by simp
 generalize w.alloc (.cells (byteCells s).toArray 23) = w2 at *
 have h4:=HashAt.new w2 z32 HZS.out
 have hb4:=below_one w2 (.cells (byteCells z32).toArray 23)
 rw [hs2] at h4
 have H2:=hid (h2.below hb4)
 have H4:=hid h4
 have HB:=hid (hb2.trans (hb4.mono hb2.size))
 have HNE:=hid (show w.heap.size ≠ w.heap.size + 1 by omega)
 generalize w2.alloc (.cells (byteCells z32).toArray 23) = wo at *
 have HG4:=hid (Nat.le_succ w.heap.size)
 clear h2 hb2 hs2 h4 hb4 hz32
 have hbe:be2 i = [0,UInt8.ofNat i]:=by unfold be2; rw [show i / 256 = 0 by omega]; rfl
 have hcs:byteCells [0,UInt8.ofNat i] = [.int .u8 0,.int .u8 (i:Int)]:=by
  simp [byteCells]
  omega
 have hc2:(convert 117 9 (.slice (some ⟨wo.heap.size,0,none⟩) 2 2)).run Tryz.prog (wo.alloc (.cells #[.int .u8 0,.int .u8 (i:Int)] 5)).drew = .ok (.string ⟨#[0,UInt8.ofNat i]⟩) (wo.alloc (.cells #[.int .u8 0,.int .u8 (i:Int)] 5)).drew:=by
  refine conv_range (l:=[0,UInt8.ofNat i]) 2 fun j v hv=>?_
  rw [hcs] at hv
  rw [Nat.zero_add]
  exact cell_of (below_heap (below_drewN (Below.refl (wo.alloc (.cells #[.int .u8 0,.int .u8 (i:Int)] 5)).heap.size _) 1) (heap_one wo _)) j (by rw [List.getElem?_toArray]; exact hv)
 have HS:=hid fun (W:World) (hb:Below wo.heap.size wo W)=>(⟨HB.out.trans (hb.mono HB.out.size),conv_hash (H2.out.below hb),(H4.out.below hb).there⟩:Below w.heap.size w W∧(convert 117 9 (.slice (some ⟨w.heap.size,0,none⟩) 32 32)).run Tryz.prog W = .ok (.string ⟨s.toArray⟩) W∧W.there (w.heap.size + 1) 0 32)
 have hbS:Below wo.heap.size wo ((wo.alloc (.cells #[.int .u8 0,.int .u8 (i:Int)] 5)).alloc (.cells #[.string ⟨#[3]⟩,.string ⟨s.toArray⟩,.string ⟨#[0,UInt8.ofNat i]⟩] 9)).drew:=((below_one wo _).alloc (by simp) _).drew
 have HSM:=hid ((sum_in S [⟨#[3]⟩,⟨s.toArray⟩,⟨#[0,UInt8.ofNat i]⟩] 3 (wo.heap.size + 1) rfl (by decide) (by simp [catL,HSL.out]) ((wo.alloc (.cells #[.int .u8 0,.int .u8 (i:Int)] 5)).alloc (.cells #[.string ⟨#[3]⟩,.string ⟨s.toArray⟩,.string ⟨#[0,UInt8.ofNat i]⟩] 9)).drew (HF.out.below (HB.out.trans (hbS.mono HB.out.size)))
  ⟨_,_,by
   have h:=heap_one (wo.alloc (.cells #[.int .u8 0,.int .u8 (i:Int)] 5)) (.cells #[.string ⟨#[3]⟩,.string ⟨s.toArray⟩,.string ⟨#[0,UInt8.ofNat i]⟩] 9)
   rw [show (wo.alloc (.cells #[.int .u8 0,.int .u8 (i:Int)] 5)).heap.size = wo.heap.size + 1 by simp] at h
   exact h⟩).mono fun e w' ⟨he,hb⟩=>(⟨he,hbS.trans (hb.mono hbS.size)⟩:_∧Below wo.heap.size wo w'))
 have HBG:=hid (show shaL (catL [⟨#[3]⟩,⟨s.toArray⟩,⟨#[0,UInt8.ofNat i]⟩]) = beginF s i by rw [beginF,hbe]; simp [catL])
 rw [HBG.out] at HSM
 have HBL:=hid (beginF_len s i)
 have HT:=hid fun (W:World) (hb:Below wo.heap.size wo W)=>(⟨below_setCellsN HG4.out _ _ _ (HB.out.trans (hb.mono HB.out.size)),conv_hash ((H2.out.below hb).otherC HNE.out),World.there_setCells (H4.out.below hb).there _ _ _⟩:Below w.heap.size w (W.setCells (w.heap.size + 1) 0 (byteCells (beginF s i)))∧(convert 117 9 (.slice (some ⟨w.heap.size,0,none⟩) 32 32)).run Tryz.prog (W.setCells (w.heap.size + 1) 0 (byteCells (beginF s i))) = .ok (.string ⟨s.toArray⟩) (W.setCells (w.heap.size + 1) 0 (byteCells (beginF s i)))∧(W.setCells (w.heap.size + 1) 0 (byteCells (beginF s i))).there (w.heap.size + 1) 0 32)
 clear hbe hcs hbS
 refine wp_region_held_drew (S:=(fun W'=>Below w.heap.size w W'∧(convert 117 9 (.slice (some ⟨w.heap.size,0,none⟩) 32 32)).run Tryz.prog W' = .ok (.string ⟨s.toArray⟩) W'∧W'.there (w.heap.size + 1) 0 32)) (by kernel_rfl) (HS.out _ (below_drewN (Below.refl _ _) 1)) (fun hHeld=>?_)
 refine wpAnyH_take (i:=0) (v:=.slice (some ⟨w.heap.size,0,none⟩) 32 32) rfl (by kernel_rfl) (by kernel_rfl) (by kernel_rfl) (fun _ _ _ h=>h) (Or.inl ⟨by rfl,fun w hSw=>?_⟩) hHeld ?_
 ·obtain ⟨_,s1,_⟩:=hSw
  go_simp
 simp only [List.getElem_toArray,List.getElem_cons_zero,Act.put,List.setIfInBounds_toArray,List.set_cons_zero,List.set_cons_succ]
 refine wpAnyH_take (i:=1) (v:=.string ⟨s.toArray⟩) rfl (by kernel_rfl) (by kernel_rfl) (by kernel_rfl) (fun _ _ _ h=>h) (Or.inl ⟨by rfl,fun w hSw=>?_⟩) hHeld ?_
 ·obtain ⟨_,s1,_⟩:=hSw
  go_simp
 simp only [List.getElem_toArray,List.getElem_cons_succ,List.getElem_cons_zero,Act.put,List.setIfInBounds_toArray,List.set_cons_zero,List.set_cons_succ]
 refine wpAnyH_take (i:=2) (v:=.int .i64 (i:Int)) rfl (by kernel_rfl) (by kernel_rfl) (by kernel_rfl) (fun _ _ _ h=>h) (Or.inl ⟨by rfl,fun w hSw=>?_⟩) hHeld ?_
 ·obtain ⟨_,s1,_⟩:=hSw
  go_simp
 simp only [List.getElem_toArray,List.getElem_cons_succ,List.getElem_cons_zero,Act.put,List.setIfInBounds_toArray,List.set_cons_zero,List.set_cons_succ]
 refine wpAnyH_take (i:=3) (v:=.int .i64 0) rfl (by kernel_rfl) (by kernel_rfl) (by kernel_rfl) (fun _ _ _ h=>h) (Or.inl ⟨by rfl,fun w hSw=>?_⟩) hHeld ?_
 ·obtain ⟨_,s1,_⟩:=hSw
  go_simp
 simp only [List.getElem_toArray,List.getElem_cons_succ,List.getElem_cons_zero,Act.put,List.setIfInBounds_toArray,List.set_cons_zero,List.set_cons_succ]
 refine wpAnyH_take (i:=4) (v:=.int .u8 0) rfl (by kernel_rfl) (by kernel_rfl) (by kernel_rfl) (fun _ _ _ h=>h) (Or.inl ⟨by rfl,fun w hSw=>?_⟩) hHeld ?_
 ·obtain ⟨_,s1,_⟩:=hSw
  go_simp
 simp only [List.getElem_toArray,List.getElem_cons_succ,List.getElem_cons_zero,Act.put,List.setIfInBounds_toArray,List.set_cons_zero,List.set_cons_succ]
 refine wpAnyH_take (i:=5) (v:=.int .i64 (i:Int)) rfl (by kernel_rfl) (by kernel_rfl) (by kernel_rfl) (fun _ _ _ h=>h) (Or.inl ⟨by rfl,fun w hSw=>?_⟩) hHeld ?_
 ·obtain ⟨_,s1,_⟩:=hSw
  go_simp
 simp only [List.getElem_toArray,List.getElem_cons_succ,List.getElem_cons_zero,Act.put,List.setIfInBounds_toArray,List.set_cons_zero,List.set_cons_succ]
 refine wpAnyH_take (i:=6) (v:=.int .u8 (i:Int)) rfl (by kernel_rfl) (by kernel_rfl) (by kernel_rfl) (fun _ _ _ h=>h) (Or.inl ⟨by rfl,fun w hSw=>?_⟩) hHeld ?_
 ·obtain ⟨_,s1,_⟩:=hSw
  go_simp
 simp only [List.getElem_toArray,List.getElem_cons_succ,List.getElem_cons_zero,Act.put,List.setIfInBounds_toArray,List.set_cons_zero,List.set_cons_succ]
 refine wpAnyH_ready (rs:=[7]) (by kernel_rfl) (by simp) ?_
 refine AllReadyH.cons rfl (fun K hK=>?_) AllReadyH.nil
 go_simp
 refine hK.out _ _ (HS.out _ (below_one wo _).drew) (fun hHeld=>?_)
 clear hK K
 refine wpAnyH_ready (rs:=[8]) (by kernel_rfl) (by simp) ?_
 refine AllReadyH.cons rfl (fun K hK=>?_) AllReadyH.nil
 go_simp
 refine hK.out _ _ (HS.out _ (below_one wo _).drew) (fun hHeld=>?_)
 clear hK K
 refine wpAnyH_ready (rs:=[9]) (by kernel_rfl) (by simp) ?_
 refine AllReadyH.cons rfl (fun K hK=>?_) AllReadyH.nil
 go_simp
 refine hK.out _ _ (HS.out _ ((below_one wo _).alloc (by simp) _).drew) (fun hHeld=>?_)
 clear hK K
 refine wpAnyH_ready (rs:=[10]) (by kernel_rfl) (by simp) ?_
 refine AllReadyH.cons rfl (fun K hK=>?_) AllReadyH.nil
 go_simp
 refine HSM.out.mono ?_
 rintro e wy ⟨rfl,hb⟩
 go_wp2_with fail
 refine hK.out _ _ (HS.out _ hb) (fun hHeld=>?_)
 clear hK K
 refine wpAnyH_ready (rs:=[11]) (by kernel_rfl) (by simp) ?_
 refine AllReadyH.cons rfl (fun K hK=>?_) AllReadyH.nil
 refine wp_store_mid 23 (.tmp 4) (.tmp 15) (by rfl) (w.heap.size + 1) 0 (byteCells (beginF s i)).toArray (by rfl) (by rfl) (show wy.there (w.heap.size + 1) 0 (byteCells (beginF s i)).toArray.size by rw [hash_size HBL.out]; exact (H4.out.below hb).there) (by rw [hash_size HBL.out]; exact hashInfo) (byteCells_all _) ?_
 refine hK.out _ _ (HT.out _ hb) (fun hHeld=>?_)
 clear hK K
 refine wpAnyH_done (by kernel_rfl) ?_ _
 have HE:=hid ((H4.out.below hb).set HBL.out)
 have HBE:=hid (below_setRow (HB.out.trans (hb.mono HB.out.size)) HG4.out (byteCells (beginF s i)).toArray)
 rw [(H4.out.below hb).setCells HBL.out]
 generalize wy.setRow (w.heap.size + 1) (byteCells (beginF s i)).toArray = wJ at *
 go_wp2_with fail
 exact bodyPost_ret (results_H rfl _ _ _ _ rfl HE.out) rfl ⟨rfl,HBE.out⟩
theorem be4_small (i:Nat) (h:i < 256):be4 i = [0,0,0,UInt8.ofNat i]:=by
 unfold be4
 rw [show i / 16777216 = 0 by omega,show i / 65536 = 0 by omega,show i / 256 = 0 by omega]
 rfl
set_option maxHeartbeats 1000000 in
set_option maxRecDepth 100000 in
theorem four_any (i:Nat) (hi:i < 256) (w:World) :
  Calls Tryz.prog 56 #[.int .i64 (i:Int)] w fun e w'=>e = .returned (.string ⟨(be4 i).toArray⟩)∧Below w.heap.size w w':=by
 have i0:(0:Int) ≤ (i:Int):=by omega
 have i1:(i:Int) / 256 = 0:=by omega
 have i2:(i:Int) / 65536 = 0:=by omega
 have i3:(i:Int) / 16777216 = 0:=by omega
 have w1:IntKind.u8.wrap (i:Int) = (i:Int):=by rw [IntKind.wrap_u8]; omega
 have w0:IntKind.u8.wrap 0 = 0:=by rw [IntKind.wrap_u8]; rfl
 have hcs:byteCells [0,0,0,UInt8.ofNat i] = [.int .u8 0,.int .u8 0,.int .u8 0,.int .u8 (i:Int)]:=by
  simp [byteCells]
  omega
 have hc2:(convert 117 9 (.slice (some ⟨w.heap.size,0,none⟩) 4 4)).run Tryz.prog (w.alloc (.cells #[.int .u8 0,.int .u8 0,.int .u8 0,.int .u8 (i:Int)] 5)) = .ok (.string ⟨#[0,0,0,UInt8.ofNat i]⟩) (w.alloc (.cells #[.int .u8 0,.int .u8 0,.int .u8 0,.int .u8 (i:Int)] 5)):=by
  refine conv_range (l:=[0,0,0,UInt8.ofNat i]) 4 fun j v hv=>?_
  rw [hcs] at hv
  rw [Nat.zero_add]
  exact cell_of (heap_one w _) j (by rw [List.getElem?_toArray]; exact hv)
 have HBE:=hid (be4_small i hi)
 clear hcs hi
 go_enter Tryz.func56,Tryz.ntmps56
 go_wp2_with fail
 go_ret
 exact ⟨by rw [HBE.out]; rfl,below_one w _⟩
set_option maxHeartbeats 1000000 in
set_option maxRecDepth 100000 in
theorem kleaf_any (S:Nat→Addr) (p:List UInt8) (hp:p.length = 32) (w:World) (hF:FW S w) :
  Calls Tryz.prog 25 #[hv p] w fun e w'=>e = .returned (hv (shaL (0 :: p)))∧Below w.heap.size w w':=by
 obtain ⟨z32,hz32,hzs⟩:=z32_ex2
 have HPL:=hid hp
 have HZS:=hid hzs
 have HF:=hid hF
 clear hF hp hzs
 go_enter Tryz.func25,Tryz.ntmps25
 go_upto_region 1 with fail
 have h1:=HashAt.new w p HPL.out
 have hb1:=below_one w (.cells (byteCells p).toArray 23)
 have hs1:(w.alloc (.cells (byteCells p).toArray 23)).heap.size = w.heap.size + 1:=by simp
 generalize w.alloc (.cells (byteCells p).toArray 23) = w1 at *
 have h2:=HashAt.new w1 z32 HZS.out
 have hb2:=below_one w1 (.cells (byteCells z32).toArray 23)
 rw [hs1] at h2
 have H1:=hid (h1.below hb2)
 have H2:=hid h2
 have HB:=hid (hb1.trans (hb2.mono hb1.size))
 generalize w1.alloc (.cells (byteCells z32).toArray 23) = wo at *
 clear h1 hb1 hs1 h2 hb2 hz32
 have c1:=conv_hash H1.out
 have HLF:=hid (hleaf_any ⟨p.toArray⟩ (by show p.toArray.size ≤ _; rw [List.size_toArray,HPL.out]; decide) wo (HF.out.below HB.out).tab (HF.out.below HB.out).lt)
 have HE:=hid (show shaL (leafT (bs ⟨p.toArray⟩)) = shaL (0 :: p) from rfl)
 rw [HE.out] at HLF
 have HNL:=hid (show (shaL (0 :: p)).length = 32 from shaL_len _)
 obtain ⟨X,hX⟩:∃ X,shaL (0 :: p) = X:=⟨_,rfl⟩
 rw [hX] at HLF HNL
 have HX:=hid hX
 clear hX
 go_wp2_with (go_at_call 57; refine HLF.out.mono ?_)
 first
  | rintro x wB rfl hbB
  | rintro x wB ⟨rfl,hbB⟩
 have HB2:=hid (H2.out.below hbB)
 have HBB:=hid (HB.out.trans (hbB.mono HB.out.size))
 clear hbB
 go_wp2_with (refine wpList_stH (by rfl) (.tmp 2) (.tmp 5) (by rfl) (by rfl) (by rfl) HB2.out HNL.out ?_)
 have HC2:=hid (HB2.out.set HNL.out)
 have HCB:=hid (below_setRow HBB.out (Nat.le_succ _) (byteCells X).toArray)
 generalize wB.setRow (w.heap.size + 1) (byteCells X).toArray = wC at *
 go_wp2_with fail
 exact bodyPost_ret (results_H rfl _ _ _ _ rfl HC2.out) rfl ⟨by rw [HX.out],HCB.out⟩
theorem catL_three (a:UInt8) (b c:List UInt8):catL [⟨#[a]⟩,⟨b.toArray⟩,⟨c.toArray⟩] = a :: (b ++ c):=by simp [catL]
set_option maxHeartbeats 1000000 in
set_option maxRecDepth 100000 in
theorem message_any (S:Nat→Addr) (i:Nat) (hi:i < 256) (t:List UInt8) (ht:t.length ≤ 4611686018427386000) (w:World) (hF:FW S w) :
  Calls Tryz.prog 51 #[.int .i64 (i:Int),.string ⟨t.toArray⟩] w fun e w'=>e = .returned (hv (msgF i t))∧Below w.heap.size w w':=by
 obtain ⟨z32,hz32,hzs⟩:=z32_ex2
 have HZS:=hid hzs
 have HF:=hid hF
 have HT:=hid ht
 clear hF ht hzs
 go_enter Tryz.func51,Tryz.ntmps51
 go_upto_region 1 with fail
 have H4:=hid (HashAt.new w z32 HZS.out)
 have HB:=hid (below_one w (.cells (byteCells z32).toArray 23))
 generalize w.alloc (.cells (byteCells z32).toArray 23) = wo at *
 clear hz32
 have HFO:=hid (four_any i hi wo)
 have HB4:=hid (show (be4 i).length = 4 from rfl)
 have HME:=hid (show shaL (6 :: (be4 i ++ t)) = msgF i t from rfl)
 generalize be4 i = f at *
 go_wp2_with (go_at_call 56; refine HFO.out.mono ?_)
 first
  | rintro x wB rfl hbB
  | rintro x wB ⟨rfl,hbB⟩
 have H4B:=hid (H4.out.below hbB)
 have HBB:=hid (HB.out.trans (hbB.mono HB.out.size))
 clear hbB
 have HSM:=hid (sum_at S [⟨#[6]⟩,⟨f.toArray⟩,⟨t.toArray⟩] 3 rfl (by decide) (by rw [catL_three,List.length_cons,List.length_append,HB4.out]; have:=HT.out; omega) wB (HF.out.below HBB.out))
 rw [catL_three,HME.out] at HSM
 have HNL:=hid (show (msgF i t).length = 32 from shaL_len _)
 obtain ⟨X,hX⟩:∃ X,msgF i t = X:=⟨_,rfl⟩
 rw [hX] at HSM HNL
 have HX:=hid hX
 clear hX
 go_wp2_with (go_at_call 55; refine HSM.out.mono ?_)
 first
  | rintro x wC rfl hbC
  | rintro x wC ⟨rfl,hbC⟩
 have H4C:=hid (H4B.out.below hbC)
 have HBC:=hid (HBB.out.trans (hbC.mono HBB.out.size))
 clear hbC
 go_wp2_with (refine wpList_stH (by rfl) (.tmp 4) (.tmp 9) (by rfl) (by rfl) (by rfl) H4C.out HNL.out ?_)
 have H4D:=hid (H4C.out.set HNL.out)
 have HBD:=hid (below_setRow HBC.out (Nat.le_refl _) (byteCells X).toArray)
 generalize wC.setRow w.heap.size (byteCells X).toArray = wD at *
 go_wp2_with fail
 exact bodyPost_ret (results_H rfl _ _ _ _ rfl H4D.out) rfl ⟨by rw [HX.out],HBD.out⟩
end Go.Proofs.YticlgcfodlcpcaaGreatDoor
