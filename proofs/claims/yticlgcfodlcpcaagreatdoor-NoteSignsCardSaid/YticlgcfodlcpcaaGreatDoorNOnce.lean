/- onetime. -/
import Derived.Test.YticlgcfodlcpcaaGreatDoorNKey1
namespace Go.Proofs.YticlgcfodlcpcaaGreatDoor
open Go.Lib (hid byteCells)
open Go.RowKit
theorem flat_len32:∀ (L:List (List UInt8)),(∀ x ∈ L,x.length = 32)→L.flatten.length = 32 * L.length
 | [],_=>rfl
 | x :: r,h=>by
  rw [List.flatten_cons,List.length_append,flat_len32 r fun y hy=>h y (List.mem_cons_of_mem _ hy),h x (List.mem_cons_self ..),List.length_cons]
  omega
theorem flat_next {L:List (List UInt8)} {k:Nat} {x:List UInt8} (h:L[k]? = some x):(L.take (k + 1)).flatten = (L.take k).flatten ++ x:=by
 rw [List.take_add_one,h]
 simp
def EndRel (L:List (List UInt8)) (wo:World) (iv:Value) (wr:World):Prop:=
 ∃ k:Nat,k ≤ L.length∧iv = .int .i64 (k:Int)∧(∃ rv,Dig wo.heap.size wr (wo.heap.size + 1) wo.heap.size rv (4 :: (L.take k).flatten))∧Below wo.heap.size wo wr
set_option maxHeartbeats 4000000 in
set_option maxRecDepth 100000 in
theorem end_any (S:Nat→Addr) (L:List (List UInt8)) (v:Value) (w:World) (hF:FW S w) (hL:HsIn w v L) (hn:L.length ≤ 1000) :
  Calls Tryz.prog 60 #[v] w fun e w'=>e = .returned (hv (endF L))∧Below w.heap.size w w':=by
 obtain ⟨z32,hz32,hzs⟩:=z32_ex2
 obtain ⟨h32,ao,cap,rfl,_,hr⟩:=hL
 have HZS:=hid hzs
 have HF:=hid hF
 have HR:=hid hr
 have H32:=hid h32
 have HFL:=hid fun (k:Nat)=>flat_len32 (L.take k) fun x hx=>h32 x (List.mem_of_mem_take hx)
 clear hF hr h32 hzs
 go_enter Tryz.func60,Tryz.ntmps60
 go_upto_region 1 with fail
 have hwo:=HashAt.new w z32 HZS.out
 have hbo:=below_one w (.cells (byteCells z32).toArray 23)
 have hso:(w.alloc (.cells (byteCells z32).toArray 23)).heap.size = w.heap.size + 1:=by simp
 generalize w.alloc (.cells (byteCells z32).toArray 23) = wo at *
 have HWO:=hid hwo
 have HBO:=hid hbo
 have HSO:=hid hso
 clear hwo hbo hso hz32
 go_wp2_with (go_at_call 96; refine (new_any wo).mono ?_)
 first
  | rintro e wn rfl hdn hbn
  | rintro e wn ⟨rfl,hdn,hbn⟩
 go_upto_region 2 with fail
 have hFo:=HF.out.below HBO.out
 have hBx:=(hbn.alloc hbn.size (.cells #[.int .u8 4] 5))
 have HW:=hid (write_any' wo.heap.size (wo.heap.size + 1) wo.heap.size (.slice none 0 0) [] [4] wn.heap.size 0 1 (wn.alloc (.cells #[.int .u8 4] 5)) (hdn.below (below_one wn _)) (fun j v hv=>by
   rw [Nat.zero_add]
   exact cell_of (heap_one wn _) j (by rw [List.getElem?_toArray]; exact hv)) (Nat.le_refl _) (fun e=>by have:=lt_of_heap hdn.dc; omega) (fun e=>by have:=lt_of_heap hdn.hc; omega) (fun e=>by cases e) hBx.size (by simp) (hFo.below hBx).tab hFo.lt (by decide))
 have HBX:=hid hBx
 clear hdn hbn hBx hFo
 rw [List.nil_append] at HW
 go_wp2_with (go_at_call 97; refine HW.out.mono ?_)
 first
  | rintro e wd rfl rv0 hdg hbg
  | rintro e wd ⟨rfl,rv0,hdg,hbg⟩
 have HD0:=hid (show ∃ rv,Dig wo.heap.size wd (wo.heap.size + 1) wo.heap.size rv (4 :: (L.take 0).flatten) from ⟨rv0,hdg⟩)
 have HB0:=hid (HBX.out.trans hbg)
 clear hdg hbg HBX HW
 go_wp2_with fail
 go_loopw [12] (fun iv wr=>EndRel L wo iv wr) (fun iv _=>L.length - (intOf iv).toNat)
 case atStart=>exact ⟨0,Nat.zero_le _,rfl,HD0.out,HB0.out⟩
 case round=>
  obtain ⟨k,hk,rfl,⟨rv,hdg⟩,hbel⟩:=hrel
  rename World=>wA
  by_cases hlt:k < L.length
  ·have i1:(k:Int) < (L.length:Int):=by omega
   have i0:(0:Int) ≤ (k:Int):=by omega
   obtain ⟨x,hx⟩:∃ x,L[k]? = some x:=⟨_,List.getElem?_eq_getElem hlt⟩
   obtain ⟨g,o,rfl,hrow⟩:=HR.out (fun e=>by rw [e] at hlt; simp at hlt)
   have hwA:=HBO.out.trans (hbel.mono (by have:=HSO.out; omega))
   have HRX:=hid (range_below hwA (HsIn.at H32.out hrow hx))
   have HXL:=hid (H32.out x (List.mem_of_getElem? hx))
   have HNX:=hid (flat_next hx)
   have HDG:=hid hdg
   have HBL:=hid hbel
   clear hdg hbel hx hrow hwA
   go_upto_region 6 with (first | (refine wpList_hashLoad2 (by rfl) (.tmp 14) (by rfl) g (o + k * 32) (by rfl) x HXL.out HRX.out ?_) | (refine wpList_hash (by rfl) (.tmp 5) (.tmp 15) (by rfl) (by rfl) (by rfl) (hash_size HXL.out) (by rfl) (byteCells_all x) ?_))
   have h5:=HashAt.new wA x HXL.out
   have hb5:=below_one wA (.cells (byteCells x).toArray 23)
   have hdg:=HDG.out
   have hfl:=HFL.out k
   have HW:=hid (write_any' wo.heap.size (wo.heap.size + 1) wo.heap.size rv (4 :: (L.take k).flatten) x wA.heap.size 0 32 (wA.alloc (.cells (byteCells x).toArray 23)) (hdg.below hb5) h5.range (by rw [HXL.out]; exact Nat.le_refl _) (fun e=>by have:=lt_of_heap hdg.dc; omega) (fun e=>by have:=lt_of_heap hdg.hc; omega) (fun e=>by have:=(hdg.own.lt _ e).2; omega) (Nat.le_trans HBL.out.size hb5.size) h5.lt ((HF.out.below (HBO.out.trans (HBL.out.mono (by have:=HSO.out; omega)))).below hb5).tab (HF.out.below HBO.out).lt (by rw [List.length_cons,hfl,List.length_take,HXL.out]; omega))
   have HB5:=hid (HBL.out.trans (hb5.mono HBL.out.size))
   rw [HXL.out] at HW
   generalize wA.alloc (.cells (byteCells x).toArray 23) = wB at *
   generalize wA.heap.size = g5 at *
   clear h5 hb5 hdg hfl
   go_wp2_with (go_at_call 97; refine HW.out.mono ?_)
   first
    | rintro e wC rfl rv2 hdg hbg
    | rintro e wC ⟨rfl,rv2,hdg,hbg⟩
   have HD2:=hid (show Dig wo.heap.size wC (wo.heap.size + 1) wo.heap.size rv2 (4 :: (L.take (k + 1)).flatten) by rw [HNX.out]; exact hdg)
   have HB2:=hid (HB5.out.trans hbg)
   clear hdg hbg
   go_wp2_with fail
   exact ⟨⟨k + 1,hlt,by go_num,⟨_,HD2.out⟩,HB2.out⟩,by simp [intOf]; omega⟩
  ·obtain rfl:k = L.length:=by omega
   have i1:¬ (L.length:Int) < (L.length:Int):=by omega
   rw [List.take_length] at hdg
   have hfl:=HFL.out L.length
   rw [List.take_length] at hfl
   have hwA:=HBO.out.trans (hbel.mono (by have:=HSO.out; omega))
   have HSUM:=hid (sum_any wo.heap.size (wo.heap.size + 1) wo.heap.size rv _ wA hdg (HF.out.below hwA).tab (HF.out.below hwA).lt (by rw [List.length_cons,hfl]; omega))
   have HBL:=hid hbel
   have HEE:=hid (show shaL (4 :: L.flatten) = endF L from rfl)
   rw [HEE.out] at HSUM
   have HEL:=hid (show (endF L).length = 32 from shaL_len _)
   clear hdg hbel hfl hwA
   go_wp2_with (go_at_call 98; refine HSUM.out.mono ?_)
   first
    | rintro e wy rfl hbg
    | rintro e wy ⟨rfl,hbg⟩
   have hby:=HBL.out.trans (hbg.mono HBL.out.size)
   have HRW:=hid (show HashAt wy w.heap.size z32 from ⟨(hby.block w.heap.size (by rw [HSO.out]; exact Nat.lt_succ_self _)).trans HWO.out.1,HZS.out⟩)
   have HFB:=hid (HBO.out.trans (hby.mono (by have:=HSO.out; omega)))
   clear hbg hby
   go_wp2_with (refine wpList_stH (by rfl) (.tmp 2) (.tmp 21) (by rfl) (by rfl) (by rfl) HRW.out HEL.out ?_)
   have HRE:=hid (HRW.out.set HEL.out)
   have HBR:=hid (below_setRow HFB.out (Nat.le_refl _) (byteCells (endF L)).toArray)
   generalize wy.setRow w.heap.size (byteCells (endF L)).toArray = wJ at *
   go_wp2_with fail
   exact bodyPost_ret (results_H rfl _ _ _ _ rfl HRE.out) rfl ⟨rfl,HBR.out⟩
theorem make67:∃ (z:List UInt8) (Z:List (List UInt8)),z.length = 32∧Z = List.replicate 67 z∧∀ W:World,(Instr.makeSlice 41 (.int .i64 67) (.int .i64 67)).run Tryz.prog W = .ok (.slice (some ⟨W.heap.size,0,none⟩) 67 67) (W.alloc (.cells (hcells Z).toArray 23)):=by
 obtain ⟨z,hz,h⟩:=make_row 67 (by omega)
 exact ⟨z,_,hz,rfl,h⟩
theorem RowAt.new (w:World) (L:List (List UInt8)) (h:∀ x ∈ L,x.length = 32):RowAt (w.alloc (.cells (hcells L).toArray 23)) w.heap.size L:=⟨heap_one w _,h⟩
theorem fillL_32 {z:List UInt8} (hz:z.length = 32) {F:Nat→List UInt8} (hF:∀ i,(F i).length = 32) (n k:Nat):∀ x ∈ fillL z F n k,x.length = 32:=fun x hx=>by
 simp only [fillL,List.mem_map] at hx
 obtain ⟨i,_,rfl⟩:=hx
 split
 ·exact hF i
 ·exact hz
def PubRel (z z32:List UInt8) (F:Nat→List UInt8) (s:List UInt8) (w:World) (iv:Value) (wr:World):Prop:=
 ∃ k:Nat,k ≤ 67∧iv = .int .i64 (k:Int)∧HashAt wr w.heap.size s∧HashAt wr (w.heap.size + 1) z32∧RowAt wr (w.heap.size + 1 + 1) (fillL z F 67 k)∧Below w.heap.size w wr
set_option maxHeartbeats 4000000 in
set_option maxRecDepth 100000 in
theorem public_any (S:Nat→Addr) (s:List UInt8) (hs:s.length = 32) (w:World) (hF:FW S w) :
  Calls Tryz.prog 26 #[hv s] w fun e w'=>e = .returned (hv (publicF s))∧Below w.heap.size w w':=by
 obtain ⟨z32,hz32,hzs⟩:=z32_ex2
 obtain ⟨z,Z,hz,hZ,hmk⟩:=make67
 have HZZ:=hid (show Z = fillL z (fun i=>chainF 15 (beginF s i)) 67 0 by rw [fillL_zero]; exact hZ)
 have HZ:=hid hz
 have HZS:=hid hzs
 have HSL:=hid hs
 have HF:=hid hF
 have HFL:=hid fun i=>chainF_len 15 (beginF s i) (beginF_len s i)
 clear hF hs hz hzs hZ
 go_enter Tryz.func26,Tryz.ntmps26
 go_upto_region 1 with fail
 have h1:=HashAt.new w s HSL.out
 have hb1:=below_one w (.cells (byteCells s).toArray 23)
 have hs1:(w.alloc (.cells (byteCells s).toArray 23)).heap.size = w.heap.size + 1:=by simp
 generalize w.alloc (.cells (byteCells s).toArray 23) = w1 at *
 have h2:=HashAt.new w1 z32 HZS.out
 have hb2:=below_one w1 (.cells (byteCells z32).toArray 23)
 have hs2:(w1.alloc (.cells (byteCells z32).toArray 23)).heap.size = w.heap.size + 1 + 1:=by simp [hs1]
 rw [hs1] at h2
 generalize w1.alloc (.cells (byteCells z32).toArray 23) = w2 at *
 have H1:=hid (h1.below hb2)
 have H2:=hid h2
 have HB:=hid (hb1.trans (hb2.mono hb1.size))
 have HS2:=hid hs2
 clear h1 hb1 hs1 h2 hb2 hs2 hz32
 go_upto_region 2 with fail
 have h3:=RowAt.new w2 Z (by rw [HZZ.out]; exact fillL_32 HZ.out HFL.out 67 0)
 have hb3:=below_one w2 (.cells (hcells Z).toArray 23)
 rw [HS2.out] at h3
 have hs2:=HS2.out
 have H1:=hid (H1.out.below hb3)
 have H2:=hid (H2.out.below hb3)
 have HB:=hid (HB.out.trans (hb3.mono HB.out.size))
 generalize w2.alloc (.cells (hcells Z).toArray 23) = wo at *
 have H3:=hid (show RowAt wo (w.heap.size + 1 + 1) (fillL z (fun i=>chainF 15 (beginF s i)) 67 0) by rw [← HZZ.out]; exact h3)
 clear h3 hb3 hmk
 rw [hs2]
 clear hs2 HS2
 go_wp2_with fail
 go_loopw [8] (fun iv wr=>PubRel z z32 (fun i=>chainF 15 (beginF s i)) s w iv wr) (fun iv _=>67 - (intOf iv).toNat)
 case atStart=>exact ⟨0,by omega,rfl,H1.out,H2.out,H3.out,HB.out⟩
 case round=>
  obtain ⟨k,hk,rfl,h1,h2,h3,hbel⟩:=hrel
  rename World=>wA
  have HA1:=hid h1
  have HA2:=hid h2
  have HA3:=hid h3
  have HAB:=hid hbel
  by_cases hlt:k < 67
  ·have i1:(k:Int) < 67:=by omega
   have i0:(0:Int) ≤ (k:Int):=by omega
   have HBG:=hid (begin_any S k hlt s HSL.out wA (HF.out.below hbel))
   have HLT:=hid hlt
   clear h1 h2 h3 hbel hlt
   go_wp2_with (first | (refine wpList_ldH (by rfl) (.tmp 1) (by rfl) (by rfl) HA1.out ?_) | (go_at_call 59; refine HBG.out.mono ?_))
   first
    | rintro x wB rfl hbB
    | rintro x wB ⟨rfl,hbB⟩
   have HB1:=hid (HA1.out.below hbB)
   have HB2:=hid (HA2.out.below hbB)
   have HB3:=hid (HA3.out.below hbB)
   have HBB:=hid (HAB.out.trans (hbB.mono HAB.out.size))
   have HON:=hid (on_any S 15 (by omega) (beginF s k) (beginF_len s k) wB (HF.out.below HBB.out))
   obtain ⟨X,hX⟩:∃ X,chainF 15 (beginF s k) = X:=⟨_,rfl⟩
   rw [hX] at HON
   have HXE:=hid hX
   have HXL:=hid (show X.length = 32 by rw [← hX]; exact HFL.out k)
   clear hX
   clear hbB
   go_wp2_with (go_at_call 58; refine HON.out.mono ?_)
   first
    | rintro x wC rfl hbC
    | rintro x wC ⟨rfl,hbC⟩
   have HC1:=hid (HB1.out.below hbC)
   have HC2:=hid (HB2.out.below hbC)
   have HC3:=hid (HB3.out.below hbC)
   have HCB:=hid (HBB.out.trans (hbC.mono HBB.out.size))
   clear hbC
   go_wp2_with (refine wpList_stR (i:=k) (by rfl) (.tmp 17) (.tmp 16) (by rfl) (by rfl) (by rfl) HC3.out (by rw [fillL_length]; exact HLT.out) HXL.out ?_)
   have HD1:=hid (HC1.out.otherC (k:=w.heap.size + 1 + 1) (o:=k * 32) (vs:=byteCells X) (by omega))
   have HD2:=hid (HC2.out.otherC (k:=w.heap.size + 1 + 1) (o:=k * 32) (vs:=byteCells X) (by omega))
   have HD3:=hid (HC3.out.set (i:=k) (by rw [fillL_length]; exact HLT.out) HXL.out)
   have HDB:=hid (below_setCellsN (g:=w.heap.size + 1 + 1) (by omega) (byteCells X) (k * 32) wC HCB.out)
   have hnx:=fillL_next z (fun i=>chainF 15 (beginF s i)) 67 k HLT.out
   simp only [HXE.out] at hnx
   rw [hnx] at HD3
   clear hnx
   generalize wC.setCells (w.heap.size + 1 + 1) (k * 32) (byteCells X) = wD at *
   go_wp2_with fail
   exact ⟨⟨k + 1,HLT.out,by go_num,HD1.out,HD2.out,HD3.out,HDB.out⟩,by have:=HLT.out; simp [intOf]; omega⟩
  ·obtain rfl:k = 67:=by omega
   have i1:¬ ((67:Nat):Int) < 67:=by omega
   have HIN:=hid (show HsIn wA (.slice (some ⟨w.heap.size + 1 + 1,0,none⟩) 67 67) (fillL z (fun i=>chainF 15 (beginF s i)) 67 67) by
    have:=h3.in_ (cap:=67) (by rw [fillL_length]; exact Nat.le_refl _)
    rw [fillL_length] at this
    exact this)
   have HEN:=hid (end_any S _ _ wA (HF.out.below hbel) HIN.out (by rw [fillL_length]; decide))
   have HPE:=hid (show endF (fillL z (fun i=>chainF 15 (beginF s i)) 67 67) = publicF s by rw [fillL_all]; rfl)
   rw [HPE.out] at HEN
   have HPL:=hid (publicF_len s)
   clear h1 h2 h3 hbel hk hlt
   go_wp2_with (go_at_call 60; refine HEN.out.mono ?_)
   first
    | rintro x wB rfl hbB
    | rintro x wB ⟨rfl,hbB⟩
   have HB2:=hid (HA2.out.below hbB)
   have HBB:=hid (HAB.out.trans (hbB.mono HAB.out.size))
   clear hbB
   go_wp2_with (refine wpList_stH (by rfl) (.tmp 2) (.tmp 20) (by rfl) (by rfl) (by rfl) HB2.out HPL.out ?_)
   have HC2:=hid (HB2.out.set HPL.out)
   have HCB:=hid (below_setRow HBB.out (Nat.le_succ _) (byteCells (publicF s)).toArray)
   generalize wB.setRow (w.heap.size + 1) (byteCells (publicF s)).toArray = wC at *
   go_wp2_with fail
   exact bodyPost_ret (results_H rfl _ _ _ _ rfl HC2.out) rfl ⟨rfl,HCB.out⟩
theorem there_belowN {w w':World} {b o n:Nat} (h:w.there b o n) (hn:0 < n) (hb:Below w.heap.size w w'):w'.there b o n:=fun j hj=>by
 have hlt:b < w.heap.size:=by
  have h0:=(h 0 hn).1
  obtain ⟨v,hv⟩:=Option.isSome_iff_exists.1 h0
  exact lt_of_cell hv
 have:=h j hj
 have e:=hb.block b hlt
 unfold World.cell? World.frozen? at *
 simp only [e]
 exact this
theorem digL_get (m:List UInt8) (k:Nat) (h:k < 67):(digL m)[k]? = some (dig m k):=by simp [digL,h]
theorem wpList_stDig {ops:Array Oper} {rest:List Oper} {o:Oper} {a:Act} {W:World} {Q:Exit→Act→World→Prop} (hgd:o.guard = none) (x y:Operand) (ho:o.op = .store 169 x y)
  {l:List Nat} (hx:a.eval x = .pointer (some ⟨W.heap.size,0,none⟩)) (hy:a.eval y = .agg (icells l).toArray) (hl:l.length = 67)
  (h:wpList Tryz.prog ops Q rest (a.put o.dst undef) (W.alloc (.cells (icells l).toArray 169))):wpList Tryz.prog ops Q (o :: rest) a (W.alloc (.cells Tryz.zeroCells169 169)):=by
 have hz:(icells l).toArray.size = 67:=by rw [List.size_toArray,icells_len,hl]
 refine wpList_store_row hgd 169 x y ho W.heap.size (icells l).toArray hx hy 169 Tryz.zeroCells169 (heap_one W _) (by rw [hz]; exact digInfo) (by rw [hz,zeroDigits,List.size_toArray,icells_len,List.length_replicate]) (icells_one l) ?_
 rw [stored1]
 exact h
def SgRel (z:List UInt8) (F:Nat→List UInt8) (s:List UInt8) (ds:List Nat) (w:World) (g5 g6:Nat) (iv:Value) (wr:World):Prop:=
 ∃ k:Nat,k ≤ 67∧iv = .int .i64 (k:Int)∧HashAt wr w.heap.size s∧NumsAt wr g5 ds∧RowAt wr g6 (fillL z F 67 k)∧Below w.heap.size w wr
set_option maxHeartbeats 4000000 in
set_option maxRecDepth 100000 in
theorem sign_any (S:Nat→Addr) (s m:List UInt8) (hs:s.length = 32) (hm:m.length = 32) (w:World) (hF:FW S w) :
  Calls Tryz.prog 50 #[hv s,hv m] w fun e w'=>∃ g,e = .returned (.slice (some ⟨g,0,none⟩) 67 67)∧w.heap.size ≤ g∧RowAt w' g (signF s m)∧Below w.heap.size w w':=by
 obtain ⟨z,Z,hz,hZ,hmk⟩:=make67
 have HZZ:=hid (show Z = fillL z (fun i=>chainF (dig m i) (beginF s i)) 67 0 by rw [fillL_zero]; exact hZ)
 have HZ:=hid hz
 have HSL:=hid hs
 have HML:=hid hm
 have HF:=hid hF
 have HFL:=hid fun i=>chainF_len (dig m i) (beginF s i) (beginF_len s i)
 clear hF hs hm hz hZ
 go_enter Tryz.func50,Tryz.ntmps50
 go_upto_region 1 with fail
 have h1:=HashAt.new w s HSL.out
 have hb1:=below_one w (.cells (byteCells s).toArray 23)
 have hs1:(w.alloc (.cells (byteCells s).toArray 23)).heap.size = w.heap.size + 1:=by simp
 generalize w.alloc (.cells (byteCells s).toArray 23) = w1 at *
 have h2:=HashAt.new w1 m HML.out
 have hb2:=below_one w1 (.cells (byteCells m).toArray 23)
 rw [hs1] at h2
 generalize w1.alloc (.cells (byteCells m).toArray 23) = w2 at *
 have H1:=hid (h1.below hb2)
 have H2:=hid h2
 have HB:=hid (hb1.trans (hb2.mono hb1.size))
 have HRD:=hid (read_any m HML.out w2)
 clear h1 hb1 hs1 h2 hb2
 have HDL:=hid (show (digL m).length = 67 by simp [digL])
 go_upto_region 2 with (first | (refine wpList_ldH (by rfl) (.tmp 3) (by rfl) (by rfl) H2.out ?_) | (go_at_call 94; refine HRD.out.mono ?_; rintro x w3 ⟨rfl,hb3⟩) | (refine wpList_stDig (by rfl) (.tmp 5) (.tmp 9) (by rfl) (by rfl) (by rfl) HDL.out ?_))
 have h5:NumsAt (w3.alloc (.cells (icells (digL m)).toArray 169)) w3.heap.size (digL m):=heap_one w3 _
 have hb5:=below_one w3 (.cells (icells (digL m)).toArray 169)
 have h1:=H1.out.below hb3
 have HG5:=hid (show w.heap.size < w3.heap.size from h1.lt)
 have H1:=hid (h1.below hb5)
 have H5:=hid h5
 have HB:=hid ((HB.out.trans (hb3.mono HB.out.size)).trans (hb5.mono (Nat.le_of_lt HG5.out)))
 generalize w3.alloc (.cells (icells (digL m)).toArray 169) = w4 at *
 generalize w3.heap.size = g5 at *
 clear h1 h5 hb3 hb5 H2 HRD
 go_upto_region 3 with fail
 have h6:=RowAt.new w4 Z (by rw [HZZ.out]; exact fillL_32 HZ.out HFL.out 67 0)
 have hb6:=below_one w4 (.cells (hcells Z).toArray 23)
 have HG6:=hid (show w.heap.size < w4.heap.size from H1.out.lt)
 have HG65:=hid (show g5 < w4.heap.size from lt_of_heap H5.out)
 have H1:=hid (H1.out.below hb6)
 have H5:=hid (H5.out.below hb6)
 have HB:=hid (HB.out.trans (hb6.mono HB.out.size))
 generalize w4.alloc (.cells (hcells Z).toArray 23) = wo at *
 generalize w4.heap.size = g6 at *
 have H6:=hid (show RowAt wo g6 (fillL z (fun i=>chainF (dig m i) (beginF s i)) 67 0) by rw [← HZZ.out]; exact h6)
 clear h6 hb6 hmk
 go_wp2_with fail
 go_loopw [13] (fun iv wr=>SgRel z (fun i=>chainF (dig m i) (beginF s i)) s (digL m) w g5 g6 iv wr) (fun iv _=>67 - (intOf iv).toNat)
 case atStart=>exact ⟨0,by omega,rfl,H1.out,H5.out,H6.out,HB.out⟩
 case round=>
  obtain ⟨k,hk,rfl,h1,h5,h6,hbel⟩:=hrel
  rename World=>wA
  have HA1:=hid h1
  have HA5:=hid h5
  have HA6:=hid h6
  have HAB:=hid hbel
  by_cases hlt:k < 67
  ·have i1:(k:Int) < 67:=by omega
   have i0:(0:Int) ≤ (k:Int):=by omega
   obtain ⟨d,hd⟩:∃ d,dig m k = d:=⟨_,rfl⟩
   have hd15:d ≤ 15:=by rw [← hd]; exact dig_le m k
   have c5:=h5.cell (digL_get m k hlt)
   rw [hd] at c5
   have HD15:=hid hd15
   obtain ⟨X,hX⟩:∃ X,chainF d (beginF s k) = X:=⟨_,rfl⟩
   have HXL:=hid (show X.length = 32 by rw [← hX]; exact chainF_len d _ (beginF_len s k))
   have HNX:=hid (show (fillL z (fun i=>chainF (dig m i) (beginF s i)) 67 k).set k X = fillL z (fun i=>chainF (dig m i) (beginF s i)) 67 (k + 1) by
    have h:=fillL_next z (fun i=>chainF (dig m i) (beginF s i)) 67 k hlt
    simp only [hd,hX] at h
    exact h)
   have HBG:=hid fun (W:World) (hb:Below w.heap.size w W)=>begin_any S k hlt s HSL.out W (HF.out.below hb)
   have HON:=hid fun (W:World) (hb:Below w.heap.size w W)=>(by
    have h:=on_any S d (by omega) (beginF s k) (beginF_len s k) W (HF.out.below hb)
    rw [hX] at h
    exact h)
   generalize beginF s k = bg at *
   have HS0:=hid (show Below w.heap.size w wA.drew∧wA.drew.rangeAt w.heap.size 0 (byteCells s)∧wA.drew.cell? ⟨g5,k,none⟩ = some (.int .i64 (d:Int))∧wA.drew.there g6 (k * 32) 32 from
    have hdr:Below wA.heap.size wA wA.drew:=(Below.refl _ _).drew
    ⟨hbel.trans (hdr.mono hbel.size),(h1.below hdr).range,below_cell hdr c5,(h6.below hdr).there (by rw [fillL_length]; exact hlt)⟩)
   have HSB:=hid fun (W W':World) (h:Below w.heap.size w W∧W.rangeAt w.heap.size 0 (byteCells s)∧W.cell? ⟨g5,k,none⟩ = some (.int .i64 (d:Int))∧W.there g6 (k * 32) 32) (hb:Below W.heap.size W W')=>
    (⟨h.1.trans (hb.mono h.1.size),range_below hb h.2.1,below_cell hb h.2.2.1,there_belowN h.2.2.2 (by omega) hb⟩:Below w.heap.size w W'∧W'.rangeAt w.heap.size 0 (byteCells s)∧W'.cell? ⟨g5,k,none⟩ = some (.int .i64 (d:Int))∧W'.there g6 (k * 32) 32)
   have HST:=hid fun (W:World) (h:Below w.heap.size w W∧W.rangeAt w.heap.size 0 (byteCells s)∧W.cell? ⟨g5,k,none⟩ = some (.int .i64 (d:Int))∧W.there g6 (k * 32) 32)=>
    (⟨below_setCellsN (Nat.le_of_lt HG6.out) _ _ _ h.1,World.rangeAt_setCells_apart h.2.1 _ _ _ (.inl (by have:=HG6.out; omega)),(World.cell?_of_block (w:=W) (setCells_other (byteCells X) (k * 32) W g6 g5 (by have:=HG65.out; omega))).trans h.2.2.1,World.there_setCells h.2.2.2 _ _ _⟩:Below w.heap.size w (W.setCells g6 (k * 32) (byteCells X))∧(W.setCells g6 (k * 32) (byteCells X)).rangeAt w.heap.size 0 (byteCells s)∧(W.setCells g6 (k * 32) (byteCells X)).cell? ⟨g5,k,none⟩ = some (.int .i64 (d:Int))∧(W.setCells g6 (k * 32) (byteCells X)).there g6 (k * 32) 32)
   have hund:=Tryz.underlying23
   have hinf:(Tryz.prog.info? 23).map (fun x=>x.size) = some (byteCells s).length:=by rw [Lib.byteCells_length,HSL.out]; exact hashInfo
   have hinX:(Tryz.prog.info? 23).map (fun x=>x.size) = some (byteCells X).length:=by rw [Lib.byteCells_length,HXL.out]; exact hashInfo
   have hl32:(byteCells X).length = 32:=by rw [Lib.byteCells_length,HXL.out]
   have hone:=cells_oneC X
   have HLT:=hid hlt
   clear h1 h5 h6 hbel hlt hd hX c5 hd15
   go_upto_region 6 with fail
   go_region_held3 (fun W'=>Below w.heap.size w W'∧W'.rangeAt w.heap.size 0 (byteCells s)∧W'.cell? ⟨g5,k,none⟩ = some (.int .i64 (d:Int))∧W'.there g6 (k * 32) 32)
    (first | (with_reducible exact HS0.out) | (with_reducible exact HSB.out _ _ (by with_reducible assumption) (by with_reducible assumption)) | (with_reducible exact HST.out _ (by with_reducible assumption)))
    (first | ((go_at_call 59; refine (HBG.out _ ?_).mono ?_; (first | (with_reducible assumption) | exact (And.left (by with_reducible assumption))); rintro e wB ⟨rfl,hbB⟩)) | ((go_at_call 58; refine (HON.out _ ?_).mono ?_; (first | (with_reducible assumption) | exact (And.left (by with_reducible assumption))); rintro e wC ⟨rfl,hbC⟩)))
   have hAC:=(((Below.refl wA.heap.size wA).drew).trans hbB).trans (hbC.mono hbB.size)
   have HD1:=hid ((HA1.out.below hAC).otherC (k:=g6) (o:=k * 32) (vs:=byteCells X) (by have:=HG6.out; omega))
   have HD5:=hid (show NumsAt (wC.setCells g6 (k * 32) (byteCells X)) g5 (digL m) from (setCells_other _ _ _ _ _ (by have:=HG65.out; omega)).trans (HA5.out.below hAC))
   have HD6:=hid ((HA6.out.below hAC).set (i:=k) (by rw [fillL_length]; exact HLT.out) HXL.out)
   have HDB:=hid (below_setCellsN (Nat.le_of_lt HG6.out) (byteCells X) (k * 32) wC (HAB.out.trans (hAC.mono HAB.out.size)))
   rw [HNX.out] at HD6
   clear hAC hbB hbC HS0 HSB HST HBG HON
   generalize wC.setCells g6 (k * 32) (byteCells X) = wD at *
   go_wp2_with fail
   exact ⟨⟨k + 1,HLT.out,by go_num,HD1.out,HD5.out,HD6.out,HDB.out⟩,by have:=HLT.out; simp [intOf]; omega⟩
  ·obtain rfl:k = 67:=by omega
   have i1:¬ ((67:Nat):Int) < 67:=by omega
   have HR6:=hid (show RowAt wA g6 (signF s m) by have:=h6; rw [fillL_all] at this; exact this)
   clear h1 h5 h6 hbel hk hlt
   go_wp2_with fail
   go_ret
   exact ⟨g6,rfl,Nat.le_of_lt HG6.out,HR6.out,HAB.out⟩
def RcRel (z z32:List UInt8) (F:Nat→List UInt8) (ds:List Nat) (w:World) (g5 g6:Nat) (iv:Value) (wr:World):Prop:=
 ∃ k:Nat,k ≤ 67∧iv = .int .i64 (k:Int)∧HashAt wr (w.heap.size + 1) z32∧NumsAt wr g5 ds∧RowAt wr g6 (fillL z F 67 k)∧Below w.heap.size w wr
set_option maxHeartbeats 4000000 in
set_option maxRecDepth 100000 in
theorem recover_any (S:Nat→Addr) (m:List UInt8) (c:List (List UInt8)) (u:Value) (hm:m.length = 32) (w:World) (hF:FW S w) (hu:HsIn w u c) (hc:c.length = 67) :
  Calls Tryz.prog 53 #[hv m,u] w fun e w'=>e = .returned (.tuple #[hv (recoverF m c),.nilIface])∧Below w.heap.size w w':=by
 obtain ⟨z32,hz32,hzs⟩:=z32_ex2
 obtain ⟨h32,ao,cap,rfl,_,hr⟩:=hu
 obtain ⟨gc,oc,rfl,hrow⟩:=hr (fun e=>by rw [e] at hc; cases hc)
 rw [hc]
 have HR:=hid hrow
 have H32:=hid h32
 have HC:=hid hc
 obtain ⟨z,Z,hz,hZ,hmk⟩:=make67
 have HZZ:=hid (show Z = fillL z (fun i=>chainF (15 - dig m i) (c.getD i [])) 67 0 by rw [fillL_zero]; exact hZ)
 have HZ:=hid hz
 have HZS:=hid hzs
 have HML:=hid hm
 have HF:=hid hF
 have hg32:∀ i,i < 67→(c.getD i []).length = 32:=fun i hi=>by
  rw [List.getD_eq_getElem?_getD,List.getElem?_eq_getElem (by rw [hc]; exact hi)]
  exact h32 _ (List.getElem_mem _)
 have HG32:=hid hg32
 clear hF hm hz hZ hzs hr hrow h32 hc hg32
 go_enter Tryz.func53,Tryz.ntmps53
 go_upto_region 1 with fail
 have h1:=HashAt.new w m HML.out
 have hb1:=below_one w (.cells (byteCells m).toArray 23)
 have hs1:(w.alloc (.cells (byteCells m).toArray 23)).heap.size = w.heap.size + 1:=by simp
 generalize w.alloc (.cells (byteCells m).toArray 23) = w1 at *
 have h2:=HashAt.new w1 z32 HZS.out
 have hb2:=below_one w1 (.cells (byteCells z32).toArray 23)
 rw [hs1] at h2
 generalize w1.alloc (.cells (byteCells z32).toArray 23) = w2 at *
 have H1:=hid (h1.below hb2)
 have H2:=hid h2
 have HB:=hid (hb1.trans (hb2.mono hb1.size))
 have HRD:=hid (read_any m HML.out w2)
 clear h1 hb1 hs1 h2 hb2 hz32
 have HDL:=hid (show (digL m).length = 67 by simp [digL])
 go_upto_region 4 with (first | (refine wpList_ldH (by rfl) (.tmp 2) (by rfl) (by rfl) H1.out ?_) | (go_at_call 94; refine HRD.out.mono ?_; rintro x w3 ⟨rfl,hb3⟩) | (refine wpList_stDig (by rfl) (.tmp 6) (.tmp 15) (by rfl) (by rfl) (by rfl) HDL.out ?_))
 have h5:NumsAt (w3.alloc (.cells (icells (digL m)).toArray 169)) w3.heap.size (digL m):=heap_one w3 _
 have hb5:=below_one w3 (.cells (icells (digL m)).toArray 169)
 have h2:=H2.out.below hb3
 have HG5:=hid (show w.heap.size + 1 < w3.heap.size from h2.lt)
 have H2:=hid (h2.below hb5)
 have H5:=hid h5
 have HB:=hid ((HB.out.trans (hb3.mono HB.out.size)).trans (hb5.mono (by have:=HG5.out; omega)))
 generalize w3.alloc (.cells (icells (digL m)).toArray 169) = w4 at *
 generalize w3.heap.size = g5 at *
 clear h2 h5 hb3 hb5 H1 HRD
 go_upto_region 5 with fail
 have HLZ:=hid (show ∀ x ∈ Z,x.length = 32 by
  rw [HZZ.out,fillL_zero]
  intro x hx
  rw [(List.mem_replicate.1 hx).2]
  exact HZ.out)
 have h6:=RowAt.new w4 Z HLZ.out
 have hb6:=below_one w4 (.cells (hcells Z).toArray 23)
 have HG6:=hid (show w.heap.size + 1 < w4.heap.size from H2.out.lt)
 have HG65:=hid (show g5 < w4.heap.size from lt_of_heap H5.out)
 have H2:=hid (H2.out.below hb6)
 have H5:=hid (H5.out.below hb6)
 have HB:=hid (HB.out.trans (hb6.mono HB.out.size))
 generalize w4.alloc (.cells (hcells Z).toArray 23) = wo at *
 generalize w4.heap.size = g6 at *
 have H6:=hid (show RowAt wo g6 (fillL z (fun i=>chainF (15 - dig m i) (c.getD i [])) 67 0) by rw [← HZZ.out]; exact h6)
 clear h6 hb6 hmk
 go_wp2_with fail
 go_loopw [19] (fun iv wr=>RcRel z z32 (fun i=>chainF (15 - dig m i) (c.getD i [])) (digL m) w g5 g6 iv wr) (fun iv _=>67 - (intOf iv).toNat)
 case atStart=>exact ⟨0,by omega,rfl,H2.out,H5.out,H6.out,HB.out⟩
 case round=>
  obtain ⟨k,hk,rfl,h2,h5,h6,hbel⟩:=hrel
  rename World=>wA
  have HA2:=hid h2
  have HA5:=hid h5
  have HA6:=hid h6
  have HAB:=hid hbel
  by_cases hlt:k < 67
  ·have i1:(k:Int) < 67:=by omega
   have i0:(0:Int) ≤ (k:Int):=by omega
   obtain ⟨d,hd⟩:∃ d,dig m k = d:=⟨_,rfl⟩
   have hd15:d ≤ 15:=by rw [← hd]; exact dig_le m k
   have c5:=h5.cell (digL_get m k hlt)
   rw [hd] at c5
   obtain ⟨q,hq⟩:∃ q,15 - d = q:=⟨_,rfl⟩
   have q1:IntKind.i64.wrap (15 - (d:Int)) = (q:Int):=by rw [IntKind.wrap_i64]; omega
   have q2:15 - (d:Int) = (q:Int):=by omega
   have q3:IntKind.i64.wrap (q:Int) = (q:Int):=by rw [IntKind.wrap_i64]; omega
   obtain ⟨s,hs⟩:∃ s,c.getD k [] = s:=⟨_,rfl⟩
   have hsc:c[k]? = some s:=by
    rw [← hs,List.getD_eq_getElem?_getD,List.getElem?_eq_getElem (by rw [HC.out]; exact hlt)]
    rfl
   have hs32:s.length = 32:=by rw [← hs]; exact HG32.out k hlt
   have HSL:=hid hs32
   have hrs:=range_below hbel (HsIn.at H32.out HR.out hsc)
   obtain ⟨X,hX⟩:∃ X,chainF q s = X:=⟨_,rfl⟩
   have HXL:=hid (show X.length = 32 by rw [← hX]; exact chainF_len q _ hs32)
   have HNX:=hid (show (fillL z (fun i=>chainF (15 - dig m i) (c.getD i [])) 67 k).set k X = fillL z (fun i=>chainF (15 - dig m i) (c.getD i [])) 67 (k + 1) by
    have h:=fillL_next z (fun i=>chainF (15 - dig m i) (c.getD i [])) 67 k hlt
    simp only [hd,hq,hs,hX] at h
    exact h)
   have HON:=hid fun (W:World) (hb:Below w.heap.size w W)=>(by
    have h:=on_any S q (by omega) s hs32 W (HF.out.below hb)
    rw [hX] at h
    exact h)
   have hgc:gc < w.heap.size ∨ gc ≠ g6:=by
    rcases Nat.lt_or_ge gc w.heap.size with h | h
    ·exact Or.inl h
    ·obtain ⟨v0,hv0⟩:∃ v,(hcells c)[0]? = some v:=⟨_,List.getElem?_eq_getElem (by rw [hcells_len c H32.out,HC.out]; omega)⟩
     have h0:=HR.out 0 v0 hv0
     exact absurd (lt_of_cell h0) (by simp; omega)
   have HGC:=hid hgc
   have HS0:=hid (show Below w.heap.size w wA.drew∧wA.drew.rangeAt gc (oc + k * 32) (byteCells s)∧wA.drew.cell? ⟨g5,k,none⟩ = some (.int .i64 (d:Int))∧wA.drew.there g6 (k * 32) 32 from
    have hdr:Below wA.heap.size wA wA.drew:=(Below.refl _ _).drew
    ⟨hbel.trans (hdr.mono hbel.size),range_below hdr hrs,below_cell hdr c5,(h6.below hdr).there (by rw [fillL_length]; exact hlt)⟩)
   have HSB:=hid fun (W W':World) (h:Below w.heap.size w W∧W.rangeAt gc (oc + k * 32) (byteCells s)∧W.cell? ⟨g5,k,none⟩ = some (.int .i64 (d:Int))∧W.there g6 (k * 32) 32) (hb:Below W.heap.size W W')=>
    (⟨h.1.trans (hb.mono h.1.size),range_below hb h.2.1,below_cell hb h.2.2.1,there_belowN h.2.2.2 (by omega) hb⟩:Below w.heap.size w W'∧W'.rangeAt gc (oc + k * 32) (byteCells s)∧W'.cell? ⟨g5,k,none⟩ = some (.int .i64 (d:Int))∧W'.there g6 (k * 32) 32)
   have HST:=hid fun (W:World) (h:Below w.heap.size w W∧W.rangeAt gc (oc + k * 32) (byteCells s)∧W.cell? ⟨g5,k,none⟩ = some (.int .i64 (d:Int))∧W.there g6 (k * 32) 32)=>
    (⟨below_setCellsN (by have:=HG6.out; omega) _ _ _ h.1,World.rangeAt_setCells_apart h.2.1 _ _ _ (.inl (by have:=HG6.out; have:=HGC.out; omega)),(World.cell?_of_block (w:=W) (setCells_other (byteCells X) (k * 32) W g6 g5 (by have:=HG65.out; omega))).trans h.2.2.1,World.there_setCells h.2.2.2 _ _ _⟩:Below w.heap.size w (W.setCells g6 (k * 32) (byteCells X))∧(W.setCells g6 (k * 32) (byteCells X)).rangeAt gc (oc + k * 32) (byteCells s)∧(W.setCells g6 (k * 32) (byteCells X)).cell? ⟨g5,k,none⟩ = some (.int .i64 (d:Int))∧(W.setCells g6 (k * 32) (byteCells X)).there g6 (k * 32) 32)
   have hund:=Tryz.underlying23
   have hinf:(Tryz.prog.info? 23).map (fun x=>x.size) = some (byteCells s).length:=by rw [Lib.byteCells_length,HSL.out]; exact hashInfo
   have hinX:(Tryz.prog.info? 23).map (fun x=>x.size) = some (byteCells X).length:=by rw [Lib.byteCells_length,HXL.out]; exact hashInfo
   have hl32:(byteCells X).length = 32:=by rw [Lib.byteCells_length,HXL.out]
   have hone:=cells_oneC X
   have HLT:=hid hlt
   clear h2 h5 h6 hbel hlt hd hX c5 hd15 hq hs hsc hs32 hrs hgc
   go_upto_region 8 with fail
   go_region_held3 (fun W'=>Below w.heap.size w W'∧W'.rangeAt gc (oc + k * 32) (byteCells s)∧W'.cell? ⟨g5,k,none⟩ = some (.int .i64 (d:Int))∧W'.there g6 (k * 32) 32)
    (first | (with_reducible exact HS0.out) | (with_reducible exact HSB.out _ _ (by with_reducible assumption) (by with_reducible assumption)) | (with_reducible exact HST.out _ (by with_reducible assumption)))
    ((go_at_call 58; (with_reducible refine (HON.out _ ?_).mono ?_); (first | (with_reducible assumption) | exact (And.left (by with_reducible assumption))); rintro e wC ⟨rfl,hbC⟩))
   have hAC:=((Below.refl wA.heap.size wA).drew).trans hbC
   have HD2:=hid ((HA2.out.below hAC).otherC (k:=g6) (o:=k * 32) (vs:=byteCells X) (by have:=HG6.out; omega))
   have HD5:=hid (show NumsAt (wC.setCells g6 (k * 32) (byteCells X)) g5 (digL m) from (setCells_other _ _ _ _ _ (by have:=HG65.out; omega)).trans (HA5.out.below hAC))
   have HD6:=hid ((HA6.out.below hAC).set (i:=k) (by rw [fillL_length]; exact HLT.out) HXL.out)
   have HDB:=hid (below_setCellsN (show w.heap.size ≤ g6 by have:=HG6.out; omega) (byteCells X) (k * 32) wC (HAB.out.trans (hAC.mono HAB.out.size)))
   rw [HNX.out] at HD6
   clear hAC hbC HS0 HSB HST HON
   generalize wC.setCells g6 (k * 32) (byteCells X) = wD at *
   go_wp2_with fail
   exact ⟨⟨k + 1,HLT.out,by go_num,HD2.out,HD5.out,HD6.out,HDB.out⟩,by have:=HLT.out; simp [intOf]; omega⟩
  ·obtain rfl:k = 67:=by omega
   have i1:¬ ((67:Nat):Int) < 67:=by omega
   have HIN:=hid (show HsIn wA (.slice (some ⟨g6,0,none⟩) 67 67) (fillL z (fun i=>chainF (15 - dig m i) (c.getD i [])) 67 67) by
    have:=h6.in_ (cap:=67) (by rw [fillL_length]; exact Nat.le_refl _)
    rw [fillL_length] at this
    exact this)
   have HEN:=hid (end_any S _ _ wA (HF.out.below hbel) HIN.out (by rw [fillL_length]; decide))
   have HPE:=hid (show endF (fillL z (fun i=>chainF (15 - dig m i) (c.getD i [])) 67 67) = recoverF m c by rw [fillL_all]; rfl)
   rw [HPE.out] at HEN
   have HPL:=hid (recoverF_len m c)
   clear h2 h5 h6 hbel hk hlt
   go_wp2_with (go_at_call 60; refine HEN.out.mono ?_)
   first
    | rintro x wB rfl hbB
    | rintro x wB ⟨rfl,hbB⟩
   have HB2:=hid (HA2.out.below hbB)
   have HBB:=hid (HAB.out.trans (hbB.mono HAB.out.size))
   clear hbB
   go_wp2_with (refine wpList_stH (by rfl) (.tmp 4) (.tmp 36) (by rfl) (by rfl) (by rfl) HB2.out HPL.out ?_)
   have HC2:=hid (HB2.out.set HPL.out)
   have HCB:=hid (below_setRow HBB.out (Nat.le_succ _) (byteCells (recoverF m c)).toArray)
   generalize wB.setRow (w.heap.size + 1) (byteCells (recoverF m c)).toArray = wC at *
   go_wp2_with fail
   exact bodyPost_ret (results_Ht rfl rfl _ _ _ _ _ rfl rfl HC2.out) rfl ⟨rfl,HCB.out⟩
def SecAt (w:World) (kb:Nat) (s:List UInt8):Prop:=s.length = 32∧w.rangeAt kb 0 (byteCells s)∧kb < w.heap.size
theorem SecAt.below {w w':World} {kb:Nat} {s:List UInt8} (h:SecAt w kb s) (hb:Below w.heap.size w w'):SecAt w' kb s:=
 ⟨h.1,range_below hb h.2.1,Nat.lt_of_lt_of_le h.2.2 hb.size⟩
theorem SecAt.conv {w:World} {kb:Nat} {s:List UInt8} (h:SecAt w kb s):(convert 117 9 (.slice (some ⟨kb,0,none⟩) 32 32)).run Tryz.prog w = .ok (.string ⟨s.toArray⟩) w:=by
 have:=conv_range 32 h.2.1
 rw [h.1] at this
 exact this
theorem SecAt.other {w:World} {kb k o:Nat} {s:List UInt8} {vs:List Value} (h:SecAt w kb s) (hne:kb ≠ k):SecAt (w.setCells k o vs) kb s:=
 ⟨h.1,World.rangeAt_setCells_apart h.2.1 _ _ _ (.inl hne),Nat.lt_of_lt_of_le h.2.2 (below_setCellsN (Nat.zero_le k) vs o w (Below.refl 0 w)).size⟩
theorem HashAt.thereB {w:World} {g:Nat} {l:List UInt8} (h:HashAt w g l) {w':World} (hb:Below w.heap.size w w'):w'.there g 0 32:=(h.below hb).there
set_option maxHeartbeats 4000000 in
set_option maxRecDepth 100000 in
theorem own_any (S:Nat→Addr) (s:List UInt8) (kb i:Nat) (hi:i < 256) (w:World) (hF:FW S w) (hs:SecAt w kb s) :
  Calls Tryz.prog 24 #[.pointer (some ⟨kb,0,none⟩),.int .i64 (i:Int)] w fun e w'=>e = .returned (hv (ownF s i))∧Below w.heap.size w w':=by
 obtain ⟨z32,hz32,hzs⟩:=z32_ex2
 have HZS:=hid hzs
 have HF:=hid hF
 have HSC:=hid hs
 have HSL:=hid hs.1
 clear hF hs hzs
 go_enter Tryz.func24,Tryz.ntmps24
 go_upto_region 1 with fail
 have HZ:=hid (HashAt.new w z32 HZS.out)
 have HB:=hid (below_one w (.cells (byteCells z32).toArray 23))
 generalize w.alloc (.cells (byteCells z32).toArray 23) = wo at *
 clear hz32
 have HF4:=hid fun (W:World)=>four_any i hi W
 have HL4:=hid (show (be4 i).length = 4 from rfl)
 have HNL:=hid (show (ownF s i).length = 32 from shaL_len _)
 have HME:=hid (show shaL (5 :: (s ++ be4 i)) = ownF s i from rfl)
 obtain ⟨f,hf⟩:∃ f,be4 i = f:=⟨_,rfl⟩
 obtain ⟨X,hX⟩:∃ X,ownF s i = X:=⟨_,rfl⟩
 rw [hf] at HF4 HL4 HME
 rw [hX] at HNL HME
 have HSM:=hid fun (W:World) (hb:Below w.heap.size w W)=>(by
  have h:=sum_at S [⟨#[5]⟩,⟨s.toArray⟩,⟨f.toArray⟩] 3 rfl (by decide) (by rw [catL_three,List.length_cons,List.length_append,HL4.out,HSL.out]; decide) W (HF.out.below hb)
  rw [catL_three,HME.out] at h
  exact (show Calls Tryz.prog 55 #[.slice (some ⟨W.heap.size,0,none⟩) 3 3] (W.alloc (.cells #[.string ⟨#[5]⟩,.string ⟨s.toArray⟩,.string ⟨f.toArray⟩] 9)) fun e w'=>e = .returned (hv X)∧Below W.heap.size W w' from h))
 have HX:=hid hX
 clear hX hf
 have HS0:=hid (show Below w.heap.size w wo.drew∧(convert 117 9 (.slice (some ⟨kb,0,none⟩) 32 32)).run Tryz.prog wo.drew = .ok (.string ⟨s.toArray⟩) wo.drew∧wo.drew.there w.heap.size 0 32 from
  have hdr:Below wo.heap.size wo wo.drew:=(Below.refl _ _).drew
  ⟨HB.out.trans (hdr.mono HB.out.size),(HSC.out.below (HB.out.trans (hdr.mono HB.out.size))).conv,HZ.out.thereB hdr⟩)
 have HSB:=hid fun (W W':World) (h:Below w.heap.size w W∧(convert 117 9 (.slice (some ⟨kb,0,none⟩) 32 32)).run Tryz.prog W = .ok (.string ⟨s.toArray⟩) W∧W.there w.heap.size 0 32) (hb:Below W.heap.size W W')=>
  (⟨h.1.trans (hb.mono h.1.size),(HSC.out.below (h.1.trans (hb.mono h.1.size))).conv,there_belowN h.2.2 (by omega) hb⟩:Below w.heap.size w W'∧(convert 117 9 (.slice (some ⟨kb,0,none⟩) 32 32)).run Tryz.prog W' = .ok (.string ⟨s.toArray⟩) W'∧W'.there w.heap.size 0 32)
 have HST:=hid fun (W:World) (h:Below w.heap.size w W∧(convert 117 9 (.slice (some ⟨kb,0,none⟩) 32 32)).run Tryz.prog W = .ok (.string ⟨s.toArray⟩) W∧W.there w.heap.size 0 32)=>
  (⟨below_setCellsN (Nat.le_refl _) _ _ _ h.1,((HSC.out.below h.1).other (by have:=HSC.out.2.2; omega)).conv,World.there_setCells h.2.2 _ _ _⟩:Below w.heap.size w (W.setCells w.heap.size 0 (byteCells X))∧(convert 117 9 (.slice (some ⟨kb,0,none⟩) 32 32)).run Tryz.prog (W.setCells w.heap.size 0 (byteCells X)) = .ok (.string ⟨s.toArray⟩) (W.setCells w.heap.size 0 (byteCells X))∧(W.setCells w.heap.size 0 (byteCells X)).there w.heap.size 0 32)
 have hund:=Tryz.underlying23
 have hinX:(Tryz.prog.info? 23).map (fun x=>x.size) = some (byteCells X).length:=by rw [Lib.byteCells_length,HNL.out]; exact hashInfo
 have hl32:(byteCells X).length = 32:=by rw [Lib.byteCells_length,HNL.out]
 have hone:=cells_oneC X
 go_region_held3 (fun W'=>Below w.heap.size w W'∧(convert 117 9 (.slice (some ⟨kb,0,none⟩) 32 32)).run Tryz.prog W' = .ok (.string ⟨s.toArray⟩) W'∧W'.there w.heap.size 0 32)
  (first | (with_reducible exact HS0.out) | (with_reducible exact HSB.out _ _ (by with_reducible assumption) (by with_reducible assumption)) | (with_reducible exact HST.out _ (by with_reducible assumption)) | (with_reducible exact hBC) | (with_reducible exact HSB.out _ _ hBC hbD) | (exact HSB.out _ _ (by with_reducible assumption) (below_one _ _)))
  (first | ((go_at_call 56; (with_reducible refine (HF4.out _).mono ?_)); rintro e wC ⟨rfl,hbC⟩; have hBC:=HSB.out _ _ HS0.out hbC) | ((go_at_call 55; (with_reducible refine (HSM.out _ hBC.1).mono ?_); rintro e wD ⟨rfl,hbD⟩)))
 have hZD:=((HZ.out.below (Below.refl wo.heap.size wo).drew).below hbC).below hbD
 have hZE:=hZD.set HNL.out
 rw [← hZD.setCells HNL.out] at hZE
 have HZE:=hid hZE
 have HBE:=hid (And.left ‹Below w.heap.size w (wD.setCells w.heap.size 0 (byteCells X))∧_›)
 clear hbC hbD hBC hZD hZE HS0 HSB HST HSM HF4
 generalize wD.setCells w.heap.size 0 (byteCells X) = wE at *
 simp only [Exit.then]
 go_wp2_with fail
 exact bodyPost_ret (results_H rfl _ _ _ _ rfl HZE.out) rfl ⟨by rw [HX.out],HBE.out⟩
end Go.Proofs.YticlgcfodlcpcaaGreatDoor
