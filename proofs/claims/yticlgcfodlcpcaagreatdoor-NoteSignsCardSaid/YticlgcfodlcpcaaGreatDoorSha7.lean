/- hash.Node by its contract. -/
import Derived.Test.YticlgcfodlcpcaaGreatDoorSha6
namespace Go.Proofs.YticlgcfodlcpcaaGreatDoor
open Go.Lib (hid byteCells)
open Go.RowKit
theorem catL_node (a b:List UInt8):catL [⟨#[1]⟩,⟨a.toArray⟩,⟨b.toArray⟩] = 1 :: (a ++ b):=by simp [catL]
theorem conv_row (w:World) (g:Nat) (l:List UInt8) (hl:l.length = 32) (hg:w.heap[g]? = some (.cells (byteCells l).toArray 23)):(convert 117 9 (.slice (some ⟨g,0,none⟩) 32 32)).run Tryz.prog w = .ok (.string ⟨l.toArray⟩) w:=by
 have h:=run_convert_bytes_back (P:=Tryz.prog) w 117 9 5 ⟨g,0,none⟩ 32 l Tryz.underlying117 Tryz.underlying5 Tryz.underlying9 (fun i hi=>by
  rw [Addr.add_mid,Nat.zero_add]
  exact cell_of hg i (by rw [List.getElem?_toArray]; unfold byteCells; rw [List.getElem?_map,List.getElem?_eq_getElem hi]; rfl))
 rw [hl] at h
 exact h
set_option maxHeartbeats 4000000 in
set_option maxRecDepth 100000 in
theorem node_any (a b:List UInt8) (ha:a.length = 32) (hb:b.length = 32) (w:World) (htab:TabSha w) (hgB:21 < w.heap.size) :
  Calls Tryz.prog 27 #[.agg (byteCells a).toArray,.agg (byteCells b).toArray] w fun e w'=>e = .returned (.agg (byteCells (shaL (1 :: (a ++ b)))).toArray)∧Below w.heap.size w w':=by
 have HTB:=hid htab
 have HBB:=hid hgB
 have hA:(byteCells a).toArray.size = 32:=by rw [List.size_toArray,Lib.byteCells_length,ha]
 have hB:(byteCells b).toArray.size = 32:=by rw [List.size_toArray,Lib.byteCells_length,hb]
 clear htab hgB
 go_enter Tryz.func27,Tryz.ntmps27
 go_upto_region 1 with fail
 have h1:=heap_one w (.cells (byteCells a).toArray 23)
 have b1:=below_one w (.cells (byteCells a).toArray 23)
 have s1:(w.alloc (.cells (byteCells a).toArray 23)).heap.size = w.heap.size + 1:=by simp
 generalize w.alloc (.cells (byteCells a).toArray 23) = w1 at *
 have h2:=heap_one w1 (.cells (byteCells b).toArray 23)
 have b2:=below_one w1 (.cells (byteCells b).toArray 23)
 have s2:(w1.alloc (.cells (byteCells b).toArray 23)).heap.size = w1.heap.size + 1:=by simp
 generalize w1.alloc (.cells (byteCells b).toArray 23) = w2 at *
 have h3:=heap_one w2 (.cells #[.int .u8 0,.int .u8 0,.int .u8 0,.int .u8 0,.int .u8 0,.int .u8 0,.int .u8 0,.int .u8 0,.int .u8 0,.int .u8 0,.int .u8 0,.int .u8 0,.int .u8 0,.int .u8 0,.int .u8 0,.int .u8 0,.int .u8 0,.int .u8 0,.int .u8 0,.int .u8 0,.int .u8 0,.int .u8 0,.int .u8 0,.int .u8 0,.int .u8 0,.int .u8 0,.int .u8 0,.int .u8 0,.int .u8 0,.int .u8 0,.int .u8 0,.int .u8 0] 23)
 have b3:=below_one w2 (.cells #[.int .u8 0,.int .u8 0,.int .u8 0,.int .u8 0,.int .u8 0,.int .u8 0,.int .u8 0,.int .u8 0,.int .u8 0,.int .u8 0,.int .u8 0,.int .u8 0,.int .u8 0,.int .u8 0,.int .u8 0,.int .u8 0,.int .u8 0,.int .u8 0,.int .u8 0,.int .u8 0,.int .u8 0,.int .u8 0,.int .u8 0,.int .u8 0,.int .u8 0,.int .u8 0,.int .u8 0,.int .u8 0,.int .u8 0,.int .u8 0,.int .u8 0,.int .u8 0] 23)
 have s3:(w2.alloc (.cells #[.int .u8 0,.int .u8 0,.int .u8 0,.int .u8 0,.int .u8 0,.int .u8 0,.int .u8 0,.int .u8 0,.int .u8 0,.int .u8 0,.int .u8 0,.int .u8 0,.int .u8 0,.int .u8 0,.int .u8 0,.int .u8 0,.int .u8 0,.int .u8 0,.int .u8 0,.int .u8 0,.int .u8 0,.int .u8 0,.int .u8 0,.int .u8 0,.int .u8 0,.int .u8 0,.int .u8 0,.int .u8 0,.int .u8 0,.int .u8 0,.int .u8 0,.int .u8 0] 23)).heap.size = w2.heap.size + 1:=by simp
 generalize w2.alloc (.cells #[.int .u8 0,.int .u8 0,.int .u8 0,.int .u8 0,.int .u8 0,.int .u8 0,.int .u8 0,.int .u8 0,.int .u8 0,.int .u8 0,.int .u8 0,.int .u8 0,.int .u8 0,.int .u8 0,.int .u8 0,.int .u8 0,.int .u8 0,.int .u8 0,.int .u8 0,.int .u8 0,.int .u8 0,.int .u8 0,.int .u8 0,.int .u8 0,.int .u8 0,.int .u8 0,.int .u8 0,.int .u8 0,.int .u8 0,.int .u8 0,.int .u8 0,.int .u8 0] 23) = w3 at *
 have e1:w.heap.size + 1 = w1.heap.size:=s1.symm
 have e2:w.heap.size + 1 + 1 = w2.heap.size:=by omega
 have H3:=hid h3
 have HB:=hid (b1.trans ((b2.mono (by omega)).trans (b3.mono (by omega))))
 have lw:w.heap.size < w3.heap.size:=by omega
 have lw1:w.heap.size + 1 < w3.heap.size:=by omega
 have c1:=conv_row w3.drew w.heap.size a ha (below_heap b3 (below_heap b2 h1))
 have c2:=conv_row w3.drew (w.heap.size + 1) b hb (by rw [e1]; exact below_heap b3 h2)
 have HS:=hid (show w3.heap.size = w.heap.size + 3 by omega)
 rw [← e2] at H3
 have HH3:=hid H3.out
 clear h1 h2 h3 b1 b2 b3 s1 s2 s3 e1 e2 H3
 go_still_tail 4,(by kernel_rfl)
 have HSUM:=hid (shaSum_any [⟨#[1]⟩,⟨a.toArray⟩,⟨b.toArray⟩] w3.heap.size 0 3 (w3.drew.alloc (.cells #[.string ⟨#[1]⟩,.string ⟨a.toArray⟩,.string ⟨b.toArray⟩] 9)) (fun j v hv=>by
   rw [Nat.zero_add]
   exact cell_of (heap_one w3.drew _) j (by rw [List.getElem?_toArray]; exact hv)) (fun _=>by simp) (tab_bel HTB.out (HB.out.drew.alloc HB.out.size _) HBB.out) (by have:=HBB.out; have:=HS.out; simp; omega) (show 3 ≤ 1000000 by decide) (by rw [catL_node]; simp only [List.length_cons,List.length_append,ha,hb]; decide))
 rw [catL_node] at HSUM
 go_wp2_with (go_at_call 55; refine HSUM.out.mono ?_)
 first
  | rintro e wy rfl hbg
  | rintro e wy ⟨rfl,hbg⟩
 have hwy:=(below_one w3.drew (.cells #[.string ⟨#[1]⟩,.string ⟨a.toArray⟩,.string ⟨b.toArray⟩] 9)).trans (hbg.mono (by simp))
 have HRW:=hid ((hwy.block (w.heap.size + 1 + 1) (show w.heap.size + 1 + 1 < w3.heap.size by have:=HS.out; omega)).trans HH3.out)
 have HFB:=hid (HB.out.trans ((show Below w3.heap.size w3 wy from ⟨hwy.os,hwy.tape,hwy.output,hwy.size,hwy.block⟩).mono (by have:=HS.out; omega)))
 have HGE:=hid (show w.heap.size ≤ w.heap.size + 1 + 1 by omega)
 clear hbg hwy
 generalize w.heap.size + 1 + 1 = g3 at *
 go_wp2_with fail
 rw [store_hash (shaL (1 :: (a ++ b))) rfl HRW.out rfl]
 simp only [Result.andThen_ok]
 have HRE:=hid (setRow_heap wy g3 _ (byteCells (shaL (1 :: (a ++ b)))).toArray 23 (0,0) HRW.out)
 have HBR:=hid (below_setRow HFB.out HGE.out (byteCells (shaL (1 :: (a ++ b)))).toArray)
 generalize wy.setRow g3 (byteCells (shaL (1 :: (a ++ b)))).toArray = wJ at *
 go_wp2_with fail
 exact bodyPost_ret (results_row0 rfl _ _ g3 23 _ (0,0) _ rfl HRE.out Tryz.underlying23 rfl (by rw [List.size_toArray,Lib.byteCells_length,shaL_len]; kernel_rfl)) rfl ⟨rfl,HBR.out⟩
end Go.Proofs.YticlgcfodlcpcaaGreatDoor
