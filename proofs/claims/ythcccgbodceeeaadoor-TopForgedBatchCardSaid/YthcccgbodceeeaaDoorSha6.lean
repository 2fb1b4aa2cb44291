/-
  SHA-256: sha.Sum over parts; hash.Node.
-/
import Derived.Test.YthcccgbodceeeaaDoorSha5
namespace Go.Proofs.YthcccgbodceeeaaDoor
open Go.RowKit

def catL (S : List ByteArray) : List UInt8 := (S.map fun s => s.data.toList).flatten
theorem catL_next (S : List ByteArray) (i : Nat) {s : ByteArray} (h : S[i]? = some s) : catL (S.take (i + 1)) = catL (S.take i) ++ s.data.toList := by
  unfold catL
  rw [List.take_add_one, h]
  simp
theorem catL_len (S : List ByteArray) (i : Nat) : (catL (S.take i)).length ≤ (catL S).length := by
  have h : catL S = catL (S.take i) ++ catL (S.drop i) := by
    unfold catL
    rw [← List.flatten_append, ← List.map_append, List.take_append_drop]
  rw [h, List.length_append]
  omega
set_option maxHeartbeats 4000000 in
set_option maxRecDepth 100000 in
theorem shaSum_any (S : List ByteArray) (g o cap : Nat) (w : World) (hr : w.rangeAt g o (S.map Value.string)) (hgw : S ≠ [] → g < w.heap.size) (htab : TabSha w) (hgB : 5 < w.heap.size) (hS : S.length ≤ 1000000) (hsz : (catL S).length ≤ 4611686018427387000) :
    Calls Tryd.prog 24 #[.slice (some ⟨g, o, none⟩) S.length cap] w fun e w' => e = .returned (.agg (Lib.byteCells (shaL (catL S))).toArray) ∧ Below w.heap.size w w' := by
  have HR := Lib.hid hr
  have HTB := Lib.hid htab
  have HBB := Lib.hid hgB
  have HGW := Lib.hid hgw
  clear hr htab hgB hgw
  go_enter Tryd.func24, Tryd.ntmps24
  obtain ⟨z32, hz32⟩ : ∃ z, (#[.int .u8 0, .int .u8 0, .int .u8 0, .int .u8 0, .int .u8 0, .int .u8 0, .int .u8 0, .int .u8 0, .int .u8 0, .int .u8 0, .int .u8 0, .int .u8 0, .int .u8 0, .int .u8 0, .int .u8 0, .int .u8 0, .int .u8 0, .int .u8 0, .int .u8 0, .int .u8 0, .int .u8 0, .int .u8 0, .int .u8 0, .int .u8 0, .int .u8 0, .int .u8 0, .int .u8 0, .int .u8 0, .int .u8 0, .int .u8 0, .int .u8 0, .int .u8 0] : Array Value) = z := ⟨_, rfl⟩
  go_upto_region 1 with fail
  have hzs : z32.size = 32 := by rw [← hz32]; rfl
  clear hz32
  have hwo := heap_one w (.cells z32 33)
  have hbo := below_one w (.cells z32 33)
  have hso : (w.alloc (.cells z32 33)).heap.size = w.heap.size + 1 := by simp
  generalize (w.alloc (.cells z32 33)) = wo at *
  have HWO := Lib.hid hwo
  have HBO := Lib.hid hbo
  have HSO := Lib.hid hso
  have HZS := Lib.hid hzs
  clear hwo hbo hso hzs
  go_wp2_with (go_at_call 38; refine (new_any wo).mono ?_)
  first
    | rintro e wn rfl hdn hbn
    | rintro e wn ⟨rfl, hdn, hbn⟩
  have HDN := Lib.hid hdn
  have HBN := Lib.hid hbn
  clear hdn hbn
  go_wp2_with fail
  go_loopw [9] (fun vi wx => ∃ i : Nat, i ≤ S.length ∧ vi = .int .i64 (i : Int) ∧ (∃ rv, Dig wo.heap.size wx (wo.heap.size + 1) wo.heap.size rv (catL (S.take i))) ∧ Below wo.heap.size wo wx) (fun vi _ => S.length - (intOf vi).toNat)
  case atStart => exact ⟨0, Nat.zero_le _, rfl, ⟨_, HDN.out⟩, HBN.out⟩
  case round =>
    obtain ⟨i, hiS, rfl, ⟨rv, hdg⟩, hbel⟩ := hrel
    rename World => wx
    by_cases hi : i < S.length
    · have i1 : (i : Int) < (S.length : Int) := by omega
      have i0 : (0 : Int) ≤ (i : Int) := by omega
      obtain ⟨s, hs⟩ : ∃ s, S[i]? = some s := ⟨_, List.getElem?_eq_getElem hi⟩
      have hgx := HGW.out (fun e => by rw [e] at hi; exact absurd hi (by simp))
      have hbw := HBO.out.trans (hbel.mono (by have := HSO.out; omega))
      have cs := below_cell' hbw hgx (HR.out i (.string s) (by rw [List.getElem?_map, hs]; rfl))
      have hcv := Lib.run_convert_string_bytes (P := Tryd.prog) wx 9 73 5 s Tryd.underlying9 Tryd.underlying73 Tryd.underlying5
      have hC := grownCap_ge wx s.size 0 5
      have hbB := bytes_belowH (Below.refl wx.heap.size wx) 5 s
      have hrow := Lib.bytesWorld_at_new wx 5 s
      have hBC := bytesCells_at wx 5 s
      generalize Lib.bytesWorld wx 5 s = wB at *
      generalize grownCap wx s.size 0 5 = C at *
      generalize Lib.bytesCells wx 5 s = BC at *
      have hlB := lt_of_heap hrow
      have hnx := catL_next S i hs
      have hln := catL_len S (i + 1)
      rw [hnx, List.length_append] at hln
      have hss : s.data.toList.length = s.size := size_listT s
      have hrB : wB.rangeAt wx.heap.size 0 (Lib.byteCells s.data.toList) := fun j v hv => by
        rw [Nat.zero_add]
        refine cell_of hrow j ?_
        rw [hBC j v hv]
      have HW := Lib.hid (write_any' wo.heap.size (wo.heap.size + 1) wo.heap.size rv (catL (S.take i)) s.data.toList wx.heap.size 0 C wB (hdg.below hbB) hrB (by rw [hss]; exact hC) (fun e => by have := lt_of_heap hdg.dc; omega) (fun e => by have := lt_of_heap hdg.hc; omega) (fun e => by have := (hdg.own.lt _ e).2; omega) (Nat.le_trans hbel.size hbB.size) hlB (tab_bel HTB.out (hbw.trans (hbB.mono hbw.size)) HBB.out) (by have := HSO.out; have := HBB.out; omega) (by omega))
      rw [hss] at HW
      have HNX := Lib.hid hnx
      have HB2 := Lib.hid (hbel.trans (hbB.mono hbel.size))
      clear hrB hss hln hnx hlB hBC hrow hbB hC hbw hgx hs hdg hbel
      go_wp2_with (go_at_call 39; refine HW.out.mono ?_)
      first
        | rintro e wy rfl rv2 hdg hbg
        | rintro e wy ⟨rfl, rv2, hdg, hbg⟩
      rw [← HNX.out] at hdg
      have HDG := Lib.hid hdg
      have HBG := Lib.hid (HB2.out.trans hbg)
      clear hdg hbg
      go_wp2_with fail
      exact ⟨⟨i + 1, hi, rfl, ⟨rv2, HDG.out⟩, HBG.out⟩, by simp [intOf]; omega⟩
    · obtain rfl : S.length = i := by omega
      have i1 : ¬ (S.length : Int) < (S.length : Int) := by omega
      rw [List.take_length] at hdg
      have hwx : w.heap.size < wx.heap.size := by have := HSO.out; have := hbel.size; omega
      have HSUM := Lib.hid (sum_any wo.heap.size (wo.heap.size + 1) wo.heap.size rv (catL S) wx hdg (tab_bel HTB.out (HBO.out.trans (hbel.mono (by have := HSO.out; omega))) HBB.out) (by have := HBB.out; omega) (by omega))
      have HBX := Lib.hid hbel
      clear hdg hbel
      go_wp2_with (go_at_call 40; refine HSUM.out.mono ?_)
      first
        | rintro e wy rfl hbg
        | rintro e wy ⟨rfl, hbg⟩
      have HRW := Lib.hid (((HBX.out.trans (hbg.mono HBX.out.size)).block w.heap.size (by rw [HSO.out]; exact Nat.lt_succ_self _)).trans HWO.out)
      have HFB := Lib.hid (HBO.out.trans ((HBX.out.trans (hbg.mono HBX.out.size)).mono (by have := HSO.out; omega)))
      clear hbg hwx
      go_wp2_with fail
      rw [store_hash (shaL (catL S)) rfl HRW.out HZS.out]
      simp only [Result.andThen_ok]
      have HRE := Lib.hid (setRow_heap wy w.heap.size _ (Lib.byteCells (shaL (catL S))).toArray 33 (0, 0) HRW.out)
      have HBR := Lib.hid (below_setRow HFB.out (Nat.le_refl _) (Lib.byteCells (shaL (catL S))).toArray)
      generalize wy.setRow w.heap.size (Lib.byteCells (shaL (catL S))).toArray = wJ at *
      go_wp2_with fail
      exact bodyPost_ret (results_row0 rfl _ _ w.heap.size 33 _ (0, 0) _ rfl HRE.out Tryd.underlying33 rfl (by rw [List.size_toArray, Lib.byteCells_length, shaL_len]; kernel_rfl)) rfl ⟨rfl, HBR.out⟩
end Go.Proofs.YthcccgbodceeeaaDoor
