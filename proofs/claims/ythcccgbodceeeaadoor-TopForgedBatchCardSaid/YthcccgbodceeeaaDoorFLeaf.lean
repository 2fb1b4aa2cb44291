/-
  hash.Leaf, hash.Empty, forge.text by their contracts.
-/
import Derived.Test.YthcccgbodceeeaaDoorSha7
import Derived.Test.YthcccgbodceeeaaDoorFW
namespace Go.Proofs.YthcccgbodceeeaaDoor
open Go.RowKit

theorem catL_leaf (s : ByteArray) : catL [⟨#[0]⟩, s] = leafT (bs s) := by simp [catL, leafT, bs]
set_option maxHeartbeats 1000000 in
set_option maxRecDepth 100000 in
theorem hleaf_any (s : ByteArray) (hs : s.size ≤ 140737488355328) (w : World) (htab : TabSha w) (hgB : 5 < w.heap.size) :
    Calls Tryd.prog 8 #[.string s] w fun e w' => e = .returned (.agg (Lib.byteCells (shaL (leafT (bs s)))).toArray) ∧ Below w.heap.size w w' := by
  obtain ⟨z32, hz32, hzs⟩ := z32_ex
  obtain ⟨T, hT⟩ : ∃ T, shaL (leafT (bs s)) = T := ⟨_, rfl⟩
  have HTL := Lib.hid (show T.length = 32 by rw [← hT]; exact shaL_len _)
  have HSM := Lib.hid fun (W : World) (hbw : Below w.heap.size w W) => (by
    have h := shaSum_any [⟨#[0]⟩, s] W.heap.size 0 2 (W.alloc (.cells #[.string ⟨#[0]⟩, .string s] 9)) (fun j v hv => by
      rw [Nat.zero_add]
      exact cell_of (heap_one W _) j (by rw [List.getElem?_toArray]; exact hv)) (fun _ => by simp) (tab_bel htab (hbw.alloc hbw.size _) hgB) (by have := hbw.size; simp; omega) (show 2 ≤ 1000000 by decide) (by rw [catL_leaf]; simp only [leafT, bs, List.length_cons, Array.length_toList]; have : s.data.size = s.size := rfl; omega)
    rw [catL_leaf, hT] at h
    exact h : Calls Tryd.prog 24 #[.slice (some ⟨W.heap.size, 0, none⟩) 2 2] (W.alloc (.cells #[.string ⟨#[0]⟩, .string s] 9)) fun e w' => e = .returned (.agg (Lib.byteCells T).toArray) ∧ Below (W.alloc (.cells #[.string ⟨#[0]⟩, .string s] 9)).heap.size (W.alloc (.cells #[.string ⟨#[0]⟩, .string s] 9)) w')
  rw [hT]
  clear hT htab hgB hs
  go_enter Tryd.func8, Tryd.ntmps8
  go_upto_region 1 with fail
  clear hz32
  have hwo := heap_one w (.cells z32 33)
  have hbo := below_one w (.cells z32 33)
  have hso : (w.alloc (.cells z32 33)).heap.size = w.heap.size + 1 := by simp
  generalize (w.alloc (.cells z32 33)) = wo at *
  have HWO := Lib.hid hwo
  have HBO := Lib.hid hbo
  have HSO := Lib.hid hso
  have HZS := Lib.hid hzs
  clear hwo hbo hso hzs
  go_wp2_with (go_at_call 24; refine (HSM.out wo HBO.out).mono ?_)
  first
    | rintro e wy rfl hbg
    | rintro e wy ⟨rfl, hbg⟩
  have hwy := (below_one wo (.cells #[.string ⟨#[0]⟩, .string s] 9)).trans (hbg.mono (by simp))
  have HRW := Lib.hid ((hwy.block w.heap.size (by have := HSO.out; omega)).trans HWO.out)
  have HFB := Lib.hid (HBO.out.trans (hwy.mono (by have := HSO.out; omega)))
  clear hbg hwy
  go_wp2_with (refine wpList_store_row (by rfl) 33 (.tmp 2) (.tmp 5) (by rfl) w.heap.size (Lib.byteCells T).toArray (by rfl) (by rfl) 33 z32 HRW.out (by rw [hash_size HTL.out]; exact hashInfo) (by rw [hash_size HTL.out, HZS.out]) (byteCells_one T) ?_)
  have HRE := Lib.hid (setRow_heap wy w.heap.size _ (Lib.byteCells T).toArray 33 (0, 0) HRW.out)
  have HBR := Lib.hid (below_setRow HFB.out (Nat.le_refl _) (Lib.byteCells T).toArray)
  generalize wy.setRow w.heap.size (Lib.byteCells T).toArray = wJ at *
  go_wp2_with fail
  exact bodyPost_ret (results_row0 rfl _ _ w.heap.size 33 _ (0, 0) _ rfl HRE.out Tryd.underlying33 rfl (by rw [hash_size HTL.out]; exact hashInfo)) rfl ⟨rfl, HBR.out⟩
set_option maxHeartbeats 1000000 in
set_option maxRecDepth 100000 in
theorem shaSum_nil (n c : Nat) (hn : n = 0) (w : World) (htab : TabSha w) (hgB : 5 < w.heap.size) :
    Calls Tryd.prog 24 #[.slice none n c] w fun e w' => (∃ T : List UInt8, T.length = 32 ∧ e = .returned (.agg (Lib.byteCells T).toArray)) ∧ Below w.heap.size w w' := by
  have HTB := Lib.hid htab
  have HBB := Lib.hid hgB
  clear htab hgB
  go_enter Tryd.func24, Tryd.ntmps24
  obtain ⟨z32, hz32⟩ : ∃ z, (#[.int .u8 0, .int .u8 0, .int .u8 0, .int .u8 0, .int .u8 0, .int .u8 0, .int .u8 0, .int .u8 0, .int .u8 0, .int .u8 0, .int .u8 0, .int .u8 0, .int .u8 0, .int .u8 0, .int .u8 0, .int .u8 0, .int .u8 0, .int .u8 0, .int .u8 0, .int .u8 0, .int .u8 0, .int .u8 0, .int .u8 0, .int .u8 0, .int .u8 0, .int .u8 0, .int .u8 0, .int .u8 0, .int .u8 0, .int .u8 0, .int .u8 0, .int .u8 0] : Array Value) = z := ⟨_, rfl⟩
  go_upto_region 1 with fail
  have hzs : z32.size = 32 := by rw [← hz32]; rfl
  clear hz32
  have hwo := heap_one w (.cells z32 33)
  have hbo := below_one w (.cells z32 33)
  have hso : (w.alloc (.cells z32 33)).heap.size = w.heap.size + 1 := by simp
  generalize (w.alloc (.cells z32 33)) = wo at *
  have HWO := Lib.hid hwo
  have HBO := Lib.hid hbo
  have HSO := Lib.hid hso
  have HZS := Lib.hid hzs
  clear hwo hbo hso hzs
  go_wp2_with (go_at_call 38; refine (new_any wo).mono ?_)
  first
    | rintro e wn rfl hdn hbn
    | rintro e wn ⟨rfl, hdn, hbn⟩
  have HDN := Lib.hid hdn
  have HBN := Lib.hid hbn
  clear hdn hbn
  go_wp2_with fail
  go_loopw [9] (fun vi wx => vi = .int .i64 0 ∧ (∃ rv, Dig wo.heap.size wx (wo.heap.size + 1) wo.heap.size rv []) ∧ Below wo.heap.size wo wx) (fun vi _ => 0)
  case atStart => exact ⟨rfl, ⟨_, HDN.out⟩, HBN.out⟩
  case round =>
    obtain ⟨rfl, ⟨rv, hdg⟩, hbel⟩ := hrel
    rename World => wx
    have i1 : ¬ (0 : Int) < (n : Int) := by omega
    clear hn
    have hwx : w.heap.size < wx.heap.size := by have := HSO.out; have := hbel.size; omega
    have HSUM := Lib.hid (sum_any wo.heap.size (wo.heap.size + 1) wo.heap.size rv [] wx hdg (tab_bel HTB.out (HBO.out.trans (hbel.mono (by have := HSO.out; omega))) HBB.out) (by have := HBB.out; omega) (by simp))
    have HTL := Lib.hid (shaL_len ([] : List UInt8))
    generalize shaL ([] : List UInt8) = T at *
    have HBX := Lib.hid hbel
    clear hdg hbel
    go_wp2_with (go_at_call 40; refine HSUM.out.mono ?_)
    first
      | rintro e wy rfl hbg
      | rintro e wy ⟨rfl, hbg⟩
    have HRW := Lib.hid (((HBX.out.trans (hbg.mono HBX.out.size)).block w.heap.size (by rw [HSO.out]; exact Nat.lt_succ_self _)).trans HWO.out)
    have HFB := Lib.hid (HBO.out.trans ((HBX.out.trans (hbg.mono HBX.out.size)).mono (by have := HSO.out; omega)))
    clear hbg hwx
    go_wp2_with (refine wpList_store_row (by rfl) 33 (.tmp 2) (.tmp 19) (by rfl) w.heap.size (Lib.byteCells T).toArray (by rfl) (by rfl) 33 z32 HRW.out (by rw [hash_size HTL.out]; exact hashInfo) (by rw [hash_size HTL.out, HZS.out]) (byteCells_one T) ?_)
    have HRE := Lib.hid (setRow_heap wy w.heap.size _ (Lib.byteCells (T)).toArray 33 (0, 0) HRW.out)
    have HBR := Lib.hid (below_setRow HFB.out (Nat.le_refl _) (Lib.byteCells (T)).toArray)
    generalize wy.setRow w.heap.size (Lib.byteCells (T)).toArray = wJ at *
    go_wp2_with fail
    exact bodyPost_ret (results_row0 rfl _ _ w.heap.size 33 _ (0, 0) _ rfl HRE.out Tryd.underlying33 rfl (by rw [List.size_toArray, Lib.byteCells_length, HTL.out]; kernel_rfl)) rfl ⟨⟨T, HTL.out, rfl⟩, HBR.out⟩
set_option maxHeartbeats 1000000 in
set_option maxRecDepth 100000 in
theorem empty_any (w : World) (htab : TabSha w) (hgB : 5 < w.heap.size) :
    Calls Tryd.prog 36 #[] w fun e w' => (∃ T : List UInt8, T.length = 32 ∧ e = .returned (.agg (Lib.byteCells T).toArray)) ∧ Below w.heap.size w w' := by
  have HTB := Lib.hid htab
  have HBB := Lib.hid hgB
  clear htab hgB
  obtain ⟨z32, hz32, hzs⟩ := z32_ex
  go_enter Tryd.func36, Tryd.ntmps36
  go_upto_region 1 with fail
  clear hz32
  have hwo := heap_one w (.cells z32 33)
  have hbo := below_one w (.cells z32 33)
  have hso : (w.alloc (.cells z32 33)).heap.size = w.heap.size + 1 := by simp
  generalize (w.alloc (.cells z32 33)) = wo at *
  have HWO := Lib.hid hwo
  have HBO := Lib.hid hbo
  have HSO := Lib.hid hso
  have HZS := Lib.hid hzs
  clear hwo hbo hso hzs
  go_wp2_with (go_at_call 24; refine (shaSum_nil 0 0 rfl wo (tab_bel HTB.out HBO.out HBB.out) (by have := HBB.out; have := HSO.out; omega)).mono ?_)
  first
    | rintro e wy T hTL rfl hbg
    | rintro e wy ⟨⟨T, hTL, rfl⟩, hbg⟩
  have HTL := Lib.hid hTL
  clear hTL
  have HRW := Lib.hid ((hbg.block w.heap.size (by have := HSO.out; omega)).trans HWO.out)
  have HFB := Lib.hid (HBO.out.trans (hbg.mono (by have := HSO.out; omega)))
  clear hbg
  go_wp2_with (refine wpList_store_row (by rfl) 33 (.tmp 0) (.tmp 1) (by rfl) w.heap.size (Lib.byteCells T).toArray (by rfl) (by rfl) 33 z32 HRW.out (by rw [hash_size HTL.out]; exact hashInfo) (by rw [hash_size HTL.out, HZS.out]) (byteCells_one T) ?_)
  have HRE := Lib.hid (setRow_heap wy w.heap.size _ (Lib.byteCells T).toArray 33 (0, 0) HRW.out)
  have HBR := Lib.hid (below_setRow HFB.out (Nat.le_refl _) (Lib.byteCells T).toArray)
  generalize wy.setRow w.heap.size (Lib.byteCells T).toArray = wJ at *
  go_wp2_with fail
  exact bodyPost_ret (results_row0 rfl _ _ w.heap.size 33 _ (0, 0) _ rfl HRE.out Tryd.underlying33 rfl (by rw [hash_size HTL.out]; exact hashInfo)) rfl ⟨⟨T, HTL.out, rfl⟩, HBR.out⟩
def textS (a b : List UInt8) : ByteArray := ⟨(nodeT a b).toArray⟩
theorem bs_text (a b : List UInt8) : bs (textS a b) = nodeT a b := by simp [bs, textS]
set_option maxHeartbeats 1000000 in
set_option maxRecDepth 100000 in
theorem text_any (a b : List UInt8) (ha : a.length = 32) (hb : b.length = 32) (w : World) :
    Calls Tryd.prog 31 #[.agg (Lib.byteCells a).toArray, .agg (Lib.byteCells b).toArray] w fun e w' => e = .returned (.string (textS a b)) ∧ Below w.heap.size w w' := by
  have HA := Lib.hid (hash_size ha)
  have HB := Lib.hid (hash_size hb)
  go_enter Tryd.func31, Tryd.ntmps31
  go_upto_region 1 with fail
  have h1 := heap_one w (.cells (Lib.byteCells a).toArray 33)
  have b1 := below_one w (.cells (Lib.byteCells a).toArray 33)
  have s1 : (w.alloc (.cells (Lib.byteCells a).toArray 33)).heap.size = w.heap.size + 1 := by simp
  generalize w.alloc (.cells (Lib.byteCells a).toArray 33) = w1 at *
  have h2 := heap_one w1 (.cells (Lib.byteCells b).toArray 33)
  have b2 := below_one w1 (.cells (Lib.byteCells b).toArray 33)
  have s2 : (w1.alloc (.cells (Lib.byteCells b).toArray 33)).heap.size = w1.heap.size + 1 := by simp
  generalize w1.alloc (.cells (Lib.byteCells b).toArray 33) = w2 at *
  have e1 : w.heap.size + 1 = w1.heap.size := s1.symm
  have HBW := Lib.hid (b1.trans (b2.mono (by omega)))
  have c1 := conv_row w2.drew w.heap.size a ha (below_heap b2 h1)
  have c2 := conv_row w2.drew (w.heap.size + 1) b hb (by rw [e1]; exact h2)
  clear h1 h2 b1 b2 s1 s2 e1
  go_region
  all_goals (try go_wp2)
  go_ret
  exact ⟨congrArg (fun x => Ending.returned (.string x)) (by simp [textS, nodeT]; rfl), HBW.out.drew⟩
end Go.Proofs.YthcccgbodceeeaaDoor
