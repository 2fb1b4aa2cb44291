/-
  cartularylaw01.Book over lists of tiles: the mark and fill by their contracts (printed by wip/genbookg.py).
-/
import Derived.Test.YtlahdjdbbfjadaaGreatDoorBookWTi
import Derived.Test.YtlahdjdbbfjadaaGreatDoorKept
import Derived.Test.YtlahdjdbbfjadaaGreatDoorSha5
namespace Go.Proofs.YtlahdjdbbfjadaaGreatDoor
open Go.RowKit

theorem tileInfoB : (Tryz.prog.info? 93).map (·.size) = some 3 := by kernel_rfl
set_option maxHeartbeats 1000000 in
theorem mark1Ti (w : World) : Calls Tryz.prog 102 #[.int .i64 1] w fun e w' => e = .returned (.agg #[.int .u8 201, .int .u64 0, .int .i64 (-1)]) ∧ Below w.heap.size w w' := by
  have hb := below_one w (.cells #[.int .u8 201, .int .u64 0, .int .i64 (-1)] 93)
  go_enter Tryz.func102, Tryz.ntmps102
  go_wp2_with fail
  exact bodyPost_ret (results_row0 rfl _ _ w.heap.size 93 _ (0, 0) _ rfl (heap_one w _) Tryz.underlying93 rfl tileInfoB) rfl ⟨rfl, hb⟩
set_option maxHeartbeats 1000000 in
theorem is1Ti (w : World) : Calls Tryz.prog 117 #[.agg #[.int .u8 201, .int .u64 0, .int .i64 (-1)], .int .i64 1] w fun e w' => e = .returned (.bool true) ∧ Below w.heap.size w w' := by
  have hb := below_one w (.cells #[.int .u8 201, .int .u64 0, .int .i64 (-1)] 93)
  go_enter Tryz.func117, Tryz.ntmps117
  go_wp2_with fail
  go_ret
  exact ⟨rfl, hb⟩
set_option maxHeartbeats 1000000 in
theorem mark2Ti (w : World) : Calls Tryz.prog 102 #[.int .i64 2] w fun e w' => e = .returned (.agg #[.int .u8 201, .int .u64 0, .int .i64 (-2)]) ∧ Below w.heap.size w w' := by
  have hb := below_one w (.cells #[.int .u8 201, .int .u64 0, .int .i64 (-2)] 93)
  go_enter Tryz.func102, Tryz.ntmps102
  go_wp2_with fail
  exact bodyPost_ret (results_row0 rfl _ _ w.heap.size 93 _ (0, 0) _ rfl (heap_one w _) Tryz.underlying93 rfl tileInfoB) rfl ⟨rfl, hb⟩
set_option maxHeartbeats 1000000 in
theorem is2Ti (w : World) : Calls Tryz.prog 117 #[.agg #[.int .u8 201, .int .u64 0, .int .i64 (-2)], .int .i64 2] w fun e w' => e = .returned (.bool true) ∧ Below w.heap.size w w' := by
  have hb := below_one w (.cells #[.int .u8 201, .int .u64 0, .int .i64 (-2)] 93)
  go_enter Tryz.func117, Tryz.ntmps117
  go_wp2_with fail
  go_ret
  exact ⟨rfl, hb⟩
theorem mark_anyTi (i : Nat) (hi : i < 2) (w : World) : Calls Tryz.prog 102 #[.int .i64 ((i : Int) + 1)] w fun e w' => e = .returned (.agg (mkTi i).toArray) ∧ Below w.heap.size w w' := by
  rcases show i = 0 ∨ i = 1 by omega with rfl | rfl
  · exact mark1Ti w
  · exact mark2Ti w
theorem is_anyTi (i : Nat) (hi : i < 2) (w : World) : Calls Tryz.prog 117 #[.agg (mkTi i).toArray, .int .i64 ((i : Int) + 1)] w fun e w' => e = .returned (.bool true) ∧ Below w.heap.size w w' := by
  rcases show i = 0 ∨ i = 1 by omega with rfl | rfl
  · exact is1Ti w
  · exact is2Ti w
theorem infoETi : (Tryz.prog.info? 93).map (·.size) = some 3 := by kernel_rfl
theorem mk_allTi (i : Nat) : (mkTi i).toArray.all (·.oneCell') = true := all_oneCell_toArray (mk_oneTi i)
set_option maxHeartbeats 4000000 in
set_option maxRecDepth 100000 in
theorem fill_anyTi (w0 w : World) (B kb tb cap m : Nat) (V U : Nat → Value) (len : Nat → Nat) (X : Nat → List Value) (hS : FillSTi w0 B w kb tb cap m V U len X) (hB : w0.heap.size ≤ B) (hsep : SepTi kb tb m V) (hU : ∀ j, j < m → ∃ ao n c, U j = .slice ao n c) (hlen : ∀ j, j < m → len j ≤ 1048576) (hm : m ≤ 2) :
    Calls Tryz.prog 43 #[.pointer (some ⟨kb, 0, none⟩)] w fun e w' => e = .returned (.tuple #[]) ∧ FillSTi w0 B w' kb tb cap m V U len (marksTi len) := by
  have HX := Lib.hid (fun j (hj : j < m) => ((hS.own j hj).1 : (X j).length = len j * 3))
  have h0 : fillCTi X len 0 0 = X := by
    funext j
    unfold fillCTi
    rw [if_neg (by omega)]
    by_cases hj : j = 0
    · subst hj; rw [if_pos rfl]; simp [repsTi]
    · rw [if_neg hj]
  rw [← h0] at hS
  have HS := Lib.hid hS
  have hbk := hS.bs.bk
  have HSEP := Lib.hid hsep
  have HU := Lib.hid hU
  have HLEN := Lib.hid hlen
  clear hS hsep h0 hlen hU
  go_enter Tryz.func43, Tryz.ntmps43
  go_wp2_with fail
  go_loopw [2] (fun vi wr => ∃ i : Nat, i ≤ m ∧ vi = .int .i64 i ∧ FillSTi w0 B wr kb tb cap m V U len (fillCTi X len i 0)) (fun vi _ => m - (intOf vi).toNat)
  case atStart => exact ⟨0, by omega, rfl, HS.out⟩
  case round =>
    obtain ⟨i, hi, rfl, hS⟩ := hrel
    have hbk := hS.bs.bk
    have HSI := Lib.hid hS
    by_cases hlt : i < m
    · have i0 : (0 : Int) ≤ (i : Int) := by omega
      have i1 : (i : Int) < (m : Int) := by omega
      obtain ⟨e0, e1, e2⟩ := hS.bs.it i hlt
      have hob : ∃ ao c, V i = .slice ao (len i) c := by
        rcases (hS.own i hlt).2 with ⟨h, hn⟩ | ⟨g, c, cur, h, _⟩
        · exact ⟨none, 0, by rw [h, hn]⟩
        · exact ⟨_, _, h⟩
      obtain ⟨ao, c, hV⟩ := hob
      obtain ⟨uo, un, uc, hUi⟩ := HU.out i hlt
      rw [hV] at e0
      rw [hUi] at e1
      have HV := Lib.hid hV
      have hli := HLEN.out i hlt
      clear hS hV hUi
      have ba : Below wr.heap.size wr (wr.alloc (.cells #[.slice ao (len i) c, .slice uo un uc, .int .i64 ((i : Int) + 1)] 143)) := (Below.refl _ _).alloc (Nat.le_refl _) _
      have hra : (wr.alloc (.cells #[.slice ao (len i) c, .slice uo un uc, .int .i64 ((i : Int) + 1)] 143)).heap[wr.heap.size]? = some (.cells #[.slice ao (len i) c, .slice uo un uc, .int .i64 ((i : Int) + 1)] 143 (0, 0)) := heap_alloc_new wr _
      have HSA := Lib.hid (HSI.out.below ba)
      have HRA := Lib.hid hra
      have hsza : (wr.alloc (.cells #[.slice ao (len i) c, .slice uo un uc, .int .i64 ((i : Int) + 1)] 143)).heap.size = wr.heap.size + 1 := by simp
      have HGL := Lib.hid (fun g (hg : (V i).ownBlock = some g) => ((HSI.out.own i hlt).lt g hg).2)
      clear ba hra
      go_wp2_with fail
      generalize wr.alloc (.cells #[.slice ao (len i) c, .slice uo un uc, .int .i64 ((i : Int) + 1)] 143) = wa at *
      go_loopw [4] (fun vk wq => ∃ t : Nat, t ≤ len i ∧ vk = .int .i64 t ∧ FillSTi w0 B wq kb tb cap m V U len (fillCTi X len i t) ∧ wq.heap[wr.heap.size]? = some (.cells #[.slice ao (len i) c, .slice uo un uc, .int .i64 ((i : Int) + 1)] 143 (0, 0))) (fun vk _ => len i - (intOf vk).toNat)
      case atStart => exact ⟨0, by omega, rfl, HSA.out, HRA.out⟩
      case round =>
        rename World => wq
        obtain ⟨t, ht, rfl, hSq, hrq⟩ := hrel
        have HSQ := Lib.hid hSq
        have HRQ := Lib.hid hrq
        have k0 : wq.cell? ⟨wr.heap.size, 0, none⟩ = some (.slice ao (len i) c) := by rw [cell_of_row _ _ 0 _ _ _ hrq]; rfl
        have k2 : wq.cell? ⟨wr.heap.size, 2, none⟩ = some (.int .i64 ((i : Int) + 1)) := by rw [cell_of_row _ _ 2 _ _ _ hrq]; rfl
        have khq : wr.heap.size < wq.heap.size := lt_of_heap hrq
        by_cases htl : t < len i
        · have i2 : (0 : Int) ≤ (t : Int) := by omega
          have i3 : (t : Int) < (len i : Int) := by omega
          have hg0 : ∃ g, ao = some ⟨g, 0, none⟩ := by
            rcases (hSq.own i hlt).2 with ⟨_, h⟩ | ⟨g, c', cur, h, _⟩
            · omega
            · rw [HV.out] at h
              injection h with h1
              exact ⟨g, h1⟩
          obtain ⟨g, rfl⟩ := hg0
          have HST := Lib.hid (fun w3 (b3 : Below wq.heap.size wq w3) => fill_atTi (hSq.below b3) hB HSEP.out HX.out hlt htl HV.out)
          have hgl := HGL.out g (by rw [HV.out]; rfl)
          have HMS := Lib.hid (show (mkTi i).toArray.size = 3 by rw [List.size_toArray]; exact mk_lenTi i)
          clear hSq hrq
          go_upto_region 7 with fail
          refine wp_region_kept_tail 7 (by kernel_rfl) (by kernel_rfl) ?_
          simp only [List.take_succ_cons, List.take_zero, List.drop_succ_cons, List.drop_zero]
          iterate 5 go_big_quiet_step (fail)
          go_big_quiet_step ((go_at_call 102; rename Kept _ => x; exact Kept.call (mark_anyTi i (by omega) x.w)))
          go_big_quiet_step (fail)
          refine wpQuiet_nil ?_
          intro x
          obtain ⟨q1, _, q3⟩ := HST.out x.w x.below
          have HQ1 := Lib.hid q1
          have HQ3 := Lib.hid q3
          have HRX := Lib.hid (x.heap_old HRQ.out)
          have HNE := Lib.hid (show wr.heap.size ≠ g by omega)
          clear q1 q3 k0 k2
          generalize x.w = wx at *
          go_wp2_with (refine wpList_store_mid (by rfl) 93 (.tmp 34) (.tmp 33) (by rfl) g (t * 3) (mkTi i).toArray (by rfl) (by rfl) (by rw [HMS.out]; exact HQ1.out) (by rw [HMS.out]; exact infoETi) (mk_allTi i) ?_)
          go_roundw
          case rel => exact ⟨t + 1, by omega, by go_num, HQ3.out, (heap_setCells_neTi g _ _ _ _ HNE.out).trans HRX.out⟩
          case measure => simp [intOf]; omega
        · obtain rfl : t = len i := by omega
          have i3 : ¬ (len i : Int) < (len i : Int) := by omega
          have hn := fillC_nextTi X len i (HX.out i hlt)
          rw [hn] at hSq
          have HSN := Lib.hid hSq
          clear hSq hrq hn
          go_wp2_with fail
          go_roundw
          case rel => exact ⟨i + 1, by omega, by go_num, HSN.out⟩
          case measure => simp [intOf]; omega
    · obtain rfl : i = m := by omega
      have i1 : ¬ (i : Int) < (i : Int) := by omega
      clear hS
      go_wp2_with fail
      go_end0
      refine ⟨rfl, HSI.out.bel, HSI.out.bs, fun j hj => ?_⟩
      have h := HSI.out.own j hj
      unfold fillCTi at h
      rw [if_pos hj] at h
      exact h
end Go.Proofs.YtlahdjdbbfjadaaGreatDoor
