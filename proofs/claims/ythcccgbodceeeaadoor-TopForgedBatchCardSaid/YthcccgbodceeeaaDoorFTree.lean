/-
  The hash of a stretch: naive's closure that calls itself, Tree and Root by their contracts.
-/
import Derived.Test.YthcccgbodceeeaaDoorFSplit
import Derived.Test.YthcccgbodceeeaaDoorFLeaf
import Derived.Test.YthcccgbodceeeaaDoorFLog
namespace Go.Proofs.YthcccgbodceeeaaDoor
open Go.RowKit

/-- What the closure sees: the log behind its captured variable, itself behind the other. -/
structure TreeEnv (S : Nat → Addr) (w : World) (lb : Nat) (ls : List ByteArray) (cl ct : Nat) : Prop where
  fw : FW S w
  log : LogAt w lb ls
  l : ∃ t fr, w.heap[cl]? = some (.cells #[.pointer (some ⟨lb, 0, none⟩)] t fr)
  t : ∃ t fr, w.heap[ct]? = some (.cells #[.func (.func 37) #[] #[.pointer (some ⟨cl, 0, none⟩), .pointer (some ⟨ct, 0, none⟩)]] t fr)
theorem TreeEnv.below {S : Nat → Addr} {w w' : World} {lb : Nat} {ls : List ByteArray} {cl ct : Nat} (h : TreeEnv S w lb ls cl ct) (hb : Below w.heap.size w w') : TreeEnv S w' lb ls cl ct where
  fw := h.fw.below hb
  log := h.log.below hb
  l := by obtain ⟨t, fr, h⟩ := h.l; exact ⟨t, fr, below_heap hb h⟩
  t := by obtain ⟨t, fr, h⟩ := h.t; exact ⟨t, fr, below_heap hb h⟩
def treeArgs (b e : Int) (cl ct : Nat) : Array Value := #[.int .u64 b, .int .u64 e, .pointer (some ⟨cl, 0, none⟩), .pointer (some ⟨ct, 0, none⟩)]
theorem lf_at {ls : List ByteArray} {i : Nat} {s : ByteArray} (h : ls[i]? = some s) : lf ls i = bs s := by
  unfold lf
  rw [List.getD_eq_getElem?_getD, h]
  rfl
set_option maxHeartbeats 1000000 in
set_option maxRecDepth 100000 in
theorem tree_leaf (S : Nat → Addr) (lb : Nat) (ls : List ByteArray) (cl ct b e : Nat) (w : World) (hE : TreeEnv S w lb ls cl ct) (hl : ls.length ≤ 400) (hs : ∀ s ∈ ls, s.size ≤ 65536) (hbe : b < e) (hen : e ≤ ls.length) (h2 : e - b < 2) :
    Calls Tryd.prog 37 (treeArgs b e cl ct) w fun x w' => x = .returned (.agg (Lib.byteCells (shaL (leafT (lf ls b)))).toArray) ∧ Below w.heap.size w w' := by
  obtain ⟨z32, hz32, hzs⟩ := z32_ex
  obtain ⟨s, hsb⟩ : ∃ s, ls[b]? = some s := ⟨_, List.getElem?_eq_getElem (by omega)⟩
  rw [lf_at hsb]
  obtain ⟨T, hT⟩ : ∃ T, shaL (leafT (bs s)) = T := ⟨_, rfl⟩
  have HTL := Lib.hid (show T.length = 32 by rw [← hT]; exact shaL_len _)
  have HLF := Lib.hid fun (W : World) (hbw : Below w.heap.size w W) => (by
    have h := hleaf_any s (by have := hs s (List.mem_of_getElem? hsb); omega) W (hE.fw.below hbw).tab (hE.fw.below hbw).lt
    rw [hT] at h
    exact h : Calls Tryd.prog 8 #[.string s] W fun e w' => e = .returned (.agg (Lib.byteCells T).toArray) ∧ Below W.heap.size W w')
  rw [hT]
  have HSP := Lib.hid fun W => (by
    have h := split_any (e - b) (by omega) W
    rw [splitV, if_neg (by omega), show ((e - b : Nat) : Int) = (e : Int) - (b : Int) by omega] at h
    exact h : Calls Tryd.prog 30 #[.int .u64 ((e : Int) - (b : Int))] W fun e w' => e = .returned (.tuple #[.int .u64 0, .bool false]) ∧ W = w')
  obtain ⟨t1, fr1, hcl⟩ := hE.l
  obtain ⟨ao, cap, fr, hlb, hr⟩ := hE.log
  obtain ⟨g, rfl, hrow⟩ := hr (fun e => by rw [e] at hsb; simp at hsb)
  have ci : w.cell? ⟨g, b, none⟩ = some (.string s) := by
    have := hrow b (.string s) (by rw [List.getElem?_map, hsb]; rfl)
    rwa [Nat.zero_add] at this
  have c0 : w.cell? ⟨cl, 0, none⟩ = some (.pointer (some ⟨lb, 0, none⟩)) := cell_of hcl 0 rfl
  have c1 : w.cell? ⟨lb, 0, none⟩ = some (.slice (some ⟨g, 0, none⟩) ls.length cap) := cell_of hlb 0 rfl
  have i1 : (b : Int) < (ls.length : Int) := by omega
  have i2 : (b : Int) < (e : Int) := by omega
  have i3 : (e : Int) ≤ 400 := by omega
  clear hT hr hrow hlb hcl hE hs hsb hbe hen h2 hl
  unfold treeArgs
  go_enter Tryd.func37, Tryd.ntmps37
  go_upto_region 1 with fail
  clear hz32
  have hbo := below_one w (.cells z32 33)
  have HWO := Lib.hid (heap_one w (.cells z32 33))
  have c0 := below_cell hbo c0
  have c1 := below_cell hbo c1
  have ci := below_cell hbo ci
  generalize (w.alloc (.cells z32 33)) = wo at *
  have HBO := Lib.hid hbo
  have HZS := Lib.hid hzs
  clear hbo hzs
  go_wp2_with (first | (go_at_call 30; refine (HSP.out _).mono ?_; rintro x w' ⟨rfl, rfl⟩) | (go_at_call 8; refine (HLF.out wo HBO.out).mono ?_))
  rintro x wy ⟨rfl, hbg⟩
  have HRW := Lib.hid (below_heap hbg HWO.out)
  have HFB := Lib.hid (HBO.out.trans (hbg.mono HBO.out.size))
  clear hbg
  go_wp2_with (refine wpList_store_row (by rfl) 33 (.tmp 6) (.tmp 25) (by rfl) w.heap.size (Lib.byteCells T).toArray (by rfl) (by rfl) 33 z32 HRW.out (by rw [hash_size HTL.out]; exact hashInfo) (by rw [hash_size HTL.out, HZS.out]) (byteCells_one T) ?_)
  have HRE := Lib.hid (setRow_heap wy w.heap.size _ (Lib.byteCells T).toArray 33 (0, 0) HRW.out)
  have HBR := Lib.hid (below_setRow HFB.out (Nat.le_refl _) (Lib.byteCells T).toArray)
  generalize wy.setRow w.heap.size (Lib.byteCells T).toArray = wJ at *
  go_wp2_with fail
  exact bodyPost_ret (results_row0 rfl _ _ w.heap.size 33 _ (0, 0) _ rfl HRE.out Tryd.underlying33 rfl (by rw [hash_size HTL.out]; exact hashInfo)) rfl ⟨rfl, HBR.out⟩
set_option maxHeartbeats 1000000 in
set_option maxRecDepth 100000 in
theorem tree_step (S : Nat → Addr) (lb : Nat) (ls : List ByteArray) (cl ct b e k : Nat) (A B T : List UInt8) (w : World) (hE : TreeEnv S w lb ls cl ct) (hbe : b + k < e) (hen : e ≤ 400) (h2 : 2 ≤ e - b) (hk : spL (e - b) = k)
    (hA : A.length = 32) (hB : B.length = 32) (hT : shaL (nodeT A B) = T)
    (H1 : ∀ W, Below w.heap.size w W → Calls Tryd.prog 37 (treeArgs b ((b : Int) + (k : Int)) cl ct) W fun x w' => x = .returned (.agg (Lib.byteCells A).toArray) ∧ Below W.heap.size W w')
    (H2 : ∀ W, Below w.heap.size w W → Calls Tryd.prog 37 (treeArgs ((b : Int) + (k : Int)) e cl ct) W fun x w' => x = .returned (.agg (Lib.byteCells B).toArray) ∧ Below W.heap.size W w') :
    Calls Tryd.prog 37 (treeArgs b e cl ct) w fun x w' => x = .returned (.agg (Lib.byteCells T).toArray) ∧ Below w.heap.size w w' := by
  obtain ⟨z32, hz32, hzs⟩ := z32_ex
  have HTL := Lib.hid (show T.length = 32 by rw [← hT]; exact shaL_len _)
  have HND := Lib.hid fun (W : World) (hbw : Below w.heap.size w W) => (by
    have h := node_any A B hA hB W (hE.fw.below hbw).tab (hE.fw.below hbw).lt
    rw [show (1 :: (A ++ B) : List UInt8) = nodeT A B from rfl, hT] at h
    exact h : Calls Tryd.prog 16 #[.agg (Lib.byteCells A).toArray, .agg (Lib.byteCells B).toArray] W fun e w' => e = .returned (.agg (Lib.byteCells T).toArray) ∧ Below W.heap.size W w')
  have HSP := Lib.hid fun W => (by
    have h := split_any (e - b) (by omega) W
    rw [splitV, if_pos h2, hk, show ((e - b : Nat) : Int) = (e : Int) - (b : Int) by omega] at h
    exact h : Calls Tryd.prog 30 #[.int .u64 ((e : Int) - (b : Int))] W fun e w' => e = .returned (.tuple #[.int .u64 (k : Int), .bool true]) ∧ W = w')
  have HH1 := Lib.hid H1
  have HH2 := Lib.hid H2
  obtain ⟨t1, fr1, hct⟩ := hE.t
  have c0 : w.cell? ⟨ct, 0, none⟩ = some (.func (.func 37) #[] #[.pointer (some ⟨cl, 0, none⟩), .pointer (some ⟨ct, 0, none⟩)]) := cell_of hct 0 rfl
  have l0 := lt_of_heap hct
  have i2 : (b : Int) < (e : Int) := by omega
  have i3 : (e : Int) ≤ 400 := by omega
  have hw : IntKind.u64.wrap ((b : Int) + (k : Int)) = (b : Int) + (k : Int) := by rw [IntKind.wrap_u64]; omega
  clear hT hct hE hA hB H1 H2 hk
  unfold treeArgs at *
  go_enter Tryd.func37, Tryd.ntmps37
  go_upto_region 1 with fail
  clear hz32
  have hbo := below_one w (.cells z32 33)
  have HWO := Lib.hid (heap_one w (.cells z32 33))
  have c0 := below_cell hbo c0
  have l0 := Nat.lt_of_lt_of_le l0 hbo.size
  generalize (w.alloc (.cells z32 33)) = wo at *
  have HBO := Lib.hid hbo
  have HZS := Lib.hid hzs
  clear hbo hzs
  go_wp2_with (first | (go_at_call 30; refine (HSP.out _).mono ?_; rintro x w' ⟨rfl, rfl⟩))
  refine wp_region_kept_tail 13 (by kernel_rfl) (by kernel_rfl) ?_
  simp only [List.take_succ_cons, List.take_zero, List.drop_succ_cons, List.drop_zero]
  iterate 5 go_big_quiet_step (fail)
  go_big_quiet_step ((go_at_call 37; rename Kept _ => x; exact Kept.call (HH1.out x.w (HBO.out.trans (x.below.mono HBO.out.size)))))
  iterate 5 go_big_quiet_step (fail)
  go_big_quiet_step ((go_at_call 37; rename Kept _ => x; exact Kept.call (HH2.out x.w (HBO.out.trans (x.below.mono HBO.out.size)))))
  go_big_quiet_step ((go_at_call 16; rename Kept _ => x; exact Kept.call (HND.out x.w (HBO.out.trans (x.below.mono HBO.out.size)))))
  refine wpQuiet_nil ?_
  intro x
  have HRW := Lib.hid (x.heap_old HWO.out)
  have HFB := Lib.hid (HBO.out.trans (x.below.mono HBO.out.size))
  generalize x.w = wy at *
  go_wp2_with (refine wpList_store_row (by rfl) 33 (.tmp 6) (.tmp 38) (by rfl) w.heap.size (Lib.byteCells T).toArray (by rfl) (by rfl) 33 z32 HRW.out (by rw [hash_size HTL.out]; exact hashInfo) (by rw [hash_size HTL.out, HZS.out]) (byteCells_one T) ?_)
  have HRE := Lib.hid (setRow_heap wy w.heap.size _ (Lib.byteCells T).toArray 33 (0, 0) HRW.out)
  have HBR := Lib.hid (below_setRow HFB.out (Nat.le_refl _) (Lib.byteCells T).toArray)
  generalize wy.setRow w.heap.size (Lib.byteCells T).toArray = wJ at *
  go_wp2_with fail
  exact bodyPost_ret (results_row0 rfl _ _ w.heap.size 33 _ (0, 0) _ rfl HRE.out Tryd.underlying33 rfl (by rw [hash_size HTL.out]; exact hashInfo)) rfl ⟨rfl, HBR.out⟩
theorem treeF_len' (L : Nat → List UInt8) (f b e : Nat) : (treeF spL L f b e).length = 32 := treeF_len shaL_len spL L f b e
theorem tree_clo (S : Nat → Addr) (lb : Nat) (ls : List ByteArray) (cl ct : Nat) (hl : ls.length ≤ 400) (hs : ∀ s ∈ ls, s.size ≤ 65536) : ∀ (f b e : Nat) (w : World), TreeEnv S w lb ls cl ct → b < e → e ≤ ls.length → e - b ≤ f + 1 →
    Calls Tryd.prog 37 (treeArgs b e cl ct) w fun x w' => x = .returned (.agg (Lib.byteCells (treeF spL (lf ls) f b e)).toArray) ∧ Below w.heap.size w w'
  | 0, b, e, w, hE, hbe, hen, hf => by
    rw [treeF]
    exact tree_leaf S lb ls cl ct b e w hE hl hs hbe hen (by omega)
  | f + 1, b, e, w, hE, hbe, hen, hf => by
    by_cases h2 : e - b < 2
    · rw [treeF, if_pos h2]
      exact tree_leaf S lb ls cl ct b e w hE hl hs hbe hen h2
    · rw [treeF, if_neg h2]
      obtain ⟨k1, k2⟩ := spL_mid' (show 2 ≤ e - b by omega)
      refine tree_step S lb ls cl ct b e (spL (e - b)) (treeF spL (lf ls) f b (b + spL (e - b))) (treeF spL (lf ls) f (b + spL (e - b)) e) _ w hE k2 (by omega) (by omega) rfl (treeF_len' _ _ _ _) (treeF_len' _ _ _ _) rfl (fun W hW => ?_) (fun W hW => ?_)
      · have := tree_clo S lb ls cl ct hl hs f b (b + spL (e - b)) W (hE.below hW) (by omega) (by omega) (by omega)
        rwa [show ((b + spL (e - b) : Nat) : Int) = (b : Int) + (spL (e - b) : Int) by push_cast; rfl] at this
      · have := tree_clo S lb ls cl ct hl hs f (b + spL (e - b)) e W (hE.below hW) (by omega) (by omega) (by omega)
        rwa [show ((b + spL (e - b) : Nat) : Int) = (b : Int) + (spL (e - b) : Int) by push_cast; rfl] at this
end Go.Proofs.YthcccgbodceeeaaDoor
