/-
  batch's walk: says at a leaf and at a node.
-/
import Derived.Test.YthcccgbodceeeaaDoorFSays
import Derived.Deep.DeepCutAuto
namespace Go.Proofs.YthcccgbodceeeaaDoor
open Go.RowKit

theorem below_grown {w w' : World} {row : Option Nat} (h : Below w.heap.size w w') : w.grownBy w' row := ⟨h.os, h.tape, h.output, h.size, fun k hk _ => h.block k hk⟩
theorem two_new (w : World) (A C : Array Value) (TA TC : TypeId) : ((w.alloc (.cells A TA)).alloc (.cells C TC)).heap[w.heap.size]? = some (.cells A TA (0, 0)) ∧ ((w.alloc (.cells A TA)).alloc (.cells C TC)).heap[w.heap.size + 1]? = some (.cells C TC (0, 0)) ∧ Below w.heap.size w ((w.alloc (.cells A TA)).alloc (.cells C TC)) := by
  have h2 := heap_one (w.alloc (.cells A TA)) (.cells C TC)
  rw [show (w.alloc (.cells A TA)).heap.size = w.heap.size + 1 by simp] at h2
  exact ⟨(heap_alloc_old _ _ (by simp)).trans (heap_one w _), h2, (below_one w _).alloc (by simp) _⟩
theorem range_row {W : World} {g : Nat} {l : List UInt8} {T : TypeId} {fr : Nat × Nat} (h : W.heap[g]? = some (.cells (Lib.byteCells l).toArray T fr)) : W.rangeAt g 0 (Lib.byteCells l) := fun j v hv => by
  rw [Nat.zero_add]
  exact cell_of h j (by rw [List.getElem?_toArray]; exact hv)
theorem grown_trans {a b c : World} {row : Option Nat} (h : a.grownBy b row) (k : b.grownBy c row) : a.grownBy c row := ⟨k.os.trans h.os, k.tape.trans h.tape, k.output.trans h.output, Nat.le_trans h.size k.size, fun i hi hne => (k.block i (Nat.lt_of_lt_of_le hi h.size) hne).trans (h.block i hi hne)⟩
set_option maxRecDepth 100000 in
theorem nop_any (a b c d : Array Value) (w : World) : Calls Tryd.prog 49 #[.agg a, .agg b, .agg c, .agg d] w fun e w' => e = .returned (.tuple #[]) ∧ Below w.heap.size w w' := by
  have hb := (((below_one w (.cells a 65)).alloc (by simp) (.cells b 65)).alloc (by simp; omega) (.cells c 33)).alloc (by simp; omega) (.cells d 33)
  go_enter Tryd.func49, Tryd.ntmps49
  go_wp2_with fail
  go_end0
  exact ⟨rfl, hb⟩
set_option maxHeartbeats 1000000 in
set_option maxRecDepth 100000 in
theorem says_leaf (w0 : World) (wb B n cap b e i : Nat) (ao : Option Addr) (hs : List (List UInt8)) (h : List UInt8) (pr : List (List UInt8)) (w : World) (hW : WalkAt w0 w wb B (.slice ao n cap) pr) (hv : HsIn w0 (.slice ao n cap) hs) (hn : n = hs.length) (hi : hs[i]? = some h) (hb : b = B + i) (hbe : b < e) (h2 : e - b < 2) (hBn : B + n ≤ 400) :
    Calls Tryd.prog 42 #[.pointer (some ⟨wb, 0, none⟩), spanV b e] w fun x w' => SaysPost w0 wb B (.slice ao n cap) w h pr x w' := by
  obtain ⟨z32, hz32, hzs⟩ := z32_ex
  obtain ⟨pv, hrow, hps⟩ := hW.row
  obtain ⟨hpl, ao1, cap1, hv1, _, hpr⟩ := hv
  injection hv1 with e1 e2 e3
  subst e1 e3
  obtain ⟨g, o, rfl, hrg⟩ := hpr (fun e => by rw [e] at hi; simp at hi)
  have hin : i < n := by rw [hn]; exact (List.getElem?_eq_some_iff.1 hi).1
  have m1 : ¬ (e : Int) ≤ (B : Int) := by omega
  have m2 : ¬ (B : Int) + (n : Int) ≤ (b : Int) := by omega
  have hi3 : IntKind.u64.wrap ((b : Int) - (B : Int)) = (i : Int) := by rw [IntKind.wrap_u64]; omega
  have hi4 : (0 : Int) ≤ (i : Int) := by omega
  have hi5 : (i : Int) < (n : Int) := by omega
  have hw1 : IntKind.u64.wrap ((B : Int) + (n : Int)) = (B : Int) + (n : Int) := by rw [IntKind.wrap_u64]; omega
  have HM := Lib.hid (And.intro m1 m2)
  have HI := Lib.hid (And.intro hi3 (And.intro hi4 hi5))
  have k1 : (b : Int) < (e : Int) := by omega
  have k2 : (e : Int) ≤ 401 := by omega
  clear m1 m2 hi3 hi4 hi5
  have HPL := Lib.hid (hpl h (List.mem_of_getElem? hi))
  have HRP := Lib.hid (range_below hW.bel (show w0.rangeAt g (o + i * 32) (Lib.byteCells h) from (HsIn.at hpl hrg hi)))
  have HGE := Lib.hid hW.ge
  have HBL := Lib.hid hW.bel
  have HPS := Lib.hid hps
  have HSP := Lib.hid fun W => (by
    have h := split_any (e - b) (by omega) W
    rw [splitV, if_neg (by omega), show ((e - b : Nat) : Int) = (e : Int) - (b : Int) by omega] at h
    exact h : Calls Tryd.prog 30 #[.int .u64 ((e : Int) - (b : Int))] W fun e w' => e = .returned (.tuple #[.int .u64 0, .bool false]) ∧ W = w')
  clear hpr hrg hpl hW hps hn hi hb hbe h2 hin
  have q1 := below_one w (.cells #[.int .u64 (b : Int), .int .u64 (e : Int)] 65)
  have q2 := below_one (w.alloc (.cells #[.int .u64 (b : Int), .int .u64 (e : Int)] 65)) (.cells z32 33)
  have hA := heap_one w (.cells #[.int .u64 (b : Int), .int .u64 (e : Int)] 65)
  have hB := heap_one (w.alloc (.cells #[.int .u64 (b : Int), .int .u64 (e : Int)] 65)) (.cells z32 33)
  rw [show (w.alloc (.cells #[.int .u64 (b : Int), .int .u64 (e : Int)] 65)).heap.size = w.heap.size + 1 by simp] at hB
  unfold spanV
  go_enter Tryd.func42, Tryd.ntmps42
  go_upto_region 1 with fail
  clear hz32
  have hq := q1.trans (q2.mono (by simp))
  have hA' := below_heap q2 hA
  generalize ((w.alloc (.cells #[.int .u64 (b : Int), .int .u64 (e : Int)] 65)).alloc (.cells z32 33)) = w2 at *
  clear hA q1 q2
  have hrow2 := below_heap hq hrow
  have c0 : w2.cell? ⟨w.heap.size, 0, none⟩ = some (.int .u64 (b : Int)) := cell_of hA' 0 rfl
  have c1 : w2.cell? ⟨w.heap.size, 1, none⟩ = some (.int .u64 (e : Int)) := cell_of hA' 1 rfl
  have r0 : w2.cell? ⟨wb, 0, none⟩ = some (.int .u64 (B : Int)) := cell_of hrow2 0 rfl
  have r1 : w2.cell? ⟨wb, 1, none⟩ = some (.slice (some ⟨g, o, none⟩) n cap) := cell_of hrow2 1 rfl
  have hwlt := lt_of_heap hrow
  have lwb := lt_of_heap hrow2
  have lws := lt_of_heap hA'
  have HRW := Lib.hid hrow2
  have HZ := Lib.hid hB
  have HQ := Lib.hid hq
  have HZS := Lib.hid hzs
  have HWL := Lib.hid hwlt
  clear hrow hrow2 hA' hB hq hzs hwlt
  obtain ⟨m1, m2⟩ := HM.out
  go_quiet (fail)
  have hd := below_drewN (Below.refl w2.heap.size w2) nq
  have c0 := below_cell hd c0
  have c1 := below_cell hd c1
  have r0 := below_cell hd r0
  have r1 := below_cell hd r1
  have lwb := Nat.lt_of_lt_of_le lwb hd.size
  have lws := Nat.lt_of_lt_of_le lws hd.size
  have HRW := Lib.hid (below_heap hd HRW.out)
  have HZ := Lib.hid (below_heap hd HZ.out)
  have HQ := Lib.hid (HQ.out.trans (hd.mono HQ.out.size))
  have HRP3 := Lib.hid (range_below HQ.out HRP.out)
  generalize w2.drewN nq = w3 at *
  clear hd
  go_wp2_with (go_at_call 30; refine (HSP.out _).mono ?_; rintro x w' ⟨rfl, rfl⟩)
  obtain ⟨hi3, hi4, hi5⟩ := HI.out
  refine wp_region_kept_tail 13 (by kernel_rfl) (by kernel_rfl) ?_
  simp only [List.take_succ_cons, List.take_zero, List.drop_succ_cons, List.drop_zero]
  iterate 12 go_big_quiet_step (fail)
  refine wpQuiet_hashLoad (by rfl) (.tmp 72) (by rfl) g (o + i * 32) (by rfl) h HPL.out HRP3.out ?_
  simp only [Act.put, List.setIfInBounds_toArray, List.set_cons_zero, List.set_cons_succ]
  refine wpQuiet_nil ?_
  intro x
  have HRX := Lib.hid (x.heap_old HRW.out)
  have HZX := Lib.hid (x.heap_old HZ.out)
  have HQX := Lib.hid (HQ.out.trans (x.below.mono HQ.out.size))
  have HFIN := Lib.hid (fin_store (cs := (Lib.byteCells h).toArray) HZX.out (Nat.le_succ _) HWL.out HBL.out.size (below_grown HQX.out) ⟨HBL.out.trans (HQX.out.mono HBL.out.size), HGE.out, _, HRX.out, HPS.out⟩)
  generalize x.w = wy at *
  go_wp2_with (refine wpList_store_row (by rfl) 33 (.tmp 4) (.tmp 73) (by rfl) (w.heap.size + 1) (Lib.byteCells h).toArray (by rfl) (by rfl) 33 z32 HZX.out (by rw [hash_size HPL.out]; exact hashInfo) (by rw [hash_size HPL.out, HZS.out]) (byteCells_one h) ?_)
  generalize wy.setRow (w.heap.size + 1) (Lib.byteCells h).toArray = wJ at *
  exact bodyPost_ret (results_row0 rfl _ _ (w.heap.size + 1) 33 _ (0, 0) _ rfl HFIN.out.1 Tryd.underlying33 rfl (by rw [hash_size HPL.out]; exact hashInfo)) rfl ⟨rfl, HFIN.out.2.1, HFIN.out.2.2⟩
set_option maxHeartbeats 2000000 in
set_option maxRecDepth 100000 in
theorem says_node (S : Nat → Addr) (w0 : World) (hF : FW S w0) (wb B n cap b e k : Nat) (ao : Option Addr) (A A' T : List UInt8) (pr pr1 pr2 : List (List UInt8)) (w : World) (hW : WalkAt w0 w wb B (.slice ao n cap) pr) (ho : B < e ∧ b < B + n) (hbe : b + k < e) (he : e ≤ 400) (h2 : 2 ≤ e - b) (hk : spL (e - b) = k) (hBn : B + n ≤ 400)
    (hA : A.length = 32) (hA' : A'.length = 32) (hT : shaL (nodeT A A') = T)
    (H1 : ∀ W, WalkAt w0 W wb B (.slice ao n cap) pr → Calls Tryd.prog 42 #[.pointer (some ⟨wb, 0, none⟩), .agg #[.int .u64 (b : Int), .int .u64 ((b : Int) + (k : Int))]] W fun x w' => SaysPost w0 wb B (.slice ao n cap) W A pr1 x w')
    (H2 : ∀ W, WalkAt w0 W wb B (.slice ao n cap) pr1 → Calls Tryd.prog 42 #[.pointer (some ⟨wb, 0, none⟩), .agg #[.int .u64 ((b : Int) + (k : Int)), .int .u64 (e : Int)]] W fun x w' => SaysPost w0 wb B (.slice ao n cap) W A' pr2 x w') :
    Calls Tryd.prog 42 #[.pointer (some ⟨wb, 0, none⟩), spanV b e] w fun x w' => SaysPost w0 wb B (.slice ao n cap) w T pr2 x w' := by
  obtain ⟨z32, hz32, hzs⟩ := z32_ex
  obtain ⟨pv, hrow, hps⟩ := hW.row
  have HGE := Lib.hid hW.ge
  have HBL := Lib.hid hW.bel
  have HPS := Lib.hid hps
  have HTL := Lib.hid (show T.length = 32 by rw [← hT]; exact shaL_len _)
  have HAL := Lib.hid hA
  have HAL' := Lib.hid hA'
  have HND := Lib.hid fun (W : World) (hbw : Below w0.heap.size w0 W) => (by
    have h := node_any A A' hA hA' W (hF.below hbw).tab (hF.below hbw).lt
    rw [show (1 :: (A ++ A') : List UInt8) = nodeT A A' from rfl, hT] at h
    exact h : Calls Tryd.prog 16 #[.agg (Lib.byteCells A).toArray, .agg (Lib.byteCells A').toArray] W fun e w' => e = .returned (.agg (Lib.byteCells T).toArray) ∧ Below W.heap.size W w')
  have HSP := Lib.hid fun W => (by
    have h := split_any (e - b) (by omega) W
    rw [splitV, if_pos h2, hk, show ((e - b : Nat) : Int) = (e : Int) - (b : Int) by omega] at h
    exact h : Calls Tryd.prog 30 #[.int .u64 ((e : Int) - (b : Int))] W fun e w' => e = .returned (.tuple #[.int .u64 (k : Int), .bool true]) ∧ W = w')
  have HH1 := Lib.hid H1
  have HH2 := Lib.hid H2
  have HM := Lib.hid (show ¬ (e : Int) ≤ (B : Int) ∧ ¬ (B : Int) + (n : Int) ≤ (b : Int) by omega)
  have k1 : (b : Int) < (e : Int) := by omega
  have k2 : (e : Int) ≤ 401 := by omega
  have hw1 : IntKind.u64.wrap ((B : Int) + (n : Int)) = (B : Int) + (n : Int) := by rw [IntKind.wrap_u64]; omega
  have hw2 : IntKind.u64.wrap ((b : Int) + (k : Int)) = (b : Int) + (k : Int) := by rw [IntKind.wrap_u64]; omega
  clear hW hps hA hA' hT hF H1 H2 hk hbe h2 ho
  have q1 := below_one w (.cells #[.int .u64 (b : Int), .int .u64 (e : Int)] 65)
  have q2 := below_one (w.alloc (.cells #[.int .u64 (b : Int), .int .u64 (e : Int)] 65)) (.cells z32 33)
  have hA := heap_one w (.cells #[.int .u64 (b : Int), .int .u64 (e : Int)] 65)
  have hB := heap_one (w.alloc (.cells #[.int .u64 (b : Int), .int .u64 (e : Int)] 65)) (.cells z32 33)
  rw [show (w.alloc (.cells #[.int .u64 (b : Int), .int .u64 (e : Int)] 65)).heap.size = w.heap.size + 1 by simp] at hB
  unfold spanV
  go_enter Tryd.func42, Tryd.ntmps42
  go_upto_region 1 with fail
  clear hz32
  have hq := q1.trans (q2.mono (by simp))
  have hA' := below_heap q2 hA
  generalize ((w.alloc (.cells #[.int .u64 (b : Int), .int .u64 (e : Int)] 65)).alloc (.cells z32 33)) = w2 at *
  clear hA q1 q2
  have hrow2 := below_heap hq hrow
  have c0 : w2.cell? ⟨w.heap.size, 0, none⟩ = some (.int .u64 (b : Int)) := cell_of hA' 0 rfl
  have c1 : w2.cell? ⟨w.heap.size, 1, none⟩ = some (.int .u64 (e : Int)) := cell_of hA' 1 rfl
  have r0 : w2.cell? ⟨wb, 0, none⟩ = some (.int .u64 (B : Int)) := cell_of hrow2 0 rfl
  have r1 : w2.cell? ⟨wb, 1, none⟩ = some (.slice ao n cap) := cell_of hrow2 1 rfl
  have hwlt := lt_of_heap hrow
  have lwb := lt_of_heap hrow2
  have lws := lt_of_heap hA'
  have HRW := Lib.hid hrow2
  have HZ := Lib.hid hB
  have HQ := Lib.hid hq
  have HZS := Lib.hid hzs
  have HWL := Lib.hid hwlt
  clear hrow hrow2 hA' hB hq hzs hwlt
  obtain ⟨m1, m2⟩ := HM.out
  go_quiet (fail)
  have hd := below_drewN (Below.refl w2.heap.size w2) nq
  have c0 := below_cell hd c0
  have c1 := below_cell hd c1
  have r0 := below_cell hd r0
  have r1 := below_cell hd r1
  have lwb := Nat.lt_of_lt_of_le lwb hd.size
  have lws := Nat.lt_of_lt_of_le lws hd.size
  have HRW := Lib.hid (below_heap hd HRW.out)
  have HZ := Lib.hid (below_heap hd HZ.out)
  have HQ := Lib.hid (HQ.out.trans (hd.mono HQ.out.size))
  generalize w2.drewN nq = w3 at *
  clear hd r0 r1
  go_upto_region 8 with (go_at_call 30; refine (HSP.out _).mono ?_; rintro x w' ⟨rfl, rfl⟩)
  go_cut [8, 9] (fun s8 s9 wx => ∃ g8 g9, s8 = .pointer (some ⟨g8, 0, none⟩) ∧ s9 = .pointer (some ⟨g9, 0, none⟩) ∧ wx.heap[g8]? = some (.cells #[.int .u64 (b : Int), .int .u64 ((b : Int) + (k : Int))] 65 (0, 0)) ∧ wx.heap[g9]? = some (.cells #[.int .u64 ((b : Int) + (k : Int)), .int .u64 (e : Int)] 65 (0, 0)) ∧ w.heap.size ≤ g8 ∧ w.heap.size ≤ g9 ∧ Below w3.heap.size w3 wx)
  case first =>
    have HK := Lib.hid (fun (W' : World) (hb : Below w3.heap.size w3 W') => (⟨hb, below_cell hb c0, below_cell hb c1⟩ : Below w3.heap.size w3 W' ∧ W'.cell? ⟨w.heap.size, 0, none⟩ = some (.int .u64 (b : Int)) ∧ W'.cell? ⟨w.heap.size, 1, none⟩ = some (.int .u64 (e : Int))))
    go_region_held3 (fun W' => Below w3.heap.size w3 W' ∧ W'.cell? ⟨w.heap.size, 0, none⟩ = some (.int .u64 (b : Int)) ∧ W'.cell? ⟨w.heap.size, 1, none⟩ = some (.int .u64 (e : Int)))
      (first | exact HK.out _ (below_drewN (Below.refl _ _) 1) | exact HK.out _ ((below_drewN (Below.refl _ _) 1).alloc (by simp) _) | exact HK.out _ (((below_drewN (Below.refl _ _) 1).alloc (by simp) _).alloc (by first | omega | simp | (simp; omega)) _))
      (first | fail)
    · go_wp2_with fail
      go_meet
      obtain ⟨t1, t2, t3⟩ := two_new w3 #[.int .u64 (b : Int), .int .u64 ((b : Int) + (k : Int))] #[.int .u64 ((b : Int) + (k : Int)), .int .u64 (e : Int)] 65 65
      exact ⟨_, _, rfl, rfl, t1, t2, HQ.out.size, Nat.le_trans HQ.out.size (Nat.le_succ _), t3.drew⟩
    · go_wp2_with fail
      go_meet
      obtain ⟨t1, t2, t3⟩ := two_new w3 #[.int .u64 ((b : Int) + (k : Int)), .int .u64 (e : Int)] #[.int .u64 (b : Int), .int .u64 ((b : Int) + (k : Int))] 65 65
      exact ⟨_, _, rfl, rfl, t2, t1, Nat.le_trans HQ.out.size (Nat.le_succ _), HQ.out.size, t3.drew⟩
  case rest =>
    obtain ⟨g8, g9, rfl, rfl, h8, h9, hg8, hg9, hbc⟩ := hcut
    have HWc := Lib.hid (show WalkAt w0 wc wb B (.slice ao n cap) pr from ⟨HBL.out.trans ((HQ.out.trans (hbc.mono HQ.out.size)).mono HBL.out.size), HGE.out, pv, below_heap hbc HRW.out, HPS.out⟩)
    have HZc := Lib.hid (below_heap hbc HZ.out)
    have HQc := Lib.hid (HQ.out.trans (hbc.mono HQ.out.size))
    have e8a := cell_of h8 0 rfl
    have e8b := cell_of h8 1 rfl
    have H8 := Lib.hid h8
    have H9 := Lib.hid h9
    have HN8 := Lib.hid (show g8 ≠ wb by have := HWL.out; omega)
    have HN9 := Lib.hid (show g9 ≠ wb by have := HWL.out; omega)
    have HNZ := Lib.hid (show w.heap.size + 1 ≠ wb by have := HWL.out; omega)
    clear h8 h9 hg8 hg9 hbc c0 c1 HRW HZ HQ
    go_wp2_with (go_at_call 42; refine (HH1.out wc HWc.out).mono ?_)
    rintro x wy ⟨rfl, hWy, hgy⟩
    clear e8a e8b
    have HWz := Lib.hid (hWy.keep (below_one wy (.cells (Lib.byteCells A).toArray 33)))
    have HGz := Lib.hid (grown_trans hgy (below_grown (below_one wy (.cells (Lib.byteCells A).toArray 33))))
    have H10 := Lib.hid (heap_one wy (.cells (Lib.byteCells A).toArray 33))
    have HL10 := Lib.hid (show wc.heap.size ≤ wy.heap.size from hgy.size)
    clear hWy hgy
    go_upto_region 10 with (refine wpList_hash (by rfl) (.tmp 10) (.tmp 90) (by rfl) (by rfl) (by rfl) (hash_size HAL.out) (by rfl) (byteCells_one A) ?_)
    generalize wy.alloc (.cells (Lib.byteCells A).toArray 33) = wz at *
    have e9a := cell_of ((HGz.out.block g9 (lt_of_heap H9.out) (fun e => HN9.out (Option.some.inj e))).trans H9.out) 0 rfl
    have e9b := cell_of ((HGz.out.block g9 (lt_of_heap H9.out) (fun e => HN9.out (Option.some.inj e))).trans H9.out) 1 rfl
    go_wp2_with (go_at_call 42; refine (HH2.out wz HWz.out).mono ?_)
    rintro x wu ⟨rfl, hWu, hgu⟩
    clear e9a e9b
    have HN10 := Lib.hid (show wy.heap.size ≠ wb by have := HWL.out; have := HL10.out; have := HQc.out.size; omega)
    have HWv := Lib.hid (hWu.keep (below_one wu (.cells (Lib.byteCells A').toArray 33)))
    have hgv := grown_trans hgu (below_grown (below_one wu (.cells (Lib.byteCells A').toArray 33)))
    have H11 := Lib.hid (heap_one wu (.cells (Lib.byteCells A').toArray 33))
    have H10v := Lib.hid ((hgv.block wy.heap.size (lt_of_heap H10.out) (fun e => HN10.out (Option.some.inj e))).trans H10.out)
    have HGv := Lib.hid (grown_trans HGz.out hgv)
    clear hWu hgu hgv
    go_upto_region 11 with (refine wpList_hash (by rfl) (.tmp 11) (.tmp 93) (by rfl) (by rfl) (by rfl) (hash_size HAL'.out) (by rfl) (byteCells_one A') ?_)
    generalize wu.alloc (.cells (Lib.byteCells A').toArray 33) = wv at *
    have H8v := Lib.hid ((HGv.out.block g8 (lt_of_heap H8.out) (fun e => HN8.out (Option.some.inj e))).trans H8.out)
    have H9v := Lib.hid ((HGv.out.block g9 (lt_of_heap H9.out) (fun e => HN9.out (Option.some.inj e))).trans H9.out)
    have HZv := Lib.hid ((HGv.out.block (w.heap.size + 1) (lt_of_heap HZc.out) (fun e => HNZ.out (Option.some.inj e))).trans HZc.out)
    obtain ⟨pv2, hrow2, _⟩ := HWv.out.row
    have d3 : wv.cell? ⟨wb, 3, none⟩ = some (.func (.func 49) #[] #[]) := cell_of hrow2 3 rfl
    have l3 := lt_of_heap hrow2
    have e8a := cell_of H8v.out 0 rfl
    have e8b := cell_of H8v.out 1 rfl
    have l8 := lt_of_heap H8v.out
    have e9a := cell_of H9v.out 0 rfl
    have e9b := cell_of H9v.out 1 rfl
    have l9 := lt_of_heap H9v.out
    clear hrow2
    simp only [Act.put]
    refine wp_region_kept_tail 8 (by kernel_rfl) (by kernel_rfl) ?_
    simp only [List.take_succ_cons, List.take_zero, List.drop_succ_cons, List.drop_zero]
    iterate 6 go_big_quiet_step (fail)
    refine wpQuiet_hashLoad (by rfl) (.tmp 10) (by rfl) wy.heap.size 0 (by rfl) A HAL.out (range_row H10v.out) ?_
    simp only [Act.put, List.setIfInBounds_toArray, List.set_cons_zero, List.set_cons_succ]
    refine wpQuiet_hashLoad (by rfl) (.tmp 11) (by rfl) wu.heap.size 0 (by rfl) A' HAL'.out (range_row H11.out) ?_
    simp only [Act.put, List.setIfInBounds_toArray, List.set_cons_zero, List.set_cons_succ]
    refine wpQuiet_nil ?_
    intro x
    go_wp2_with (go_at_call 49; refine (nop_any _ _ _ _ _).mono ?_)
    first
      | rintro y w6 rfl hb6
      | rintro y w6 ⟨rfl, hb6⟩
    have HX := Lib.hid (x.below.trans (hb6.mono x.below.size))
    have H10w := Lib.hid (below_heap HX.out H10v.out)
    have H11w := Lib.hid (below_heap HX.out H11.out)
    have HZw := Lib.hid (below_heap HX.out HZv.out)
    have HWw := Lib.hid (HWv.out.keep HX.out)
    have HGw := Lib.hid (grown_below HQc.out (grown_trans HGv.out (below_grown HX.out)))
    have HB0 := Lib.hid HWw.out.bel
    clear hb6 d3 l3 e8a e8b l8 e9a e9b l9
    go_wp2_with (first | (refine wpList_load_row (by rfl) 33 (.tmp 10) (by rfl) wy.heap.size (by rfl) 33 (Lib.byteCells A).toArray (0, 0) _ H10w.out Tryd.underlying33 rfl (by rw [hash_size HAL.out]; exact hashInfo) ?_) | (refine wpList_load_row (by rfl) 33 (.tmp 11) (by rfl) wu.heap.size (by rfl) 33 (Lib.byteCells A').toArray (0, 0) _ H11w.out Tryd.underlying33 rfl (by rw [hash_size HAL'.out]; exact hashInfo) ?_) | (go_at_call 16; refine (HND.out w6 HB0.out).mono ?_))
    first
      | rintro y w7 rfl hb7
      | rintro y w7 ⟨rfl, hb7⟩
    have HZ7 := Lib.hid (below_heap hb7 HZw.out)
    have HFIN := Lib.hid (fin_store (cs := (Lib.byteCells T).toArray) HZ7.out (Nat.le_succ _) HWL.out HBL.out.size (grown_trans HGw.out (below_grown hb7)) (HWw.out.keep hb7))
    clear hb7
    go_wp2_with (refine wpList_store_row (by rfl) 33 (.tmp 4) (.tmp 105) (by rfl) (w.heap.size + 1) (Lib.byteCells T).toArray (by rfl) (by rfl) 33 z32 HZ7.out (by rw [hash_size HTL.out]; exact hashInfo) (by rw [hash_size HTL.out, HZS.out]) (byteCells_one T) ?_)
    generalize w7.setRow (w.heap.size + 1) (Lib.byteCells T).toArray = wJ at *
    exact bodyPost_ret (results_row0 rfl _ _ (w.heap.size + 1) 33 _ (0, 0) _ rfl HFIN.out.1 Tryd.underlying33 rfl (by rw [hash_size HTL.out]; exact hashInfo)) rfl ⟨rfl, HFIN.out.2.1, HFIN.out.2.2⟩
theorem eatF_len (F : Nat → List UInt8) (B E : Nat) : ∀ f b e pr, b < e → e - b ≤ f + 1 → (∀ p ∈ pr, p.length = 32) → (outsF spL B E f b e).length ≤ pr.length → (eatF spL F B E f b e pr).1.length = 32 ∧ (eatF spL F B E f b e pr).2 = pr.drop (outsF spL B E f b e).length
  | 0, b, e, pr, _, _, hp, hl => by
    simp only [eatF, outsF] at hl ⊢
    by_cases ho : e ≤ B ∨ E ≤ b
    · rw [if_pos ho] at hl ⊢
      rw [if_pos ho]
      cases pr with
      | nil => simp at hl
      | cons p r => exact ⟨hp p (List.mem_cons_self ..), rfl⟩
    · rw [if_neg ho, if_neg ho]
      exact ⟨shaL_len _, rfl⟩
  | f + 1, b, e, pr, hb, hf, hp, hl => by
    simp only [eatF, outsF] at hl ⊢
    by_cases ho : e ≤ B ∨ E ≤ b
    · rw [if_pos ho] at hl ⊢
      rw [if_pos ho]
      cases pr with
      | nil => simp at hl
      | cons p r => exact ⟨hp p (List.mem_cons_self ..), rfl⟩
    · rw [if_neg ho] at hl ⊢
      rw [if_neg ho]
      by_cases h2 : e - b < 2
      · rw [if_pos h2, if_pos (show B ≤ b ∧ e ≤ E by omega)]
        exact ⟨shaL_len _, rfl⟩
      · obtain ⟨k1, k2⟩ := spL_mid' (show 2 ≤ e - b by omega)
        rw [if_neg h2]
        have e1 : (if B ≤ b ∧ e ≤ E then [] else outsF spL B E f b (b + spL (e - b)) ++ outsF spL B E f (b + spL (e - b)) e) = outsF spL B E f b (b + spL (e - b)) ++ outsF spL B E f (b + spL (e - b)) e := by
          split
          · rename_i hin
            rw [outs_inside spL B E f b _ hin.1 (by omega) (by omega), outs_inside spL B E f _ e (by omega) hin.2 (by omega)]
            rfl
          · rfl
        rw [e1] at hl ⊢
        rw [List.length_append] at hl ⊢
        have hL := eatF_len F B E f b (b + spL (e - b)) pr (by omega) (by omega) hp (by omega)
        have hR := eatF_len F B E f (b + spL (e - b)) e (pr.drop (outsF spL B E f b (b + spL (e - b))).length) (by omega) (by omega) (fun p hp' => hp p (List.mem_of_mem_drop hp')) (by rw [List.length_drop]; omega)
        rw [hL.2]
        exact ⟨shaL_len _, by rw [hR.2, List.drop_drop]⟩
end Go.Proofs.YthcccgbodceeeaaDoor
