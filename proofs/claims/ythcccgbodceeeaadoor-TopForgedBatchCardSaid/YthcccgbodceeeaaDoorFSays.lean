/-
  batch's walk: says eats a proof.
-/
import Derived.Test.YthcccgbodceeeaaDoorFShape
import Derived.Test.YthcccgbodceeeaaDoorFLeaf
import Derived.Laws.EntriesVeiled
namespace Go.Proofs.YthcccgbodceeeaaDoor
open Go.RowKit

/-- The walk's row in block wb, seen over the world w0 in which it began. -/
structure WalkAt (w0 w : World) (wb B : Nat) (lv : Value) (pr : List (List UInt8)) : Prop where
  bel : Below w0.heap.size w0 w
  ge : w0.heap.size ≤ wb
  row : ∃ pv, w.heap[wb]? = some (.cells #[.int .u64 (B : Int), lv, pv, .func (.func 49) #[] #[]] 107 (0, 0)) ∧ HsIn w0 pv pr
theorem WalkAt.keep {w0 w w' : World} {wb B : Nat} {lv : Value} {pr : List (List UInt8)} (h : WalkAt w0 w wb B lv pr) (hb : Below w.heap.size w w') : WalkAt w0 w' wb B lv pr where
  bel := h.bel.trans (hb.mono h.bel.size)
  ge := h.ge
  row := by obtain ⟨pv, h1, h2⟩ := h.row; exact ⟨pv, below_heap hb h1, h2⟩
theorem row_set2 {W : World} {g : Nat} {a b c d : Value} {T : TypeId} {fr : Nat × Nat} (h : W.heap[g]? = some (.cells #[a, b, c, d] T fr)) (v : Value) : (W.setCell ⟨g, 2, none⟩ v).heap[g]? = some (.cells #[a, b, v, d] T fr) := by
  unfold World.setCell
  simp [Array.getElem?_modify, h]
theorem setCell_other (W : World) (g o k : Nat) (v : Value) (h : k ≠ g) : (W.setCell ⟨g, o, none⟩ v).heap[k]? = W.heap[k]? := by
  unfold World.setCell
  simp only [Array.getElem?_modify]
  rw [if_neg (fun e => h e.symm)]
/-- What says leaves behind: the walk's row with what is left of the proof; else only new memory. -/
def SaysPost (w0 : World) (wb B : Nat) (lv : Value) (w : World) (h : List UInt8) (rest : List (List UInt8)) (x : Ending) (w' : World) : Prop :=
  x = .returned (.agg (Lib.byteCells h).toArray) ∧ WalkAt w0 w' wb B lv rest ∧ w.grownBy w' (some wb)
theorem grown_below {w w' w'' : World} {wb : Nat} (h : Below w.heap.size w w') (h2 : w'.grownBy w'' (some wb)) : w.grownBy w'' (some wb) where
  os := h2.os.trans h.os
  tape := h2.tape.trans h.tape
  output := h2.output.trans h.output
  size := Nat.le_trans h.size h2.size
  block := fun k hk hne => (h2.block k (Nat.lt_of_lt_of_le hk h.size) hne).trans (h.block k hk)
/-- The result's cell is written: nothing else. -/
theorem fin_store {w0 w w4 : World} {wb B g : Nat} {lv : Value} {rest : List (List UInt8)} {z cs : Array Value} (hg : w4.heap[g]? = some (.cells z 33 (0, 0))) (hgw : w.heap.size ≤ g) (hwb : wb < w.heap.size) (hw0 : w0.heap.size ≤ w.heap.size) (HG : w.grownBy w4 (some wb)) (HW : WalkAt w0 w4 wb B lv rest) :
    (w4.setRow g cs).heap[g]? = some (.cells cs 33 (0, 0)) ∧ WalkAt w0 (w4.setRow g cs) wb B lv rest ∧ w.grownBy (w4.setRow g cs) (some wb) := by
  refine ⟨setRow_heap w4 g _ cs 33 (0, 0) hg, ⟨below_setRow HW.bel (by omega) cs, HW.ge, ?_⟩, ⟨HG.os, HG.tape, HG.output, by rw [setRow_size]; exact HG.size, fun k hk hne => (setRow_other w4 g k cs (by omega)).trans (HG.block k hk hne)⟩⟩
  obtain ⟨pv, h1, h2⟩ := HW.row
  exact ⟨pv, (setRow_other w4 g wb cs (by omega)).trans h1, h2⟩
set_option maxHeartbeats 1000000 in
set_option maxRecDepth 100000 in
theorem says_out (w0 : World) (wb B n cap b e : Nat) (ao : Option Addr) (p : List UInt8) (pr : List (List UInt8)) (w : World) (hW : WalkAt w0 w wb B (.slice ao n cap) (p :: pr)) (ho : e ≤ B ∨ B + n ≤ b) (hBn : B + n ≤ 9223372036854775808) :
    Calls Tryd.prog 42 #[.pointer (some ⟨wb, 0, none⟩), spanV b e] w fun x w' => SaysPost w0 wb B (.slice ao n cap) w p pr x w' := by
  obtain ⟨z32, hz32, hzs⟩ := z32_ex
  obtain ⟨pv, hrow, hpl, aop, capp, rfl, hcp, hpr⟩ := hW.row
  obtain ⟨g, o, rfl, hrg⟩ := hpr (by simp)
  have HPL := Lib.hid (hpl p (List.mem_cons_self ..))
  obtain ⟨a2, ha2, hps⟩ : ∃ a2 : Option Addr, (if capp = 1 then (some ⟨g, o, none⟩ : Option Addr) else some ⟨g, o + 32, none⟩) = a2 ∧ HsIn w0 (.slice a2 pr.length (capp - 1)) pr := by
    refine ⟨_, rfl, ⟨fun h hh => hpl h (List.mem_cons_of_mem _ hh), _, _, rfl, by rw [List.length_cons] at hcp; omega, fun hne => ?_⟩⟩
    have h1 : capp ≠ 1 := by
      rintro rfl
      rw [List.length_cons] at hcp
      exact hne (List.length_eq_zero_iff.1 (by omega))
    rw [if_neg h1]
    exact ⟨_, _, rfl, hcells_tail (hpl p (List.mem_cons_self ..)) hrg⟩
  have HPS := Lib.hid hps
  clear hps
  have HRP := Lib.hid (range_below hW.bel (show w0.rangeAt g o (Lib.byteCells p) from (HsIn.at hpl hrg (i := 0) rfl)))
  have HGE := Lib.hid hW.ge
  have HBL := Lib.hid hW.bel
  rw [List.length_cons] at *
  clear hpr hrg hpl hW
  have q1 := below_one w (.cells #[.int .u64 (b : Int), .int .u64 (e : Int)] 65)
  have q2 := below_one (w.alloc (.cells #[.int .u64 (b : Int), .int .u64 (e : Int)] 65)) (.cells z32 33)
  have hA := heap_one w (.cells #[.int .u64 (b : Int), .int .u64 (e : Int)] 65)
  have hB := heap_one (w.alloc (.cells #[.int .u64 (b : Int), .int .u64 (e : Int)] 65)) (.cells z32 33)
  rw [show (w.alloc (.cells #[.int .u64 (b : Int), .int .u64 (e : Int)] 65)).heap.size = w.heap.size + 1 by simp] at hB
  unfold spanV
  go_enter Tryd.func42, Tryd.ntmps42
  go_upto_region 1 with fail
  clear hz32
  have hq := q1.trans (q2.mono (by simp))
  have hA' := below_heap q2 hA
  generalize ((w.alloc (.cells #[.int .u64 (b : Int), .int .u64 (e : Int)] 65)).alloc (.cells z32 33)) = w2 at *
  clear hA q1 q2
  have hrow2 := below_heap hq hrow
  have c0 : w2.cell? ⟨w.heap.size, 0, none⟩ = some (.int .u64 (b : Int)) := cell_of hA' 0 rfl
  have c1 : w2.cell? ⟨w.heap.size, 1, none⟩ = some (.int .u64 (e : Int)) := cell_of hA' 1 rfl
  have r0 : w2.cell? ⟨wb, 0, none⟩ = some (.int .u64 (B : Int)) := cell_of hrow2 0 rfl
  have r1 : w2.cell? ⟨wb, 1, none⟩ = some (.slice ao n cap) := cell_of hrow2 1 rfl
  have hwlt := lt_of_heap hrow
  have HRW := Lib.hid hrow2
  have HZ := Lib.hid hB
  have HQ := Lib.hid hq
  have HZS := Lib.hid hzs
  have HWL := Lib.hid hwlt
  have HLC := Lib.hid (lt_of_heap hA')
  clear hrow hrow2 hA' hB hq hzs hwlt
  have hw1 : IntKind.u64.wrap ((B : Int) + (n : Int)) = (B : Int) + (n : Int) := by rw [IntKind.wrap_u64]; omega
  have r2 : w2.cell? ⟨wb, 2, none⟩ = some (.slice (some ⟨g, o, none⟩) (pr.length + 1) capp) := cell_of HRW.out 2 rfl
  have rf : w2.frozen? ⟨wb, 2, none⟩ = false := frozen_row HRW.out 2
  by_cases h1 : e ≤ B
  · have m1 : (e : Int) ≤ (B : Int) := by omega
    go_quiet (fail)
    have hd := below_drewN (Below.refl w2.heap.size w2) nq
    have HRP3 := Lib.hid (range_below (HQ.out.trans (hd.mono HQ.out.size)) HRP.out)
    have r2 := below_cell hd r2
    have rf : (w2.drewN nq).frozen? ⟨wb, 2, none⟩ = false := rf
    have HRW := Lib.hid (below_heap hd HRW.out)
    have HZ := Lib.hid (below_heap hd HZ.out)
    have HQ := Lib.hid (HQ.out.trans (hd.mono HQ.out.size))
    have HLC := Lib.hid (Nat.lt_of_lt_of_le HLC.out hd.size)
    have lwb : wb < (w2.drewN nq).heap.size := Nat.lt_of_lt_of_le (Nat.lt_of_lt_of_le HWL.out HQ.out.size) (Nat.le_refl _)
    generalize w2.drewN nq = w3 at *
    clear hd c0 c1 r0 r1
    go_upto_region 4 with (first | (refine wpList_load_mid (by rfl) 33 (.tmp 39) (by rfl) g o (by rfl) (Lib.byteCells p) _ HRP3.out Tryd.underlying33 rfl (by rw [Lib.byteCells_length, HPL.out]; exact hashInfo) ?_) | (refine wpList_hash (by rfl) (.tmp 5) (.tmp 40) (by rfl) (by rfl) (by rfl) (hash_size HPL.out) (by rfl) (byteCells_one p) ?_))
    have hb4 := (heap_alloc_old (w3.setCell ⟨wb, 2, none⟩ (.slice a2 pr.length (capp - 1))) (.cells (Lib.byteCells p).toArray 33) (r := wb) (by simp; exact lwb)).trans (row_set2 HRW.out _)
    have hz4 := (heap_alloc_old (w3.setCell ⟨wb, 2, none⟩ (.slice a2 pr.length (capp - 1))) (.cells (Lib.byteCells p).toArray 33) (r := w.heap.size + 1) (by have := lt_of_heap HZ.out; simp; omega)).trans ((setCell_other w3 wb 2 (w.heap.size + 1) _ (by have := HWL.out; omega)).trans HZ.out)
    have hp4 := heap_one (w3.setCell ⟨wb, 2, none⟩ (.slice a2 pr.length (capp - 1))) (.cells (Lib.byteCells p).toArray 33)
    rw [show (w3.setCell ⟨wb, 2, none⟩ (.slice a2 pr.length (capp - 1))).heap.size = w3.heap.size by simp] at hp4
    have hbl := ((HBL.out.trans (HQ.out.mono HBL.out.size)).setCell (p := ⟨wb, 2, none⟩) HGE.out (.slice a2 pr.length (capp - 1))).alloc (by have := HBL.out.size; have := HQ.out.size; simp; omega) (.cells (Lib.byteCells p).toArray 33)
    have hgr : w.grownBy ((w3.setCell ⟨wb, 2, none⟩ (.slice a2 pr.length (capp - 1))).alloc (.cells (Lib.byteCells p).toArray 33)) (some wb) := by
      refine ⟨HQ.out.os, HQ.out.tape, HQ.out.output, by have := HQ.out.size; simp; omega, fun k hk hne => ?_⟩
      have := HQ.out.size
      exact (heap_alloc_old _ _ (by simp; omega)).trans ((setCell_other w3 wb 2 k _ (fun e => hne (by rw [e]))).trans (HQ.out.block k hk))
    have HFIN := Lib.hid (fin_store (cs := (Lib.byteCells p).toArray) hz4 (Nat.le_succ _) HWL.out HBL.out.size hgr ⟨hbl, HGE.out, _, hb4, HPS.out⟩)
    have HZ4 := Lib.hid hz4
    have HP4 := Lib.hid hp4
    clear hb4 hz4 hp4 hbl hgr
    generalize (w3.setCell ⟨wb, 2, none⟩ (.slice a2 pr.length (capp - 1))).alloc (.cells (Lib.byteCells p).toArray 33) = w4 at *
    go_wp2_with (first | (refine wpList_load_row (by rfl) 33 (.tmp 5) (by rfl) w3.heap.size (by rfl) 33 (Lib.byteCells p).toArray (0, 0) _ HP4.out Tryd.underlying33 rfl (by rw [hash_size HPL.out]; exact hashInfo) ?_) | (refine wpList_store_row (by rfl) 33 (.tmp 4) (.tmp 49) (by rfl) (w.heap.size + 1) (Lib.byteCells p).toArray (by rfl) (by rfl) 33 z32 HZ4.out (by rw [hash_size HPL.out]; exact hashInfo) (by rw [hash_size HPL.out, HZS.out]) (byteCells_one p) ?_))
    generalize w4.setRow (w.heap.size + 1) (Lib.byteCells p).toArray = wJ at *
    exact bodyPost_ret (results_row0 rfl _ _ (w.heap.size + 1) 33 _ (0, 0) _ rfl HFIN.out.1 Tryd.underlying33 rfl (by rw [hash_size HPL.out]; exact hashInfo)) rfl ⟨rfl, HFIN.out.2.1, HFIN.out.2.2⟩
  · have m1 : ¬ (e : Int) ≤ (B : Int) := by omega
    have m2 : (B : Int) + (n : Int) ≤ (b : Int) := by omega
    go_quiet (fail)
    have hd := below_drewN (Below.refl w2.heap.size w2) nq
    have HRP3 := Lib.hid (range_below (HQ.out.trans (hd.mono HQ.out.size)) HRP.out)
    have r2 := below_cell hd r2
    have rf : (w2.drewN nq).frozen? ⟨wb, 2, none⟩ = false := rf
    have HRW := Lib.hid (below_heap hd HRW.out)
    have HZ := Lib.hid (below_heap hd HZ.out)
    have HQ := Lib.hid (HQ.out.trans (hd.mono HQ.out.size))
    have HLC := Lib.hid (Nat.lt_of_lt_of_le HLC.out hd.size)
    have lwb : wb < (w2.drewN nq).heap.size := Nat.lt_of_lt_of_le (Nat.lt_of_lt_of_le HWL.out HQ.out.size) (Nat.le_refl _)
    generalize w2.drewN nq = w3 at *
    clear hd c0 c1 r0 r1
    go_upto_region 4 with (first | (refine wpList_load_mid (by rfl) 33 (.tmp 39) (by rfl) g o (by rfl) (Lib.byteCells p) _ HRP3.out Tryd.underlying33 rfl (by rw [Lib.byteCells_length, HPL.out]; exact hashInfo) ?_) | (refine wpList_hash (by rfl) (.tmp 5) (.tmp 40) (by rfl) (by rfl) (by rfl) (hash_size HPL.out) (by rfl) (byteCells_one p) ?_))
    have hb4 := (heap_alloc_old (w3.setCell ⟨wb, 2, none⟩ (.slice a2 pr.length (capp - 1))) (.cells (Lib.byteCells p).toArray 33) (r := wb) (by simp; exact lwb)).trans (row_set2 HRW.out _)
    have hz4 := (heap_alloc_old (w3.setCell ⟨wb, 2, none⟩ (.slice a2 pr.length (capp - 1))) (.cells (Lib.byteCells p).toArray 33) (r := w.heap.size + 1) (by have := lt_of_heap HZ.out; simp; omega)).trans ((setCell_other w3 wb 2 (w.heap.size + 1) _ (by have := HWL.out; omega)).trans HZ.out)
    have hp4 := heap_one (w3.setCell ⟨wb, 2, none⟩ (.slice a2 pr.length (capp - 1))) (.cells (Lib.byteCells p).toArray 33)
    rw [show (w3.setCell ⟨wb, 2, none⟩ (.slice a2 pr.length (capp - 1))).heap.size = w3.heap.size by simp] at hp4
    have hbl := ((HBL.out.trans (HQ.out.mono HBL.out.size)).setCell (p := ⟨wb, 2, none⟩) HGE.out (.slice a2 pr.length (capp - 1))).alloc (by have := HBL.out.size; have := HQ.out.size; simp; omega) (.cells (Lib.byteCells p).toArray 33)
    have hgr : w.grownBy ((w3.setCell ⟨wb, 2, none⟩ (.slice a2 pr.length (capp - 1))).alloc (.cells (Lib.byteCells p).toArray 33)) (some wb) := by
      refine ⟨HQ.out.os, HQ.out.tape, HQ.out.output, by have := HQ.out.size; simp; omega, fun k hk hne => ?_⟩
      have := HQ.out.size
      exact (heap_alloc_old _ _ (by simp; omega)).trans ((setCell_other w3 wb 2 k _ (fun e => hne (by rw [e]))).trans (HQ.out.block k hk))
    have HFIN := Lib.hid (fin_store (cs := (Lib.byteCells p).toArray) hz4 (Nat.le_succ _) HWL.out HBL.out.size hgr ⟨hbl, HGE.out, _, hb4, HPS.out⟩)
    have HZ4 := Lib.hid hz4
    have HP4 := Lib.hid hp4
    clear hb4 hz4 hp4 hbl hgr
    generalize (w3.setCell ⟨wb, 2, none⟩ (.slice a2 pr.length (capp - 1))).alloc (.cells (Lib.byteCells p).toArray 33) = w4 at *
    go_wp2_with (first | (refine wpList_load_row (by rfl) 33 (.tmp 5) (by rfl) w3.heap.size (by rfl) 33 (Lib.byteCells p).toArray (0, 0) _ HP4.out Tryd.underlying33 rfl (by rw [hash_size HPL.out]; exact hashInfo) ?_) | (refine wpList_store_row (by rfl) 33 (.tmp 4) (.tmp 49) (by rfl) (w.heap.size + 1) (Lib.byteCells p).toArray (by rfl) (by rfl) 33 z32 HZ4.out (by rw [hash_size HPL.out]; exact hashInfo) (by rw [hash_size HPL.out, HZS.out]) (byteCells_one p) ?_))
    generalize w4.setRow (w.heap.size + 1) (Lib.byteCells p).toArray = wJ at *
    exact bodyPost_ret (results_row0 rfl _ _ (w.heap.size + 1) 33 _ (0, 0) _ rfl HFIN.out.1 Tryd.underlying33 rfl (by rw [hash_size HPL.out]; exact hashInfo)) rfl ⟨rfl, HFIN.out.2.1, HFIN.out.2.2⟩
end Go.Proofs.YthcccgbodceeeaaDoor
