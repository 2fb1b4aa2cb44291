/-
  What a function returns out of its result cells; three blocks laid one behind the other.
-/
import Derived.Test.YthcccgbodceeeaaDoorFW
namespace Go.Proofs.YthcccgbodceeeaaDoor
open Go.RowKit

theorem results_rows2 {P : Program} {fn : Func} {u p : Tmp} {ty ty2 : TypeId} (h : fn.results = #[.cell p ty, .cell u ty2]) (tmps : Array Value) (w : World) (g g2 : Nat) (t t2 : TypeId) (cs cs2 : Array Value) (fr fr2 : Nat × Nat) (d d2 : TypeDesc)
    (hp : tmps.getD p undef = .pointer (some ⟨g, 0, none⟩)) (hg : w.heap[g]? = some (.cells cs t fr)) (hp2 : tmps.getD u undef = .pointer (some ⟨g2, 0, none⟩)) (hg2 : w.heap[g2]? = some (.cells cs2 t2 fr2))
    (hu : P.underlying ty = some d) (hd : (match d with | .struct _ | .array _ _ => true | _ => false) = true) (hi : (P.info? ty).map (·.size) = some cs.size)
    (hu2 : P.underlying ty2 = some d2) (hd2 : (match d2 with | .struct _ | .array _ _ => true | _ => false) = true) (hi2 : (P.info? ty2).map (·.size) = some cs2.size) :
    (results fn tmps).run P w = .ok (.tuple #[.agg cs, .agg cs2]) w := by
  have hp' : tmps[p]?.getD undef = .pointer (some ⟨g, 0, none⟩) := by simpa using hp
  have hp2' : tmps[u]?.getD undef = .pointer (some ⟨g2, 0, none⟩) := by simpa using hp2
  simp [results, h, hp', hp2', asAddr, run_loadVar_row w g t ty cs fr d hg hu hd hi, run_loadVar_row w g2 t2 ty2 cs2 fr2 d2 hg2 hu2 hd2 hi2, Result.andThen]
theorem results_row_tmp0 {P : Program} {fn : Func} {u p : Tmp} {ty : TypeId} (h : fn.results = #[.cell p ty, .tmp u]) (tmps : Array Value) (w : World) (g : Nat) (t : TypeId) (cs : Array Value) (fr : Nat × Nat) (d : TypeDesc)
    (hp : tmps.getD p undef = .pointer (some ⟨g, 0, none⟩)) (hg : w.heap[g]? = some (.cells cs t fr))
    (hu : P.underlying ty = some d) (hd : (match d with | .struct _ | .array _ _ => true | _ => false) = true) (hi : (P.info? ty).map (·.size) = some cs.size) :
    (results fn tmps).run P w = .ok (.tuple #[.agg cs, tmps.getD u undef]) w := by
  have hp' : tmps[p]?.getD undef = .pointer (some ⟨g, 0, none⟩) := by simpa using hp
  simp [results, h, hp', asAddr, run_loadVar_row w g t ty cs fr d hg hu hd hi, Result.andThen]
theorem three_blocks (w : World) (A B C : Array Value) (TA TB TC : TypeId) : let W := ((w.alloc (.cells A TA)).alloc (.cells B TB)).alloc (.cells C TC)
    W.heap[w.heap.size]? = some (.cells A TA) ∧ W.heap[w.heap.size + 1]? = some (.cells B TB) ∧ W.heap[w.heap.size + 1 + 1]? = some (.cells C TC) ∧ W.heap.size = w.heap.size + 3 ∧ Below w.heap.size w W := by
  intro W
  have h1 := heap_one w (.cells A TA)
  have h2 := heap_one (w.alloc (.cells A TA)) (.cells B TB)
  have h3 := heap_one ((w.alloc (.cells A TA)).alloc (.cells B TB)) (.cells C TC)
  rw [show (w.alloc (.cells A TA)).heap.size = w.heap.size + 1 by simp] at h2
  rw [show ((w.alloc (.cells A TA)).alloc (.cells B TB)).heap.size = w.heap.size + 1 + 1 by simp] at h3
  refine ⟨?_, ?_, h3, by simp [W], ((below_one w _).alloc (by simp) _).alloc (by simp; omega) _⟩
  · exact (heap_alloc_old _ _ (by simp; omega)).trans ((heap_alloc_old _ _ (by simp)).trans h1)
  · exact (heap_alloc_old _ _ (by simp)).trans h2
theorem results_rows2_tmp {P : Program} {fn : Func} {u p q : Tmp} {ty ty2 : TypeId} (h : fn.results = #[.cell p ty, .cell u ty2, .tmp q]) (tmps : Array Value) (w : World) (g g2 : Nat) (t t2 : TypeId) (cs cs2 : Array Value) (fr fr2 : Nat × Nat) (d d2 : TypeDesc) (v : Value) (hv : tmps.getD q undef = v)
    (hp : tmps.getD p undef = .pointer (some ⟨g, 0, none⟩)) (hg : w.heap[g]? = some (.cells cs t fr)) (hp2 : tmps.getD u undef = .pointer (some ⟨g2, 0, none⟩)) (hg2 : w.heap[g2]? = some (.cells cs2 t2 fr2))
    (hu : P.underlying ty = some d) (hd : (match d with | .struct _ | .array _ _ => true | _ => false) = true) (hi : (P.info? ty).map (·.size) = some cs.size)
    (hu2 : P.underlying ty2 = some d2) (hd2 : (match d2 with | .struct _ | .array _ _ => true | _ => false) = true) (hi2 : (P.info? ty2).map (·.size) = some cs2.size) :
    (results fn tmps).run P w = .ok (.tuple #[.agg cs, .agg cs2, v]) w := by
  have hp' : tmps[p]?.getD undef = .pointer (some ⟨g, 0, none⟩) := by simpa using hp
  have hp2' : tmps[u]?.getD undef = .pointer (some ⟨g2, 0, none⟩) := by simpa using hp2
  subst hv
  simp [results, h, hp', hp2', asAddr, run_loadVar_row w g t ty cs fr d hg hu hd hi, run_loadVar_row w g2 t2 ty2 cs2 fr2 d2 hg2 hu2 hd2 hi2, Result.andThen]
theorem results_row_tmp {P : Program} {fn : Func} {u p : Tmp} {ty : TypeId} (h : fn.results = #[.cell p ty, .tmp u]) (tmps : Array Value) (w : World) (g : Nat) (t : TypeId) (cs : Array Value) (fr : Nat × Nat) (d : TypeDesc) (v : Value) (hv : tmps.getD u undef = v)
    (hp : tmps.getD p undef = .pointer (some ⟨g, 0, none⟩)) (hg : w.heap[g]? = some (.cells cs t fr))
    (hu : P.underlying ty = some d) (hd : (match d with | .struct _ | .array _ _ => true | _ => false) = true) (hi : (P.info? ty).map (·.size) = some cs.size) :
    (results fn tmps).run P w = .ok (.tuple #[.agg cs, v]) w := by
  subst hv
  exact results_row_tmp0 h tmps w g t cs fr d hp hg hu hd hi
theorem spanInfo : (Tryd.prog.info? 65).map (·.size) = some 2 := by kernel_rfl
theorem one2s (x y : Int) : (#[.int .u64 x, .int .u64 y] : Array Value).all (·.oneCell') = true := by
  rw [List.all_toArray]
  rfl
theorem setRow_alloc (w : World) (cs old : Array Value) (t : TypeId) : (w.alloc (.cells old t)).setRow w.heap.size cs = w.alloc (.cells cs t) := stored1 w cs t old
theorem row_set0 {W : World} {g : Nat} {x y : Value} {T : TypeId} {fr : Nat × Nat} (h : W.heap[g]? = some (.cells #[x, y] T fr)) (v : Value) : (W.setCell ⟨g, 0, none⟩ v).heap[g]? = some (.cells #[v, y] T fr) := by
  unfold World.setCell
  simp [Array.getElem?_modify, h]
theorem setCell2 (W : World) (g : Nat) (x y a b : Value) (T : TypeId) (h : W.heap[g]? = some (.cells #[x, y] T (0, 0))) : (W.setCell ⟨g, 0, none⟩ a).setCell ⟨g, 1, none⟩ b = W.setRow g #[a, b] := by
  unfold World.setCell World.setRow
  simp only
  congr 1
  refine Array.ext_getElem? fun j => ?_
  simp only [Array.getElem?_modify]
  by_cases e : g = j
  · subst e
    simp [h]
  · simp only [if_neg e]
/-- Two rows written, one behind the other. -/
theorem rows_two {W w : World} {B g g' : Nat} {Z0 Z1 : Array Value} {T0 T1 : TypeId} (A0 A1 : Array Value) (h0 : W.heap[g]? = some (.cells Z0 T0 (0, 0))) (h1 : W.heap[g']? = some (.cells Z1 T1 (0, 0))) (hne : g ≠ g') (hb : Below B w W) (hB : B ≤ g) (hB' : B ≤ g') :
    ((W.setRow g A0).setRow g' A1).heap[g]? = some (.cells A0 T0 (0, 0)) ∧ ((W.setRow g A0).setRow g' A1).heap[g']? = some (.cells A1 T1 (0, 0)) ∧ Below B w ((W.setRow g A0).setRow g' A1) ∧ (W.setRow g A0).heap[g']? = some (.cells Z1 T1 (0, 0)) := by
  have a0 := setRow_heap W g _ A0 T0 (0, 0) h0
  have a1 : (W.setRow g A0).heap[g']? = some (.cells Z1 T1 (0, 0)) := (setRow_other W g g' A0 (Ne.symm hne)).trans h1
  exact ⟨(setRow_other _ g' g A1 hne).trans a0, setRow_heap _ g' _ A1 T1 (0, 0) a1, below_setRow (below_setRow hb hB A0) hB' A1, a1⟩
theorem owns_below {w w' : World} {B : Nat} {e : TypeId} {size : Nat} {v : Value} {n : Nat} {xs : List Value} (h : w.ownsRow B e size v n xs) (hb : Below w.heap.size w w') : w'.ownsRow B e size v n xs := by
  refine ⟨h.1, ?_⟩
  rcases h.2 with h' | ⟨g, cap, cur, rfl, hg, hh, hr⟩
  · exact .inl h'
  · exact .inr ⟨g, cap, cur, rfl, hg, below_heap hb hh, hr⟩
end Go.Proofs.YthcccgbodceeeaaDoor
