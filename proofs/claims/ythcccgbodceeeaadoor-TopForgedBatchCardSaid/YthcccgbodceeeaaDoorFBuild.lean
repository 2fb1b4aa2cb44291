/-
  A slice of one hash is laid: its cells.
-/
import Derived.Test.YthcccgbodceeeaaDoorFW
namespace Go.Proofs.YthcccgbodceeeaaDoor
open Go.RowKit

theorem fold_set_get : ∀ (l : List Value) (k : Nat) (acc : Array Value) (i : Nat), ((l.zipIdx k).foldl (fun (cs : Array Value) (p : Value × Nat) => cs.setIfInBounds (0 + p.2) p.1) acc)[i]? = if k ≤ i ∧ i < k + l.length ∧ i < acc.size then l[i - k]? else acc[i]?
  | [], k, acc, i => by
    simp only [List.zipIdx_nil, List.foldl_nil, List.length_nil]
    rw [if_neg (by omega)]
  | c :: r, k, acc, i => by
    have ih := fold_set_get r (k + 1) (acc.setIfInBounds (0 + k) c) i
    simp only [List.zipIdx_cons, List.foldl_cons]
    rw [ih]
    simp only [Array.size_setIfInBounds, List.length_cons, Nat.zero_add]
    by_cases h1 : k + 1 ≤ i ∧ i < k + 1 + r.length ∧ i < acc.size
    · rw [if_pos h1, if_pos (by omega)]
      rw [show i - k = (i - (k + 1)) + 1 by omega, List.getElem?_cons_succ]
    · rw [if_neg h1, Array.getElem?_setIfInBounds]
      by_cases h2 : k = i
      · subst h2
        by_cases h3 : k < acc.size
        · rw [if_pos rfl, if_pos h3, if_pos (by omega)]
          simp
        · rw [if_pos rfl, if_neg h3, if_neg (by omega), Array.getElem?_eq_none (by omega)]
      · rw [if_neg h2, if_neg (by omega)]
theorem fill_hash (H : List UInt8) (hH : H.length = 32) (acc : Array Value) (ha : acc.size = 32) : Instr.fill (fun i => some (i * 32, 32)) acc [(0, Value.agg (Lib.byteCells H).toArray)] = some (Lib.byteCells H).toArray := by
  have hc : (Value.agg (Lib.byteCells H).toArray).cells = (Lib.byteCells H).toArray := rfl
  simp only [Instr.fill, hc, Nat.zero_mul]
  rw [if_neg (by simp [hash_size hH, ha])]
  congr 1
  rw [← Array.foldl_toList, Array.toList_zipIdx]
  refine Array.ext_getElem? fun i => ?_
  rw [fold_set_get, ha]
  have e2 : (Lib.byteCells H).length = 32 := by rw [Lib.byteCells_length, hH]
  by_cases h : i < 32
  · rw [if_pos ⟨Nat.zero_le _, by simp [e2]; exact h, h⟩]
    simp
  · rw [if_neg (by omega), Array.getElem?_eq_none (by omega), Array.getElem?_eq_none (by rw [hash_size hH]; omega)]
set_option maxRecDepth 100000 in
theorem run_buildSlice_hash (zl : List UInt8) (hz : ∀ w : World, (zeroValue 33).run Tryd.prog w = .ok (.agg (Lib.byteCells zl).toArray) w) (H : List UInt8) (hH : H.length = 32) (w : World) :
    (Instr.buildSlice 24 1 #[(0, .agg (Lib.byteCells H).toArray)]).run Tryd.prog w = .ok (.slice (some ⟨w.heap.size, 0, none⟩) 1 1) (w.alloc (.cells (Lib.byteCells H).toArray 33)) := by
  have hs : (sizeOf 33).run Tryd.prog w = .ok 32 w := Tryd.sizeOf33 w
  have hf := fun acc ha => fill_hash H hH acc ha
  have h0 : ¬ (1 * 32 > 2 ^ 24) := by decide
  have h1 : ¬ (1 * 32 = 0) := by decide
  have hsz : ∀ f : Nat → Value, ((Array.range (1 * 32)).map f).size = 32 := fun f => by simp
  unfold Instr.buildSlice
  simp only [Sem.run_bind, run_underlying Tryd.underlying24, Result.andThen_ok, hs, if_neg h0, if_neg h1, Sem.run_pure, hz w]
  rw [hf _ (hsz _)]
  rfl
theorem wpList_buildHash {ops : Array Oper} {rest : List Oper} {o : Oper} {a : Act} {W : World} {Q : Exit → Act → World → Prop} (zl : List UInt8) (hz : ∀ w : World, (zeroValue 33).run Tryd.prog w = .ok (.agg (Lib.byteCells zl).toArray) w) (hgd : o.guard = none) (x : Operand) (ho : o.op = .buildSlice 24 1 #[(0, x)])
    (H : List UInt8) (hx : a.eval x = .agg (Lib.byteCells H).toArray) (hH : H.length = 32)
    (h : wpList Tryd.prog ops Q rest (a.put o.dst (.slice (some ⟨W.heap.size, 0, none⟩) 1 1)) (W.alloc (.cells (Lib.byteCells H).toArray 33))) : wpList Tryd.prog ops Q (o :: rest) a W :=
  wpList_plain hgd fun K hK => by
    have hr := run_buildSlice_hash zl hz H hH W
    unfold Oper.wp execOp
    simp only [ho, List.map_toArray, List.map_cons, List.map_nil, hx, Sem.run_bind, hr, Result.andThen_ok, Sem.run_pure]
    exact hK _ _ h
end Go.Proofs.YthcccgbodceeeaaDoor
