/-
  A tree's place, or a tile, among the arguments, opened.
-/
import Derived.Test.YtlahdjdbbfjadaaGreatDoorFrame
import Derived.Lib.SmallJoins
import Derived.OpenShut
import Derived.Carry
import Derived.DataShut
namespace Go.Proofs.YtlahdjdbbfjadaaGreatDoor
open Go.RowKit Go.ChangeShapes Go.WideShapes Go.ChangeAt

theorem laidOutT : laidOutB Tryz.prog = true := by kernel_rfl
theorem tCells : Tryz.prog.cellsOf 93 = 3 := by kernel_rfl
theorem cCells : Tryz.prog.cellsOf 97 = 2 := by kernel_rfl
theorem u64CellsT : Tryz.prog.cellsOf 60 = 1 := by kernel_rfl
theorem u8CellsT : Tryz.prog.cellsOf 5 = 1 := by kernel_rfl
theorem intCellsT : Tryz.prog.cellsOf 3 = 1 := by kernel_rfl
theorem coordUnder : ∃ f0 f1 : Field, Tryz.prog.underlying 97 = some (.struct #[f0, f1]) ∧ (f0.type = 5 ∧ f0.offset = 0) ∧ (f1.type = 60 ∧ f1.offset = 1) :=
  ⟨_, _, Tryz.underlying97, ⟨rfl, rfl⟩, ⟨rfl, rfl⟩⟩
theorem tileUnder : ∃ f0 f1 f2 : Field, Tryz.prog.underlying 93 = some (.struct #[f0, f1, f2]) ∧ (f0.type = 5 ∧ f0.offset = 0) ∧ (f1.type = 60 ∧ f1.offset = 1) ∧ (f2.type = 3 ∧ f2.offset = 2) :=
  ⟨_, _, _, Tryz.underlying93, ⟨rfl, rfl⟩, ⟨rfl, rfl⟩, ⟨rfl, rfl⟩⟩
theorem list2 {α : Type} (l : List α) (a b : α) (h : l.length = 2) (h0 : (l.drop 0).take 1 = [a]) (h1 : (l.drop 1).take 1 = [b]) : l = [a, b] := by
  match l, h with
  | [x, y], _ => simp_all
theorem list3 {α : Type} (l : List α) (a b c : α) (h : l.length = 3) (h0 : (l.drop 0).take 1 = [a]) (h1 : (l.drop 1).take 1 = [b]) (h2 : (l.drop 2).take 1 = [c]) : l = [a, b, c] := by
  match l, h with
  | [x, y, z], _ => simp_all
section
variable {H : Type} {enc : TypeId × Value → H} {W : World} {sp : Nat → Bool} {held : Bool}
set_option maxRecDepth 100000 in
theorem open_coord {b0 : Nat} {v : Value} {d : DataW H} {p : List MemPlace} (hv : Value.okWide Tryz.prog W .any b0 97 v) (h : DataW.Trod enc Tryz.prog W 0 sp held 97 v d p) :
    ∃ l i : Int, v = .agg #[.int .u8 l, .int .u64 i] ∧ 0 ≤ l ∧ l ≤ 255 ∧ 0 ≤ i ∧ i ≤ 18446744073709551615 := by
  obtain ⟨f0, f1, hu, ⟨t0, o0⟩, ⟨t1, o1⟩⟩ := coordUnder
  obtain ⟨cs, rfl, hsz⟩ := okWide_struct hu hv
  rw [cCells] at hsz
  obtain ⟨fuel, hf⟩ := h
  obtain ⟨y0, y1, n, hx, hl, h0, h1⟩ := trod_struct2 hu hf
  rw [t0, o0, u8CellsT] at h0
  rw [t1, o1, u64CellsT] at h1
  obtain ⟨l, e0, _, hw0⟩ := DataW.trod_int Tryz.underlying5 h0
  obtain ⟨i, e1, _, hw1⟩ := DataW.trod_int Tryz.underlying60 h1
  have hb0 := (Lit.wf_int_iff .u8 l).1 hw0
  have hb1 := (Lit.wf_int_iff .u64 i).1 hw1
  refine ⟨l, i, ?_, hb0.1, hb0.2, hb1.1, hb1.2⟩
  have hcs := list2 cs.toList _ _ (by rw [Array.length_toList, hsz]) e0 e1
  congr 1
  exact Array.toList_inj.1 hcs
set_option maxRecDepth 100000 in
theorem open_tile {b0 : Nat} {v : Value} {d : DataW H} {p : List MemPlace} (hv : Value.okWide Tryz.prog W .any b0 93 v) (h : DataW.Trod enc Tryz.prog W 0 sp held 93 v d p) :
    ∃ l i k : Int, v = .agg #[.int .u8 l, .int .u64 i, .int .i64 k] ∧ 0 ≤ l ∧ l ≤ 255 ∧ 0 ≤ i ∧ i ≤ 18446744073709551615 ∧ -9223372036854775808 ≤ k ∧ k ≤ 9223372036854775807 := by
  obtain ⟨f0, f1, f2, hu, ⟨t0, o0⟩, ⟨t1, o1⟩, ⟨t2, o2⟩⟩ := tileUnder
  obtain ⟨cs, rfl, hsz⟩ := okWide_struct hu hv
  rw [tCells] at hsz
  obtain ⟨fuel, hf⟩ := h
  obtain ⟨xs, n, _, _, hl, hlen, hf⟩ := DataW.trod_struct hu hf
  match xs, hlen with
  | [y0, y1, y2], _ =>
    have h0 := hf 0 f0 rfl
    have h1 := hf 1 f1 rfl
    have h2 := hf 2 f2 rfl
    rw [t0, o0, u8CellsT] at h0
    rw [t1, o1, u64CellsT] at h1
    rw [t2, o2, intCellsT] at h2
    obtain ⟨l, e0, _, hw0⟩ := DataW.trod_int Tryz.underlying5 h0
    obtain ⟨i, e1, _, hw1⟩ := DataW.trod_int Tryz.underlying60 h1
    obtain ⟨k, e2, _, hw2⟩ := DataW.trod_int Tryz.underlying3 h2
    have hb0 := (Lit.wf_int_iff .u8 l).1 hw0
    have hb1 := (Lit.wf_int_iff .u64 i).1 hw1
    have hb2 := (Lit.wf_int_iff .i64 k).1 hw2
    refine ⟨l, i, k, ?_, hb0.1, hb0.2, hb1.1, hb1.2, hb2.1, hb2.2⟩
    have hcs := list3 cs.toList _ _ _ (by rw [Array.length_toList, hsz]) e0 e1 e2
    congr 1
    exact Array.toList_inj.1 hcs
end
end Go.Proofs.YtlahdjdbbfjadaaGreatDoor
