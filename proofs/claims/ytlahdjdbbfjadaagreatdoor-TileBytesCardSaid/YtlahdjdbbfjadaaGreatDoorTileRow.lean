/-
  A row of bytes in a block of its own: setting one, copying a string's.
-/
import Derived.Test.YtlahdjdbbfjadaaGreatDoorConv
import Derived.Test.YtlahdjdbbfjadaaGreatDoorBase
import Derived.Test.YtlahdjdbbfjadaaGreatDoorSame
import Derived.Laws.CopyRow
import Derived.Laws.CopyOwn
import Derived.Laws.MakeOwn
import Derived.Laws.Tables
import Derived.Laws.OwnMore
import Derived.Lib.ItoaMem
namespace Go.Proofs.YtlahdjdbbfjadaaGreatDoor
open Go.RowKit

/-- A block that holds just these bytes. -/
def RowB (w : World) (b : Nat) (l : List UInt8) : Prop := w.heap[b]? = some (.cells (Lib.byteCells l).toArray 5 (0, 0))
theorem byteCells_set (l : List UInt8) (i : Nat) (c : UInt8) : (Lib.byteCells l).toArray.setIfInBounds i (.int .u8 (c.toNat : Int)) = (Lib.byteCells (l.set i c)).toArray := by
  unfold Lib.byteCells
  apply Array.toList_inj.1
  simp [List.map_set]
theorem RowB.set {w : World} {b : Nat} {l : List UInt8} (h : RowB w b l) (i : Nat) (c : UInt8) : RowB (w.setCell ⟨b, i, none⟩ (.int .u8 (c.toNat : Int))) b (l.set i c) := by
  unfold RowB World.setCell at *
  rw [Array.getElem?_modify, if_pos rfl, h, ← byteCells_set]
  rfl
theorem RowB.cell {w : World} {b : Nat} {l : List UInt8} (h : RowB w b l) {i : Nat} {c : UInt8} (hc : l[i]? = some c) : w.cell? ⟨b, i, none⟩ = some (.int .u8 (c.toNat : Int)) := by
  unfold RowB at h
  simp [World.cell?, h, Lib.byteCells, hc]
theorem RowB.frozen {w : World} {b : Nat} {l : List UInt8} (h : RowB w b l) (i : Nat) : w.frozen? ⟨b, i, none⟩ = false := by
  unfold RowB at h
  simp [World.frozen?, h]
theorem RowB.below {w w' : World} {b : Nat} {l : List UInt8} (h : RowB w b l) (hb : Below w.heap.size w w') : RowB w' b l := below_heap hb h
theorem RowB.lt {w : World} {b : Nat} {l : List UInt8} (h : RowB w b l) : b < w.heap.size := lt_of_heap h
theorem RowB.alloc {w : World} {b : Nat} {l : List UInt8} (h : RowB w b l) (o : Obj) : RowB (w.alloc o) b l := (heap_alloc_old _ _ h.lt).trans h
theorem size_listT (s : ByteArray) : s.data.toList.length = s.size := Array.length_toList
/-- Bytes of the row, as a text. -/
theorem RowB.conv {w : World} {b : Nat} {l : List UInt8} (h : RowB w b l) (off n cap : Nat) (hn : off + n ≤ l.length) :
    (convert 81 9 (.slice (some ⟨b, off, none⟩) n cap)).run Tryz.prog w = .ok (.string ⟨((l.drop off).take n).toArray⟩) w := by
  have hl : ((l.drop off).take n).length = n := by rw [List.length_take, List.length_drop]; omega
  have h1 := run_convert_bytes_back (P := Tryz.prog) w 81 9 5 ⟨b, off, none⟩ cap ((l.drop off).take n) Tryz.underlying81 Tryz.underlying5 Tryz.underlying9 (fun j hj => by
    have hjn : j < n := by omega
    have e : ((l.drop off).take n)[j]? = l[off + j]? := by rw [List.getElem?_take, if_pos hjn, List.getElem?_drop]
    have e2 : l[off + j]? = some ((l.drop off).take n)[j] := by rw [← e, List.getElem?_eq_getElem hj]
    have ha : (⟨b, off, none⟩ : Addr).add j = ⟨b, off + j, none⟩ := Lib.add_plain _ _ _
    rw [ha]
    exact h.cell e2)
  rw [hl] at h1
  exact h1
/-- A row of zeros. -/
theorem mk_row (W : World) (n : Nat) (hn : n ≤ 281474976710656) : (Instr.makeSlice 81 (.int .i64 (n : Int)) (.int .i64 (n : Int))).run Tryz.prog W = .ok (.slice (some ⟨W.heap.size, 0, none⟩) n n) (W.alloc (.cells (Lib.byteCells (List.replicate n 0)).toArray 5)) := by
  obtain ⟨i0, hi, hz0, hz1, hz2⟩ := info_parts Tryz.infoByte
  have hr := run_make (P := Tryz.prog) W 81 5 i0 (.int .u8 0) Tryz.underlying81 hi hz0 .i64 .i64 (n : Int) (n : Int) (by omega) (Int.le_refl _) (by rw [hz2]; omega) (by omega)
  rw [hr]
  simp only [Int.toNat_natCast, hz1, Nat.mul_one]
  have e : madeCells (Value.int IntKind.u8 0).cells n = (Lib.byteCells (List.replicate n 0)).toArray := by
    apply Array.toList_inj.1
    rw [show (Value.int IntKind.u8 0).cells = #[Value.int IntKind.u8 0] from rfl, toList_madeCells_one]
    simp [Lib.byteCells]
  rw [e]
theorem mk_rowB (W : World) (n : Nat) : RowB (W.alloc (.cells (Lib.byteCells (List.replicate n 0)).toArray 5)) W.heap.size (List.replicate n 0) := heap_alloc_new W _
/-- 'copy(dst, s)', s a text for which there is just room. -/
theorem RowB.copy {w : World} {b : Nat} {l : List UInt8} (h : RowB w b l) (o d cap : Nat) (s : ByteArray) (hs : s.size = d) (hd : o + d ≤ l.length) (ty : TypeId) :
    (Builtin.copy_ #[81, 9] ty #[.slice (some ⟨b, o, none⟩) d cap, .string s]).run Tryz.prog w =
      .ok (goInt d) (w.setRow b (Lib.byteCells (l.take o ++ s.data.toList ++ l.drop (o + d))).toArray) := by
  have hsl := size_listT s
  have hlen : (Lib.byteCells s.data.toList).length = d := by rw [Lib.byteCells_length, hsl, hs]
  have hst := run_storeCells_at Tryz.prog b o 5 (Lib.byteCells s.data.toList) 0 (Lib.byteCells l).toArray w h (by rw [hlen]; simp [Lib.byteCells]; exact hd) (Lib.byteCells_one _)
  rw [hlen] at hst
  simp only [Nat.add_zero] at hst
  have hmin : Nat.min s.size d = d := by rw [hs]; exact Nat.min_self d
  have htk : List.take d (List.map (fun b : UInt8 => Value.int IntKind.u8 (b.toNat : Int)) s.data.toList) = Lib.byteCells s.data.toList := List.take_of_length_le (by rw [List.length_map, hsl, hs]; exact Nat.le_refl d)
  have hcur : (Lib.byteCells l).toArray.toList.take o ++ Lib.byteCells s.data.toList ++ (Lib.byteCells l).toArray.toList.drop (o + d) = Lib.byteCells (l.take o ++ s.data.toList ++ l.drop (o + d)) := by
    simp [Lib.byteCells, List.map_take, List.map_drop]
  rw [hcur] at hst
  have hq1 : (Tryz.prog.info? 5).isSome = true := by kernel_rfl
  cases hq : Tryz.prog.info? 5 with
  | none => rw [hq] at hq1; cases hq1
  | some i =>
    simp [Builtin.copy_, run_underlying Tryz.underlying81, Builtin.lenOf, Builtin.firstCells, sizeOf, typeInfo, hq, hs]
    rw [htk, hst]
    simp [Result.andThen]
theorem RowB.setRow {w : World} {b : Nat} {l m : List UInt8} (h : RowB w b l) : RowB (w.setRow b (Lib.byteCells m).toArray) b m := setRow_heap w b _ _ _ _ h
end Go.Proofs.YtlahdjdbbfjadaaGreatDoor
