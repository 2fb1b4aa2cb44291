/-
  text.Base64 by its contract: the letters of the bytes.
-/
import Derived.Test.YtlahdjdbbfjadaaGreatDoorSame
import Derived.Test.YtlahdjdbbfjadaaGreatDoorBld
import Derived.Test.YtlahdjdbbfjadaaGreatDoorText
import Derived.Deep.QuietTactic
import Derived.BigQuiet
import Derived.StillTailTactics
import Derived.Deep.RegionHeld3
import Derived.Lib.IndexBytes
import Derived.Outline
namespace Go.Proofs.YtlahdjdbbfjadaaGreatDoor
open Go.RowKit

/-- s[i], by the list of the bytes. -/
theorem run_idx {P : Program} {T : TypeId} (hT : P.underlying T = some .string) (s : ByteArray) (n : Nat) (x : UInt8) (h : s.data.toList[n]? = some x) (i : Int) (hi : i = (n : Int)) (k : IntKind) (w : World) :
    (Instr.index T (.string s) (.int k i)).run P w = .ok (.int .u8 (x.toNat : Int)) w := by
  subst hi
  have hi : n < s.size := by
    have := (List.getElem?_eq_some_iff.1 h).1
    simpa using this
  rw [run_index_string w T s k n hT, dif_pos ⟨by omega, by omega⟩]
  have : s[(n : Int).toNat]'(by simpa using hi) = x := by
    have e := (List.getElem?_eq_some_iff.1 h).2
    simp only [Array.getElem_toList] at e
    exact e
  rw [this]
theorem below_drewN {B : Nat} {a w : World} (h : Below B a w) (n : Nat) : Below B a (w.drewN n) := ⟨h.os, h.tape, h.output, h.size, h.block⟩
theorem isB_drewN {T e : TypeId} {B b : Nat} {bs : List Value} {w : World} (h : Lib.IsBuilder T e B b bs w) (n : Nat) : Lib.IsBuilder T e B b bs (w.drewN n) := h
theorem size_drewN {k : Nat} {w : World} (h : k ≤ w.heap.size) (n : Nat) : k ≤ (w.drewN n).heap.size := h
theorem size_list (s : ByteArray) : s.data.toList.length = s.size := by
  rw [Array.length_toList]; rfl
theorem idx_let (w : World) (n : Nat) (h : n < 64) (i : Int) (hi : i = (n : Int)) (k : IntKind) : (Instr.index 9 (.string ⟨#[65, 66, 67, 68, 69, 70, 71, 72, 73, 74, 75, 76, 77, 78, 79, 80, 81, 82, 83, 84, 85, 86, 87, 88, 89, 90, 97, 98, 99, 100, 101, 102, 103, 104, 105, 106, 107, 108, 109, 110, 111, 112, 113, 114, 115, 116, 117, 118, 119, 120, 121, 122, 48, 49, 50, 51, 52, 53, 54, 55, 56, 57, 43, 47]⟩) (.int k i)).run Tryz.prog w = .ok (.int .u8 ((L64 n).toNat : Int)) w :=
  run_idx Tryz.underlying9 _ n _ (L64_get n h) i hi k w
def strLen : Value → Nat
  | .string s => s.size
  | _ => 0
theorem cells_snoc (l : List UInt8) (x : UInt8) : Lib.byteCells l ++ [.int .u8 (x.toNat : Int)] = Lib.byteCells (l ++ [x]) := by simp [Lib.byteCells]
theorem ret_str {l m : List UInt8} (h : l = m) : Ending.returned (.string ⟨l.toArray⟩) = Ending.returned (.string ⟨m.toArray⟩) := by rw [h]

/-- The relation of Base64's loop: what is told so far, and what is left. -/
def B64Rel (s : ByteArray) (w : World) (v : Value) (wr : World) : Prop :=
  ∃ (t : ByteArray) (acc : List UInt8), v = .string t ∧ Lib.IsBuilder 83 5 w.heap.size w.heap.size (Lib.byteCells acc) wr ∧ Below w.heap.size w wr ∧ acc ++ b64 t.data.toList = b64 s.data.toList ∧ t.size ≤ s.size

end Go.Proofs.YtlahdjdbbfjadaaGreatDoor
