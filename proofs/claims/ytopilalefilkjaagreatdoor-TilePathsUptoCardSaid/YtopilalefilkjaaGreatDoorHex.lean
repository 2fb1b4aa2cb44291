/-
  text.Hex and text.FromHex by contracts.
-/
import Derived.Test.YtopilalefilkjaaGreatDoorHexP
namespace Go.Proofs.YtopilalefilkjaaGreatDoor
open Go.RowKit

theorem idx_hex (w : World) (n : Nat) (h : n < 16) (i : Int) (hi : i = (n : Int)) (k : IntKind) : (Instr.index 9 (.string ⟨#[48, 49, 50, 51, 52, 53, 54, 55, 56, 57, 97, 98, 99, 100, 101, 102]⟩) (.int k i)).run Tryz.prog w = .ok (.int .u8 ((L16 n).toNat : Int)) w :=
  run_idx Tryz.underlying9 _ n _ (L16_get n h) i hi k w
theorem idx16_any (c : UInt8) (w : World) : Calls Tryz.prog 222 #[.string ⟨#[48, 49, 50, 51, 52, 53, 54, 55, 56, 57, 97, 98, 99, 100, 101, 102]⟩, .int .u8 (c.toNat : Int)] w fun e w' => e = .returned (.int .i64 (idx16 c)) ∧ w = w' := by
  refine (Tryz.strings_IndexByte _ _ _).mono ?_
  rintro e w' ⟨rfl, rfl⟩
  refine ⟨?_, rfl⟩
  rw [show ((c.toNat : Int)).toNat.toUInt8 = c by simp]
  rfl
theorem drop_at {s : ByteArray} {k : Nat} (h : k < s.size) : ∃ c, s.data.toList[k]? = some c ∧ s.data.toList.drop k = c :: s.data.toList.drop (k + 1) := by
  have hlt : k < s.data.toList.length := by rw [size_list]; exact h
  exact ⟨_, List.getElem?_eq_getElem hlt, List.drop_eq_getElem_cons hlt⟩

def HexRel (s : ByteArray) (w : World) (v : Value) (wr : World) : Prop :=
  ∃ (k : Nat) (acc : List UInt8), k ≤ s.size ∧ v = .int .i64 k ∧ acc.length = 2 * k ∧ Lib.IsBuilder 118 5 w.heap.size w.heap.size (Lib.byteCells acc) wr ∧ Below w.heap.size w wr ∧ acc ++ hexL (s.data.toList.drop k) = hexL s.data.toList

theorem and1_i64 (n : Nat) (h : n < 9223372036854775808) : bits .and .i64 (n : Int) 1 = (n : Int) % 2 := by
  have := and_i64 n 1 h (by omega)
  simpa using this
theorem or4_i64 (x b : Nat) (h : b < 16) (h2 : x < 16) : bits .or .i64 ((x : Int) * 16) (b : Int) = (x : Int) * 16 + (b : Int) := by
  have := or_i64 x b 4 h (by omega)
  simpa using this

def FHexRel (s : ByteArray) (w : World) (vh vi : Value) (wr : World) : Prop :=
  ∃ (k h : Nat) (out : List UInt8), k ≤ s.size ∧ vi = .int .i64 k ∧ vh = .int .i64 h ∧ h < 16 ∧ out.length ≤ k ∧ Lib.IsBuilder 118 5 w.heap.size w.heap.size (Lib.byteCells out) wr ∧ Below w.heap.size w wr ∧
    runH 0 0 [] s.data.toList = runH k h out (s.data.toList.drop k)

end Go.Proofs.YtopilalefilkjaaGreatDoor
