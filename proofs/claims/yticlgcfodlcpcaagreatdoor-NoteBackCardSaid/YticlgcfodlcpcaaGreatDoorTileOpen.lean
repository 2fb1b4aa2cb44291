/-
  A tree's place, or a tile, among the arguments, opened.
-/
import Derived.Test.YticlgcfodlcpcaaGreatDoorFrame
import Derived.Lib.SmallJoins
import Derived.OpenShut
import Derived.Carry
import Derived.DataShut
namespace Go.Proofs.YticlgcfodlcpcaaGreatDoor
open Go.RowKit Go.ChangeShapes Go.WideShapes Go.ChangeAt

theorem laidOutT : laidOutB Tryz.prog = true := by kernel_rfl
theorem u64CellsT : Tryz.prog.cellsOf 115 = 1 := by kernel_rfl
theorem u8CellsT : Tryz.prog.cellsOf 5 = 1 := by kernel_rfl
theorem intCellsT : Tryz.prog.cellsOf 3 = 1 := by kernel_rfl
theorem list2 {α : Type} (l : List α) (a b : α) (h : l.length = 2) (h0 : (l.drop 0).take 1 = [a]) (h1 : (l.drop 1).take 1 = [b]) : l = [a, b] := by
  match l, h with
  | [x, y], _ => simp_all
theorem list3 {α : Type} (l : List α) (a b c : α) (h : l.length = 3) (h0 : (l.drop 0).take 1 = [a]) (h1 : (l.drop 1).take 1 = [b]) (h2 : (l.drop 2).take 1 = [c]) : l = [a, b, c] := by
  match l, h with
  | [x, y, z], _ => simp_all
section
variable {H : Type} {enc : TypeId × Value → H} {W : World} {sp : Nat → Bool} {held : Bool}
end
end Go.Proofs.YticlgcfodlcpcaaGreatDoor
