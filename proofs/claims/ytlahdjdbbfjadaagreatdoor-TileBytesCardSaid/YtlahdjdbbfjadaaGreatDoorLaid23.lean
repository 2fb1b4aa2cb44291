/-
  From the list of the rows that list twenty-three package-level variables to what the walks know; the witness' world.
-/
import Derived.Test.YtlahdjdbbfjadaaGreatDoorFrame
import Derived.Test.YtlahdjdbbfjadaaGreatDoorFmt
namespace Go.Proofs.YtlahdjdbbfjadaaGreatDoor
open Go.ChangeShapes Go.WideShapes Go.ChangeAt Go.RowKit

abbrev LB : List (String × DataW Unit) := Rows.tileBytesRow.laid
theorem lb_filter : (LB.filter fun x => x.2.handleName?.isNone) = LB.getD 0 (default, .nil) :: LB.getD 1 (default, .nil) :: ("internal/strconv.uint64pow10", Lib.tabData .u64 Lib.pow10Tab) :: (LA.filter fun x => x.2.handleName?.isNone) := by kernel_rfl
theorem lb_filter2 : (LB.filter fun x => x.2.handleName?.isSome) = (LA.filter fun x => x.2.handleName?.isSome) := by kernel_rfl
theorem base23_of_laid {W : World} (h : laidMetH Tryz.prog LB W) (hsh : W.ShapedOpen Tryz.prog) : (∃ S, Base S W) ∧ Tab W := by
  obtain ⟨hm, hh⟩ := laidMetH_iff.1 h
  rw [lb_filter] at hm
  rw [lb_filter2] at hh
  have h3 := hm.tail.tail
  exact ⟨base_of_laid (laidMetH_iff.2 ⟨h3.tail, hh⟩) hsh, Lib.tabIs_of_head gPow (by kernel_rfl) Tryz.underlying333 Tryz.underlying60 (by kernel_rfl) (by kernel_rfl) h3⟩

noncomputable def LG : List (String × DataW Unit) := LB.take 3 ++ LF
noncomputable def witV (os : Os) : World := (w00 os).layVars Tryz.prog LG
theorem witV_os (os : Os) : (witV os).os = os := World.layVars_os _ _ _
set_option maxRecDepth 1000000 in
theorem witV_fits (os : Os) : (w00 os).layFits Tryz.prog LG [] = true := by kernel_rfl
set_option maxRecDepth 1000000 in
theorem witV_ifaces (os : Os) : (w00 os).layIfaces Tryz.prog LG (witV os) = true := by kernel_rfl
theorem witV_plain (os : Os) : laidMet Tryz.prog LG (witV os) := by
  have e1 : (LG.filter fun x => (LG.map (·.1)).contains x.1) = LG := List.filter_eq_self.2 fun x hx => List.contains_iff_mem.2 (List.mem_map.2 ⟨x, hx, rfl⟩)
  have e2 : (LG.filter fun x => !(LG.map (·.1)).contains x.1) = [] := List.filter_eq_nil_iff.2 fun x hx => by rw [List.contains_iff_mem.2 (List.mem_map.2 ⟨x, hx, rfl⟩)]; simp
  exact laidMet_layVars (w0 := w00 os) (LG.map (·.1)) [] (by rw [e1]; rfl) (by rw [e1]; exact witV_fits os) (by rw [e1]; exact witV_ifaces os) (by rw [e2]; exact LaidIn.none)
set_option maxRecDepth 1000000 in
theorem witV_handle (os : Os) (args : Array Value) : ([ent 1].all (handleAtB Tryz.prog ((witV os).forCall (fun _ _ => 0) ⟨#[], args, []⟩).memory)) = true := by kernel_rfl
theorem lg_filter : (LB.filter fun x => x.2.handleName?.isNone) = LG := by kernel_rfl
theorem witV_met (os : Os) (args : Array Value) : laidMetH Tryz.prog LB ((witV os).forCall (fun _ _ => 0) ⟨#[], args, []⟩).memory :=
  laidMetH_of_parts (by rw [lg_filter]; exact (witV_plain os).of_heap (by simp [World.memory, World.forCall, Input.heap])) (by rw [lb_filter2, laid_filter2]; exact witV_handle os args)
end Go.Proofs.YtlahdjdbbfjadaaGreatDoor
