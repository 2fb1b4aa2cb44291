/-
  From the list of the rows that list sha.table besides to what the walks know; the witness' world.
-/
import Derived.Test.YtlahdjdbbfjadaaGreatDoorLaid23
namespace Go.Proofs.YtlahdjdbbfjadaaGreatDoor
open Go.ChangeShapes Go.WideShapes Go.ChangeAt Go.RowKit

abbrev LS : List (String × DataW Unit) := Rows.tileHashesRow.laid
theorem ls_lb : (LS.filter fun x => x.1 != "cartulary/sha.table") = LB := by kernel_rfl
theorem base24_of_laid {W : World} (h : laidMetH Tryz.prog LS W) (hsh : W.ShapedOpen Tryz.prog) : (∃ S, Base S W) ∧ Tab W := by
  have h2 := h.filter fun x => x.1 != "cartulary/sha.table"
  rw [ls_lb] at h2
  exact base23_of_laid h2 hsh
noncomputable def LGS : List (String × DataW Unit) := LS.filter fun x => x.2.handleName?.isNone
noncomputable def witS (os : Os) : World := (w00 os).layVars Tryz.prog LGS
theorem witS_os (os : Os) : (witS os).os = os := World.layVars_os _ _ _
set_option maxRecDepth 1000000 in
theorem witS_fits (os : Os) : (w00 os).layFits Tryz.prog LGS [] = true := by kernel_rfl
set_option maxRecDepth 1000000 in
theorem witS_ifaces (os : Os) : (w00 os).layIfaces Tryz.prog LGS (witS os) = true := by kernel_rfl
theorem witS_plain (os : Os) : laidMet Tryz.prog LGS (witS os) := by
  have e1 : (LGS.filter fun x => (LGS.map (·.1)).contains x.1) = LGS := List.filter_eq_self.2 fun x hx => List.contains_iff_mem.2 (List.mem_map.2 ⟨x, hx, rfl⟩)
  have e2 : (LGS.filter fun x => !(LGS.map (·.1)).contains x.1) = [] := List.filter_eq_nil_iff.2 fun x hx => by rw [List.contains_iff_mem.2 (List.mem_map.2 ⟨x, hx, rfl⟩)]; simp
  exact laidMet_layVars (w0 := w00 os) (LGS.map (·.1)) [] (by rw [e1]; rfl) (by rw [e1]; exact witS_fits os) (by rw [e1]; exact witS_ifaces os) (by rw [e2]; exact LaidIn.none)
set_option maxRecDepth 1000000 in
theorem witS_handle (os : Os) (args : Array Value) : ([ent 1].all (handleAtB Tryz.prog ((witS os).forCall (fun _ _ => 0) ⟨#[], args, []⟩).memory)) = true := by kernel_rfl
theorem ls_filter2 : (LS.filter fun x => x.2.handleName?.isSome) = (LA.filter fun x => x.2.handleName?.isSome) := by kernel_rfl
theorem witS_met (os : Os) (args : Array Value) : laidMetH Tryz.prog LS ((witS os).forCall (fun _ _ => 0) ⟨#[], args, []⟩).memory :=
  laidMetH_of_parts (by exact (witS_plain os).of_heap (by simp [World.memory, World.forCall, Input.heap])) (by rw [ls_filter2, laid_filter2]; exact witS_handle os args)
end Go.Proofs.YtlahdjdbbfjadaaGreatDoor
