/-
  The witness' world of the rows that list twenty variables: every listed variable holds its datum.
-/
import Derived.Test.YticlgcfodlcpcaaGreatDoorLaid
import Derived.Test.YticlgcfodlcpcaaGreatDoorCards
import Derived.Test.YticlgcfodlcpcaaGreatDoorTie
import Derived.ProofKit
import Derived.Deep.DeepHandedRow
import Derived.Deep.DeepWitnessRowRef
import Derived.Lay
import Derived.SevenTiedAt
namespace Go.Proofs.YticlgcfodlcpcaaGreatDoor
open Go.ChangeShapes Go.WideShapes Go.ChangeAt Go.RowKit

theorem own : ownKnob Tryz.prog.godebug = none := by kernel_rfl

/-- The settled world, the variable of a type's handle holding it. -/
noncomputable def w00 (os : Os) : World :=
  { World.holding Tryz.prog os ⟨#[], #[], []⟩ with heap := (World.holding Tryz.prog os ⟨#[], #[], []⟩).heap.modify 19 fun
      | .cells _ t frozen => .cells #[.iface 185 (.agg #[.pointer (some ⟨22, 34, none⟩)])] t frozen
      | o => o }
noncomputable def LF : List (String × DataW Unit) := ent 0 :: ((LA.drop 2).take 16 ++ LA.drop 18)
noncomputable def witW (os : Os) : World := (w00 os).layVars Tryz.prog LF
theorem witW_os (os : Os) : (witW os).os = os := World.layVars_os _ _ _
set_option maxRecDepth 1000000 in
theorem witW_fits (os : Os) : (w00 os).layFits Tryz.prog LF [] = true := by kernel_rfl
set_option maxRecDepth 1000000 in
theorem witW_ifaces (os : Os) : (w00 os).layIfaces Tryz.prog LF (witW os) = true := by kernel_rfl
theorem witW_plain (os : Os) : laidMet Tryz.prog LF (witW os) := by
  have e1 : (LF.filter fun x => (LF.map (·.1)).contains x.1) = LF := List.filter_eq_self.2 fun x hx => List.contains_iff_mem.2 (List.mem_map.2 ⟨x, hx, rfl⟩)
  have e2 : (LF.filter fun x => !(LF.map (·.1)).contains x.1) = [] := List.filter_eq_nil_iff.2 fun x hx => by rw [List.contains_iff_mem.2 (List.mem_map.2 ⟨x, hx, rfl⟩)]; simp
  exact laidMet_layVars (w0 := w00 os) (LF.map (·.1)) [] (by rw [e1]; rfl) (by rw [e1]; exact witW_fits os) (by rw [e1]; exact witW_ifaces os) (by rw [e2]; exact LaidIn.none)
set_option maxRecDepth 1000000 in
theorem witW_handle (os : Os) (args : Array Value) : ([ent 1].all (handleAtB Tryz.prog ((witW os).forCall (fun _ _ => 0) ⟨#[], args, []⟩).memory)) = true := by kernel_rfl
theorem witW_met (os : Os) (args : Array Value) : laidMetH Tryz.prog LA ((witW os).forCall (fun _ _ => 0) ⟨#[], args, []⟩).memory :=
  laidMetH_of_parts (by rw [laid_filter]; exact (witW_plain os).of_heap (by simp [World.memory, World.forCall, Input.heap])) (by rw [laid_filter2]; exact witW_handle os args)
end Go.Proofs.YticlgcfodlcpcaaGreatDoor
