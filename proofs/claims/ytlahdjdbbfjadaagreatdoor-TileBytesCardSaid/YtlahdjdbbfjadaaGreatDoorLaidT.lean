/-
  The rows that list sha.table: what the walks know of it.
-/
import Derived.Test.YtlahdjdbbfjadaaGreatDoorLaidS
import Derived.Test.YtlahdjdbbfjadaaGreatDoorSha1
namespace Go.Proofs.YtlahdjdbbfjadaaGreatDoor
open Go.ChangeShapes Go.WideShapes Go.ChangeAt Go.RowKit

theorem gSha : Tryz.prog.globalNamed "cartulary/sha.table" = some 17 := by kernel_rfl
theorem ls_tab : ((LS.filter fun x => x.1 == "cartulary/sha.table").filter fun x => x.2.handleName?.isNone) = [("cartulary/sha.table", Lib.tabData .u32 (shaK.map fun x : Nat => (x : Int)))] := by kernel_rfl
theorem tabSha_of_laid {W : World} (h : laidMetH Tryz.prog LS W) : TabSha W := by
  have h2 := h.filter fun x => x.1 == "cartulary/sha.table"
  obtain ⟨hm, _⟩ := laidMetH_iff.1 h2
  rw [ls_tab] at hm
  have ht := Lib.tabIs_of_head gSha (by kernel_rfl) Tryz.underlying287 Tryz.underlying236 (by kernel_rfl) (by kernel_rfl) hm
  obtain ⟨t, fr, hh⟩ := heap_of_var gSha ht
  refine ⟨t, fr, ?_⟩
  rw [hh]
  unfold u32s
  rw [List.map_map]
  rfl
end Go.Proofs.YtlahdjdbbfjadaaGreatDoor
