/- From the list of the notes' rows (twenty variables and sha.table) to what the walks know; the witness' world. -/
import Derived.Test.YticlgcfodlcpcaaGreatDoorFrame
import Derived.Test.YticlgcfodlcpcaaGreatDoorFW
namespace Go.Proofs.YticlgcfodlcpcaaGreatDoor
open Go.ChangeShapes Go.WideShapes Go.ChangeAt Go.RowKit
abbrev LN:List (String × DataW Unit):=Rows.noteTakesRow.laid
theorem ln_la : (LN.filter fun x => x.1 != "cartulary/sha.table") = LA := by kernel_rfl
theorem gShaN : Tryz.prog.globalNamed "cartulary/sha.table" = some 21 := by kernel_rfl
theorem ln_tab : ((LN.filter fun x => x.1 == "cartulary/sha.table").filter fun x => x.2.handleName?.isNone) = [("cartulary/sha.table", Lib.tabData .u32 (shaK.map fun x : Nat => (x : Int)))] := by kernel_rfl
theorem tabSha_of_ln {W:World} (h:laidMetH Tryz.prog LN W):TabSha W:=by
 have h2 := h.filter fun x => x.1 == "cartulary/sha.table"
 obtain ⟨hm,_⟩:=laidMetH_iff.1 h2
 rw [ln_tab] at hm
 have ht:=Lib.tabIs_of_head gShaN (by kernel_rfl) Tryz.underlying178 Tryz.underlying177 (by kernel_rfl) (by kernel_rfl) hm
 obtain ⟨t,fr,hh⟩:=heap_of_var gShaN ht
 refine ⟨t,fr,?_⟩
 rw [hh]
 unfold u32s
 rw [List.map_map]
 rfl
theorem fw_of_laid {W:World} (h:laidMetH Tryz.prog LN W) (hsh:W.ShapedOpen Tryz.prog):∃ S,FW S W:=by
 have h2 := h.filter fun x => x.1 != "cartulary/sha.table"
 rw [ln_la] at h2
 obtain ⟨S,hB⟩:=base_of_laid h2 hsh
 have ht:=tabSha_of_ln h
 refine ⟨S,hB,ht,?_⟩
 obtain ⟨t,fr,hh⟩:=ht
 exact lt_of_heap hh
noncomputable def LGN:List (String × DataW Unit):=LN.filter fun x=>x.2.handleName?.isNone
noncomputable def witN (os:Os):World:=(w00 os).layVars Tryz.prog LGN
theorem witN_os (os:Os):(witN os).os = os:=World.layVars_os _ _ _
set_option maxRecDepth 1000000 in
theorem witN_fits (os:Os):(w00 os).layFits Tryz.prog LGN [] = true:=by kernel_rfl
set_option maxRecDepth 1000000 in
theorem witN_ifaces (os:Os):(w00 os).layIfaces Tryz.prog LGN (witN os) = true:=by kernel_rfl
theorem witN_plain (os:Os):laidMet Tryz.prog LGN (witN os):=by
 have e1:(LGN.filter fun x=>(LGN.map (·.1)).contains x.1) = LGN:=List.filter_eq_self.2 fun x hx=>List.contains_iff_mem.2 (List.mem_map.2 ⟨x,hx,rfl⟩)
 have e2:(LGN.filter fun x=>!(LGN.map (·.1)).contains x.1) = []:=List.filter_eq_nil_iff.2 fun x hx=>by rw [List.contains_iff_mem.2 (List.mem_map.2 ⟨x,hx,rfl⟩)]; simp
 exact laidMet_layVars (w0:=w00 os) (LGN.map (·.1)) [] (by rw [e1]; rfl) (by rw [e1]; exact witN_fits os) (by rw [e1]; exact witN_ifaces os) (by rw [e2]; exact LaidIn.none)
set_option maxRecDepth 1000000 in
theorem witN_handle (os:Os) (args:Array Value):([ent 1].all (handleAtB Tryz.prog ((witN os).forCall (fun _ _=>0) ⟨#[],args,[]⟩).memory)) = true:=by kernel_rfl
theorem ln_filter2:(LN.filter fun x=>x.2.handleName?.isSome) = (LA.filter fun x=>x.2.handleName?.isSome):=by kernel_rfl
theorem witN_met (os:Os) (args:Array Value):laidMetH Tryz.prog LN ((witN os).forCall (fun _ _=>0) ⟨#[],args,[]⟩).memory:=
 laidMetH_of_parts (by exact (witN_plain os).of_heap (by simp [World.memory,World.forCall,Input.heap])) (by rw [ln_filter2,laid_filter2]; exact witN_handle os args)
end Go.Proofs.YticlgcfodlcpcaaGreatDoor
