/-
  The numbers under which this dump holds sync.Mutex.
-/
import Derived.Test.YtopilalefilkjaaGreatDoorProg
import Derived.Conc.RwLib
import Derived.Conc.MuData
import Derived.KernelRfl
namespace Go.Proofs.YtopilalefilkjaaGreatDoor
abbrev muLink : Go.Conc.Locks.MuLink := { lock := 194, unlock := 195, ilock := 216, iunlock := 217, lockSlow := 233, unlockSlow := 236, disable := 229, enable := 231, acquire := 232, relMerge := 234, cas32 := 230, add32 := 235, tMutex := 149, tIMutex := 147, tPMutex := 347, tPIMutex := 367, tPI32 := 369, tUP := 274, tNoCopy := 141, tU32 := 143 }
theorem muLib : Go.Conc.Locks.MuLib Tryz.prog muLink :=
  ⟨Tryz.func194, Tryz.func195, Tryz.func216, Tryz.func217, Tryz.func229, Tryz.func231, Tryz.func232, Tryz.func234, Tryz.func230, Tryz.func235, Tryz.underlying147, Tryz.runUnderlying147, Tryz.sizeOf147, Tryz.isAgg147, Tryz.zeroValue147, Tryz.underlying149, Tryz.runUnderlying149, Tryz.sizeOf149, Tryz.isAgg149, Tryz.zeroValue149, Tryz.underlying347, Tryz.runUnderlying347, Tryz.sizeOf347, Tryz.isAgg347, Tryz.zeroValue347, Tryz.underlying367, Tryz.runUnderlying367, Tryz.sizeOf367, Tryz.isAgg367, Tryz.zeroValue367, Tryz.underlying369, Tryz.runUnderlying369, Tryz.sizeOf369, Tryz.isAgg369, Tryz.zeroValue369, Tryz.underlying274, Tryz.runUnderlying274, Tryz.sizeOf274, Tryz.isAgg274, Tryz.zeroValue274, Tryz.underlying141, Tryz.runUnderlying141, Tryz.sizeOf141, Tryz.isAgg141, Tryz.zeroValue141, Tryz.underlying21, Tryz.runUnderlying21, Tryz.sizeOf21, Tryz.isAgg21, Tryz.zeroValue21, (by kernel_rfl)⟩
end Go.Proofs.YtopilalefilkjaaGreatDoor
