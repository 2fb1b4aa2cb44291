/-
  The numbers under which this dump holds sync.Mutex.
-/
import Derived.Test.YtmnaepkgfaillaaGreatDoorProg
import Derived.Conc.RwLib
import Derived.Conc.MuData
import Derived.KernelRfl
namespace Go.Proofs.YtmnaepkgfaillaaGreatDoor
abbrev muLink : Go.Conc.Locks.MuLink := { lock := 84, unlock := 85, ilock := 100, iunlock := 101, lockSlow := 114, unlockSlow := 117, disable := 110, enable := 112, acquire := 113, relMerge := 115, cas32 := 111, add32 := 116, tMutex := 105, tIMutex := 103, tPMutex := 198, tPIMutex := 217, tPI32 := 219, tUP := 136, tNoCopy := 97, tU32 := 99 }
theorem muLib : Go.Conc.Locks.MuLib Tryz.prog muLink :=
  ⟨Tryz.func84, Tryz.func85, Tryz.func100, Tryz.func101, Tryz.func110, Tryz.func112, Tryz.func113, Tryz.func115, Tryz.func111, Tryz.func116, Tryz.underlying103, Tryz.runUnderlying103, Tryz.sizeOf103, Tryz.isAgg103, Tryz.zeroValue103, Tryz.underlying105, Tryz.runUnderlying105, Tryz.sizeOf105, Tryz.isAgg105, Tryz.zeroValue105, Tryz.underlying198, Tryz.runUnderlying198, Tryz.sizeOf198, Tryz.isAgg198, Tryz.zeroValue198, Tryz.underlying217, Tryz.runUnderlying217, Tryz.sizeOf217, Tryz.isAgg217, Tryz.zeroValue217, Tryz.underlying219, Tryz.runUnderlying219, Tryz.sizeOf219, Tryz.isAgg219, Tryz.zeroValue219, Tryz.underlying136, Tryz.runUnderlying136, Tryz.sizeOf136, Tryz.isAgg136, Tryz.zeroValue136, Tryz.underlying97, Tryz.runUnderlying97, Tryz.sizeOf97, Tryz.isAgg97, Tryz.zeroValue97, Tryz.underlying21, Tryz.runUnderlying21, Tryz.sizeOf21, Tryz.isAgg21, Tryz.zeroValue21, (by kernel_rfl)⟩
end Go.Proofs.YtmnaepkgfaillaaGreatDoor
