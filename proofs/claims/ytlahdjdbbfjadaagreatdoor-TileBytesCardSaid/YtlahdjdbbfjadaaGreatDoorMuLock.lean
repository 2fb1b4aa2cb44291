/-
  The numbers under which this dump holds sync.Mutex.
-/
import Derived.Test.YtlahdjdbbfjadaaGreatDoorProg
import Derived.Conc.RwLib
import Derived.Conc.MuData
import Derived.KernelRfl
namespace Go.Proofs.YtlahdjdbbfjadaaGreatDoor
abbrev muLink : Go.Conc.Locks.MuLink := { lock := 191, unlock := 192, ilock := 208, iunlock := 209, lockSlow := 222, unlockSlow := 225, disable := 218, enable := 220, acquire := 221, relMerge := 223, cas32 := 219, add32 := 224, tMutex := 242, tIMutex := 240, tPMutex := 339, tPIMutex := 358, tPI32 := 360, tUP := 228, tNoCopy := 234, tU32 := 236 }
theorem muLib : Go.Conc.Locks.MuLib Tryz.prog muLink :=
  ⟨Tryz.func191, Tryz.func192, Tryz.func208, Tryz.func209, Tryz.func218, Tryz.func220, Tryz.func221, Tryz.func223, Tryz.func219, Tryz.func224, Tryz.underlying240, Tryz.runUnderlying240, Tryz.sizeOf240, Tryz.isAgg240, Tryz.zeroValue240, Tryz.underlying242, Tryz.runUnderlying242, Tryz.sizeOf242, Tryz.isAgg242, Tryz.zeroValue242, Tryz.underlying339, Tryz.runUnderlying339, Tryz.sizeOf339, Tryz.isAgg339, Tryz.zeroValue339, Tryz.underlying358, Tryz.runUnderlying358, Tryz.sizeOf358, Tryz.isAgg358, Tryz.zeroValue358, Tryz.underlying360, Tryz.runUnderlying360, Tryz.sizeOf360, Tryz.isAgg360, Tryz.zeroValue360, Tryz.underlying228, Tryz.runUnderlying228, Tryz.sizeOf228, Tryz.isAgg228, Tryz.zeroValue228, Tryz.underlying234, Tryz.runUnderlying234, Tryz.sizeOf234, Tryz.isAgg234, Tryz.zeroValue234, Tryz.underlying21, Tryz.runUnderlying21, Tryz.sizeOf21, Tryz.isAgg21, Tryz.zeroValue21, (by kernel_rfl)⟩
end Go.Proofs.YtlahdjdbbfjadaaGreatDoor
