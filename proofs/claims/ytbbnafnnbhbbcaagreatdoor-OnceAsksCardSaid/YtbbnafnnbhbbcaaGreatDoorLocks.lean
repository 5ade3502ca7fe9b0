/- The numbers under which this translation holds the library's lock, and that it holds it. -/
import Derived.Test.YtbbnafnnbhbbcaaGreatDoorRows
import Derived.Conc.MuLib
import Derived.Conc.MuLone
import Derived.KernelRfl
namespace Go.Proofs.YtbbnafnnbhbbcaaGreatDoor
abbrev muLink : Go.Conc.Locks.MuLink := { lock := 20, unlock := 21, ilock := 40, iunlock := 41, lockSlow := 59, unlockSlow := 62, disable := 55, enable := 57, acquire := 58, relMerge := 60, cas32 := 56, add32 := 61, tMutex := 63, tIMutex := 61, tPMutex := 101, tPIMutex := 118, tPI32 := 120, tUP := 70, tNoCopy := 58, tU32 := 59 }
theorem muLib : Go.Conc.Locks.MuLib Tryz.prog muLink :=
  ⟨Tryz.func20, Tryz.func21, Tryz.func40, Tryz.func41, Tryz.func55, Tryz.func57, Tryz.func58, Tryz.func60, Tryz.func56, Tryz.func61, Tryz.underlying61, Tryz.runUnderlying61, Tryz.sizeOf61, Tryz.isAgg61, Tryz.zeroValue61, Tryz.underlying63, Tryz.runUnderlying63, Tryz.sizeOf63, Tryz.isAgg63, Tryz.zeroValue63, Tryz.underlying101, Tryz.runUnderlying101, Tryz.sizeOf101, Tryz.isAgg101, Tryz.zeroValue101, Tryz.underlying118, Tryz.runUnderlying118, Tryz.sizeOf118, Tryz.isAgg118, Tryz.zeroValue118, Tryz.underlying120, Tryz.runUnderlying120, Tryz.sizeOf120, Tryz.isAgg120, Tryz.zeroValue120, Tryz.underlying70, Tryz.runUnderlying70, Tryz.sizeOf70, Tryz.isAgg70, Tryz.zeroValue70, Tryz.underlying58, Tryz.runUnderlying58, Tryz.sizeOf58, Tryz.isAgg58, Tryz.zeroValue58, Tryz.underlying21, Tryz.runUnderlying21, Tryz.sizeOf21, Tryz.isAgg21, Tryz.zeroValue21, (by kernel_rfl)⟩
end Go.Proofs.YtbbnafnnbhbbcaaGreatDoor
