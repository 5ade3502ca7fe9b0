/- The numbers under which this translation holds the library's lock, and that it holds it. -/
import Derived.Test.YtbbnafnnbhbbcaaDoorRows
import Derived.Conc.MuLib
import Derived.Conc.MuLone
import Derived.KernelRfl
namespace Go.Proofs.YtbbnafnnbhbbcaaDoor
abbrev muLink : Go.Conc.Locks.MuLink := { lock := 31, unlock := 32, ilock := 47, iunlock := 48, lockSlow := 65, unlockSlow := 68, disable := 61, enable := 63, acquire := 64, relMerge := 66, cas32 := 62, add32 := 67, tMutex := 84, tIMutex := 82, tPMutex := 122, tPIMutex := 139, tPI32 := 141, tUP := 98, tNoCopy := 79, tU32 := 80 }
theorem muLib : Go.Conc.Locks.MuLib Tryd.prog muLink :=
  ⟨Tryd.func31, Tryd.func32, Tryd.func47, Tryd.func48, Tryd.func61, Tryd.func63, Tryd.func64, Tryd.func66, Tryd.func62, Tryd.func67, Tryd.underlying82, Tryd.runUnderlying82, Tryd.sizeOf82, Tryd.isAgg82, Tryd.zeroValue82, Tryd.underlying84, Tryd.runUnderlying84, Tryd.sizeOf84, Tryd.isAgg84, Tryd.zeroValue84, Tryd.underlying122, Tryd.runUnderlying122, Tryd.sizeOf122, Tryd.isAgg122, Tryd.zeroValue122, Tryd.underlying139, Tryd.runUnderlying139, Tryd.sizeOf139, Tryd.isAgg139, Tryd.zeroValue139, Tryd.underlying141, Tryd.runUnderlying141, Tryd.sizeOf141, Tryd.isAgg141, Tryd.zeroValue141, Tryd.underlying98, Tryd.runUnderlying98, Tryd.sizeOf98, Tryd.isAgg98, Tryd.zeroValue98, Tryd.underlying79, Tryd.runUnderlying79, Tryd.sizeOf79, Tryd.isAgg79, Tryd.zeroValue79, Tryd.underlying21, Tryd.runUnderlying21, Tryd.sizeOf21, Tryd.isAgg21, Tryd.zeroValue21, (by kernel_rfl)⟩
end Go.Proofs.YtbbnafnnbhbbcaaDoor
