/- The numbers under which this dump holds the locks' functions and types. -/
import Derived.Test.YtmjpfoninpbgiaaGreatDoorProg
import Derived.Conc.RwLib
import Derived.Conc.MuData
import Derived.KernelRfl
namespace Go.Proofs
abbrev Tryz.muLink : Go.Conc.Locks.MuLink := { lock := 25, unlock := 26, ilock := 51, iunlock := 52, lockSlow := 88, unlockSlow := 91, disable := 84, enable := 86, acquire := 87, relMerge := 89, cas32 := 85, add32 := 90, tMutex := 48, tIMutex := 46, tPMutex := 108, tPIMutex := 157, tPI32 := 159, tUP := 117, tNoCopy := 43, tU32 := 44 }
theorem Tryz.muLib : Go.Conc.Locks.MuLib Tryz.prog Tryz.muLink :=
  ⟨Tryz.func25, Tryz.func26, Tryz.func51, Tryz.func52, Tryz.func84, Tryz.func86, Tryz.func87, Tryz.func89, Tryz.func85, Tryz.func90, Tryz.underlying46, Tryz.runUnderlying46, Tryz.sizeOf46, Tryz.isAgg46, Tryz.zeroValue46, Tryz.underlying48, Tryz.runUnderlying48, Tryz.sizeOf48, Tryz.isAgg48, Tryz.zeroValue48, Tryz.underlying108, Tryz.runUnderlying108, Tryz.sizeOf108, Tryz.isAgg108, Tryz.zeroValue108, Tryz.underlying157, Tryz.runUnderlying157, Tryz.sizeOf157, Tryz.isAgg157, Tryz.zeroValue157, Tryz.underlying159, Tryz.runUnderlying159, Tryz.sizeOf159, Tryz.isAgg159, Tryz.zeroValue159, Tryz.underlying117, Tryz.runUnderlying117, Tryz.sizeOf117, Tryz.isAgg117, Tryz.zeroValue117, Tryz.underlying43, Tryz.runUnderlying43, Tryz.sizeOf43, Tryz.isAgg43, Tryz.zeroValue43, Tryz.underlying21, Tryz.runUnderlying21, Tryz.sizeOf21, Tryz.isAgg21, Tryz.zeroValue21, (by kernel_rfl)⟩
end Go.Proofs
