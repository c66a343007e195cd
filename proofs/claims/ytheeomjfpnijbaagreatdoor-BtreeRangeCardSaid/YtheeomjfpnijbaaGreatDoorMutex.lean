/- The lock's functions and types in this dump, and that it holds them (after Derived/Test/StatsLocks.lean; printed by mklock.py). -/
import Derived.Test.YtheeomjfpnijbaaGreatDoorProg
import Derived.Conc.MuLone
import Derived.KernelRfl
namespace Go.Proofs.YtheeomjfpnijbaaGreatDoor
abbrev muLink : Go.Conc.Locks.MuLink := { lock := 141, unlock := 98, ilock := 200, iunlock := 142, lockSlow := 249, unlockSlow := 204, disable := 202, enable := 205, acquire := 248, relMerge := 201, cas32 := 247, add32 := 203, tMutex := 58, tIMutex := 56, tPMutex := 245, tPIMutex := 310, tPI32 := 314, tUP := 312, tNoCopy := 53, tU32 := 54 }
theorem muLib : Go.Conc.Locks.MuLib Tryz.prog muLink :=
  ⟨Tryz.func141, Tryz.func98, Tryz.func200, Tryz.func142, Tryz.func202, Tryz.func205, Tryz.func248, Tryz.func201, Tryz.func247, Tryz.func203, Tryz.underlying56, Tryz.runUnderlying56, Tryz.sizeOf56, Tryz.isAgg56, Tryz.zeroValue56, Tryz.underlying58, Tryz.runUnderlying58, Tryz.sizeOf58, Tryz.isAgg58, Tryz.zeroValue58, Tryz.underlying245, Tryz.runUnderlying245, Tryz.sizeOf245, Tryz.isAgg245, Tryz.zeroValue245, Tryz.underlying310, Tryz.runUnderlying310, Tryz.sizeOf310, Tryz.isAgg310, Tryz.zeroValue310, Tryz.underlying314, Tryz.runUnderlying314, Tryz.sizeOf314, Tryz.isAgg314, Tryz.zeroValue314, Tryz.underlying312, Tryz.runUnderlying312, Tryz.sizeOf312, Tryz.isAgg312, Tryz.zeroValue312, Tryz.underlying53, Tryz.runUnderlying53, Tryz.sizeOf53, Tryz.isAgg53, Tryz.zeroValue53, Tryz.underlying21, Tryz.runUnderlying21, Tryz.sizeOf21, Tryz.isAgg21, Tryz.zeroValue21, (by kernel_rfl)⟩
end Go.Proofs.YtheeomjfpnijbaaGreatDoor
