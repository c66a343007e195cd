/- The lock's functions and types in this dump, and that it holds them (after Derived/Test/StatsLocks.lean; printed by mklock.py). -/
import Derived.Test.YtjknofiaacdgfaaGreatDoorProg
import Derived.Conc.MuLone
import Derived.KernelRfl
namespace Go.Proofs.YtjknofiaacdgfaaGreatDoor
abbrev muLink : Go.Conc.Locks.MuLink := { lock := 77, unlock := 34, ilock := 132, iunlock := 78, lockSlow := 198, unlockSlow := 136, disable := 134, enable := 137, acquire := 197, relMerge := 133, cas32 := 196, add32 := 135, tMutex := 47, tIMutex := 45, tPMutex := 151, tPIMutex := 239, tPI32 := 243, tUP := 241, tNoCopy := 42, tU32 := 43 }
theorem muLib : Go.Conc.Locks.MuLib Tryz.prog muLink :=
  ⟨Tryz.func77, Tryz.func34, Tryz.func132, Tryz.func78, Tryz.func134, Tryz.func137, Tryz.func197, Tryz.func133, Tryz.func196, Tryz.func135, Tryz.underlying45, Tryz.runUnderlying45, Tryz.sizeOf45, Tryz.isAgg45, Tryz.zeroValue45, Tryz.underlying47, Tryz.runUnderlying47, Tryz.sizeOf47, Tryz.isAgg47, Tryz.zeroValue47, Tryz.underlying151, Tryz.runUnderlying151, Tryz.sizeOf151, Tryz.isAgg151, Tryz.zeroValue151, Tryz.underlying239, Tryz.runUnderlying239, Tryz.sizeOf239, Tryz.isAgg239, Tryz.zeroValue239, Tryz.underlying243, Tryz.runUnderlying243, Tryz.sizeOf243, Tryz.isAgg243, Tryz.zeroValue243, Tryz.underlying241, Tryz.runUnderlying241, Tryz.sizeOf241, Tryz.isAgg241, Tryz.zeroValue241, Tryz.underlying42, Tryz.runUnderlying42, Tryz.sizeOf42, Tryz.isAgg42, Tryz.zeroValue42, Tryz.underlying21, Tryz.runUnderlying21, Tryz.sizeOf21, Tryz.isAgg21, Tryz.zeroValue21, (by kernel_rfl)⟩
end Go.Proofs.YtjknofiaacdgfaaGreatDoor
