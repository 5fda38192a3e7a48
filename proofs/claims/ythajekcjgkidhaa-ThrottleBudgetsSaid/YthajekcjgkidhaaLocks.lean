/- The numbers under which this translation holds sync.Mutex's functions and types, and that it holds them. No condition. -/
import Derived.Test.YthajekcjgkidhaaProg
import Derived.Conc.MuLib
import Derived.Conc.MuData
import Derived.KernelRfl
namespace Go.Proofs.Ythajekcjgkidhaa
abbrev muLink : Go.Conc.Locks.MuLink := { lock := 34, unlock := 35, ilock := 44, iunlock := 45, lockSlow := 51, unlockSlow := 54, disable := 47, enable := 49, acquire := 50, relMerge := 52, cas32 := 48, add32 := 53, tMutex := 85, tIMutex := 83, tPMutex := 100, tPIMutex := 103, tPI32 := 105, tUP := 107, tNoCopy := 80, tU32 := 81 }
theorem muLib : Go.Conc.Locks.MuLib Try.prog muLink :=
  ⟨Try.func34, Try.func35, Try.func44, Try.func45, Try.func47, Try.func49, Try.func50, Try.func52, Try.func48, Try.func53, Try.underlying83, Try.runUnderlying83, Try.sizeOf83, Try.isAgg83, Try.zeroValue83, Try.underlying85, Try.runUnderlying85, Try.sizeOf85, Try.isAgg85, Try.zeroValue85, Try.underlying100, Try.runUnderlying100, Try.sizeOf100, Try.isAgg100, Try.zeroValue100, Try.underlying103, Try.runUnderlying103, Try.sizeOf103, Try.isAgg103, Try.zeroValue103, Try.underlying105, Try.runUnderlying105, Try.sizeOf105, Try.isAgg105, Try.zeroValue105, Try.underlying107, Try.runUnderlying107, Try.sizeOf107, Try.isAgg107, Try.zeroValue107, Try.underlying80, Try.runUnderlying80, Try.sizeOf80, Try.isAgg80, Try.zeroValue80, Try.underlying21, Try.runUnderlying21, Try.sizeOf21, Try.isAgg21, Try.zeroValue21, (by kernel_rfl)⟩
theorem muData : Go.Conc.Locks.MuData Try.prog muLink := ⟨Try.underlying81, by kernel_rfl, by kernel_rfl, by kernel_rfl, by kernel_rfl, by kernel_rfl⟩
end Go.Proofs.Ythajekcjgkidhaa
