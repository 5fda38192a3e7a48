/-
  No cell of these rows narrows 'for every input' (looked for: loops, veiled, ifaces, maps, wideKeys, modest, calm, conditions, laid).
  DERIVED. THE GIVEN ROWS OF THIS SEAT. 7 by the template 'for every input the law returns true; each argument reads behind the call as it read before'; 0 by the template 'total and deterministic' (their statements: YthajekcjgkidhaaTotals.lean).
  GIVEN WITH THE SEED: the statements are not yours to turn. If you find one false, say at which input.
  Laid BY PROGRAM, IN A SANDBOX (cutbox-rows.mjs): the forced cells as the released guide's own fill.sh prints them over the translation e9930a3f4d38d4d0… (all of the seat's roots in one cut). By AI agents, Wed Nov 11 2026. No macro, syntax, notation, axiom, sorry.
-/
import Derived.Test.YthajekcjgkidhaaChecked
import GoSem.Claim
import GoSem.ClaimJoined
import GoSem.ClaimMapViews
import Derived.JoinedTies
import Derived.KernelRfl
namespace Go.Proofs.Ythajekcjgkidhaa
/- THE CELL 'sum', in the pinned program and in every row, IS THE sha256 OF THE DUMP (.gsa) THAT YthajekcjgkidhaaProg.lean LOADS. Nothing in Lean hashes anything: it is a label: what it is worth is what the hold of that sum in a sandbox is worth. -/
noncomputable def Try.pinned : Pinned := { name := "ythajekcjgkidhaa", sum := "e9930a3f4d38d4d05ff7729ec08e9242a1fcda11b9d458900db1f10937141bd6", checked := Try.checked }
namespace Rows
def none {H : Type} : Left H := { results := [], args := [] }

/-- 'granarylaw10.ThrottleBudgets': WHATEVER THE INPUT: true; the input reads as it did. -/
def throttleBudgetsSpec : ChangeSpec := { name := "throttleBudgets", fn := fun _ => fun
  | [d1, d2, d3] => { results := [.lit (.bool true)], args := [d1, d2, d3] }
  | _ => none }
def throttleBudgetsRow : OpenClaim := { program := "ythajekcjgkidhaa", sum := "e9930a3f4d38d4d05ff7729ec08e9242a1fcda11b9d458900db1f10937141bd6", func := "granary/granarylaw10.ThrottleBudgets", spec := "throttleBudgets", inPlace := ["(*internal/sync.Mutex).Lock", "internal/race.Disable", "sync/atomic.CompareAndSwapInt32", "internal/race.Enable", "internal/race.Acquire", "(*internal/sync.Mutex).lockSlow", "internal/sync.runtime_canSpin", "internal/sync.runtime_doSpin", "internal/sync.throw", "internal/sync.runtime_nanotime", "internal/sync.runtime_SemacquireMutex", "sync/atomic.AddInt32", "(*internal/sync.Mutex).Unlock", "internal/race.ReleaseMerge", "(*internal/sync.Mutex).unlockSlow", "internal/sync.fatal", "internal/sync.runtime_Semrelease"], plainKeys := false, apart := false }
def ThrottleBudgetsSaid : Prop := throttleBudgetsRow.holds Try.pinned (OpenSpec.ofChange throttleBudgetsSpec)

/-- ITS FALSE NEIGHBOUR: 'it returns false'. Refute it at one input. -/
def throttleBudgetsWrong : ChangeSpec := { name := "throttleBudgets", fn := fun _ => fun
  | [d1, d2, d3] => { results := [.lit (.bool false)], args := [d1, d2, d3] }
  | _ => none }
def ThrottleBudgetsWrongFalsely : Prop := throttleBudgetsRow.holds Try.pinned (OpenSpec.ofChange throttleBudgetsWrong)

/-- 'granarylaw10.ThrottleTries': WHATEVER THE INPUT: true; the input reads as it did. -/
def throttleTriesSpec : ChangeSpec := { name := "throttleTries", fn := fun _ => fun
  | [d1, d2, d3, d4] => { results := [.lit (.bool true)], args := [d1, d2, d3, d4] }
  | _ => none }
def throttleTriesRow : OpenClaim := { program := "ythajekcjgkidhaa", sum := "e9930a3f4d38d4d05ff7729ec08e9242a1fcda11b9d458900db1f10937141bd6", func := "granary/granarylaw10.ThrottleTries", spec := "throttleTries", inPlace := ["(*internal/sync.Mutex).Lock", "internal/race.Disable", "sync/atomic.CompareAndSwapInt32", "internal/race.Enable", "internal/race.Acquire", "(*internal/sync.Mutex).lockSlow", "internal/sync.runtime_canSpin", "internal/sync.runtime_doSpin", "internal/sync.throw", "internal/sync.runtime_nanotime", "internal/sync.runtime_SemacquireMutex", "sync/atomic.AddInt32", "(*internal/sync.Mutex).Unlock", "internal/race.ReleaseMerge", "(*internal/sync.Mutex).unlockSlow", "internal/sync.fatal", "internal/sync.runtime_Semrelease"], plainKeys := false, apart := false }
def ThrottleTriesSaid : Prop := throttleTriesRow.holds Try.pinned (OpenSpec.ofChange throttleTriesSpec)

/-- ITS FALSE NEIGHBOUR: 'it returns false'. Refute it at one input. -/
def throttleTriesWrong : ChangeSpec := { name := "throttleTries", fn := fun _ => fun
  | [d1, d2, d3, d4] => { results := [.lit (.bool false)], args := [d1, d2, d3, d4] }
  | _ => none }
def ThrottleTriesWrongFalsely : Prop := throttleTriesRow.holds Try.pinned (OpenSpec.ofChange throttleTriesWrong)

/-- 'granarylaw10.ThrottleWaits': WHATEVER THE INPUT: true; the input reads as it did. -/
def throttleWaitsSpec : ChangeSpec := { name := "throttleWaits", fn := fun _ => fun
  | [d1, d2, d3] => { results := [.lit (.bool true)], args := [d1, d2, d3] }
  | _ => none }
def throttleWaitsRow : OpenClaim := { program := "ythajekcjgkidhaa", sum := "e9930a3f4d38d4d05ff7729ec08e9242a1fcda11b9d458900db1f10937141bd6", func := "granary/granarylaw10.ThrottleWaits", spec := "throttleWaits", inPlace := ["(*internal/sync.Mutex).Lock", "internal/race.Disable", "sync/atomic.CompareAndSwapInt32", "internal/race.Enable", "internal/race.Acquire", "(*internal/sync.Mutex).lockSlow", "internal/sync.runtime_canSpin", "internal/sync.runtime_doSpin", "internal/sync.throw", "internal/sync.runtime_nanotime", "internal/sync.runtime_SemacquireMutex", "sync/atomic.AddInt32", "(*internal/sync.Mutex).Unlock", "internal/race.ReleaseMerge", "(*internal/sync.Mutex).unlockSlow", "internal/sync.fatal", "internal/sync.runtime_Semrelease"], plainKeys := false, apart := false }
def ThrottleWaitsSaid : Prop := throttleWaitsRow.holds Try.pinned (OpenSpec.ofChange throttleWaitsSpec)

/-- ITS FALSE NEIGHBOUR: 'it returns false'. Refute it at one input. -/
def throttleWaitsWrong : ChangeSpec := { name := "throttleWaits", fn := fun _ => fun
  | [d1, d2, d3] => { results := [.lit (.bool false)], args := [d1, d2, d3] }
  | _ => none }
def ThrottleWaitsWrongFalsely : Prop := throttleWaitsRow.holds Try.pinned (OpenSpec.ofChange throttleWaitsWrong)

/-- 'granarylaw10.ThrottleServes': WHATEVER THE INPUT: true; the input reads as it did. -/
def throttleServesSpec : ChangeSpec := { name := "throttleServes", fn := fun _ => fun
  | [d1, d2] => { results := [.lit (.bool true)], args := [d1, d2] }
  | _ => none }
def throttleServesRow : OpenClaim := { program := "ythajekcjgkidhaa", sum := "e9930a3f4d38d4d05ff7729ec08e9242a1fcda11b9d458900db1f10937141bd6", func := "granary/granarylaw10.ThrottleServes", spec := "throttleServes", inPlace := ["(*internal/sync.Mutex).Lock", "internal/race.Disable", "sync/atomic.CompareAndSwapInt32", "internal/race.Enable", "internal/race.Acquire", "(*internal/sync.Mutex).lockSlow", "internal/sync.runtime_canSpin", "internal/sync.runtime_doSpin", "internal/sync.throw", "internal/sync.runtime_nanotime", "internal/sync.runtime_SemacquireMutex", "sync/atomic.AddInt32", "(*internal/sync.Mutex).Unlock", "internal/race.ReleaseMerge", "(*internal/sync.Mutex).unlockSlow", "internal/sync.fatal", "internal/sync.runtime_Semrelease"], plainKeys := false, apart := false }
def ThrottleServesSaid : Prop := throttleServesRow.holds Try.pinned (OpenSpec.ofChange throttleServesSpec)

/-- ITS FALSE NEIGHBOUR: 'it returns false'. Refute it at one input. -/
def throttleServesWrong : ChangeSpec := { name := "throttleServes", fn := fun _ => fun
  | [d1, d2] => { results := [.lit (.bool false)], args := [d1, d2] }
  | _ => none }
def ThrottleServesWrongFalsely : Prop := throttleServesRow.holds Try.pinned (OpenSpec.ofChange throttleServesWrong)

/-- 'granarylaw10.ThrottleBuckets': WHATEVER THE INPUT: true; the input reads as it did. -/
def throttleBucketsSpec : ChangeSpec := { name := "throttleBuckets", fn := fun _ => fun
  | [d1, d2, d3] => { results := [.lit (.bool true)], args := [d1, d2, d3] }
  | _ => none }
def throttleBucketsRow : OpenClaim := { program := "ythajekcjgkidhaa", sum := "e9930a3f4d38d4d05ff7729ec08e9242a1fcda11b9d458900db1f10937141bd6", func := "granary/granarylaw10.ThrottleBuckets", spec := "throttleBuckets", inPlace := ["(*internal/sync.Mutex).Lock", "internal/race.Disable", "sync/atomic.CompareAndSwapInt32", "internal/race.Enable", "internal/race.Acquire", "(*internal/sync.Mutex).lockSlow", "internal/sync.runtime_canSpin", "internal/sync.runtime_doSpin", "internal/sync.throw", "internal/sync.runtime_nanotime", "internal/sync.runtime_SemacquireMutex", "sync/atomic.AddInt32", "(*internal/sync.Mutex).Unlock", "internal/race.ReleaseMerge", "(*internal/sync.Mutex).unlockSlow", "internal/sync.fatal", "internal/sync.runtime_Semrelease"], plainKeys := false, apart := false }
def ThrottleBucketsSaid : Prop := throttleBucketsRow.holds Try.pinned (OpenSpec.ofChange throttleBucketsSpec)

/-- ITS FALSE NEIGHBOUR: 'it returns false'. Refute it at one input. -/
def throttleBucketsWrong : ChangeSpec := { name := "throttleBuckets", fn := fun _ => fun
  | [d1, d2, d3] => { results := [.lit (.bool false)], args := [d1, d2, d3] }
  | _ => none }
def ThrottleBucketsWrongFalsely : Prop := throttleBucketsRow.holds Try.pinned (OpenSpec.ofChange throttleBucketsWrong)

/-- 'granarylaw10.ThrottleWindow': WHATEVER THE INPUT: true; the input reads as it did. -/
def throttleWindowSpec : ChangeSpec := { name := "throttleWindow", fn := fun _ => fun
  | [d1, d2] => { results := [.lit (.bool true)], args := [d1, d2] }
  | _ => none }
def throttleWindowRow : OpenClaim := { program := "ythajekcjgkidhaa", sum := "e9930a3f4d38d4d05ff7729ec08e9242a1fcda11b9d458900db1f10937141bd6", func := "granary/granarylaw10.ThrottleWindow", spec := "throttleWindow", inPlace := ["(*internal/sync.Mutex).Lock", "internal/race.Disable", "sync/atomic.CompareAndSwapInt32", "internal/race.Enable", "internal/race.Acquire", "(*internal/sync.Mutex).lockSlow", "internal/sync.runtime_canSpin", "internal/sync.runtime_doSpin", "internal/sync.throw", "internal/sync.runtime_nanotime", "internal/sync.runtime_SemacquireMutex", "sync/atomic.AddInt32", "(*internal/sync.Mutex).Unlock", "internal/race.ReleaseMerge", "(*internal/sync.Mutex).unlockSlow", "internal/sync.fatal", "internal/sync.runtime_Semrelease"], plainKeys := false, apart := false }
def ThrottleWindowSaid : Prop := throttleWindowRow.holds Try.pinned (OpenSpec.ofChange throttleWindowSpec)

/-- ITS FALSE NEIGHBOUR: 'it returns false'. Refute it at one input. -/
def throttleWindowWrong : ChangeSpec := { name := "throttleWindow", fn := fun _ => fun
  | [d1, d2] => { results := [.lit (.bool false)], args := [d1, d2] }
  | _ => none }
def ThrottleWindowWrongFalsely : Prop := throttleWindowRow.holds Try.pinned (OpenSpec.ofChange throttleWindowWrong)

/-- 'granarylaw10.ThrottleSplit': WHATEVER THE INPUT: true; the input reads as it did. -/
def throttleSplitSpec : ChangeSpec := { name := "throttleSplit", fn := fun _ => fun
  | [d1, d2, d3, d4, d5] => { results := [.lit (.bool true)], args := [d1, d2, d3, d4, d5] }
  | _ => none }
def throttleSplitRow : OpenClaim := { program := "ythajekcjgkidhaa", sum := "e9930a3f4d38d4d05ff7729ec08e9242a1fcda11b9d458900db1f10937141bd6", func := "granary/granarylaw10.ThrottleSplit", spec := "throttleSplit", inPlace := ["(*internal/sync.Mutex).Lock", "internal/race.Disable", "sync/atomic.CompareAndSwapInt32", "internal/race.Enable", "internal/race.Acquire", "(*internal/sync.Mutex).lockSlow", "internal/sync.runtime_canSpin", "internal/sync.runtime_doSpin", "internal/sync.throw", "internal/sync.runtime_nanotime", "internal/sync.runtime_SemacquireMutex", "sync/atomic.AddInt32", "(*internal/sync.Mutex).Unlock", "internal/race.ReleaseMerge", "(*internal/sync.Mutex).unlockSlow", "internal/sync.fatal", "internal/sync.runtime_Semrelease"], plainKeys := false, apart := false }
def ThrottleSplitSaid : Prop := throttleSplitRow.holds Try.pinned (OpenSpec.ofChange throttleSplitSpec)

/-- ITS FALSE NEIGHBOUR: 'it returns false'. Refute it at one input. -/
def throttleSplitWrong : ChangeSpec := { name := "throttleSplit", fn := fun _ => fun
  | [d1, d2, d3, d4, d5] => { results := [.lit (.bool false)], args := [d1, d2, d3, d4, d5] }
  | _ => none }
def ThrottleSplitWrongFalsely : Prop := throttleSplitRow.holds Try.pinned (OpenSpec.ofChange throttleSplitWrong)

/- THE SECOND FORM. 'bulk': how many values and letters a reading holds, each counted each time it is reached (what is shared counts as often as it is met; a slice's spare places count too). A statement '..UptoSaid' is the law's where the arguments, and the package variables that the reading takes, are together of bulk at most 1048576: NARROWER than '..Said'. Prove '..Said' where nothing that the law and all that it calls make is longer than what came in: it says more and counts as full. Else prove '..UptoSaid'. A law counts once. -/
mutual
def uptoBulk {H : Type} : DataW H → Nat
  | .lit (.string bytes) => bytes.length + 1
  | .lit _ => 1
  | .nil => 1
  | .ptr d => uptoBulk d + 1
  | .slice elems spare => uptoBulkAll elems + uptoBulkAll spare + 1
  | .agg parts => uptoBulkAll parts + 1
  | .iface _ d => uptoBulk d + 1
  | .map entries => uptoBulkEntries entries + 1
  | .held _ => 1
def uptoBulkAll {H : Type} : List (DataW H) → Nat
  | [] => 0
  | d :: r => uptoBulk d + uptoBulkAll r
def uptoBulkEntries {H : Type} : List (Lit × DataW H) → Nat
  | [] => 0
  | x :: r => uptoBulkEntry x + uptoBulkEntries r
def uptoBulkEntry {H : Type} : Lit × DataW H → Nat
  | (.string bytes, d) => bytes.length + uptoBulk d + 1
  | (_, d) => uptoBulk d + 1
 end
def uptoSmall : (H : Type) → List (DataW H) → Bool := fun _ ds => decide (uptoBulkAll ds ≤ 1048576)
def OpenSpec.upto (s : _root_.Go.ChangeSpec) : _root_.Go.OpenSpec := { _root_.Go.OpenSpec.ofChange s with cond := some uptoSmall }

/-- 'granarylaw10.ThrottleBudgets', WHERE WHAT IT READS IS OF BULK AT MOST 1048576: true; the input reads as it did. -/
def throttleBudgetsUptoRow : OpenClaim := { program := "ythajekcjgkidhaa", sum := "e9930a3f4d38d4d05ff7729ec08e9242a1fcda11b9d458900db1f10937141bd6", func := "granary/granarylaw10.ThrottleBudgets", spec := "throttleBudgets", inPlace := ["(*internal/sync.Mutex).Lock", "internal/race.Disable", "sync/atomic.CompareAndSwapInt32", "internal/race.Enable", "internal/race.Acquire", "(*internal/sync.Mutex).lockSlow", "internal/sync.runtime_canSpin", "internal/sync.runtime_doSpin", "internal/sync.throw", "internal/sync.runtime_nanotime", "internal/sync.runtime_SemacquireMutex", "sync/atomic.AddInt32", "(*internal/sync.Mutex).Unlock", "internal/race.ReleaseMerge", "(*internal/sync.Mutex).unlockSlow", "internal/sync.fatal", "internal/sync.runtime_Semrelease"], plainKeys := false, apart := false, narrowed := true }
def ThrottleBudgetsUptoSaid : Prop := throttleBudgetsUptoRow.holds Try.pinned (OpenSpec.upto throttleBudgetsSpec)

/-- 'granarylaw10.ThrottleTries', WHERE WHAT IT READS IS OF BULK AT MOST 1048576: true; the input reads as it did. -/
def throttleTriesUptoRow : OpenClaim := { program := "ythajekcjgkidhaa", sum := "e9930a3f4d38d4d05ff7729ec08e9242a1fcda11b9d458900db1f10937141bd6", func := "granary/granarylaw10.ThrottleTries", spec := "throttleTries", inPlace := ["(*internal/sync.Mutex).Lock", "internal/race.Disable", "sync/atomic.CompareAndSwapInt32", "internal/race.Enable", "internal/race.Acquire", "(*internal/sync.Mutex).lockSlow", "internal/sync.runtime_canSpin", "internal/sync.runtime_doSpin", "internal/sync.throw", "internal/sync.runtime_nanotime", "internal/sync.runtime_SemacquireMutex", "sync/atomic.AddInt32", "(*internal/sync.Mutex).Unlock", "internal/race.ReleaseMerge", "(*internal/sync.Mutex).unlockSlow", "internal/sync.fatal", "internal/sync.runtime_Semrelease"], plainKeys := false, apart := false, narrowed := true }
def ThrottleTriesUptoSaid : Prop := throttleTriesUptoRow.holds Try.pinned (OpenSpec.upto throttleTriesSpec)

/-- 'granarylaw10.ThrottleWaits', WHERE WHAT IT READS IS OF BULK AT MOST 1048576: true; the input reads as it did. -/
def throttleWaitsUptoRow : OpenClaim := { program := "ythajekcjgkidhaa", sum := "e9930a3f4d38d4d05ff7729ec08e9242a1fcda11b9d458900db1f10937141bd6", func := "granary/granarylaw10.ThrottleWaits", spec := "throttleWaits", inPlace := ["(*internal/sync.Mutex).Lock", "internal/race.Disable", "sync/atomic.CompareAndSwapInt32", "internal/race.Enable", "internal/race.Acquire", "(*internal/sync.Mutex).lockSlow", "internal/sync.runtime_canSpin", "internal/sync.runtime_doSpin", "internal/sync.throw", "internal/sync.runtime_nanotime", "internal/sync.runtime_SemacquireMutex", "sync/atomic.AddInt32", "(*internal/sync.Mutex).Unlock", "internal/race.ReleaseMerge", "(*internal/sync.Mutex).unlockSlow", "internal/sync.fatal", "internal/sync.runtime_Semrelease"], plainKeys := false, apart := false, narrowed := true }
def ThrottleWaitsUptoSaid : Prop := throttleWaitsUptoRow.holds Try.pinned (OpenSpec.upto throttleWaitsSpec)

/-- 'granarylaw10.ThrottleServes', WHERE WHAT IT READS IS OF BULK AT MOST 1048576: true; the input reads as it did. -/
def throttleServesUptoRow : OpenClaim := { program := "ythajekcjgkidhaa", sum := "e9930a3f4d38d4d05ff7729ec08e9242a1fcda11b9d458900db1f10937141bd6", func := "granary/granarylaw10.ThrottleServes", spec := "throttleServes", inPlace := ["(*internal/sync.Mutex).Lock", "internal/race.Disable", "sync/atomic.CompareAndSwapInt32", "internal/race.Enable", "internal/race.Acquire", "(*internal/sync.Mutex).lockSlow", "internal/sync.runtime_canSpin", "internal/sync.runtime_doSpin", "internal/sync.throw", "internal/sync.runtime_nanotime", "internal/sync.runtime_SemacquireMutex", "sync/atomic.AddInt32", "(*internal/sync.Mutex).Unlock", "internal/race.ReleaseMerge", "(*internal/sync.Mutex).unlockSlow", "internal/sync.fatal", "internal/sync.runtime_Semrelease"], plainKeys := false, apart := false, narrowed := true }
def ThrottleServesUptoSaid : Prop := throttleServesUptoRow.holds Try.pinned (OpenSpec.upto throttleServesSpec)

/-- 'granarylaw10.ThrottleBuckets', WHERE WHAT IT READS IS OF BULK AT MOST 1048576: true; the input reads as it did. -/
def throttleBucketsUptoRow : OpenClaim := { program := "ythajekcjgkidhaa", sum := "e9930a3f4d38d4d05ff7729ec08e9242a1fcda11b9d458900db1f10937141bd6", func := "granary/granarylaw10.ThrottleBuckets", spec := "throttleBuckets", inPlace := ["(*internal/sync.Mutex).Lock", "internal/race.Disable", "sync/atomic.CompareAndSwapInt32", "internal/race.Enable", "internal/race.Acquire", "(*internal/sync.Mutex).lockSlow", "internal/sync.runtime_canSpin", "internal/sync.runtime_doSpin", "internal/sync.throw", "internal/sync.runtime_nanotime", "internal/sync.runtime_SemacquireMutex", "sync/atomic.AddInt32", "(*internal/sync.Mutex).Unlock", "internal/race.ReleaseMerge", "(*internal/sync.Mutex).unlockSlow", "internal/sync.fatal", "internal/sync.runtime_Semrelease"], plainKeys := false, apart := false, narrowed := true }
def ThrottleBucketsUptoSaid : Prop := throttleBucketsUptoRow.holds Try.pinned (OpenSpec.upto throttleBucketsSpec)

/-- 'granarylaw10.ThrottleWindow', WHERE WHAT IT READS IS OF BULK AT MOST 1048576: true; the input reads as it did. -/
def throttleWindowUptoRow : OpenClaim := { program := "ythajekcjgkidhaa", sum := "e9930a3f4d38d4d05ff7729ec08e9242a1fcda11b9d458900db1f10937141bd6", func := "granary/granarylaw10.ThrottleWindow", spec := "throttleWindow", inPlace := ["(*internal/sync.Mutex).Lock", "internal/race.Disable", "sync/atomic.CompareAndSwapInt32", "internal/race.Enable", "internal/race.Acquire", "(*internal/sync.Mutex).lockSlow", "internal/sync.runtime_canSpin", "internal/sync.runtime_doSpin", "internal/sync.throw", "internal/sync.runtime_nanotime", "internal/sync.runtime_SemacquireMutex", "sync/atomic.AddInt32", "(*internal/sync.Mutex).Unlock", "internal/race.ReleaseMerge", "(*internal/sync.Mutex).unlockSlow", "internal/sync.fatal", "internal/sync.runtime_Semrelease"], plainKeys := false, apart := false, narrowed := true }
def ThrottleWindowUptoSaid : Prop := throttleWindowUptoRow.holds Try.pinned (OpenSpec.upto throttleWindowSpec)

/-- 'granarylaw10.ThrottleSplit', WHERE WHAT IT READS IS OF BULK AT MOST 1048576: true; the input reads as it did. -/
def throttleSplitUptoRow : OpenClaim := { program := "ythajekcjgkidhaa", sum := "e9930a3f4d38d4d05ff7729ec08e9242a1fcda11b9d458900db1f10937141bd6", func := "granary/granarylaw10.ThrottleSplit", spec := "throttleSplit", inPlace := ["(*internal/sync.Mutex).Lock", "internal/race.Disable", "sync/atomic.CompareAndSwapInt32", "internal/race.Enable", "internal/race.Acquire", "(*internal/sync.Mutex).lockSlow", "internal/sync.runtime_canSpin", "internal/sync.runtime_doSpin", "internal/sync.throw", "internal/sync.runtime_nanotime", "internal/sync.runtime_SemacquireMutex", "sync/atomic.AddInt32", "(*internal/sync.Mutex).Unlock", "internal/race.ReleaseMerge", "(*internal/sync.Mutex).unlockSlow", "internal/sync.fatal", "internal/sync.runtime_Semrelease"], plainKeys := false, apart := false, narrowed := true }
def ThrottleSplitUptoSaid : Prop := throttleSplitUptoRow.holds Try.pinned (OpenSpec.upto throttleSplitSpec)

end Rows
end Go.Proofs.Ythajekcjgkidhaa
