/- Contract of record.ReadEntry: what it answers, at every index that the memory holds. No other condition. -/
import Derived.Test.YtkfhedppnlocpaaE3
import Derived.Test.YtkfhedppnlocpaaProg
import Derived.Below
import Derived.Deep.Draws
import Derived.Deep.AppendLies
import Derived.Maps.AppendAt
import Derived.OwnWalk
import Derived.Laws.BytesArg
import Derived.Laws.MakeOwn
import Derived.Laws.OwnMore
import Derived.Deep.OwnRows
import Derived.Tactics
import Derived.Lib.ConvBytes
import Derived.Laws.Slices
import Derived.WalkKit
import Derived.KernelRfl
import Derived.RowKit3
import Derived.Deep.LoopGhost
import Derived.Deep.QuietTactic
import Derived.BigQuiet
import Derived.WideLaws
import Derived.Deep.DeepCutAuto
import Derived.Deep.CutBlock
import Derived.Deep.RegionHeld3
import Derived.Laws.Rows
import Derived.Lib.AppendStr
import Derived.ArgAppend
import Derived.Laws.IdiomCopy
import Derived.OrdersHeld
import Derived.Laws.BitsLemmas
import Derived.RowKit
import Derived.Test.YtkfhedppnlocpaaWWords
import Derived.Test.YtkfhedppnlocpaaWLast
import Derived.Test.YtkfhedppnlocpaaWTab
import Derived.Test.YtkfhedppnlocpaaWQPut
import Derived.Test.YtkfhedppnlocpaaWApart
import Derived.Test.YtkfhedppnlocpaaWArr
import Derived.Test.YtkfhedppnlocpaaWZeros
import Derived.Test.YtkfhedppnlocpaaWFoot
import Derived.Test.YtkfhedppnlocpaaWKept
import Derived.Test.YtkfhedppnlocpaaWShare
import Derived.Test.YtkfhedppnlocpaaWN
import Derived.Test.YtkfhedppnlocpaaWRepsOne
import Derived.Test.YtkfhedppnlocpaaWGuard
import Derived.Test.YtkfhedppnlocpaaWNEv
import Derived.Test.YtkfhedppnlocpaaWMore
import Derived.Deep.RegionWith
set_option linter.unusedVariables false
set_option linter.unusedSimpArgs false
namespace Go.Proofs.Ytkfhedppnlocpaa.Q
open Go.RowKit Go.Proofs.YtkfhedppnlocpaaW.PrintWords Go.Proofs.YtkfhedppnlocpaaW.PrintLast Go.Proofs.YtkfhedppnlocpaaW.PrintMore

theorem widthOK_no (a0 : Int) (w : World) (h : a0 < 1 ∨ 16 < a0) : Calls Try.prog 57 #[.int .i64 a0] w fun e w' => e = .returned (.bool false) ∧ w = w' := by
  rcases h with h | h
  · go_enter Try.func57, Try.ntmps57
    go_wp2
    go_ret
    exact ⟨rfl, rfl⟩
  · have c16 : decide (a0 ≤ 16) = false := by simp; omega
    go_enter Try.func57, Try.ntmps57
    go_wp2
    go_ret
    exact ⟨rfl, rfl⟩

/-! ### record.ReadEntry: function 22 -/
end Go.Proofs.Ytkfhedppnlocpaa.Q
