/- ThrottleTries where no budget may be made: it answers true. No condition. -/
import Derived.Test.YthajekcjgkidhaaProg
import Derived.Below
import Derived.Deep.Draws
import Derived.Deep.AppendLies
import Derived.Maps.AppendAt
import Derived.OwnWalk
import Derived.Laws.BytesArg
import Derived.Laws.MakeOwn
import Derived.Laws.OwnMore
import Derived.Deep.OwnRows
import Derived.Tactics
import Derived.Lib.ConvBytes
import Derived.Laws.Slices
import Derived.WalkKit
import Derived.KernelRfl
import Derived.RowKit3
import Derived.Deep.LoopGhost
import Derived.Deep.QuietTactic
import Derived.BigQuiet
import Derived.WideLaws
import Derived.Deep.DeepCutAuto
import Derived.Deep.CutBlock
import Derived.Deep.RegionHeld3
import Derived.Laws.Rows
import Derived.Lib.AppendStr
import Derived.ArgAppend
import Derived.Laws.IdiomCopy
import Derived.OrdersHeld
import Derived.Laws.BitsLemmas
import Derived.RowKit
import Derived.Test.YthajekcjgkidhaaWWords
import Derived.Test.YthajekcjgkidhaaWLast
import Derived.Test.YthajekcjgkidhaaWTab
import Derived.Test.YthajekcjgkidhaaWFour
import Derived.Test.YthajekcjgkidhaaWQPut
import Derived.Test.YthajekcjgkidhaaWApart
import Derived.Test.YthajekcjgkidhaaWArr
import Derived.Test.YthajekcjgkidhaaWZeros
import Derived.Test.YthajekcjgkidhaaWFoot
import Derived.Test.YthajekcjgkidhaaWKept
import Derived.Test.YthajekcjgkidhaaWShare
import Derived.Test.YthajekcjgkidhaaWN
import Derived.Test.YthajekcjgkidhaaWFootNe
import Derived.Test.YthajekcjgkidhaaWAt
import Derived.Test.YthajekcjgkidhaaWEqStruct
import Derived.Test.YthajekcjgkidhaaWRepsOne
import Derived.Test.YthajekcjgkidhaaWInv
import Derived.Test.YthajekcjgkidhaaWInvWords
import Derived.Test.YthajekcjgkidhaaWGuard
import Derived.Test.YthajekcjgkidhaaWNEv
import Derived.Test.YthajekcjgkidhaaWMore
import Derived.Test.YthajekcjgkidhaaLocks
import Derived.Conc.MuLone
import Derived.Test.YthajekcjgkidhaaN5
set_option linter.unusedVariables false
set_option linter.unusedSimpArgs false
namespace Go.Proofs.Ythajekcjgkidhaa.Q
open Go.RowKit Go.Proofs.YthajekcjgkidhaaW.PrintWords Go.Proofs.YthajekcjgkidhaaW.PrintLast Go.Proofs.YthajekcjgkidhaaW.PrintMore
open Go.MuLone Go.FM Go.Plan

set_option maxHeartbeats 8000000 in
set_option maxRecDepth 100000 in
theorem tries_no (A B C : Int) (hs : ¬ okBud A B C) (it : Int × Int) (Ao : Option Addr) (co : Nat) (l : List (Int × Int)) (now : Int) (w : World) :
    Calls Try.prog 4 #[.agg #[.int .i64 A, .int .i64 B, .int .i64 C], .agg #[.int .i64 it.1, .int .i64 it.2], .slice Ao l.length co, .int .i64 now] w fun e w' => e = .returned (.bool true) ∧ Below w.heap.size w w' := by
  have B0 := ((Below.refl w.heap.size w).alloc (Nat.le_refl _) (.cells #[.int .i64 A, .int .i64 B, .int .i64 C] 23)).alloc (by simp) (.cells #[.int .i64 it.1, .int .i64 it.2] 35)
  have hw := Aside0.mk B0
  clear B0
  by_cases k1 : now < 0
  · have n1 : decide (now < 0) = true := by simpa using k1
    clear k1
    go_enter Try.func4, Try.ntmps4
    go_wp2_with (first
      | (go_at_call 12; refine (unew_refuses A B C _ hs).mono ?_; rintro e w3 ⟨rfl, rfl⟩)
      | (go_at_call 13; refine (purse_no A B C _ hs).mono ?_; rintro e w4 ⟨rfl, hb4⟩; have HB := Aside0.mk (below_step hw.out hb4); clear hb4)
      | (go_at_call 14; refine (num_calls _ _).mono ?_; rintro e w5 ⟨rfl, rfl⟩))
    go_ret
    exact ⟨rfl, HB.out⟩
  have n1 : decide (now < 0) = false := by simpa using k1
  by_cases k2 : 9007199254740992 < now
  · have n2 : decide (9007199254740992 < now) = true := by simpa using k2
    clear k1 k2
    go_enter Try.func4, Try.ntmps4
    go_wp2_with (first
      | (go_at_call 12; refine (unew_refuses A B C _ hs).mono ?_; rintro e w3 ⟨rfl, rfl⟩)
      | (go_at_call 13; refine (purse_no A B C _ hs).mono ?_; rintro e w4 ⟨rfl, hb4⟩; have HB := Aside0.mk (below_step hw.out hb4); clear hb4)
      | (go_at_call 14; refine (num_calls _ _).mono ?_; rintro e w5 ⟨rfl, rfl⟩))
    go_ret
    exact ⟨rfl, HB.out⟩
  have n2 : decide (9007199254740992 < now) = false := by simpa using k2
  clear k1 k2
  go_enter Try.func4, Try.ntmps4
  go_wp2_with (first
    | (go_at_call 12; refine (unew_refuses A B C _ hs).mono ?_; rintro e w3 ⟨rfl, rfl⟩)
    | (go_at_call 13; refine (purse_no A B C _ hs).mono ?_; rintro e w4 ⟨rfl, hb4⟩; have HB := Aside0.mk (below_step hw.out hb4); clear hb4)
    | (go_at_call 14; refine (num_calls _ _).mono ?_; rintro e w5 ⟨rfl, rfl⟩))
  go_ret
  exact ⟨rfl, HB.out⟩

end Go.Proofs.Ythajekcjgkidhaa.Q
