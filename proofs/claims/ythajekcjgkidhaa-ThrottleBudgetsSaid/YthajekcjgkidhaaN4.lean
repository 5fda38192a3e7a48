/- Contract of (*throttle.Budget).Fail, and what it keeps. Condition: as for Left. -/
import Derived.Test.YthajekcjgkidhaaProg
import Derived.Below
import Derived.Deep.Draws
import Derived.Deep.AppendLies
import Derived.Maps.AppendAt
import Derived.OwnWalk
import Derived.Laws.BytesArg
import Derived.Laws.MakeOwn
import Derived.Laws.OwnMore
import Derived.Deep.OwnRows
import Derived.Tactics
import Derived.Lib.ConvBytes
import Derived.Laws.Slices
import Derived.WalkKit
import Derived.KernelRfl
import Derived.RowKit3
import Derived.Deep.LoopGhost
import Derived.Deep.QuietTactic
import Derived.BigQuiet
import Derived.WideLaws
import Derived.Deep.DeepCutAuto
import Derived.Deep.CutBlock
import Derived.Deep.RegionHeld3
import Derived.Laws.Rows
import Derived.Lib.AppendStr
import Derived.ArgAppend
import Derived.Laws.IdiomCopy
import Derived.OrdersHeld
import Derived.Laws.BitsLemmas
import Derived.RowKit
import Derived.Test.YthajekcjgkidhaaWWords
import Derived.Test.YthajekcjgkidhaaWLast
import Derived.Test.YthajekcjgkidhaaWTab
import Derived.Test.YthajekcjgkidhaaWFour
import Derived.Test.YthajekcjgkidhaaWQPut
import Derived.Test.YthajekcjgkidhaaWApart
import Derived.Test.YthajekcjgkidhaaWArr
import Derived.Test.YthajekcjgkidhaaWZeros
import Derived.Test.YthajekcjgkidhaaWFoot
import Derived.Test.YthajekcjgkidhaaWKept
import Derived.Test.YthajekcjgkidhaaWShare
import Derived.Test.YthajekcjgkidhaaWN
import Derived.Test.YthajekcjgkidhaaWFootNe
import Derived.Test.YthajekcjgkidhaaWAt
import Derived.Test.YthajekcjgkidhaaWEqStruct
import Derived.Test.YthajekcjgkidhaaWRepsOne
import Derived.Test.YthajekcjgkidhaaWInv
import Derived.Test.YthajekcjgkidhaaWInvWords
import Derived.Test.YthajekcjgkidhaaWGuard
import Derived.Test.YthajekcjgkidhaaWNEv
import Derived.Test.YthajekcjgkidhaaWMore
import Derived.Test.YthajekcjgkidhaaLocks
import Derived.Conc.MuLone
import Derived.Test.YthajekcjgkidhaaN3
set_option linter.unusedVariables false
set_option linter.unusedSimpArgs false
namespace Go.Proofs.Ythajekcjgkidhaa.Q
open Go.RowKit Go.Proofs.YthajekcjgkidhaaW.PrintWords Go.Proofs.YthajekcjgkidhaaW.PrintLast Go.Proofs.YthajekcjgkidhaaW.PrintMore
open Go.MuLone Go.FM

set_option maxHeartbeats 2000000 in
theorem fail_bad (g r : Nat) (t b m : Int) (F : Fm) (it : Int × Int) (now : Int) (w : World) (hI : IsU w g r t b m F) (hn : now < 0 ∨ 9007199254740992 < now) :
    Calls Try.prog 15 #[.pointer (some ⟨g, 0, none⟩), .agg #[.int .i64 it.1, .int .i64 it.2], .int .i64 now] w fun e w' => e = .returned (.tuple #[.int .i64 (failF t b m F it now).2.1, .int .i64 (failF t b m F it now).2.2]) ∧ IsU w' g r t b m (failF t b m F it now).1 ∧ But2 w w' g r := by
  have hv : failF t b m F it now = (F, 0, 1) := by unfold failF; rw [if_pos hn]
  rw [hv]
  have hs := (UL.start g r t b m F it w hI).done
  by_cases k : now < 0
  · have n1 : decide (now < 0) = true := by simpa using k
    clear k hn hv
    go_enter_defers Try.func15, Try.ntmps15
    go_wp2_with fail
    exact ⟨_, results_tmp2 rfl _ _ _, rfl, hs⟩
  · have n1 : decide (now < 0) = false := by simpa using k
    have n2 : decide (9007199254740992 < now) = true := by simp; omega
    clear k hn hv
    go_enter_defers Try.func15, Try.ntmps15
    go_wp2_with fail
    exact ⟨_, results_tmp2 rfl _ _ _, rfl, hs⟩

theorem fail_calls (g r : Nat) (t b m : Int) (hb : okBud t b m) (F : Fm) (hG : GoodF t F) (it : Int × Int) (hit : okI it) (now : Int) (w : World) (hI : IsU w g r t b m F) :
    Calls Try.prog 15 #[.pointer (some ⟨g, 0, none⟩), .agg #[.int .i64 it.1, .int .i64 it.2], .int .i64 now] w fun e w' => e = .returned (.tuple #[.int .i64 (failF t b m F it now).2.1, .int .i64 (failF t b m F it now).2.2]) ∧ IsU w' g r t b m (failF t b m F it now).1 ∧ But2 w w' g r := by
  by_cases hn : now < 0 ∨ 9007199254740992 < now
  · exact fail_bad g r t b m F it now w hI hn
  cases hc : F it with
  | none => exact fail_fresh g r t b m hb F it hit now w hI hc (by omega)
  | some s =>
    obtain ⟨s1, s2⟩ := s
    obtain ⟨h1, h2, h3, h4⟩ := hG it (s1, s2) hc
    exact fail_known g r t b m hb F it hit now w hI s1 s2 hc h1 (by have := hb.2.1; dsimp only at h2; omega) (by dsimp only at h3; omega) h4 (by omega)

theorem failF_other (t b m : Int) (F : Fm) (it x : Int × Int) (now : Int) (h : x ≠ it) : (failF t b m F it now).1 x = F x := by
  unfold failF
  split
  · rfl
  split
  · rfl
  split
  · exact if_neg h
  · exact if_neg h

theorem failF_good (t b m : Int) (hb : okBud t b m) (F : Fm) (hG : GoodF t F) (it : Int × Int) (now : Int) : GoodF t (failF t b m F it now).1 := by
  obtain ⟨q1, q2, q3, q4, q5, q6⟩ := hb
  have hg : 0 ≤ ((F it).getD (0, b)).1 ∧ ((F it).getD (0, b)).1 ≤ t ∧ 1 ≤ ((F it).getD (0, b)).2 ∧ ((F it).getD (0, b)).2 ≤ 1024 := by
    cases hc : F it with
    | none => simp; omega
    | some s => exact hG it s hc
  intro k s hk
  by_cases e : k = it
  · subst e
    unfold failF at hk
    generalize (F k).getD (0, b) = u at *
    by_cases c1 : now < 0 ∨ 9007199254740992 < now
    · rw [if_pos c1] at hk; exact hG k s hk
    rw [if_neg c1] at hk
    by_cases c2 : u.1 = t
    · rw [if_pos c2] at hk; exact hG k s hk
    rw [if_neg c2] at hk
    have hs : s = (u.1 + 1, min (2 * u.2) m) := by
      by_cases c3 : u.1 + 1 = t
      · rw [if_pos c3] at hk
        dsimp only at hk
        rw [if_pos rfl] at hk
        exact (Option.some.inj hk).symm
      · rw [if_neg c3] at hk
        dsimp only at hk
        rw [if_pos rfl] at hk
        exact (Option.some.inj hk).symm
    subst hs
    dsimp only
    omega
  · rw [failF_other t b m F it k now e] at hk
    exact hG k s hk

/-- What has failed once has failed. -/
theorem failF_keeps (t b m : Int) (hb : okBud t b m) (F : Fm) (hG : GoodF t F) (it x : Int × Int) (now : Int) (s : Int × Int) (hx : F x = some s) (h1 : 1 ≤ s.1) : ∃ s', (failF t b m F it now).1 x = some s' ∧ 1 ≤ s'.1 := by
  by_cases e : x = it
  · subst e
    unfold failF
    rw [hx]
    split
    · exact ⟨s, hx, h1⟩
    split
    · exact ⟨s, hx, h1⟩
    split
    · exact ⟨_, if_pos rfl, show 1 ≤ s.1 + 1 by omega⟩
    · exact ⟨_, if_pos rfl, show 1 ≤ s.1 + 1 by omega⟩
  · exact ⟨s, by rw [failF_other t b m F it x now e]; exact hx, h1⟩
theorem failF_makes (t b m : Int) (hb : okBud t b m) (F : Fm) (hG : GoodF t F) (it : Int × Int) (now : Int) (hn : 0 ≤ now ∧ now ≤ 9007199254740992) : ∃ s', (failF t b m F it now).1 it = some s' ∧ 1 ≤ s'.1 := by
  obtain ⟨q1, q2, q3, q4, q5, q6⟩ := hb
  unfold failF
  rw [if_neg (by omega)]
  cases hc : F it with
  | none =>
    dsimp only [Option.getD_none]
    rw [if_neg (by omega)]
    split
    · exact ⟨_, if_pos rfl, by dsimp only; omega⟩
    · exact ⟨_, if_pos rfl, by dsimp only; omega⟩
  | some s =>
    have := hG it s hc
    dsimp only [Option.getD_some]
    split
    · exact ⟨s, hc, by omega⟩
    split
    · exact ⟨_, if_pos rfl, show 1 ≤ s.1 + 1 by omega⟩
    · exact ⟨_, if_pos rfl, show 1 ≤ s.1 + 1 by omega⟩

end Go.Proofs.Ythajekcjgkidhaa.Q
