/- Contracts of granarylaw10.num, good, refusedBucket, twin and granaryref10.Beyond. Condition: the shape is one that NewBucket takes, or one that it does not, as each says. -/
import Derived.Test.YthajekcjgkidhaaProg
import Derived.Below
import Derived.Deep.Draws
import Derived.Deep.AppendLies
import Derived.Maps.AppendAt
import Derived.OwnWalk
import Derived.Laws.BytesArg
import Derived.Laws.MakeOwn
import Derived.Laws.OwnMore
import Derived.Deep.OwnRows
import Derived.Tactics
import Derived.Lib.ConvBytes
import Derived.Laws.Slices
import Derived.WalkKit
import Derived.KernelRfl
import Derived.RowKit3
import Derived.Deep.LoopGhost
import Derived.Deep.QuietTactic
import Derived.BigQuiet
import Derived.WideLaws
import Derived.Deep.DeepCutAuto
import Derived.Deep.CutBlock
import Derived.Deep.RegionHeld3
import Derived.Laws.Rows
import Derived.Lib.AppendStr
import Derived.ArgAppend
import Derived.Laws.IdiomCopy
import Derived.OrdersHeld
import Derived.Laws.BitsLemmas
import Derived.RowKit
import Derived.Test.YthajekcjgkidhaaWWords
import Derived.Test.YthajekcjgkidhaaWLast
import Derived.Test.YthajekcjgkidhaaWTab
import Derived.Test.YthajekcjgkidhaaWFour
import Derived.Test.YthajekcjgkidhaaWQPut
import Derived.Test.YthajekcjgkidhaaWApart
import Derived.Test.YthajekcjgkidhaaWArr
import Derived.Test.YthajekcjgkidhaaWZeros
import Derived.Test.YthajekcjgkidhaaWFoot
import Derived.Test.YthajekcjgkidhaaWKept
import Derived.Test.YthajekcjgkidhaaWShare
import Derived.Test.YthajekcjgkidhaaWN
import Derived.Test.YthajekcjgkidhaaWFootNe
import Derived.Test.YthajekcjgkidhaaWAt
import Derived.Test.YthajekcjgkidhaaWEqStruct
import Derived.Test.YthajekcjgkidhaaWRepsOne
import Derived.Test.YthajekcjgkidhaaWInv
import Derived.Test.YthajekcjgkidhaaWInvWords
import Derived.Test.YthajekcjgkidhaaWGuard
import Derived.Test.YthajekcjgkidhaaWNEv
import Derived.Test.YthajekcjgkidhaaWMore
import Derived.Test.YthajekcjgkidhaaLocks
import Derived.Conc.MuLone
import Derived.Test.YthajekcjgkidhaaT3
set_option linter.unusedVariables false
set_option linter.unusedSimpArgs false
namespace Go.Proofs.Ythajekcjgkidhaa.Q
open Go.RowKit Go.Proofs.YthajekcjgkidhaaW.PrintWords Go.Proofs.YthajekcjgkidhaaW.PrintLast Go.Proofs.YthajekcjgkidhaaW.PrintMore
open Go.MuLone

theorem num_calls (a : Int) (w : World) : Calls Try.prog 14 #[.int .i64 a] w fun e w' => e = .returned (.int .i64 a) ∧ w' = w := by
  go_enter Try.func14, Try.ntmps14
  go_wp2
  go_ret
  exact ⟨rfl, rfl⟩

theorem beyond_calls (a : Int) (w : World) : Calls Try.prog 24 #[.int .i64 a] w fun e w' => e = .returned (.bool (decide (2147483647 < a))) ∧ w' = w := by
  go_enter Try.func24, Try.ntmps24
  go_wp2
  go_ret
  exact ⟨rfl, rfl⟩

instance (ra pe bu : Int) : Decidable (okShape ra pe bu) := by unfold okShape; infer_instance

set_option maxHeartbeats 2000000 in
theorem good_yes (ra pe bu : Int) (w : World) (h : okShape ra pe bu) :
    Calls Try.prog 18 #[.agg #[.int .i64 ra, .int .i64 pe, .int .i64 bu]] w fun e w' => e = .returned (.bool true) ∧ Below w.heap.size w w' := by
  obtain ⟨h1, h2, h3, h4, h5, h6⟩ := h
  have b1 : decide (1 ≤ ra) = true := by simp; omega
  have b2 : decide (ra ≤ 65536) = true := by simp; omega
  have b3 : decide (1 ≤ pe) = true := by simp; omega
  have b4 : decide (pe ≤ 1024) = true := by simp; omega
  have b5 : decide (1 ≤ bu) = true := by simp; omega
  have b6 : decide (bu ≤ 65536) = true := by simp; omega
  clear h1 h2 h3 h4 h5 h6
  go_enter Try.func18, Try.ntmps18
  go_wp2
  go_ret
  exact ⟨rfl, (Below.refl _ _).alloc (Nat.le_refl _) _⟩

set_option maxHeartbeats 2000000 in
theorem good_no (ra pe bu : Int) (w : World) (h : ¬ okShape ra pe bu) :
    Calls Try.prog 18 #[.agg #[.int .i64 ra, .int .i64 pe, .int .i64 bu]] w fun e w' => e = .returned (.bool false) ∧ Below w.heap.size w w' := by
  have hdec : ra < 1 ∨ 65536 < ra ∨ pe < 1 ∨ 1024 < pe ∨ bu < 1 ∨ 65536 < bu := by unfold okShape at h; omega
  by_cases h1 : ra < 1
  · have b1 : decide (1 ≤ ra) = false := by simp; omega
    clear h hdec h1
    go_enter Try.func18, Try.ntmps18
    go_wp2
    go_ret
    exact ⟨rfl, (Below.refl _ _).alloc (Nat.le_refl _) _⟩
  have b1 : decide (1 ≤ ra) = true := by simp; omega
  by_cases h2 : 65536 < ra
  · have b2 : decide (ra ≤ 65536) = false := by simp; omega
    clear h hdec h1 h2
    go_enter Try.func18, Try.ntmps18
    go_wp2
    go_ret
    exact ⟨rfl, (Below.refl _ _).alloc (Nat.le_refl _) _⟩
  have b2 : decide (ra ≤ 65536) = true := by simp; omega
  by_cases h3 : pe < 1
  · have b3 : decide (1 ≤ pe) = false := by simp; omega
    clear h hdec h1 h2 h3
    go_enter Try.func18, Try.ntmps18
    go_wp2
    go_ret
    exact ⟨rfl, (Below.refl _ _).alloc (Nat.le_refl _) _⟩
  have b3 : decide (1 ≤ pe) = true := by simp; omega
  by_cases h4 : 1024 < pe
  · have b4 : decide (pe ≤ 1024) = false := by simp; omega
    clear h hdec h1 h2 h3 h4
    go_enter Try.func18, Try.ntmps18
    go_wp2
    go_ret
    exact ⟨rfl, (Below.refl _ _).alloc (Nat.le_refl _) _⟩
  have b4 : decide (pe ≤ 1024) = true := by simp; omega
  by_cases h5 : bu < 1
  · have b5 : decide (1 ≤ bu) = false := by simp; omega
    clear h hdec h1 h2 h3 h4 h5
    go_enter Try.func18, Try.ntmps18
    go_wp2
    go_ret
    exact ⟨rfl, (Below.refl _ _).alloc (Nat.le_refl _) _⟩
  have b5 : decide (1 ≤ bu) = true := by simp; omega
  have b6 : decide (bu ≤ 65536) = false := by simp; omega
  clear h hdec h1 h2 h3 h4 h5
  go_enter Try.func18, Try.ntmps18
  go_wp2
  go_ret
  exact ⟨rfl, (Below.refl _ _).alloc (Nat.le_refl _) _⟩

set_option maxHeartbeats 2000000 in
theorem refused_calls (ra pe bu : Int) (w : World) (h : ¬ okShape ra pe bu) :
    Calls Try.prog 19 #[.agg #[.int .i64 ra, .int .i64 pe, .int .i64 bu]] w fun e w' => e = .returned (.bool true) ∧ Below w.heap.size w w' := by
  go_enter Try.func19, Try.ntmps19
  go_wp2_with (first
    | (go_at_call 25; refine (new_refuses ra pe bu _ h).mono ?_; rintro e w' ⟨rfl, rfl⟩)
    | (go_at_call 14; refine (num_calls _ _).mono ?_; rintro e w' ⟨rfl, rfl⟩))
  go_ret
  exact ⟨rfl, (Below.refl _ _).alloc (Nat.le_refl _) _⟩

set_option maxHeartbeats 2000000 in
theorem twin_calls (ra pe bu : Int) (w : World) (h : okShape ra pe bu) :
    Calls Try.prog 20 #[.agg #[.int .i64 ra, .int .i64 pe, .int .i64 bu]] w fun e w' => e = .returned (.tuple #[.pointer (some ⟨w.heap.size + 1, 0, none⟩), .pointer (some ⟨w.heap.size + 2, 0, none⟩), .bool true]) ∧
      IsB w' (w.heap.size + 1) ⟨ra, pe, bu, bu, 0⟩ ∧ IsB w' (w.heap.size + 2) ⟨ra, pe, bu, bu, 0⟩ ∧ Below w.heap.size w w' := by
  have e1 : ∀ o, (w.alloc o).heap.size = w.heap.size + 1 := fun o => by simp
  go_enter Try.func20, Try.ntmps20
  go_wp2_with (first
    | (go_at_call 25; refine (new_calls ra pe bu _ h).mono ?_; rintro e w' ⟨rfl, hI, hw⟩; have hIs := hI; subst hw)
    | (go_at_call 14; refine (num_calls _ _).mono ?_; rintro e w' ⟨rfl, rfl⟩))
  go_ret3
  have h1 := blk_new (w.alloc (.cells #[.int .i64 ra, .int .i64 pe, .int .i64 bu] 23)) (.cells (Bkt.cells ⟨ra, pe, bu, bu, 0⟩ 0) 92)
  have h2 := blk_new ((w.alloc (.cells #[.int .i64 ra, .int .i64 pe, .int .i64 bu] 23)).alloc (.cells (Bkt.cells ⟨ra, pe, bu, bu, 0⟩ 0) 92)) (.cells (Bkt.cells ⟨ra, pe, bu, bu, 0⟩ 0) 92)
  have e2 : ((w.alloc (.cells #[.int .i64 ra, .int .i64 pe, .int .i64 bu] 23)).alloc (.cells (Bkt.cells ⟨ra, pe, bu, bu, 0⟩ 0) 92)).heap.size = w.heap.size + 2 := by simp
  rw [e1] at h1
  rw [e2] at h2
  have B0 := (Below.refl w.heap.size w).alloc (Nat.le_refl _) (.cells #[.int .i64 ra, .int .i64 pe, .int .i64 bu] 23)
  exact ⟨rfl, blk_alloc h1 _, h2, (B0.alloc (by rw [e1]; omega) _).alloc (by rw [e2]; omega) _⟩

end Go.Proofs.Ythajekcjgkidhaa.Q
