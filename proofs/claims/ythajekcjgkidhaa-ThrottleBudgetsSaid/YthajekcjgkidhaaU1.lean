/- Contracts of (*granaryref10.Budget).pause and .Left. Condition: block k is such a budget. -/
import Derived.Test.YthajekcjgkidhaaProg
import Derived.Below
import Derived.Deep.Draws
import Derived.Deep.AppendLies
import Derived.Maps.AppendAt
import Derived.OwnWalk
import Derived.Laws.BytesArg
import Derived.Laws.MakeOwn
import Derived.Laws.OwnMore
import Derived.Deep.OwnRows
import Derived.Tactics
import Derived.Lib.ConvBytes
import Derived.Laws.Slices
import Derived.WalkKit
import Derived.KernelRfl
import Derived.RowKit3
import Derived.Deep.LoopGhost
import Derived.Deep.QuietTactic
import Derived.BigQuiet
import Derived.WideLaws
import Derived.Deep.DeepCutAuto
import Derived.Deep.CutBlock
import Derived.Deep.RegionHeld3
import Derived.Laws.Rows
import Derived.Lib.AppendStr
import Derived.ArgAppend
import Derived.Laws.IdiomCopy
import Derived.OrdersHeld
import Derived.Laws.BitsLemmas
import Derived.RowKit
import Derived.Test.YthajekcjgkidhaaWWords
import Derived.Test.YthajekcjgkidhaaWLast
import Derived.Test.YthajekcjgkidhaaWTab
import Derived.Test.YthajekcjgkidhaaWFour
import Derived.Test.YthajekcjgkidhaaWQPut
import Derived.Test.YthajekcjgkidhaaWApart
import Derived.Test.YthajekcjgkidhaaWArr
import Derived.Test.YthajekcjgkidhaaWZeros
import Derived.Test.YthajekcjgkidhaaWFoot
import Derived.Test.YthajekcjgkidhaaWKept
import Derived.Test.YthajekcjgkidhaaWShare
import Derived.Test.YthajekcjgkidhaaWN
import Derived.Test.YthajekcjgkidhaaWFootNe
import Derived.Test.YthajekcjgkidhaaWAt
import Derived.Test.YthajekcjgkidhaaWEqStruct
import Derived.Test.YthajekcjgkidhaaWRepsOne
import Derived.Test.YthajekcjgkidhaaWInv
import Derived.Test.YthajekcjgkidhaaWInvWords
import Derived.Test.YthajekcjgkidhaaWGuard
import Derived.Test.YthajekcjgkidhaaWNEv
import Derived.Test.YthajekcjgkidhaaWMore
import Derived.Test.YthajekcjgkidhaaLocks
import Derived.Conc.MuLone
import Derived.Test.YthajekcjgkidhaaU0
set_option linter.unusedVariables false
set_option linter.unusedSimpArgs false
namespace Go.Proofs.Ythajekcjgkidhaa.Q
open Go.RowKit Go.Proofs.YthajekcjgkidhaaW.PrintWords Go.Proofs.YthajekcjgkidhaaW.PrintLast Go.Proofs.YthajekcjgkidhaaW.PrintMore
open Go.MuLone Go.FM Go.Plan

theorem ret_i64 {a b : Int} (h : b = a) : Ending.returned (.int .i64 a) = .returned (.int .i64 b) := by rw [h]
/-- The wait behind c failures. -/
def waitF (b m : Int) : Nat → Int
  | 0 => b
  | c + 1 => min (2 * waitF b m c) m
theorem waitF_bd {b m : Int} (h1 : 1 ≤ b) (h2 : b ≤ m) : ∀ c, 1 ≤ waitF b m c ∧ waitF b m c ≤ m := by
  intro c
  induction c with
  | zero => exact ⟨h1, h2⟩
  | succ c ih => simp only [waitF]; omega
theorem waitF_top {b m : Int} (h1 : 1 ≤ b) (h2 : b ≤ m) {c : Nat} (h : waitF b m c = m) : ∀ d, waitF b m (c + d) = m := by
  intro d
  induction d with
  | zero => exact h
  | succ d ih =>
    show min (2 * waitF b m (c + d)) m = m
    rw [ih]
    omega

set_option maxHeartbeats 4000000 in
theorem pause_calls (B k : Nat) (A : Option Addr) (cap : Nat) (t b m : Int) (L : List It) (f : Nat) (w : World) (h : IsV w B k A cap t b m L) (hf : 1 ≤ f ∧ f ≤ 64) (hb1 : 1 ≤ b) (hb2 : b ≤ m) (hm : m ≤ 1024) :
    Calls Try.prog 43 #[.pointer (some ⟨k, 0, none⟩), .int .i64 (f : Int)] w fun e w' => e = .returned (.int .i64 (waitF b m (f - 1))) ∧ w' = w := by
  have c1 : w.cell? ⟨k, 1, none⟩ = some (.int .i64 b) := blk_cell h.blk 1
  have c2 : w.cell? ⟨k, 2, none⟩ = some (.int .i64 m) := blk_cell h.blk 2
  have HB := Aside0.mk (show (1 ≤ f ∧ f ≤ 64) ∧ 1 ≤ b ∧ b ≤ m ∧ m ≤ 1024 from ⟨hf, hb1, hb2, hm⟩)
  clear h hf hb1 hb2 hm
  go_enter Try.func43, Try.ntmps43
  go_wp2_with fail
  go_loopg [5, 6] f (fun kq v5 v6 w' => ∃ (i : Nat) (p : Int), v5 = .int .i64 p ∧ v6 = .int .i64 (i : Int) ∧ Aside0 (i + kq = f + 1 ∧ 1 ≤ i ∧ i ≤ f) ∧ Aside0 (min p m = waitF b m (i - 1) ∧ 1 ≤ p ∧ p ≤ 2 * m) ∧ w = w')
  case atStart => exact ⟨1, b, rfl, rfl, ⟨by have := HB.out; omega⟩, ⟨by have := HB.out; exact ⟨by show min b m = b; omega, by omega, by omega⟩⟩, rfl⟩
  case round =>
    obtain ⟨i, p, rfl, rfl, HK, HP, rfl⟩ := hrel
    by_cases ci : i < f
    · have cb : decide ((i : Int) < (f : Int)) = true := by simp; omega
      have cb2 : decide (i < f) = true := by simpa using ci
      by_cases cp : p < m
      · have cq : decide (p < m) = true := by simpa using cp
        have hw2 : wrap64 (2 * p) = 2 * p := Go.IntWalk.wrap64_in _ (by have := HP.out; have := HB.out; omega)
        have hwi : wrap64 ((i : Int) + 1) = ((i + 1 : Nat) : Int) := Go.IntWalk.wrap64_in _ (by have := HB.out; omega)
        have HN : Aside0 (min (2 * p) m = waitF b m (i + 1 - 1) ∧ 1 ≤ 2 * p ∧ 2 * p ≤ 2 * m) := by
          obtain ⟨h1, h2, h3⟩ := HP.out
          have e : i + 1 - 1 = (i - 1) + 1 := by have := HK.out; omega
          refine ⟨?_, by omega, by omega⟩
          rw [e]
          show min (2 * p) m = min (2 * waitF b m (i - 1)) m
          rw [← h1]
          omega
        have HC := Aside0.mk ci
        clear ci cp
        cases gk with
        | zero => exact absurd HK.out (by have := HC.out; omega)
        | succ k1 =>
        go_wp2_with fail
        go_roundg k1
        case measure => have := HK.out; omega
        case rel => exact ⟨i + 1, 2 * p, congrArg (Value.int .i64) (by first | rfl | (rw [hw2]) | omega), congrArg (Value.int .i64) (by first | rfl | (rw [hwi]) | omega), ⟨by have := HK.out; have := HC.out; omega⟩, HN, rfl⟩
      · have cq : decide (p < m) = false := by simpa using cp
        have HN : waitF b m (f - 1) = m := by
          have hb := HB.out
          have e : waitF b m (i - 1) = m := by have := HP.out; omega
          have := waitF_top (c := i - 1) hb.2.1 hb.2.2.1 e (f - i)
          rwa [show i - 1 + (f - i) = f - 1 by have := HK.out; omega] at this
        by_cases cr : m < p
        · have cs : decide (m < p) = true := by simpa using cr
          have HN := Aside0.mk HN
          clear ci cp cr
          go_wp2_with fail
          go_ret
          exact ⟨ret_i64 HN.out, rfl⟩
        · have cs : decide (m < p) = false := by simpa using cr
          obtain rfl : p = m := by omega
          have HN := Aside0.mk HN
          clear ci cp cr
          go_wp2_with fail
          go_ret
          exact ⟨ret_i64 HN.out, rfl⟩
    · have cb : decide ((i : Int) < (f : Int)) = false := by simp; omega
      have cb2 : decide (i < f) = false := by simpa using ci
      obtain rfl : i = f := by have := HK.out; omega
      by_cases cr : m < p
      · have cs : decide (m < p) = true := by simpa using cr
        have HN : waitF b m (i - 1) = m := by have := HP.out; omega
        have HN := Aside0.mk HN
        clear ci cr
        go_wp2_with fail
        go_ret
        exact ⟨ret_i64 HN.out, rfl⟩
      · have cs : decide (m < p) = false := by simpa using cr
        have HN : waitF b m (i - 1) = p := by have := HP.out; omega
        have HN := Aside0.mk HN
        clear ci cr
        go_wp2_with fail
        go_ret
        exact ⟨ret_i64 HN.out, rfl⟩

set_option maxHeartbeats 4000000 in
set_option maxRecDepth 100000 in
theorem rleft_calls (B k : Nat) (A : Option Addr) (cap : Nat) (t b m : Int) (L : List It) (x : It) (w : World) (h : IsV w B k A cap t b m L) (hL : L.length ≤ 4611686018427387904) (ht : 1 ≤ t ∧ t ≤ 64) (hc : (cnt x L : Int) ≤ t) :
    Calls Try.prog 32 #[.pointer (some ⟨k, 0, none⟩), .agg #[.int .i64 x.1, .int .i64 x.2]] w fun e w' => e = .returned (.int .i64 (t - (cnt x L : Nat))) ∧ Below w.heap.size w w' := by
  have H0 := Aside0.mk (TV.start x h)
  have HL := Aside0.mk hL
  have hw : IntKind.i64.wrap (t - (cnt x L : Int)) = t - (cnt x L : Int) := (i64_w _).trans (Go.IntWalk.wrap64_in _ (by omega))
  clear h hL
  go_enter Try.func32, Try.ntmps32
  go_wp2_with fail
  generalize w.heap.size = c at *
  generalize w.alloc (.cells #[.int .i64 x.1, .int .i64 x.2] 35) = w0 at *
  refine wp_region_plan (quiets [0, 1, 2, 3, 4, 5] ++ ((true, 6) :: (quiets [7, 8] ++ []))) (fun W => TV w W B k c A cap t b m L x) (by kernel_rfl) (by kernel_rfl) H0.out.drew ?_
  apply mix_quiets [0, 1, 2, 3, 4, 5] _ (by kernel_rfl) H0.out.drew
  case h =>
    intro W hW
    have e0 := blk_cell hW.v.blk 0
    have e3 := blk_cell hW.bx 0
    have e4 := blk_cell hW.bx 1
    clear hW
    refine still_of_quiet _ _ ?_
    simp only [segOps, List.getElem?_toArray, List.getElem?_cons_zero, List.getElem?_cons_succ, Option.toList_some, List.nil_append, List.cons_append, List.append_nil]
    repeat (go_big_quiet_step (fail))
    exact wpQuiet_nil rfl
  refine mix_writes 6 _ rfl _ ?_
  change wpList _ _ _ _ _ w0.drew
  have H1 := Aside0.mk H0.out.drew
  clear H0
  generalize w0.drew = w1 at *
  go_wp2_with (go_at_call 42; refine (times_calls B k A cap t b m L x _ H1.out.v HL.out).mono ?_; rintro e w2 ⟨rfl, hb⟩; have H2 := Aside0.mk (H1.out.grow hb); clear hb H1)
  refine ⟨H2.out, ?_⟩
  apply mix_quiets [7, 8] _ (by kernel_rfl) H2.out
  case h =>
    intro W hW
    clear hW
    refine still_of_quiet _ _ ?_
    simp only [segOps, List.getElem?_toArray, List.getElem?_cons_zero, List.getElem?_cons_succ, Option.toList_some, List.nil_append, List.cons_append, List.append_nil]
    repeat (go_big_quiet_step (fail))
    exact wpQuiet_nil rfl
  refine mix_done ?_
  go_wp2_with fail
  go_ret
  exact ⟨rfl, H2.out.below⟩

end Go.Proofs.Ythajekcjgkidhaa.Q
