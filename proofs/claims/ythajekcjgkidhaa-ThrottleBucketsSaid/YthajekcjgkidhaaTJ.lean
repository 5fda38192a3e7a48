/- The walk of granarylaw10.ThrottleBuckets: it answers true at every input. No condition but that the script is read. -/
import Derived.Test.YthajekcjgkidhaaProg
import Derived.Below
import Derived.Deep.Draws
import Derived.Deep.AppendLies
import Derived.Maps.AppendAt
import Derived.OwnWalk
import Derived.Laws.BytesArg
import Derived.Laws.MakeOwn
import Derived.Laws.OwnMore
import Derived.Deep.OwnRows
import Derived.Tactics
import Derived.Lib.ConvBytes
import Derived.Laws.Slices
import Derived.WalkKit
import Derived.KernelRfl
import Derived.RowKit3
import Derived.Deep.LoopGhost
import Derived.Deep.QuietTactic
import Derived.BigQuiet
import Derived.WideLaws
import Derived.Deep.DeepCutAuto
import Derived.Deep.CutBlock
import Derived.Deep.RegionHeld3
import Derived.Laws.Rows
import Derived.Lib.AppendStr
import Derived.ArgAppend
import Derived.Laws.IdiomCopy
import Derived.OrdersHeld
import Derived.Laws.BitsLemmas
import Derived.RowKit
import Derived.Test.YthajekcjgkidhaaWWords
import Derived.Test.YthajekcjgkidhaaWLast
import Derived.Test.YthajekcjgkidhaaWTab
import Derived.Test.YthajekcjgkidhaaWFour
import Derived.Test.YthajekcjgkidhaaWQPut
import Derived.Test.YthajekcjgkidhaaWApart
import Derived.Test.YthajekcjgkidhaaWArr
import Derived.Test.YthajekcjgkidhaaWZeros
import Derived.Test.YthajekcjgkidhaaWFoot
import Derived.Test.YthajekcjgkidhaaWKept
import Derived.Test.YthajekcjgkidhaaWShare
import Derived.Test.YthajekcjgkidhaaWN
import Derived.Test.YthajekcjgkidhaaWFootNe
import Derived.Test.YthajekcjgkidhaaWAt
import Derived.Test.YthajekcjgkidhaaWEqStruct
import Derived.Test.YthajekcjgkidhaaWRepsOne
import Derived.Test.YthajekcjgkidhaaWInv
import Derived.Test.YthajekcjgkidhaaWInvWords
import Derived.Test.YthajekcjgkidhaaWGuard
import Derived.Test.YthajekcjgkidhaaWNEv
import Derived.Test.YthajekcjgkidhaaWMore
import Derived.Test.YthajekcjgkidhaaLocks
import Derived.Conc.MuLone
import Derived.Test.YthajekcjgkidhaaTI
set_option linter.unusedVariables false
set_option linter.unusedSimpArgs false
namespace Go.Proofs.Ythajekcjgkidhaa.Q
open Go.RowKit Go.Proofs.YthajekcjgkidhaaW.PrintWords Go.Proofs.YthajekcjgkidhaaW.PrintLast Go.Proofs.YthajekcjgkidhaaW.PrintMore
open Go.MuLone Go.Pivot

theorem bench_start (w : World) (o1 o2 : Obj) : IP w (((w.alloc o1).alloc o2).alloc (.cells #[.pointer none, .pointer none, .pointer none, .pointer none] 68)) (w.heap.size + 1 + 1) none none := by
  have b1 := (((Below.refl w.heap.size w).alloc (Nat.le_refl _) o1).alloc (by simp) o2).alloc (by simp; omega) (.cells #[.pointer none, .pointer none, .pointer none, .pointer none] 68)
  have b2 := blk_new ((w.alloc o1).alloc o2) (.cells #[.pointer none, .pointer none, .pointer none, .pointer none] 68)
  exact ⟨b1, by simpa [Pl.own, Pl.ref] using b2, by omega, Pl.At.nothing, Pl.At.nothing, Pl.apart.nothing⟩

set_option maxHeartbeats 8000000 in
set_option maxRecDepth 100000 in
theorem buckets_calls (A0 B0 C0 A1 B1 C1 : Int) (A : Option Addr) (c1 : Nat) (l : List Op5) (w : World) (hr : ROps w A l) (hc : l.length ≤ c1) :
    Calls Try.prog 7 #[.agg #[.int .i64 A0, .int .i64 B0, .int .i64 C0], .agg #[.int .i64 A1, .int .i64 B1, .int .i64 C1], .slice A l.length c1] w fun e w' => e = .returned (.bool true) ∧ Below w.heap.size w w' := by
  have H := Aside0.mk (bench_start w (.cells #[.int .i64 A0, .int .i64 B0, .int .i64 C0] 23) (.cells #[.int .i64 A1, .int .i64 B1, .int .i64 C1] 23))
  have hlen := hr.2.1
  have HR := Aside0.mk hr
  have HC := Aside0.mk hc
  have HL := Aside0.mk hlen
  clear hr hc hlen
  go_enter Try.func7, Try.ntmps7
  go_wp2_with (first
    | (go_at_call 26; refine (made_calls _ A0 B0 C0 A1 B1 C1 w _ H.out).mono ?_; rintro e w2 ⟨rfl, p, q, hip⟩; have HI := Aside0.mk hip; clear hip))
  generalize hm : w.heap.size + 1 + 1 = m at *
  clear hm H
  go_loopg [9] l.length (fun kq v9 w' => ∃ (i : Nat) (p q : Pl), v9 = .int .i64 (i : Int) ∧ Aside0 (i + kq = l.length) ∧ Aside0 (IP w w' m p q))
  case atStart => exact ⟨0, p, q, rfl, ⟨by omega⟩, HI⟩
  case round =>
    clear HI p q
    obtain ⟨i, p, q, rfl, HK, HJ⟩ := hrel
    by_cases c : (i : Int) < (l.length : Int)
    · cases gk with
      | zero => exact absurd HK.out (by omega)
      | succ k1 =>
      obtain ⟨ad, rfl, hx0, hx1, hx2, hx3, hx4⟩ := HR.out.at_ HJ.out.below i (by omega)
      have cb : decide ((i : Int) < (l.length : Int)) = true := by simpa using c
      have p1 : (0 ≤ (i : Int)) = True := eq_true (by omega)
      have p2 : ((i : Int) < (l.length : Int)) = True := eq_true c
      have hwi : wrap64 ((i : Int) + 1) = ((i + 1 : Nat) : Int) := Go.IntWalk.wrap64_in _ (by have := HL.out; omega)
      generalize l.getD i ⟨0, 0, 0, 0, 0⟩ = o at *
      clear c
      go_wp2_with (first
        | (go_at_call 27; refine (plays_calls m p q o w _ HJ.out).mono ?_; rintro e w3 ⟨rfl, p', q', hip⟩; have HI := Aside0.mk hip; clear hip))
      go_roundg k1
      case measure => have := HK.out; omega
      case rel => exact ⟨i + 1, p', q', by rw [hwi], ⟨by have := HK.out; omega⟩, HI⟩
    · have cb : decide ((i : Int) < (l.length : Int)) = false := by simpa using c
      have cb2 : decide (i < l.length) = false := by simp; omega
      have cb3 : ((i : Int) < (l.length : Int)) = False := eq_false c
      go_wp2_with (first
        | (go_at_call 27; (with_reducible refine (plays_calls m p q ⟨4, 0, 0, 0, 0⟩ w _ HJ.out).mono ?_); rintro e w3 ⟨rfl, p', q', hip⟩; have HI := Aside0.mk hip; clear hip)
        | (go_at_call 27; (with_reducible refine (plays_calls m p' q' ⟨3, 0, 1, 0, 0⟩ w _ HI.out).mono ?_); rintro e w4 ⟨rfl, p2, q2, hip⟩; have HI2 := Aside0.mk hip; clear hip))
      go_ret
      exact ⟨rfl, HI2.out.below⟩

end Go.Proofs.Ythajekcjgkidhaa.Q
