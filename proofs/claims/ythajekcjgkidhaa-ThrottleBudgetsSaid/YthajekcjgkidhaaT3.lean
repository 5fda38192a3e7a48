/- Contracts of (*throttle.Bucket).Wait and throttle.NewBucket: what they answer; a new bucket is full. Condition (Wait): as for Take. -/
import Derived.Test.YthajekcjgkidhaaProg
import Derived.Below
import Derived.Deep.Draws
import Derived.Deep.AppendLies
import Derived.Maps.AppendAt
import Derived.OwnWalk
import Derived.Laws.BytesArg
import Derived.Laws.MakeOwn
import Derived.Laws.OwnMore
import Derived.Deep.OwnRows
import Derived.Tactics
import Derived.Lib.ConvBytes
import Derived.Laws.Slices
import Derived.WalkKit
import Derived.KernelRfl
import Derived.RowKit3
import Derived.Deep.LoopGhost
import Derived.Deep.QuietTactic
import Derived.BigQuiet
import Derived.WideLaws
import Derived.Deep.DeepCutAuto
import Derived.Deep.CutBlock
import Derived.Deep.RegionHeld3
import Derived.Laws.Rows
import Derived.Lib.AppendStr
import Derived.ArgAppend
import Derived.Laws.IdiomCopy
import Derived.OrdersHeld
import Derived.Laws.BitsLemmas
import Derived.RowKit
import Derived.Test.YthajekcjgkidhaaWWords
import Derived.Test.YthajekcjgkidhaaWLast
import Derived.Test.YthajekcjgkidhaaWTab
import Derived.Test.YthajekcjgkidhaaWFour
import Derived.Test.YthajekcjgkidhaaWQPut
import Derived.Test.YthajekcjgkidhaaWApart
import Derived.Test.YthajekcjgkidhaaWArr
import Derived.Test.YthajekcjgkidhaaWZeros
import Derived.Test.YthajekcjgkidhaaWFoot
import Derived.Test.YthajekcjgkidhaaWKept
import Derived.Test.YthajekcjgkidhaaWShare
import Derived.Test.YthajekcjgkidhaaWN
import Derived.Test.YthajekcjgkidhaaWFootNe
import Derived.Test.YthajekcjgkidhaaWAt
import Derived.Test.YthajekcjgkidhaaWEqStruct
import Derived.Test.YthajekcjgkidhaaWRepsOne
import Derived.Test.YthajekcjgkidhaaWInv
import Derived.Test.YthajekcjgkidhaaWInvWords
import Derived.Test.YthajekcjgkidhaaWGuard
import Derived.Test.YthajekcjgkidhaaWNEv
import Derived.Test.YthajekcjgkidhaaWMore
import Derived.Test.YthajekcjgkidhaaLocks
import Derived.Conc.MuLone
import Derived.Test.YthajekcjgkidhaaT0
set_option linter.unusedVariables false
set_option linter.unusedSimpArgs false
namespace Go.Proofs.Ythajekcjgkidhaa.Q
open Go.RowKit Go.Proofs.YthajekcjgkidhaaW.PrintWords Go.Proofs.YthajekcjgkidhaaW.PrintLast Go.Proofs.YthajekcjgkidhaaW.PrintMore
open Go.MuLone

/-- What Wait answers. -/
def Bkt.wait (b : Bkt) (n : Int) : Int × Int :=
  if b.chk n ≠ 0 then (0, b.chk n) else if n ≤ b.tk then (0, 0)
  else if 0 < ((n - b.tk) * b.pe - b.re) % b.ra then (((n - b.tk) * b.pe - b.re) / b.ra + 1, 0) else (((n - b.tk) * b.pe - b.re) / b.ra, 0)

theorem Bkt.chk_zero {b : Bkt} {n : Int} (k0 : b.chk n = 0) : 0 ≤ n ∧ n ≤ b.bu := by
  unfold Bkt.chk at k0
  by_cases c1 : n < 0
  · rw [if_pos c1] at k0; exact absurd k0 (by decide)
  rw [if_neg c1] at k0
  by_cases c2 : b.bu < n
  · rw [if_pos c2] at k0; exact absurd k0 (by decide)
  omega

set_option maxHeartbeats 4000000 in
set_option maxRecDepth 100000 in
theorem wait_calls (g : Nat) (b : Bkt) (hb : b.Good) (n : Int) (w : World) (hI : IsB w g b) :
    Calls Try.prog 23 #[.pointer (some ⟨g, 0, none⟩), .int .i64 n] w fun e w' => e = .returned (.tuple #[.int .i64 (b.wait n).1, .int .i64 (b.wait n).2]) ∧ IsB w' g b ∧ Held w w' g := by
  have c0 : w.cell? ⟨g, 0, none⟩ = some (.int .i32 0) := blk_cell hI 0
  have c2 : w.cell? ⟨g, 2, none⟩ = some (.int .i64 b.ra) := blk_cell hI 2
  have c3 : w.cell? ⟨g, 3, none⟩ = some (.int .i64 b.pe) := blk_cell hI 3
  have c5 : w.cell? ⟨g, 5, none⟩ = some (.int .i64 b.tk) := blk_cell hI 5
  have c6 : w.cell? ⟨g, 6, none⟩ = some (.int .i64 b.re) := blk_cell hI 6
  have f0 : w.frozen? ⟨g, 0, none⟩ = false := blk_frozen hI 0
  unfold Bkt.wait
  by_cases k0 : b.chk n = 0
  · rw [if_neg (show ¬ b.chk n ≠ 0 by simp [k0])]
    have hn := Bkt.chk_zero k0
    by_cases k1 : n ≤ b.tk
    · rw [if_pos k1]
      have k1b : decide (n ≤ b.tk) = true := by simpa using k1
      clear k1 hn
      go_enter_defers Try.func23, Try.ntmps23
      go_wp2_with (first
        | (go_at_call 36; refine (check_calls g b n _ hI).mono ?_; rintro e w' ⟨rfl, rfl⟩; rw [k0])
        | (go_at_call 34; refine (lock_free muLib ⟨g, 0, none⟩ _ c0 f0).mono ?_; rintro e w' ⟨rfl, rfl⟩))
      refine leaves_cons (f := 35) (args := #[.pointer (some ⟨g, 0, none⟩)]) (by simp) (by simp [go_sem]) ?_
      refine (unlock_deferred muLib ⟨g, 0, none⟩ .returning _ ?_ ?_).mono ?_
      · exact World.cell?_setCell_same w' ⟨g, 0, none⟩ (.int .i32 1) c0
      · simp [f0]
      rintro e u' w'' ⟨rfl, rfl, rfl⟩
      exact ⟨_, results_tmp2 rfl _ _ _, rfl, ((IsC.set hI 0 _).set 0 _), ((Held.refl w' g).set 0 _).set 0 _⟩
    rw [if_neg k1]
    have k1b : decide (n ≤ b.tk) = false := by simpa using k1
    have hra1 := hb.ra1
    have hra2 := hb.ra2
    have hpe1 := hb.pe1
    have hpe2 := hb.pe2
    have hre1 := hb.re1
    have hre2 := hb.re2
    have htk1 := hb.tk1
    have hbu2 := hb.bu2
    obtain ⟨d, hd⟩ : ∃ d, n - b.tk = d := ⟨_, rfl⟩
    have kd : IntKind.i64.wrap (n - b.tk) = d := by rw [hd]; exact (i64_w _).trans (Go.IntWalk.wrap64_in _ (by omega))
    have m1 : 1 * b.pe ≤ d * b.pe := Int.mul_le_mul (by omega) (Int.le_refl _) (by omega) (by omega)
    have m2 : d * b.pe ≤ 65536 * 1024 := Int.mul_le_mul (by omega) hpe2 (by omega) (by omega)
    rw [hd]
    obtain ⟨m, hm⟩ : ∃ m, d * b.pe = m := ⟨_, rfl⟩
    rw [hm] at m1 m2 ⊢
    have km : IntKind.i64.wrap (d * b.pe) = m := by rw [hm]; exact (i64_w _).trans (Go.IntWalk.wrap64_in _ (by omega))
    obtain ⟨l, hl⟩ : ∃ l, m - b.re = l := ⟨_, rfl⟩
    have kl : IntKind.i64.wrap (m - b.re) = l := by rw [hl]; exact (i64_w _).trans (Go.IntWalk.wrap64_in _ (by omega))
    rw [hl]
    have l0 : 0 ≤ l := by omega
    have kq : IntKind.i64.wrap (l.tdiv b.ra) = l / b.ra := Go.IntWalk.i64_quo _ _ ⟨l0, by omega, by omega⟩
    have ks : l.tmod b.ra = l % b.ra := Int.tmod_eq_emod_of_nonneg l0
    have q0 : 0 ≤ l / b.ra := Int.ediv_nonneg l0 (by omega)
    have q1 : l / b.ra ≤ l := Int.ediv_le_self _ l0
    obtain ⟨q, hq⟩ : ∃ q, l / b.ra = q := ⟨_, rfl⟩
    obtain ⟨s, hs⟩ : ∃ s, l % b.ra = s := ⟨_, rfl⟩
    rw [hq] at kq q0 q1 ⊢
    rw [hs] at ks ⊢
    have kt : IntKind.i64.wrap (q + 1) = q + 1 := (i64_w _).trans (Go.IntWalk.wrap64_in _ (by omega))
    have kp : ¬ b.ra = 0 := by omega
    have HI := Aside0.mk hI
    by_cases k3 : 0 < s
    · rw [if_pos k3]
      have k3b : decide (0 < s) = true := by simpa using k3
      clear k1 hra1 hra2 hpe1 hpe2 hre1 hre2 htk1 hbu2 hd m1 m2 hm hl l0 q0 q1 hq hs hn hb k3
      go_enter_defers Try.func23, Try.ntmps23
      go_wp2_with (first
        | (go_at_call 36; refine (check_calls g b n _ hI).mono ?_; rintro e w' ⟨rfl, rfl⟩; rw [k0])
        | (go_at_call 34; refine (lock_free muLib ⟨g, 0, none⟩ _ c0 f0).mono ?_; rintro e w' ⟨rfl, rfl⟩))
      go_quiet (fail)
      go_wp2_with fail
      refine leaves_cons (f := 35) (args := #[.pointer (some ⟨g, 0, none⟩)]) (by simp) (by simp [go_sem]) ?_
      refine (unlock_deferred muLib ⟨g, 0, none⟩ .returning _ ?_ ?_).mono ?_
      · exact (IsC.cell ((IsC.set HI.out 0 _).drewN _) 0).trans rfl
      · simp [f0]
      rintro e u' w'' ⟨rfl, rfl, rfl⟩
      exact ⟨_, results_tmp2 rfl _ _ _, rfl, (((IsC.set HI.out 0 _).drewN _).set 0 _), (((Held.refl _ g).set 0 _).drewN _).set 0 _⟩
    · rw [if_neg k3]
      have k3b : decide (0 < s) = false := by simpa using k3
      clear k1 hra1 hra2 hpe1 hpe2 hre1 hre2 htk1 hbu2 hd m1 m2 hm hl l0 q0 q1 hq hs hn hb k3
      go_enter_defers Try.func23, Try.ntmps23
      go_wp2_with (first
        | (go_at_call 36; refine (check_calls g b n _ hI).mono ?_; rintro e w' ⟨rfl, rfl⟩; rw [k0])
        | (go_at_call 34; refine (lock_free muLib ⟨g, 0, none⟩ _ c0 f0).mono ?_; rintro e w' ⟨rfl, rfl⟩))
      go_quiet (fail)
      go_wp2_with fail
      refine leaves_cons (f := 35) (args := #[.pointer (some ⟨g, 0, none⟩)]) (by simp) (by simp [go_sem]) ?_
      refine (unlock_deferred muLib ⟨g, 0, none⟩ .returning _ ?_ ?_).mono ?_
      · exact (IsC.cell ((IsC.set HI.out 0 _).drewN _) 0).trans rfl
      · simp [f0]
      rintro e u' w'' ⟨rfl, rfl, rfl⟩
      exact ⟨_, results_tmp2 rfl _ _ _, rfl, (((IsC.set HI.out 0 _).drewN _).set 0 _), (((Held.refl _ g).set 0 _).drewN _).set 0 _⟩
  · rw [if_pos (show b.chk n ≠ 0 from k0)]
    have k0b : (b.chk n != 0) = true := by simpa using k0
    clear k0
    go_enter_defers Try.func23, Try.ntmps23
    go_wp2_with (first
      | (go_at_call 36; refine (check_calls g b n _ hI).mono ?_; rintro e w' ⟨rfl, rfl⟩))
    exact ⟨_, results_tmp2 rfl _ _ _, rfl, hI, Held.refl _ _⟩

def okShape (ra pe bu : Int) : Prop := 1 ≤ ra ∧ ra ≤ 65536 ∧ 1 ≤ pe ∧ pe ≤ 1024 ∧ 1 ≤ bu ∧ bu ≤ 65536

set_option maxHeartbeats 2000000 in
theorem new_calls (ra pe bu : Int) (w : World) (h : okShape ra pe bu) :
    Calls Try.prog 25 #[.int .i64 ra, .int .i64 pe, .int .i64 bu] w fun e w' => e = .returned (.tuple #[.pointer (some ⟨w.heap.size, 0, none⟩), .int .i64 0]) ∧ IsB w' w.heap.size ⟨ra, pe, bu, bu, 0⟩ ∧ w' = w.alloc (.cells (Bkt.cells ⟨ra, pe, bu, bu, 0⟩ 0) 92) := by
  obtain ⟨h1, h2, h3, h4, h5, h6⟩ := h
  have b1 : decide (ra < 1) = false := by simp; omega
  have b2 : decide (65536 < ra) = false := by simp; omega
  have b3 : decide (pe < 1) = false := by simp; omega
  have b4 : decide (1024 < pe) = false := by simp; omega
  have b5 : decide (bu < 1) = false := by simp; omega
  have b6 : decide (65536 < bu) = false := by simp; omega
  clear h1 h2 h3 h4 h5 h6
  go_enter Try.func25, Try.ntmps25
  go_wp2
  go_ret2
  exact ⟨rfl, blk_new _ _, rfl⟩

set_option maxHeartbeats 2000000 in
theorem new_refuses (ra pe bu : Int) (w : World) (h : ¬ okShape ra pe bu) :
    Calls Try.prog 25 #[.int .i64 ra, .int .i64 pe, .int .i64 bu] w fun e w' => e = .returned (.tuple #[.pointer none, .int .i64 1]) ∧ w' = w := by
  have hdec : ra < 1 ∨ 65536 < ra ∨ pe < 1 ∨ 1024 < pe ∨ bu < 1 ∨ 65536 < bu := by unfold okShape at h; omega
  by_cases h1 : ra < 1
  · have b1 : decide (ra < 1) = true := by simp; omega
    clear h hdec h1
    go_enter Try.func25, Try.ntmps25
    go_wp2
    go_ret2
    exact ⟨rfl, rfl⟩
  have b1 : decide (ra < 1) = false := by simp; omega
  by_cases h2 : 65536 < ra
  · have b2 : decide (65536 < ra) = true := by simp; omega
    clear h hdec h1 h2
    go_enter Try.func25, Try.ntmps25
    go_wp2
    go_ret2
    exact ⟨rfl, rfl⟩
  have b2 : decide (65536 < ra) = false := by simp; omega
  by_cases h3 : pe < 1
  · have b3 : decide (pe < 1) = true := by simp; omega
    clear h hdec h1 h2 h3
    go_enter Try.func25, Try.ntmps25
    go_wp2
    go_ret2
    exact ⟨rfl, rfl⟩
  have b3 : decide (pe < 1) = false := by simp; omega
  by_cases h4 : 1024 < pe
  · have b4 : decide (1024 < pe) = true := by simp; omega
    clear h hdec h1 h2 h3 h4
    go_enter Try.func25, Try.ntmps25
    go_wp2
    go_ret2
    exact ⟨rfl, rfl⟩
  have b4 : decide (1024 < pe) = false := by simp; omega
  by_cases h5 : bu < 1
  · have b5 : decide (bu < 1) = true := by simp; omega
    clear h hdec h1 h2 h3 h4 h5
    go_enter Try.func25, Try.ntmps25
    go_wp2
    go_ret2
    exact ⟨rfl, rfl⟩
  have b5 : decide (bu < 1) = false := by simp; omega
  have b6 : decide (65536 < bu) = true := by simp; omega
  clear h hdec h1 h2 h3 h4 h5
  go_enter Try.func25, Try.ntmps25
  go_wp2
  go_ret2
  exact ⟨rfl, rfl⟩

end Go.Proofs.Ythajekcjgkidhaa.Q
