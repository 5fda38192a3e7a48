/- Contract of (*throttle.Bucket).Tick: what it answers and how the bucket stands behind it; nothing else changes. Condition: block g is a bucket whose lock is free, its numbers within what NewBucket makes. -/
import Derived.Test.YthajekcjgkidhaaProg
import Derived.Below
import Derived.Deep.Draws
import Derived.Deep.AppendLies
import Derived.Maps.AppendAt
import Derived.OwnWalk
import Derived.Laws.BytesArg
import Derived.Laws.MakeOwn
import Derived.Laws.OwnMore
import Derived.Deep.OwnRows
import Derived.Tactics
import Derived.Lib.ConvBytes
import Derived.Laws.Slices
import Derived.WalkKit
import Derived.KernelRfl
import Derived.RowKit3
import Derived.Deep.LoopGhost
import Derived.Deep.QuietTactic
import Derived.BigQuiet
import Derived.WideLaws
import Derived.Deep.DeepCutAuto
import Derived.Deep.CutBlock
import Derived.Deep.RegionHeld3
import Derived.Laws.Rows
import Derived.Lib.AppendStr
import Derived.ArgAppend
import Derived.Laws.IdiomCopy
import Derived.OrdersHeld
import Derived.Laws.BitsLemmas
import Derived.RowKit
import Derived.Test.YthajekcjgkidhaaWWords
import Derived.Test.YthajekcjgkidhaaWLast
import Derived.Test.YthajekcjgkidhaaWTab
import Derived.Test.YthajekcjgkidhaaWFour
import Derived.Test.YthajekcjgkidhaaWQPut
import Derived.Test.YthajekcjgkidhaaWApart
import Derived.Test.YthajekcjgkidhaaWArr
import Derived.Test.YthajekcjgkidhaaWZeros
import Derived.Test.YthajekcjgkidhaaWFoot
import Derived.Test.YthajekcjgkidhaaWKept
import Derived.Test.YthajekcjgkidhaaWShare
import Derived.Test.YthajekcjgkidhaaWN
import Derived.Test.YthajekcjgkidhaaWFootNe
import Derived.Test.YthajekcjgkidhaaWAt
import Derived.Test.YthajekcjgkidhaaWEqStruct
import Derived.Test.YthajekcjgkidhaaWRepsOne
import Derived.Test.YthajekcjgkidhaaWInv
import Derived.Test.YthajekcjgkidhaaWInvWords
import Derived.Test.YthajekcjgkidhaaWGuard
import Derived.Test.YthajekcjgkidhaaWNEv
import Derived.Test.YthajekcjgkidhaaWMore
import Derived.Test.YthajekcjgkidhaaLocks
import Derived.Conc.MuLone
import Derived.Test.YthajekcjgkidhaaT1
set_option linter.unusedVariables false
set_option linter.unusedSimpArgs false
namespace Go.Proofs.Ythajekcjgkidhaa.Q
open Go.RowKit Go.Proofs.YthajekcjgkidhaaW.PrintWords Go.Proofs.YthajekcjgkidhaaW.PrintLast Go.Proofs.YthajekcjgkidhaaW.PrintMore
open Go.MuLone

set_option maxHeartbeats 4000000 in
set_option maxRecDepth 100000 in
theorem tick_calls (g : Nat) (b : Bkt) (hb : b.Good) (n : Int) (w : World) (hI : IsB w g b) :
    Calls Try.prog 22 #[.pointer (some ⟨g, 0, none⟩), .int .i64 n] w fun e w' => e = .returned (.int .i64 (b.tick n).2) ∧ IsB w' g (b.tick n).1 ∧ Held w w' g := by
  have c0 : w.cell? ⟨g, 0, none⟩ = some (.int .i32 0) := blk_cell hI 0
  have c2 : w.cell? ⟨g, 2, none⟩ = some (.int .i64 b.ra) := blk_cell hI 2
  have c3 : w.cell? ⟨g, 3, none⟩ = some (.int .i64 b.pe) := blk_cell hI 3
  have c4 : w.cell? ⟨g, 4, none⟩ = some (.int .i64 b.bu) := blk_cell hI 4
  have c5 : w.cell? ⟨g, 5, none⟩ = some (.int .i64 b.tk) := blk_cell hI 5
  have c6 : w.cell? ⟨g, 6, none⟩ = some (.int .i64 b.re) := blk_cell hI 6
  have f0 : w.frozen? ⟨g, 0, none⟩ = false := blk_frozen hI 0
  have f5 : w.frozen? ⟨g, 5, none⟩ = false := blk_frozen hI 5
  have f6 : w.frozen? ⟨g, 6, none⟩ = false := blk_frozen hI 6
  unfold Bkt.tick
  by_cases k0 : n < 0 ∨ 1099511627776 < n
  · rw [if_pos k0]
    by_cases k1 : n < 0
    · have k1b : decide (n < 0) = true := by simpa using k1
      clear k0 k1
      go_enter_defers Try.func22, Try.ntmps22
      go_wp2
      exact ⟨_, results_tmp rfl _ _ _, rfl, hI, Held.refl _ _⟩
    · have k1b : decide (n < 0) = false := by simpa using k1
      have k2b : decide (1099511627776 < n) = true := by simp; omega
      clear k0 k1
      go_enter_defers Try.func22, Try.ntmps22
      go_wp2
      exact ⟨_, results_tmp rfl _ _ _, rfl, hI, Held.refl _ _⟩
  rw [if_neg k0]
  have k1b : decide (n < 0) = false := by simp; omega
  have k2b : decide (1099511627776 < n) = false := by simp; omega
  have h1 : 0 ≤ n * b.ra := Int.mul_nonneg (by omega) (by have := hb.ra1; omega)
  have h2 : n * b.ra ≤ 1099511627776 * 65536 := Int.mul_le_mul (by omega) hb.ra2 (by have := hb.ra1; omega) (by omega)
  obtain ⟨m, hm⟩ : ∃ m, n * b.ra = m := ⟨_, rfl⟩
  rw [hm] at h1 h2 ⊢
  have km : IntKind.i64.wrap (n * b.ra) = m := by rw [hm]; exact (i64_w _).trans (Go.IntWalk.wrap64_in _ (by omega))
  have hre1 := hb.re1
  have hre2 := hb.re2
  have hpe1 := hb.pe1
  have hpe2 := hb.pe2
  obtain ⟨r, hr⟩ : ∃ r, b.re + m = r := ⟨_, rfl⟩
  rw [hr]
  have kr : IntKind.i64.wrap (b.re + m) = r := by rw [hr]; exact (i64_w _).trans (Go.IntWalk.wrap64_in _ (by omega))
  have r0 : 0 ≤ r := by omega
  have q0 : 0 ≤ r / b.pe := Int.ediv_nonneg r0 (by omega)
  have q1 : r / b.pe ≤ r := Int.ediv_le_self _ r0
  have kp : ¬ b.pe = 0 := by omega
  have htk1 := hb.tk1
  have htk2 := hb.tk2
  have hbu2 := hb.bu2
  have kq : IntKind.i64.wrap (r.tdiv b.pe) = r / b.pe := Go.IntWalk.i64_quo _ _ ⟨r0, by omega, by omega⟩
  have ks : r.tmod b.pe = r % b.pe := Int.tmod_eq_emod_of_nonneg r0
  obtain ⟨q, hq⟩ : ∃ q, r / b.pe = q := ⟨_, rfl⟩
  obtain ⟨s, hs⟩ : ∃ s, r % b.pe = s := ⟨_, rfl⟩
  rw [hq] at kq q0 q1 ⊢
  rw [hs] at ks ⊢
  have kt0 : IntKind.i64.wrap (b.tk + q) = b.tk + q := (i64_w _).trans (Go.IntWalk.wrap64_in _ (by omega))
  obtain ⟨t, ht⟩ : ∃ t, b.tk + q = t := ⟨_, rfl⟩
  have kt : IntKind.i64.wrap (b.tk + q) = t := kt0.trans ht
  rw [ht]
  generalize hR : (if b.bu ≤ t then (({ b with tk := b.bu, re := 0 } : Bkt), (0 : Int)) else ({ b with tk := t, re := s }, 0)) = R
  have HI := Aside0.mk hI
  clear k0 h1 h2 hm hre1 hre2 hpe1 hpe2 hr r0 q0 q1 htk1 htk2 hbu2 hq hs ht hb hI kt0
  go_enter_defers Try.func22, Try.ntmps22
  go_wp2_with (first
      | (go_at_call 34; refine (lock_free muLib ⟨g, 0, none⟩ _ c0 f0).mono ?_; rintro e w' ⟨rfl, rfl⟩))
  go_region
  have HI1 : IsC (((w.setCell ⟨g, 0, none⟩ (.int .i32 1)).setCell ⟨g, 6, none⟩ (.int .i64 r)).drew) g #[.int .i32 1, .int .u32 0, .int .i64 b.ra, .int .i64 b.pe, .int .i64 b.bu, .int .i64 b.tk, .int .i64 r] := ((HI.out.set 0 _).set 6 _).drew
  have HH1 : Held w (((w.setCell ⟨g, 0, none⟩ (.int .i32 1)).setCell ⟨g, 6, none⟩ (.int .i64 r)).drew) g := (((Held.refl w g).set 0 _).set 6 _).drew
  generalize (((w.setCell ⟨g, 0, none⟩ (.int .i32 1)).setCell ⟨g, 6, none⟩ (.int .i64 r)).drew) = w1 at *
  clear c0 c2 c3 c4 c5 c6 f0 f5 f6
  have c3 : w1.cell? ⟨g, 3, none⟩ = some (.int .i64 b.pe) := HI1.cell 3
  have c5 : w1.cell? ⟨g, 5, none⟩ = some (.int .i64 b.tk) := HI1.cell 5
  have c6 : w1.cell? ⟨g, 6, none⟩ = some (.int .i64 r) := HI1.cell 6
  have f5 : w1.frozen? ⟨g, 5, none⟩ = false := blk_frozen HI1 5
  have HHH := Aside0.mk HH1
  have HII := Aside0.mk HI1
  clear HI1 HH1 HI
  go_wp2_with fail
  refine wp_region_still_tail 16 (by kernel_rfl) (tail8' _ (by kernel_rfl)) ?_
  refine still_of_quiet _ _ ?_
  simp only [List.take_succ_cons, List.take_zero, List.drop_succ_cons, List.drop_zero]
  repeat (go_big_quiet_step (fail))
  refine wpQuiet_nil ?_
  change wpList _ _ _ _ _ w1.drew
  go_wp2_with fail
  have HI2 : IsC ((w1.setCell ⟨g, 5, none⟩ (.int .i64 t)).drew) g #[.int .i32 1, .int .u32 0, .int .i64 b.ra, .int .i64 b.pe, .int .i64 b.bu, .int .i64 t, .int .i64 r] := (HII.out.set 5 _).drew
  have HH2 : Held w ((w1.setCell ⟨g, 5, none⟩ (.int .i64 t)).drew) g := (HHH.out.set 5 _).drew
  generalize ((w1.setCell ⟨g, 5, none⟩ (.int .i64 t)).drew) = w2 at *
  clear c3 c5 c6 f5 HHH HII
  have c3 : w2.cell? ⟨g, 3, none⟩ = some (.int .i64 b.pe) := HI2.cell 3
  have c6 : w2.cell? ⟨g, 6, none⟩ = some (.int .i64 r) := HI2.cell 6
  have f6 : w2.frozen? ⟨g, 6, none⟩ = false := blk_frozen HI2 6
  have HHH := Aside0.mk HH2
  have HII := Aside0.mk HI2
  clear HI2 HH2
  refine wp_region_still_tail 11 (by kernel_rfl) (tail9' _ (by kernel_rfl)) ?_
  refine still_of_quiet _ _ ?_
  simp only [List.take_succ_cons, List.take_zero, List.drop_succ_cons, List.drop_zero]
  repeat (go_big_quiet_step (fail))
  refine wpQuiet_nil ?_
  change wpList _ _ _ _ _ w2.drew
  go_wp2_with fail
  have HI3 : IsC ((w2.setCell ⟨g, 6, none⟩ (.int .i64 s)).drew) g #[.int .i32 1, .int .u32 0, .int .i64 b.ra, .int .i64 b.pe, .int .i64 b.bu, .int .i64 t, .int .i64 s] := (HII.out.set 6 _).drew
  have HH3 : Held w ((w2.setCell ⟨g, 6, none⟩ (.int .i64 s)).drew) g := (HHH.out.set 6 _).drew
  generalize ((w2.setCell ⟨g, 6, none⟩ (.int .i64 s)).drew) = w3 at *
  clear c3 c6 f6 HHH HII
  have c0 : w3.cell? ⟨g, 0, none⟩ = some (.int .i32 1) := HI3.cell 0
  have c4 : w3.cell? ⟨g, 4, none⟩ = some (.int .i64 b.bu) := HI3.cell 4
  have c5 : w3.cell? ⟨g, 5, none⟩ = some (.int .i64 t) := HI3.cell 5
  have c6 : w3.cell? ⟨g, 6, none⟩ = some (.int .i64 s) := HI3.cell 6
  have f0 : w3.frozen? ⟨g, 0, none⟩ = false := blk_frozen HI3 0
  have f5 : w3.frozen? ⟨g, 5, none⟩ = false := blk_frozen HI3 5
  have f6 : w3.frozen? ⟨g, 6, none⟩ = false := blk_frozen HI3 6
  by_cases k3 : b.bu ≤ t
  · rw [if_pos k3] at hR
    subst hR
    have k3b : decide (b.bu ≤ t) = true := by simpa using k3
    have HHH := Aside0.mk HH3
    have HII := Aside0.mk HI3
    clear HI3 HH3 k3
    go_quiet (fail)
    go_wp2_with fail
    refine leaves_cons (f := 35) (args := #[.pointer (some ⟨g, 0, none⟩)]) (by simp) (by simp [go_sem]) ?_
    refine (unlock_deferred muLib ⟨g, 0, none⟩ .returning _ ?_ ?_).mono ?_
    · exact (IsC.cell (((HII.out.drewN _).set 5 _).set 6 _) 0).trans rfl
    · simp [f0]
    rintro e u' w'' ⟨rfl, rfl, rfl⟩
    exact ⟨_, results_tmp rfl _ _ _, rfl, ((((HII.out.drewN _).set 5 _).set 6 _).set 0 _), ((((HHH.out.drewN _).set 5 _).set 6 _).set 0 _)⟩
  · rw [if_neg k3] at hR
    subst hR
    have k3b : decide (b.bu ≤ t) = false := by simpa using k3
    have HHH := Aside0.mk HH3
    have HII := Aside0.mk HI3
    clear HI3 HH3 k3
    go_quiet (fail)
    go_wp2_with fail
    refine leaves_cons (f := 35) (args := #[.pointer (some ⟨g, 0, none⟩)]) (by simp) (by simp [go_sem]) ?_
    refine (unlock_deferred muLib ⟨g, 0, none⟩ .returning _ ?_ ?_).mono ?_
    · exact (IsC.cell (HII.out.drewN _) 0).trans rfl
    · simp [f0]
    rintro e u' w'' ⟨rfl, rfl, rfl⟩
    exact ⟨_, results_tmp rfl _ _ _, rfl, ((HII.out.drewN _).set 0 _), ((HHH.out.drewN _).set 0 _)⟩

end Go.Proofs.Ythajekcjgkidhaa.Q
