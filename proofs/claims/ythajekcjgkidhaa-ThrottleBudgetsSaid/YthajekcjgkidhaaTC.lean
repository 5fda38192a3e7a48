/- Contracts of (*granaryref10.Bucket).Tick, .Wait and .Level, and of all methods at a nil bucket. Condition: as for Take. -/
import Derived.Test.YthajekcjgkidhaaProg
import Derived.Below
import Derived.Deep.Draws
import Derived.Deep.AppendLies
import Derived.Maps.AppendAt
import Derived.OwnWalk
import Derived.Laws.BytesArg
import Derived.Laws.MakeOwn
import Derived.Laws.OwnMore
import Derived.Deep.OwnRows
import Derived.Tactics
import Derived.Lib.ConvBytes
import Derived.Laws.Slices
import Derived.WalkKit
import Derived.KernelRfl
import Derived.RowKit3
import Derived.Deep.LoopGhost
import Derived.Deep.QuietTactic
import Derived.BigQuiet
import Derived.WideLaws
import Derived.Deep.DeepCutAuto
import Derived.Deep.CutBlock
import Derived.Deep.RegionHeld3
import Derived.Laws.Rows
import Derived.Lib.AppendStr
import Derived.ArgAppend
import Derived.Laws.IdiomCopy
import Derived.OrdersHeld
import Derived.Laws.BitsLemmas
import Derived.RowKit
import Derived.Test.YthajekcjgkidhaaWWords
import Derived.Test.YthajekcjgkidhaaWLast
import Derived.Test.YthajekcjgkidhaaWTab
import Derived.Test.YthajekcjgkidhaaWFour
import Derived.Test.YthajekcjgkidhaaWQPut
import Derived.Test.YthajekcjgkidhaaWApart
import Derived.Test.YthajekcjgkidhaaWArr
import Derived.Test.YthajekcjgkidhaaWZeros
import Derived.Test.YthajekcjgkidhaaWFoot
import Derived.Test.YthajekcjgkidhaaWKept
import Derived.Test.YthajekcjgkidhaaWShare
import Derived.Test.YthajekcjgkidhaaWN
import Derived.Test.YthajekcjgkidhaaWFootNe
import Derived.Test.YthajekcjgkidhaaWAt
import Derived.Test.YthajekcjgkidhaaWEqStruct
import Derived.Test.YthajekcjgkidhaaWRepsOne
import Derived.Test.YthajekcjgkidhaaWInv
import Derived.Test.YthajekcjgkidhaaWInvWords
import Derived.Test.YthajekcjgkidhaaWGuard
import Derived.Test.YthajekcjgkidhaaWNEv
import Derived.Test.YthajekcjgkidhaaWMore
import Derived.Test.YthajekcjgkidhaaLocks
import Derived.Conc.MuLone
import Derived.Test.YthajekcjgkidhaaTB
set_option linter.unusedVariables false
set_option linter.unusedSimpArgs false
namespace Go.Proofs.Ythajekcjgkidhaa.Q
open Go.RowKit Go.Proofs.YthajekcjgkidhaaW.PrintWords Go.Proofs.YthajekcjgkidhaaW.PrintLast Go.Proofs.YthajekcjgkidhaaW.PrintMore
open Go.MuLone

/-- A tick, counted in parts. -/
theorem Bkt.tick_parts_eq {b : Bkt} (h : b.Good) (n : Int) (h0 : 0 ≤ n) (h1 : n ≤ 1099511627776) :
    (b.tick n).1.parts = if b.bu * b.pe < b.parts + n * b.ra then b.bu * b.pe else b.parts + n * b.ra := by
  unfold Bkt.tick
  rw [if_neg (show ¬ (n < 0 ∨ 1099511627776 < n) by omega)]
  unfold Bkt.parts
  have p1 := h.pe1
  have r1 := h.re1
  have x0 : 0 ≤ n * b.ra := Int.mul_nonneg h0 (by have := h.ra1; omega)
  generalize n * b.ra = x at *
  have hd := Int.emod_add_mul_ediv (b.re + x) b.pe
  have hm0 := Int.emod_nonneg (b.re + x) (show b.pe ≠ 0 by omega)
  have hm1 := Int.emod_lt_of_pos (b.re + x) (show 0 < b.pe by omega)
  generalize (b.re + x) % b.pe = s at *
  generalize (b.re + x) / b.pe = q at *
  have e1 : (b.tk + q) * b.pe = b.tk * b.pe + q * b.pe := Int.add_mul _ _ _
  have e2 : b.pe * q = q * b.pe := Int.mul_comm _ _
  by_cases c : b.bu ≤ b.tk + q
  · rw [if_pos c]
    have : b.bu * b.pe ≤ (b.tk + q) * b.pe := Int.mul_le_mul_of_nonneg_right c (by omega)
    dsimp only
    split <;> omega
  · rw [if_neg c]
    have : (b.tk + q + 1) * b.pe ≤ b.bu * b.pe := Int.mul_le_mul_of_nonneg_right (by omega) (by omega)
    have e3 : (b.tk + q + 1) * b.pe = (b.tk + q) * b.pe + b.pe := by rw [Int.add_mul, Int.one_mul]
    dsimp only
    split <;> omega

theorem Bkt.parts_div {b : Bkt} (h : b.Good) : b.parts / b.pe = b.tk := by
  unfold Bkt.parts
  have p1 := h.pe1
  have r1 := h.re1
  have r2 := h.re2
  rw [Int.add_comm, Int.add_mul_ediv_right _ _ (show b.pe ≠ 0 by omega), Int.ediv_eq_zero_of_lt r1 r2]
  omega

theorem ceil_eq (l a : Int) (h0 : 0 ≤ l) (ha : 1 ≤ a) : (l + a - 1) / a = if 0 < l % a then l / a + 1 else l / a := by
  have hd := Int.emod_add_mul_ediv l a
  have m0 := Int.emod_nonneg l (show a ≠ 0 by omega)
  have m1 := Int.emod_lt_of_pos l (show 0 < a by omega)
  generalize l % a = s at *
  generalize l / a = q at *
  by_cases c : 0 < s
  · rw [if_pos c, show l + a - 1 = (s - 1) + (q + 1) * a by rw [Int.add_mul, Int.one_mul, Int.mul_comm q a]; omega, Int.add_mul_ediv_right _ _ (show a ≠ 0 by omega), Int.ediv_eq_zero_of_lt (by omega) (by omega)]
    omega
  · rw [if_neg c, show l + a - 1 = (s + a - 1) + q * a by rw [Int.mul_comm q a]; omega, Int.add_mul_ediv_right _ _ (show a ≠ 0 by omega), Int.ediv_eq_zero_of_lt (by omega) (by omega)]
    omega

theorem tail38a : Region.lexTailB .any (opsOf Try.f38 5) 14 = true := by kernel_rfl
theorem tail38a' (ops : Array Oper) (h : opsOf Try.f38 5 = ops) : Region.lexTailB .any ops 14 = true := h ▸ tail38a
theorem tail38b : Region.lexTailB .any (opsOf Try.f38 7) 12 = true := by kernel_rfl
theorem tail38b' (ops : Array Oper) (h : opsOf Try.f38 7 = ops) : Region.lexTailB .any ops 12 = true := h ▸ tail38b

set_option maxHeartbeats 4000000 in
set_option maxRecDepth 100000 in
theorem rlevel_calls (k : Nat) (b : Bkt) (hb : b.Good) (w : World) (hI : IsR w k b) :
    Calls Try.prog 41 #[.pointer (some ⟨k, 0, none⟩)] w fun e w' => e = .returned (.int .i64 b.tk) ∧ IsR w' k b ∧ Held w w' k := by
  have c1 : w.cell? ⟨k, 1, none⟩ = some (.int .i64 b.pe) := IsD.cell hI 1
  have c3 : w.cell? ⟨k, 3, none⟩ = some (.int .i64 b.parts) := IsD.cell hI 3
  have np := Bkt.parts_nonneg hb
  have pl := Bkt.parts_le hb
  have p1 := hb.pe1
  have f4 : IntKind.i64.wrap (b.parts.tdiv b.pe) = b.parts / b.pe := Go.IntWalk.i64_quo _ _ ⟨np, by omega, by omega⟩
  rw [Bkt.parts_div hb] at f4
  have f5 : ¬ b.pe = 0 := by omega
  have HI := Aside0.mk hI
  clear np pl p1 hb hI
  go_enter Try.func41, Try.ntmps41
  go_wp2_with fail
  go_quiet (fail)
  go_wp2_with fail
  go_ret
  exact ⟨rfl, IsD.drewN HI.out _, (Held.refl _ k).drewN _⟩

set_option maxHeartbeats 4000000 in
set_option maxRecDepth 100000 in
theorem rwait_calls (k : Nat) (b : Bkt) (hb : b.Good) (n : Int) (w : World) (hI : IsR w k b) :
    Calls Try.prog 40 #[.pointer (some ⟨k, 0, none⟩), .int .i64 n] w fun e w' => e = .returned (.tuple #[.int .i64 (b.wait n).1, .int .i64 (b.wait n).2]) ∧ IsR w' k b ∧ Held w w' k := by
  have c0 : w.cell? ⟨k, 0, none⟩ = some (.int .i64 b.ra) := IsD.cell hI 0
  have c1 : w.cell? ⟨k, 1, none⟩ = some (.int .i64 b.pe) := IsD.cell hI 1
  have c3 : w.cell? ⟨k, 3, none⟩ = some (.int .i64 b.parts) := IsD.cell hI 3
  unfold Bkt.wait
  by_cases k0 : b.chk n = 0
  · rw [if_neg (show ¬ b.chk n ≠ 0 by simp [k0])]
    have hn := Bkt.chk_zero k0
    have np := Bkt.parts_nonneg hb
    have pl := Bkt.parts_le hb
    have x0 : 0 ≤ n * b.pe := Int.mul_nonneg hn.1 (by have := hb.pe1; omega)
    have x1 : n * b.pe ≤ 65536 * 1024 := Int.mul_le_mul (by have := hb.bu2; omega) hb.pe2 (by have := hb.pe1; omega) (by omega)
    have hl : n * b.pe - b.parts = (n - b.tk) * b.pe - b.re := by unfold Bkt.parts; rw [Int.sub_mul]; omega
    have hlt := Bkt.parts_lt hb n
    have ra1 := hb.ra1
    have ra2 := hb.ra2
    rw [← hl]
    obtain ⟨x, hx⟩ : ∃ x, n * b.pe = x := ⟨_, rfl⟩
    have g1 : IntKind.i64.wrap (n * b.pe) = x := by rw [hx]; exact (i64_w _).trans (Go.IntWalk.wrap64_in _ (by omega))
    rw [hx] at x0 x1 hlt ⊢
    obtain ⟨l, hl2⟩ : ∃ l, x - b.parts = l := ⟨_, rfl⟩
    have g2 : IntKind.i64.wrap (x - b.parts) = l := by rw [hl2]; exact (i64_w _).trans (Go.IntWalk.wrap64_in _ (by omega))
    rw [hl2]
    by_cases k1 : n ≤ b.tk
    · rw [if_pos k1]
      have k1b : decide (l ≤ 0) = true := by simp; have := fun h => hlt.1 h; omega
      have HI := Aside0.mk hI
      clear k1 hn np pl x0 x1 hl hlt ra1 ra2 hx hl2 hb hI
      go_enter Try.func40, Try.ntmps40
      go_wp2_with (go_at_call 46; refine (asked_calls k b n _ HI.out).mono ?_; rintro e w' ⟨rfl, rfl⟩; rw [k0])
      go_quiet (fail)
      go_wp2_with fail
      go_ret2
      exact ⟨rfl, IsD.drewN HI.out _, (Held.refl _ k).drewN _⟩
    · rw [if_neg k1]
      have l0 : 0 < l := by have := hlt.2 (by omega); omega
      have k1b : decide (l ≤ 0) = false := by simp; omega
      have hc := ceil_eq l b.ra (by omega) ra1
      obtain ⟨y, hy⟩ : ∃ y, l + b.ra = y := ⟨_, rfl⟩
      have g3 : IntKind.i64.wrap (l + b.ra) = y := by rw [hy]; exact (i64_w _).trans (Go.IntWalk.wrap64_in _ (by omega))
      obtain ⟨z, hz⟩ : ∃ z, y - 1 = z := ⟨_, rfl⟩
      have g4 : IntKind.i64.wrap (y - 1) = z := by rw [hz]; exact (i64_w _).trans (Go.IntWalk.wrap64_in _ (by omega))
      rw [hy, hz] at hc
      have g5 : IntKind.i64.wrap (z.tdiv b.ra) = z / b.ra := Go.IntWalk.i64_quo _ _ ⟨by omega, by omega, by omega⟩
      have hr : (if 0 < l % b.ra then ((l / b.ra + 1, 0) : Int × Int) else (l / b.ra, 0)) = (z / b.ra, 0) := by
        rw [hc]
        split <;> rfl
      rw [hr]
      generalize z / b.ra = q at *
      have g6 : ¬ b.ra = 0 := by omega
      have HI := Aside0.mk hI
      clear k1 hn np pl x0 x1 hl hlt ra1 ra2 hx hl2 hb hI hc hy hz hr l0
      go_enter Try.func40, Try.ntmps40
      go_wp2_with (go_at_call 46; refine (asked_calls k b n _ HI.out).mono ?_; rintro e w' ⟨rfl, rfl⟩; rw [k0])
      go_quiet (fail)
      go_wp2_with fail
      go_quiet (fail)
      go_wp2_with fail
      go_ret2
      exact ⟨rfl, IsD.drewN (IsD.drewN HI.out _) _, ((Held.refl _ k).drewN _).drewN _⟩
  · rw [if_pos (show b.chk n ≠ 0 from k0)]
    have k0b : (b.chk n != 0) = true := by simpa using k0
    clear k0
    go_enter Try.func40, Try.ntmps40
    go_wp2_with (go_at_call 46; refine (asked_calls k b n _ hI).mono ?_; rintro e w' ⟨rfl, rfl⟩)
    go_ret2
    exact ⟨rfl, hI, Held.refl _ _⟩

set_option maxHeartbeats 4000000 in
set_option maxRecDepth 100000 in
theorem rtick_calls (k : Nat) (b : Bkt) (hb : b.Good) (n : Int) (w : World) (hI : IsR w k b) :
    Calls Try.prog 38 #[.pointer (some ⟨k, 0, none⟩), .int .i64 n] w fun e w' => e = .returned (.int .i64 (b.tick n).2) ∧ IsR w' k (b.tick n).1 ∧ Held w w' k := by
  have c0 : w.cell? ⟨k, 0, none⟩ = some (.int .i64 b.ra) := IsD.cell hI 0
  have c3 : w.cell? ⟨k, 3, none⟩ = some (.int .i64 b.parts) := IsD.cell hI 3
  have f3 : w.frozen? ⟨k, 3, none⟩ = false := blk_frozen hI 3
  by_cases k0 : n < 0 ∨ 1099511627776 < n
  · have e1 : b.tick n = (b, 1) := by unfold Bkt.tick; rw [if_pos k0]
    rw [e1]
    by_cases k1 : n < 0
    · have k1b : decide (n < 0) = true := by simpa using k1
      clear k0 k1 e1
      go_enter Try.func38, Try.ntmps38
      go_wp2
      go_ret
      exact ⟨rfl, hI, Held.refl _ _⟩
    · have k1b : decide (n < 0) = false := by simpa using k1
      have k2b : decide (1099511627776 < n) = true := by simp; omega
      clear k0 k1 e1
      go_enter Try.func38, Try.ntmps38
      go_wp2
      go_ret
      exact ⟨rfl, hI, Held.refl _ _⟩
  have k1b : decide (n < 0) = false := by simp; omega
  have k2b : decide (1099511627776 < n) = false := by simp; omega
  have hp := Bkt.tick_parts_eq hb n (by omega) (by omega)
  have hlk := Bkt.tick_like b n
  have e2 : (b.tick n).2 = 0 := by
    unfold Bkt.tick
    rw [if_neg k0]
    split <;> rfl
  rw [e2]
  have hR : IsR = fun W k b => IsD W k (b.rcells b.parts) := rfl
  have hcs : ∀ p, Bkt.rcells (b.tick n).1 p = b.rcells p := fun p => by unfold Bkt.rcells; rw [hlk.1, hlk.2.1, hlk.2.2]
  have h1 : 0 ≤ n * b.ra := Int.mul_nonneg (by omega) (by have := hb.ra1; omega)
  have h2 : n * b.ra ≤ 1099511627776 * 65536 := Int.mul_le_mul (by omega) hb.ra2 (by have := hb.ra1; omega) (by omega)
  have np := Bkt.parts_nonneg hb
  have pl := Bkt.parts_le hb
  have y0 : 0 ≤ b.bu * b.pe := Int.mul_nonneg (by have := hb.bu1; omega) (by have := hb.pe1; omega)
  have y1 : b.bu * b.pe ≤ 65536 * 1024 := Int.mul_le_mul hb.bu2 hb.pe2 (by have := hb.pe1; omega) (by omega)
  obtain ⟨m, hm⟩ : ∃ m, n * b.ra = m := ⟨_, rfl⟩
  rw [hm] at h1 h2 hp
  have km : IntKind.i64.wrap (n * b.ra) = m := by rw [hm]; exact (i64_w _).trans (Go.IntWalk.wrap64_in _ (by omega))
  obtain ⟨r, hr⟩ : ∃ r, b.parts + m = r := ⟨_, rfl⟩
  rw [hr] at hp
  have kr : IntKind.i64.wrap (b.parts + m) = r := by rw [hr]; exact (i64_w _).trans (Go.IntWalk.wrap64_in _ (by omega))
  obtain ⟨y, hy⟩ : ∃ y, b.bu * b.pe = y := ⟨_, rfl⟩
  rw [hy] at hp y0 y1
  have ky : IntKind.i64.wrap (b.bu * b.pe) = y := by rw [hy]; exact (i64_w _).trans (Go.IntWalk.wrap64_in _ (by omega))
  have HI := Aside0.mk (show IsD w k (b.rcells b.parts) from hI)
  have HP := Aside0.mk hp
  have HC := Aside0.mk hcs
  clear hR h1 h2 hm np pl hr hy y0 y1 hb hI k0 hlk hp hcs e2
  generalize (b.tick n).1 = b' at *
  go_enter Try.func38, Try.ntmps38
  go_wp2_with fail
  refine wp_region_still_tail 14 (by kernel_rfl) (tail38a' _ (by kernel_rfl)) ?_
  refine still_of_quiet _ _ ?_
  simp only [List.take_succ_cons, List.take_zero, List.drop_succ_cons, List.drop_zero]
  repeat (go_big_quiet_step (fail))
  refine wpQuiet_nil ?_
  change wpList _ _ _ _ _ w.drew
  go_wp2_with fail
  have HI2 : IsD ((w.setCell ⟨k, 3, none⟩ (.int .i64 r)).drew) k (b.rcells r) := (HI.out.set 3 _).drew
  have HH2 : Held w ((w.setCell ⟨k, 3, none⟩ (.int .i64 r)).drew) k := ((Held.refl w k).set 3 _).drew
  generalize ((w.setCell ⟨k, 3, none⟩ (.int .i64 r)).drew) = w2 at *
  clear c0 c3 f3
  have d1 : w2.cell? ⟨k, 1, none⟩ = some (.int .i64 b.pe) := IsD.cell HI2 1
  have d2 : w2.cell? ⟨k, 2, none⟩ = some (.int .i64 b.bu) := IsD.cell HI2 2
  have d3 : w2.cell? ⟨k, 3, none⟩ = some (.int .i64 r) := IsD.cell HI2 3
  have HHH := Aside0.mk HH2
  have HII := Aside0.mk HI2
  clear HI2 HH2
  by_cases k3 : y < r
  · have k3b : decide (y < r) = true := by simpa using k3
    have hp2 := HP.out
    rw [if_pos k3] at hp2
    have HP2 := Aside0.mk hp2
    clear k3 hp2 HP
    go_quiet (fail)
    go_wp2_with fail
    have HI3 : IsD (w2.drewN nq) k (b.rcells r) := HII.out.drewN nq
    have HH3 : Held w (w2.drewN nq) k := HHH.out.drewN nq
    generalize w2.drewN nq = w3 at *
    clear d1 d2 d3
    have e1 : w3.cell? ⟨k, 1, none⟩ = some (.int .i64 b.pe) := IsD.cell HI3 1
    have e2 : w3.cell? ⟨k, 2, none⟩ = some (.int .i64 b.bu) := IsD.cell HI3 2
    have e3 : w3.frozen? ⟨k, 3, none⟩ = false := blk_frozen HI3 3
    have e4 : w3.cell? ⟨k, 3, none⟩ = some (.int .i64 r) := IsD.cell HI3 3
    have HH4 := Aside0.mk HH3
    have HI4 := Aside0.mk HI3
    clear HI3 HH3
    refine wp_region_still_tail 12 (by kernel_rfl) (tail38b' _ (by kernel_rfl)) ?_
    refine still_of_quiet _ _ ?_
    simp only [List.take_succ_cons, List.take_zero, List.drop_succ_cons, List.drop_zero]
    repeat (go_big_quiet_step (fail))
    refine wpQuiet_nil ?_
    change wpList _ _ _ _ _ w3.drew
    go_wp2_with fail
    go_ret
    refine ⟨rfl, ?_, (HH4.out.set 3 _).drew⟩
    unfold IsR
    rw [HC.out, HP2.out]
    exact (HI4.out.set 3 _).drew
  · have k3b : decide (y < r) = false := by simpa using k3
    have hp2 := HP.out
    rw [if_neg k3] at hp2
    have HP2 := Aside0.mk hp2
    clear k3 hp2 HP
    go_quiet (fail)
    go_wp2_with fail
    go_ret
    refine ⟨rfl, ?_, HHH.out.drewN nq⟩
    unfold IsR
    rw [HC.out, HP2.out]
    exact HII.out.drewN nq

/-! ### A bucket that is nil -/
theorem tick_nil (n : Int) (w : World) : Calls Try.prog 22 #[.pointer none, .int .i64 n] w fun e w' => e = .returned (.int .i64 2) ∧ w' = w := by
  go_enter_defers Try.func22, Try.ntmps22
  go_wp2
  exact ⟨_, results_tmp rfl _ _ _, rfl, rfl⟩
theorem check_nil (n : Int) (w : World) : Calls Try.prog 36 #[.pointer none, .int .i64 n] w fun e w' => e = .returned (.int .i64 2) ∧ w' = w := by
  go_enter Try.func36, Try.ntmps36
  go_wp2
  go_ret
  exact ⟨rfl, rfl⟩
theorem take_nil (n : Int) (w : World) : Calls Try.prog 21 #[.pointer none, .int .i64 n] w fun e w' => e = .returned (.tuple #[.bool false, .int .i64 2]) ∧ w' = w := by
  go_enter_defers Try.func21, Try.ntmps21
  go_wp2_with (go_at_call 36; refine (check_nil n _).mono ?_; rintro e w' ⟨rfl, rfl⟩)
  exact ⟨_, results_tmp2 rfl _ _ _, rfl, rfl⟩
theorem wait_nil (n : Int) (w : World) : Calls Try.prog 23 #[.pointer none, .int .i64 n] w fun e w' => e = .returned (.tuple #[.int .i64 0, .int .i64 2]) ∧ w' = w := by
  go_enter_defers Try.func23, Try.ntmps23
  go_wp2_with (go_at_call 36; refine (check_nil n _).mono ?_; rintro e w' ⟨rfl, rfl⟩)
  exact ⟨_, results_tmp2 rfl _ _ _, rfl, rfl⟩
theorem level_nil (w : World) : Calls Try.prog 28 #[.pointer none] w fun e w' => e = .returned (.int .i64 0) ∧ w' = w := by
  go_enter_defers Try.func28, Try.ntmps28
  go_wp2
  exact ⟨_, results_tmp rfl _ _ _, rfl, rfl⟩
theorem rtick_nil (n : Int) (w : World) : Calls Try.prog 38 #[.pointer none, .int .i64 n] w fun e w' => e = .returned (.int .i64 2) ∧ w' = w := by
  go_enter Try.func38, Try.ntmps38
  go_wp2
  go_ret
  exact ⟨rfl, rfl⟩
theorem asked_nil (n : Int) (w : World) : Calls Try.prog 46 #[.pointer none, .int .i64 n] w fun e w' => e = .returned (.int .i64 2) ∧ w' = w := by
  go_enter Try.func46, Try.ntmps46
  go_wp2
  go_ret
  exact ⟨rfl, rfl⟩
theorem rtake_nil (n : Int) (w : World) : Calls Try.prog 39 #[.pointer none, .int .i64 n] w fun e w' => e = .returned (.tuple #[.bool false, .int .i64 2]) ∧ w' = w := by
  go_enter Try.func39, Try.ntmps39
  go_wp2_with (go_at_call 46; refine (asked_nil n _).mono ?_; rintro e w' ⟨rfl, rfl⟩)
  go_ret2
  exact ⟨rfl, rfl⟩
theorem rwait_nil (n : Int) (w : World) : Calls Try.prog 40 #[.pointer none, .int .i64 n] w fun e w' => e = .returned (.tuple #[.int .i64 0, .int .i64 2]) ∧ w' = w := by
  go_enter Try.func40, Try.ntmps40
  go_wp2_with (go_at_call 46; refine (asked_nil n _).mono ?_; rintro e w' ⟨rfl, rfl⟩)
  go_ret2
  exact ⟨rfl, rfl⟩
theorem rlevel_nil (w : World) : Calls Try.prog 41 #[.pointer none] w fun e w' => e = .returned (.int .i64 0) ∧ w' = w := by
  go_enter Try.func41, Try.ntmps41
  go_wp2
  go_ret
  exact ⟨rfl, rfl⟩

set_option maxHeartbeats 2000000 in
theorem rnew_refuses (ra pe bu : Int) (w : World) (h : ¬ okShape ra pe bu) :
    Calls Try.prog 37 #[.int .i64 ra, .int .i64 pe, .int .i64 bu] w fun e w' => e = .returned (.tuple #[.pointer none, .int .i64 1]) ∧ w' = w := by
  have hdec : ra < 1 ∨ 65536 < ra ∨ pe < 1 ∨ 1024 < pe ∨ bu < 1 ∨ 65536 < bu := by unfold okShape at h; omega
  by_cases h1 : ra < 1
  · have b1 : decide (ra < 1) = true := by simp; omega
    clear h hdec h1
    go_enter Try.func37, Try.ntmps37
    go_wp2
    go_ret2
    exact ⟨rfl, rfl⟩
  have b1 : decide (ra < 1) = false := by simp; omega
  by_cases h2 : 65536 < ra
  · have b2 : decide (65536 < ra) = true := by simp; omega
    clear h hdec h1 h2
    go_enter Try.func37, Try.ntmps37
    go_wp2
    go_ret2
    exact ⟨rfl, rfl⟩
  have b2 : decide (65536 < ra) = false := by simp; omega
  by_cases h3 : pe < 1
  · have b3 : decide (pe < 1) = true := by simp; omega
    clear h hdec h1 h2 h3
    go_enter Try.func37, Try.ntmps37
    go_wp2
    go_ret2
    exact ⟨rfl, rfl⟩
  have b3 : decide (pe < 1) = false := by simp; omega
  by_cases h4 : 1024 < pe
  · have b4 : decide (1024 < pe) = true := by simp; omega
    clear h hdec h1 h2 h3 h4
    go_enter Try.func37, Try.ntmps37
    go_wp2
    go_ret2
    exact ⟨rfl, rfl⟩
  have b4 : decide (1024 < pe) = false := by simp; omega
  by_cases h5 : bu < 1
  · have b5 : decide (bu < 1) = true := by simp; omega
    clear h hdec h1 h2 h3 h4 h5
    go_enter Try.func37, Try.ntmps37
    go_wp2
    go_ret2
    exact ⟨rfl, rfl⟩
  have b5 : decide (bu < 1) = false := by simp; omega
  have b6 : decide (65536 < bu) = true := by simp; omega
  clear h hdec h1 h2 h3 h4 h5
  go_enter Try.func37, Try.ntmps37
  go_wp2
  go_ret2
  exact ⟨rfl, rfl⟩

end Go.Proofs.Ythajekcjgkidhaa.Q
