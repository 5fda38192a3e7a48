/- Contracts of (*granaryref10.Bucket).asked, granaryref10.NewBucket and (*granaryref10.Bucket).Take, said of the same bucket as the program has. Condition: block k says that bucket in parts. -/
import Derived.Test.YthajekcjgkidhaaProg
import Derived.Below
import Derived.Deep.Draws
import Derived.Deep.AppendLies
import Derived.Maps.AppendAt
import Derived.OwnWalk
import Derived.Laws.BytesArg
import Derived.Laws.MakeOwn
import Derived.Laws.OwnMore
import Derived.Deep.OwnRows
import Derived.Tactics
import Derived.Lib.ConvBytes
import Derived.Laws.Slices
import Derived.WalkKit
import Derived.KernelRfl
import Derived.RowKit3
import Derived.Deep.LoopGhost
import Derived.Deep.QuietTactic
import Derived.BigQuiet
import Derived.WideLaws
import Derived.Deep.DeepCutAuto
import Derived.Deep.CutBlock
import Derived.Deep.RegionHeld3
import Derived.Laws.Rows
import Derived.Lib.AppendStr
import Derived.ArgAppend
import Derived.Laws.IdiomCopy
import Derived.OrdersHeld
import Derived.Laws.BitsLemmas
import Derived.RowKit
import Derived.Test.YthajekcjgkidhaaWWords
import Derived.Test.YthajekcjgkidhaaWLast
import Derived.Test.YthajekcjgkidhaaWTab
import Derived.Test.YthajekcjgkidhaaWFour
import Derived.Test.YthajekcjgkidhaaWQPut
import Derived.Test.YthajekcjgkidhaaWApart
import Derived.Test.YthajekcjgkidhaaWArr
import Derived.Test.YthajekcjgkidhaaWZeros
import Derived.Test.YthajekcjgkidhaaWFoot
import Derived.Test.YthajekcjgkidhaaWKept
import Derived.Test.YthajekcjgkidhaaWShare
import Derived.Test.YthajekcjgkidhaaWN
import Derived.Test.YthajekcjgkidhaaWFootNe
import Derived.Test.YthajekcjgkidhaaWAt
import Derived.Test.YthajekcjgkidhaaWEqStruct
import Derived.Test.YthajekcjgkidhaaWRepsOne
import Derived.Test.YthajekcjgkidhaaWInv
import Derived.Test.YthajekcjgkidhaaWInvWords
import Derived.Test.YthajekcjgkidhaaWGuard
import Derived.Test.YthajekcjgkidhaaWNEv
import Derived.Test.YthajekcjgkidhaaWMore
import Derived.Test.YthajekcjgkidhaaLocks
import Derived.Conc.MuLone
import Derived.Test.YthajekcjgkidhaaT9
set_option linter.unusedVariables false
set_option linter.unusedSimpArgs false
namespace Go.Proofs.Ythajekcjgkidhaa.Q
open Go.RowKit Go.Proofs.YthajekcjgkidhaaW.PrintWords Go.Proofs.YthajekcjgkidhaaW.PrintLast Go.Proofs.YthajekcjgkidhaaW.PrintMore
open Go.MuLone

/-! ### The document's bucket: block k says the same as b -/
def Bkt.rcells (b : Bkt) (p : Int) : Array Value := #[.int .i64 b.ra, .int .i64 b.pe, .int .i64 b.bu, .int .i64 p]
def IsD (W : World) (g : Nat) (cs : Array Value) : Prop := W.heap[g]? = some (.cells cs 102 (0, 0))
def IsR (W : World) (k : Nat) (b : Bkt) : Prop := IsD W k (b.rcells b.parts)
theorem IsD.set {W : World} {g : Nat} {cs : Array Value} (h : IsD W g cs) (i : Nat) (u : Value) : IsD (W.setCell ⟨g, i, none⟩ u) g (cs.setIfInBounds i u) := blk_set h i u
theorem IsD.cell {W : World} {g : Nat} {cs : Array Value} (h : IsD W g cs) (i : Nat) : W.cell? ⟨g, i, none⟩ = cs[i]? := blk_cell h i
theorem IsD.drewN {W : World} {g : Nat} {cs : Array Value} (h : IsD W g cs) (m : Nat) : IsD (W.drewN m) g cs := h
theorem IsD.drew {W : World} {g : Nat} {cs : Array Value} (h : IsD W g cs) : IsD W.drew g cs := h

theorem Bkt.parts_le {b : Bkt} (h : b.Good) : b.parts ≤ 67200000 := by
  unfold Bkt.parts
  have := h.re2
  have := h.pe2
  have : b.tk * b.pe ≤ 65536 * 1024 := Int.mul_le_mul (by have := h.tk2; have := h.bu2; omega) h.pe2 (by have := h.pe1; omega) (by omega)
  omega

theorem asked_calls (k : Nat) (b : Bkt) (n : Int) (w : World) (hI : IsR w k b) :
    Calls Try.prog 46 #[.pointer (some ⟨k, 0, none⟩), .int .i64 n] w fun e w' => e = .returned (.int .i64 (b.chk n)) ∧ w' = w := by
  have c2 : w.cell? ⟨k, 2, none⟩ = some (.int .i64 b.bu) := IsD.cell hI 2
  unfold Bkt.chk
  by_cases k1 : n < 0
  · rw [if_pos k1]
    have k1b : decide (n < 0) = true := by simpa using k1
    clear k1
    go_enter Try.func46, Try.ntmps46
    go_wp2
    go_ret
    exact ⟨rfl, rfl⟩
  rw [if_neg k1]
  have k1b : decide (n < 0) = false := by simpa using k1
  by_cases k2 : b.bu < n
  · rw [if_pos k2]
    have k2b : decide (b.bu < n) = true := by simpa using k2
    clear k1 k2
    go_enter Try.func46, Try.ntmps46
    go_wp2
    go_ret
    exact ⟨rfl, rfl⟩
  rw [if_neg k2]
  have k2b : decide (b.bu < n) = false := by simpa using k2
  clear k1 k2
  go_enter Try.func46, Try.ntmps46
  go_wp2
  go_ret
  exact ⟨rfl, rfl⟩

set_option maxHeartbeats 4000000 in
theorem rnew_calls (ra pe bu : Int) (w : World) (h : okShape ra pe bu) :
    Calls Try.prog 37 #[.int .i64 ra, .int .i64 pe, .int .i64 bu] w fun e w' => e = .returned (.tuple #[.pointer (some ⟨w.heap.size, 0, none⟩), .int .i64 0]) ∧ IsR w' w.heap.size ⟨ra, pe, bu, bu, 0⟩ ∧ w' = w.alloc (.cells (Bkt.rcells ⟨ra, pe, bu, bu, 0⟩ (Bkt.parts ⟨ra, pe, bu, bu, 0⟩)) 102) := by
  have hp : Bkt.parts ⟨ra, pe, bu, bu, 0⟩ = bu * pe := by unfold Bkt.parts; dsimp only; omega
  unfold IsR
  rw [hp]
  obtain ⟨h1, h2, h3, h4, h5, h6⟩ := h
  have x0 : 0 ≤ bu * pe := Int.mul_nonneg (by omega) (by omega)
  have x1 : bu * pe ≤ 65536 * 1024 := Int.mul_le_mul h6 h4 (by omega) (by omega)
  obtain ⟨x, hx⟩ : ∃ x, bu * pe = x := ⟨_, rfl⟩
  rw [hx] at x0 x1 ⊢
  have f1 : IntKind.i64.wrap (bu * pe) = x := by rw [hx]; exact (i64_w _).trans (Go.IntWalk.wrap64_in _ (by omega))
  have b1 : decide (ra < 1) = false := by simp; omega
  have b2 : decide (65536 < ra) = false := by simp; omega
  have b3 : decide (pe < 1) = false := by simp; omega
  have b4 : decide (1024 < pe) = false := by simp; omega
  have b5 : decide (bu < 1) = false := by simp; omega
  have b6 : decide (65536 < bu) = false := by simp; omega
  clear h1 h2 h3 h4 h5 h6 x0 x1 hx hp
  go_enter Try.func37, Try.ntmps37
  go_wp2
  go_ret2
  exact ⟨rfl, blk_new _ _, rfl⟩

/-- Enough parts for n tokens are n tokens. -/
theorem Bkt.parts_lt {b : Bkt} (h : b.Good) (n : Int) : b.parts < n * b.pe ↔ b.tk < n := by
  unfold Bkt.parts
  have p1 := h.pe1
  have r1 := h.re1
  have r2 := h.re2
  constructor
  · intro hh
    by_cases c : b.tk < n
    · exact c
    · have : n * b.pe ≤ b.tk * b.pe := Int.mul_le_mul_of_nonneg_right (by omega) (by omega)
      omega
  · intro hh
    have : (b.tk + 1) * b.pe ≤ n * b.pe := Int.mul_le_mul_of_nonneg_right (by omega) (by omega)
    rw [Int.add_mul, Int.one_mul] at this
    omega

theorem tail39 : Region.lexTailB .any (opsOf Try.f39 6) 14 = true := by kernel_rfl
theorem tail39' (ops : Array Oper) (h : opsOf Try.f39 6 = ops) : Region.lexTailB .any ops 14 = true := h ▸ tail39

set_option maxHeartbeats 4000000 in
set_option maxRecDepth 100000 in
theorem rtake_calls (k : Nat) (b : Bkt) (hb : b.Good) (n : Int) (w : World) (hI : IsR w k b) :
    Calls Try.prog 39 #[.pointer (some ⟨k, 0, none⟩), .int .i64 n] w fun e w' => e = .returned (.tuple #[.bool (b.take n).2.1, .int .i64 (b.take n).2.2]) ∧ IsR w' k (b.take n).1 ∧ Held w w' k := by
  have c1 : w.cell? ⟨k, 1, none⟩ = some (.int .i64 b.pe) := IsD.cell hI 1
  have c3 : w.cell? ⟨k, 3, none⟩ = some (.int .i64 b.parts) := IsD.cell hI 3
  have f3 : w.frozen? ⟨k, 3, none⟩ = false := blk_frozen hI 3
  unfold Bkt.take
  by_cases k0 : b.chk n = 0
  · rw [if_neg (show ¬ b.chk n ≠ 0 by simp [k0])]
    have hn := Bkt.chk_zero k0
    have np := Bkt.parts_nonneg hb
    have pl := Bkt.parts_le hb
    have lt := Bkt.parts_lt hb n
    have x0 : 0 ≤ n * b.pe := Int.mul_nonneg hn.1 (by have := hb.pe1; omega)
    have x1 : n * b.pe ≤ 65536 * 1024 := Int.mul_le_mul (by have := hb.bu2; omega) hb.pe2 (by have := hb.pe1; omega) (by omega)
    have kk : b.tk < n ∨ ({ b with tk := b.tk - n } : Bkt).parts = b.parts - n * b.pe := by
      right; unfold Bkt.parts; dsimp only; rw [Int.sub_mul]; omega
    obtain ⟨x, hx⟩ : ∃ x, n * b.pe = x := ⟨_, rfl⟩
    have g1 : IntKind.i64.wrap (n * b.pe) = x := by rw [hx]; exact (i64_w _).trans (Go.IntWalk.wrap64_in _ (by omega))
    rw [hx] at lt x0 x1 kk
    by_cases k1 : b.tk < n
    · rw [if_pos k1]
      have k1b : decide (b.parts < x) = true := by simpa using lt.2 k1
      have HI := Aside0.mk hI
      clear k1 hn np pl lt x0 x1 kk hx hb
      go_enter Try.func39, Try.ntmps39
      go_wp2_with (go_at_call 46; refine (asked_calls k b n _ HI.out).mono ?_; rintro e w' ⟨rfl, rfl⟩; rw [k0])
      go_quiet (fail)
      go_wp2_with fail
      go_ret2
      exact ⟨rfl, IsD.drewN HI.out _, (Held.refl _ k).drewN _⟩
    · rw [if_neg k1]
      have k1b : decide (b.parts < x) = false := by simpa using fun h => k1 (lt.1 h)
      have kp : ({ b with tk := b.tk - n } : Bkt).parts = b.parts - x := kk.resolve_left k1
      have kw : IntKind.i64.wrap (b.parts - x) = b.parts - x := (i64_w _).trans (Go.IntWalk.wrap64_in _ (by omega))
      have HI := Aside0.mk hI
      clear k1 hn np pl lt x0 x1 kk hx hb hI
      go_enter Try.func39, Try.ntmps39
      go_wp2_with (go_at_call 46; refine (asked_calls k b n _ HI.out).mono ?_; rintro e w' ⟨rfl, rfl⟩; rw [k0])
      go_quiet (fail)
      go_wp2_with fail
      have HD := Aside0.mk (IsD.drewN HI.out nq)
      have HH := Aside0.mk ((Held.refl w' k).drewN nq)
      have d1 : (w'.drewN nq).cell? ⟨k, 1, none⟩ = some (.int .i64 b.pe) := IsD.cell HD.out 1
      have d3 : (w'.drewN nq).cell? ⟨k, 3, none⟩ = some (.int .i64 b.parts) := IsD.cell HD.out 3
      have e3 : (w'.drewN nq).frozen? ⟨k, 3, none⟩ = false := blk_frozen HD.out 3
      generalize w'.drewN nq = w1 at *
      clear c1 c3 f3
      refine wp_region_still_tail 14 (by kernel_rfl) (tail39' _ (by kernel_rfl)) ?_
      refine still_of_quiet _ _ ?_
      simp only [List.take_succ_cons, List.take_zero, List.drop_succ_cons, List.drop_zero]
      repeat (go_big_quiet_step (fail))
      refine wpQuiet_nil ?_
      change wpList _ _ _ _ _ w1.drew
      go_wp2_with fail
      go_ret2
      refine ⟨rfl, ?_, (HH.out.set 3 _).drew⟩
      unfold IsR
      rw [kp]
      exact (HD.out.set 3 _).drew
  · rw [if_pos (show b.chk n ≠ 0 from k0)]
    have k0b : (b.chk n != 0) = true := by simpa using k0
    clear k0
    go_enter Try.func39, Try.ntmps39
    go_wp2_with (go_at_call 46; refine (asked_calls k b n _ hI).mono ?_; rintro e w' ⟨rfl, rfl⟩)
    go_ret2
    exact ⟨rfl, hI, Held.refl _ _⟩

end Go.Proofs.Ythajekcjgkidhaa.Q
