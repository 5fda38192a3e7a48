/- Contracts of (*throttle.Bucket).Level, .check and .Take: what they answer and how the bucket stands behind them; nothing else changes. Condition: block g is a bucket whose lock is free, its numbers within what NewBucket makes. -/
import Derived.Test.YthajekcjgkidhaaProg
import Derived.Below
import Derived.Deep.Draws
import Derived.Deep.AppendLies
import Derived.Maps.AppendAt
import Derived.OwnWalk
import Derived.Laws.BytesArg
import Derived.Laws.MakeOwn
import Derived.Laws.OwnMore
import Derived.Deep.OwnRows
import Derived.Tactics
import Derived.Lib.ConvBytes
import Derived.Laws.Slices
import Derived.WalkKit
import Derived.KernelRfl
import Derived.RowKit3
import Derived.Deep.LoopGhost
import Derived.Deep.QuietTactic
import Derived.BigQuiet
import Derived.WideLaws
import Derived.Deep.DeepCutAuto
import Derived.Deep.CutBlock
import Derived.Deep.RegionHeld3
import Derived.Laws.Rows
import Derived.Lib.AppendStr
import Derived.ArgAppend
import Derived.Laws.IdiomCopy
import Derived.OrdersHeld
import Derived.Laws.BitsLemmas
import Derived.RowKit
import Derived.Test.YthajekcjgkidhaaWWords
import Derived.Test.YthajekcjgkidhaaWLast
import Derived.Test.YthajekcjgkidhaaWTab
import Derived.Test.YthajekcjgkidhaaWFour
import Derived.Test.YthajekcjgkidhaaWQPut
import Derived.Test.YthajekcjgkidhaaWApart
import Derived.Test.YthajekcjgkidhaaWArr
import Derived.Test.YthajekcjgkidhaaWZeros
import Derived.Test.YthajekcjgkidhaaWFoot
import Derived.Test.YthajekcjgkidhaaWKept
import Derived.Test.YthajekcjgkidhaaWShare
import Derived.Test.YthajekcjgkidhaaWN
import Derived.Test.YthajekcjgkidhaaWFootNe
import Derived.Test.YthajekcjgkidhaaWAt
import Derived.Test.YthajekcjgkidhaaWEqStruct
import Derived.Test.YthajekcjgkidhaaWRepsOne
import Derived.Test.YthajekcjgkidhaaWInv
import Derived.Test.YthajekcjgkidhaaWInvWords
import Derived.Test.YthajekcjgkidhaaWGuard
import Derived.Test.YthajekcjgkidhaaWNEv
import Derived.Test.YthajekcjgkidhaaWMore
import Derived.Test.YthajekcjgkidhaaLocks
import Derived.Conc.MuLone
set_option linter.unusedVariables false
set_option linter.unusedSimpArgs false
namespace Go.Proofs.Ythajekcjgkidhaa.Q
open Go.RowKit Go.Proofs.YthajekcjgkidhaaW.PrintWords Go.Proofs.YthajekcjgkidhaaW.PrintLast Go.Proofs.YthajekcjgkidhaaW.PrintMore
open Go.MuLone

/-- A bucket: rate, per, burst, tokens, rest. -/
structure Bkt where
  ra : Int
  pe : Int
  bu : Int
  tk : Int
  re : Int

def Bkt.cells (b : Bkt) (l : Int) : Array Value := #[.int .i32 l, .int .u32 0, .int .i64 b.ra, .int .i64 b.pe, .int .i64 b.bu, .int .i64 b.tk, .int .i64 b.re]
def IsC (W : World) (g : Nat) (cs : Array Value) : Prop := W.heap[g]? = some (.cells cs 92 (0, 0))
/-- Block g is the bucket b, its lock free. -/
def IsB (W : World) (g : Nat) (b : Bkt) : Prop := IsC W g (b.cells 0)
theorem IsC.set {W : World} {g : Nat} {cs : Array Value} (h : IsC W g cs) (i : Nat) (u : Value) : IsC (W.setCell ⟨g, i, none⟩ u) g (cs.setIfInBounds i u) := blk_set h i u
theorem IsC.cell {W : World} {g : Nat} {cs : Array Value} (h : IsC W g cs) (i : Nat) : W.cell? ⟨g, i, none⟩ = cs[i]? := blk_cell h i
theorem IsC.drewN {W : World} {g : Nat} {cs : Array Value} (h : IsC W g cs) (m : Nat) : IsC (W.drewN m) g cs := h
theorem IsC.drew {W : World} {g : Nat} {cs : Array Value} (h : IsC W g cs) : IsC W.drew g cs := h
/-- Nothing is changed but block g, and nothing new is there. -/
structure Held (w w' : World) (g : Nat) : Prop where
  os : w'.os = w.os
  tape : w'.tape = w.tape
  output : w'.output = w.output
  size : w'.heap.size = w.heap.size
  block : ∀ i, i ≠ g → w'.heap[i]? = w.heap[i]?
theorem Held.refl (w : World) (g : Nat) : Held w w g := ⟨rfl, rfl, rfl, rfl, fun _ _ => rfl⟩
theorem Held.set {w W : World} {g : Nat} (h : Held w W g) (i : Nat) (u : Value) : Held w (W.setCell ⟨g, i, none⟩ u) g :=
  ⟨h.os, h.tape, h.output, (by rw [World.size_setCell]; exact h.size), fun k hk => (Below.heap_setCell W ⟨g, i, none⟩ u k hk).trans (h.block k hk)⟩
theorem Held.drewN {w W : World} {g : Nat} (h : Held w W g) (m : Nat) : Held w (W.drewN m) g := ⟨h.os, h.tape, h.output, h.size, h.block⟩
theorem Held.drew {w W : World} {g : Nat} (h : Held w W g) : Held w W.drew g := ⟨h.os, h.tape, h.output, h.size, h.block⟩

set_option maxHeartbeats 2000000 in
theorem level_calls (g : Nat) (b : Bkt) (w : World) (hI : IsB w g b) :
    Calls Try.prog 28 #[.pointer (some ⟨g, 0, none⟩)] w fun e w' => e = .returned (.int .i64 b.tk) ∧ IsB w' g b ∧ Held w w' g := by
  have c0 : w.cell? ⟨g, 0, none⟩ = some (.int .i32 0) := blk_cell hI 0
  have c5 : w.cell? ⟨g, 5, none⟩ = some (.int .i64 b.tk) := blk_cell hI 5
  have f0 : w.frozen? ⟨g, 0, none⟩ = false := blk_frozen hI 0
  go_enter_defers Try.func28, Try.ntmps28
  go_wp2_with (go_at_call 34; refine (lock_free muLib ⟨g, 0, none⟩ _ c0 f0).mono ?_; rintro e w' ⟨rfl, rfl⟩)
  refine leaves_cons (f := 35) (args := #[.pointer (some ⟨g, 0, none⟩)]) (by simp) (by simp [go_sem]) ?_
  refine (unlock_deferred muLib ⟨g, 0, none⟩ .returning _ ?_ ?_).mono ?_
  · exact World.cell?_setCell_same w ⟨g, 0, none⟩ (.int .i32 1) c0
  · simp [f0]
  rintro e u' w'' ⟨rfl, rfl, rfl⟩
  exact ⟨_, results_tmp rfl _ _ _, rfl, ((IsC.set hI 0 _).set 0 _), ((Held.refl w g).set 0 _).set 0 _⟩

/-- What a bucket that New made and the calls turned holds to. -/
structure Bkt.Good (b : Bkt) : Prop where
  ra1 : 1 ≤ b.ra
  ra2 : b.ra ≤ 65536
  pe1 : 1 ≤ b.pe
  pe2 : b.pe ≤ 1024
  bu1 : 1 ≤ b.bu
  bu2 : b.bu ≤ 65536
  tk1 : 0 ≤ b.tk
  tk2 : b.tk ≤ b.bu
  re1 : 0 ≤ b.re
  re2 : b.re < b.pe

def Bkt.chk (b : Bkt) (n : Int) : Int := if n < 0 then 1 else if b.bu < n then 101 else 0

theorem check_calls (g : Nat) (b : Bkt) (n : Int) (w : World) (hI : IsB w g b) :
    Calls Try.prog 36 #[.pointer (some ⟨g, 0, none⟩), .int .i64 n] w fun e w' => e = .returned (.int .i64 (b.chk n)) ∧ w' = w := by
  have c4 : w.cell? ⟨g, 4, none⟩ = some (.int .i64 b.bu) := blk_cell hI 4
  unfold Bkt.chk
  by_cases k1 : n < 0
  · rw [if_pos k1]
    have k1b : decide (n < 0) = true := by simpa using k1
    clear k1
    go_enter Try.func36, Try.ntmps36
    go_wp2
    go_ret
    exact ⟨rfl, rfl⟩
  rw [if_neg k1]
  have k1b : decide (n < 0) = false := by simpa using k1
  by_cases k2 : b.bu < n
  · rw [if_pos k2]
    have k2b : decide (b.bu < n) = true := by simpa using k2
    clear k1 k2
    go_enter Try.func36, Try.ntmps36
    go_wp2
    go_ret
    exact ⟨rfl, rfl⟩
  rw [if_neg k2]
  have k2b : decide (b.bu < n) = false := by simpa using k2
  clear k1 k2
  go_enter Try.func36, Try.ntmps36
  go_wp2
  go_ret
  exact ⟨rfl, rfl⟩

def Bkt.take (b : Bkt) (n : Int) : Bkt × Bool × Int :=
  if b.chk n ≠ 0 then (b, false, b.chk n) else if b.tk < n then (b, false, 0) else ({ b with tk := b.tk - n }, true, 0)

set_option maxHeartbeats 2000000 in
theorem take_calls (g : Nat) (b : Bkt) (hb : b.Good) (n : Int) (w : World) (hI : IsB w g b) :
    Calls Try.prog 21 #[.pointer (some ⟨g, 0, none⟩), .int .i64 n] w fun e w' => e = .returned (.tuple #[.bool (b.take n).2.1, .int .i64 (b.take n).2.2]) ∧ IsB w' g (b.take n).1 ∧ Held w w' g := by
  have c0 : w.cell? ⟨g, 0, none⟩ = some (.int .i32 0) := blk_cell hI 0
  have c5 : w.cell? ⟨g, 5, none⟩ = some (.int .i64 b.tk) := blk_cell hI 5
  have f0 : w.frozen? ⟨g, 0, none⟩ = false := blk_frozen hI 0
  have f5 : w.frozen? ⟨g, 5, none⟩ = false := blk_frozen hI 5
  unfold Bkt.take
  by_cases k0 : b.chk n = 0
  · rw [if_neg (show ¬ b.chk n ≠ 0 by simp [k0])]
    have hn : 0 ≤ n ∧ n ≤ b.bu := by
      unfold Bkt.chk at k0
      by_cases c1 : n < 0
      · rw [if_pos c1] at k0; exact absurd k0 (by decide)
      rw [if_neg c1] at k0
      by_cases c2 : b.bu < n
      · rw [if_pos c2] at k0; exact absurd k0 (by decide)
      omega
    by_cases k1 : b.tk < n
    · rw [if_pos k1]
      have k1b : decide (b.tk < n) = true := by simpa using k1
      clear k1 hn
      go_enter_defers Try.func21, Try.ntmps21
      go_wp2_with (first
        | (go_at_call 36; refine (check_calls g b n _ hI).mono ?_; rintro e w' ⟨rfl, rfl⟩; rw [k0])
        | (go_at_call 34; refine (lock_free muLib ⟨g, 0, none⟩ _ c0 f0).mono ?_; rintro e w' ⟨rfl, rfl⟩))
      refine leaves_cons (f := 35) (args := #[.pointer (some ⟨g, 0, none⟩)]) (by simp) (by simp [go_sem]) ?_
      refine (unlock_deferred muLib ⟨g, 0, none⟩ .returning _ ?_ ?_).mono ?_
      · exact World.cell?_setCell_same w' ⟨g, 0, none⟩ (.int .i32 1) c0
      · simp [f0]
      rintro e u' w'' ⟨rfl, rfl, rfl⟩
      exact ⟨_, results_tmp2 rfl _ _ _, rfl, ((IsC.set hI 0 _).set 0 _), ((Held.refl w' g).set 0 _).set 0 _⟩
    · rw [if_neg k1]
      have k1b : decide (b.tk < n) = false := by simpa using k1
      have kw : IntKind.i64.wrap (b.tk - n) = b.tk - n := (i64_w _).trans (Go.IntWalk.wrap64_in _ (by have := hb.tk2; have := hb.bu2; have := hb.tk1; omega))
      clear k1 hn
      go_enter_defers Try.func21, Try.ntmps21
      go_wp2_with (first
        | (go_at_call 36; refine (check_calls g b n _ hI).mono ?_; rintro e w' ⟨rfl, rfl⟩; rw [k0])
        | (go_at_call 34; refine (lock_free muLib ⟨g, 0, none⟩ _ c0 f0).mono ?_; rintro e w' ⟨rfl, rfl⟩))
      refine leaves_cons (f := 35) (args := #[.pointer (some ⟨g, 0, none⟩)]) (by simp) (by simp [go_sem]) ?_
      refine (unlock_deferred muLib ⟨g, 0, none⟩ .returning _ ?_ ?_).mono ?_
      · exact (IsC.cell ((IsC.set hI 0 _).set 5 _) 0).trans rfl
      · simp [f0]
      rintro e u' w'' ⟨rfl, rfl, rfl⟩
      exact ⟨_, results_tmp2 rfl _ _ _, rfl, (((IsC.set hI 0 _).set 5 _).set 0 _), (((Held.refl w' g).set 0 _).set 5 _).set 0 _⟩
  · rw [if_pos (show b.chk n ≠ 0 from k0)]
    have k0b : (b.chk n != 0) = true := by simpa using k0
    clear k0
    go_enter_defers Try.func21, Try.ntmps21
    go_wp2_with (first
      | (go_at_call 36; refine (check_calls g b n _ hI).mono ?_; rintro e w' ⟨rfl, rfl⟩))
    exact ⟨_, results_tmp2 rfl _ _ _, rfl, hI, Held.refl _ _⟩

/-- What Tick makes of a bucket, and what it answers. -/
def Bkt.tick (b : Bkt) (n : Int) : Bkt × Int :=
  if n < 0 ∨ 1099511627776 < n then (b, 1) else
  if b.bu ≤ b.tk + (b.re + n * b.ra) / b.pe then ({ b with tk := b.bu, re := 0 }, 0)
  else ({ b with tk := b.tk + (b.re + n * b.ra) / b.pe, re := (b.re + n * b.ra) % b.pe }, 0)

end Go.Proofs.Ythajekcjgkidhaa.Q
