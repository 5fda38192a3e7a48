/- Contract of granarylaw10.place; frames of a pair of buckets. No condition. -/
import Derived.Test.YthajekcjgkidhaaProg
import Derived.Below
import Derived.Deep.Draws
import Derived.Deep.AppendLies
import Derived.Maps.AppendAt
import Derived.OwnWalk
import Derived.Laws.BytesArg
import Derived.Laws.MakeOwn
import Derived.Laws.OwnMore
import Derived.Deep.OwnRows
import Derived.Tactics
import Derived.Lib.ConvBytes
import Derived.Laws.Slices
import Derived.WalkKit
import Derived.KernelRfl
import Derived.RowKit3
import Derived.Deep.LoopGhost
import Derived.Deep.QuietTactic
import Derived.BigQuiet
import Derived.WideLaws
import Derived.Deep.DeepCutAuto
import Derived.Deep.CutBlock
import Derived.Deep.RegionHeld3
import Derived.Laws.Rows
import Derived.Lib.AppendStr
import Derived.ArgAppend
import Derived.Laws.IdiomCopy
import Derived.OrdersHeld
import Derived.Laws.BitsLemmas
import Derived.RowKit
import Derived.Test.YthajekcjgkidhaaWWords
import Derived.Test.YthajekcjgkidhaaWLast
import Derived.Test.YthajekcjgkidhaaWTab
import Derived.Test.YthajekcjgkidhaaWFour
import Derived.Test.YthajekcjgkidhaaWQPut
import Derived.Test.YthajekcjgkidhaaWApart
import Derived.Test.YthajekcjgkidhaaWArr
import Derived.Test.YthajekcjgkidhaaWZeros
import Derived.Test.YthajekcjgkidhaaWFoot
import Derived.Test.YthajekcjgkidhaaWKept
import Derived.Test.YthajekcjgkidhaaWShare
import Derived.Test.YthajekcjgkidhaaWN
import Derived.Test.YthajekcjgkidhaaWFootNe
import Derived.Test.YthajekcjgkidhaaWAt
import Derived.Test.YthajekcjgkidhaaWEqStruct
import Derived.Test.YthajekcjgkidhaaWRepsOne
import Derived.Test.YthajekcjgkidhaaWInv
import Derived.Test.YthajekcjgkidhaaWInvWords
import Derived.Test.YthajekcjgkidhaaWGuard
import Derived.Test.YthajekcjgkidhaaWNEv
import Derived.Test.YthajekcjgkidhaaWMore
import Derived.Test.YthajekcjgkidhaaLocks
import Derived.Conc.MuLone
import Derived.Test.YthajekcjgkidhaaTC
set_option linter.unusedVariables false
set_option linter.unusedSimpArgs false
namespace Go.Proofs.Ythajekcjgkidhaa.Q
open Go.RowKit Go.Proofs.YthajekcjgkidhaaW.PrintWords Go.Proofs.YthajekcjgkidhaaW.PrintLast Go.Proofs.YthajekcjgkidhaaW.PrintMore
open Go.MuLone

/-- Which of the two places a number means. -/
def plc (n : Int) : Nat := ((n.tmod 2 + 2).tmod 2).toNat
theorem plc_lt (n : Int) : plc n < 2 := by
  unfold plc
  have h1 := Int.emod_nonneg (n.tmod 2 + 2) (show (2 : Int) ≠ 0 by decide)
  have h2 := Int.emod_lt_of_pos (n.tmod 2 + 2) (show (0 : Int) < 2 by decide)
  have h3 : 0 ≤ n.tmod 2 + 2 := by
    have := Int.natAbs_tmod n 2
    have h4 : (n.tmod 2).natAbs < 2 := by rw [this]; exact Nat.mod_lt _ (by decide)
    omega
  rw [Int.tmod_eq_emod_of_nonneg h3]
  omega
theorem place_calls (n : Int) (w : World) : Calls Try.prog 30 #[.int .i64 n] w fun e w' => e = .returned (.int .i64 (plc n)) ∧ w' = w := by
  have h3 : 0 ≤ n.tmod 2 + 2 ∧ n.tmod 2 + 2 < 4 := by
    have := Int.natAbs_tmod n 2
    have h4 : (n.tmod 2).natAbs < 2 := by rw [this]; exact Nat.mod_lt _ (by decide)
    omega
  have k1 : IntKind.i64.wrap (n.tmod 2 + 2) = n.tmod 2 + 2 := (i64_w _).trans (Go.IntWalk.wrap64_in _ (by omega))
  have k2 : (n.tmod 2 + 2).tmod 2 = (plc n : Int) := by
    unfold plc
    rw [Int.toNat_of_nonneg]
    rw [Int.tmod_eq_emod_of_nonneg h3.1]
    exact Int.emod_nonneg _ (by decide)
  go_enter Try.func30, Try.ntmps30
  go_wp2
  go_ret
  exact ⟨rfl, rfl⟩

/-- Blocks g and k alone may have changed, and new ones are there. -/
structure But2 (w w' : World) (g k : Nat) : Prop where
  os : w'.os = w.os
  tape : w'.tape = w.tape
  output : w'.output = w.output
  size : w.heap.size ≤ w'.heap.size
  block : ∀ i, i < w.heap.size → i ≠ g → i ≠ k → w'.heap[i]? = w.heap[i]?
theorem But2.refl (w : World) (g k : Nat) : But2 w w g k := ⟨rfl, rfl, rfl, Nat.le_refl _, fun _ _ _ _ => rfl⟩
theorem But2.drewN {w W : World} {g k : Nat} (h : But2 w W g k) (m : Nat) : But2 w (W.drewN m) g k := ⟨h.os, h.tape, h.output, h.size, h.block⟩
theorem But2.held {w W W' : World} {g k : Nat} (h : But2 w W g k) (hh : Held W W' g) : But2 w W' g k :=
  ⟨hh.os.trans h.os, hh.tape.trans h.tape, hh.output.trans h.output, by rw [hh.size]; exact h.size, fun i hi hg hk => (hh.block i hg).trans (h.block i hi hg hk)⟩
theorem But2.heldk {w W W' : World} {g k : Nat} (h : But2 w W g k) (hh : Held W W' k) : But2 w W' g k :=
  ⟨hh.os.trans h.os, hh.tape.trans h.tape, hh.output.trans h.output, by rw [hh.size]; exact h.size, fun i hi hg hk => (hh.block i hk).trans (h.block i hi hg hk)⟩
theorem But2.alloc {w W : World} {g k : Nat} (h : But2 w W g k) (o : Obj) : But2 w (W.alloc o) g k :=
  ⟨h.os, h.tape, h.output, by have := h.size; simp; omega, fun i hi hg hk => (Below.heap_alloc W o i (by have := h.size; omega)).trans (h.block i hi hg hk)⟩

/-- A pair of buckets, the program's at g, the document's at k. -/
structure Two (W : World) (g k : Nat) (b : Bkt) : Prop where
  isb : IsB W g b
  isr : IsR W k b
  good : b.Good
  gk : g ≠ k
theorem Two.turn {W W' W'' : World} {g k : Nat} {b b' : Bkt} (h : Two W g k b) (h1 : Held W W' g) (i1 : IsB W' g b') (h2 : Held W' W'' k) (i2 : IsR W'' k b') (hg : b'.Good) : Two W'' g k b' :=
  ⟨(h2.block g h.gk).trans i1, i2, hg, h.gk⟩

end Go.Proofs.Ythajekcjgkidhaa.Q
