/- Contract of (*pails).plays: the answers are alike and the two places stay so. Condition: the block of the two places. -/
import Derived.Test.YthajekcjgkidhaaProg
import Derived.Below
import Derived.Deep.Draws
import Derived.Deep.AppendLies
import Derived.Maps.AppendAt
import Derived.OwnWalk
import Derived.Laws.BytesArg
import Derived.Laws.MakeOwn
import Derived.Laws.OwnMore
import Derived.Deep.OwnRows
import Derived.Tactics
import Derived.Lib.ConvBytes
import Derived.Laws.Slices
import Derived.WalkKit
import Derived.KernelRfl
import Derived.RowKit3
import Derived.Deep.LoopGhost
import Derived.Deep.QuietTactic
import Derived.BigQuiet
import Derived.WideLaws
import Derived.Deep.DeepCutAuto
import Derived.Deep.CutBlock
import Derived.Deep.RegionHeld3
import Derived.Laws.Rows
import Derived.Lib.AppendStr
import Derived.ArgAppend
import Derived.Laws.IdiomCopy
import Derived.OrdersHeld
import Derived.Laws.BitsLemmas
import Derived.RowKit
import Derived.Test.YthajekcjgkidhaaWWords
import Derived.Test.YthajekcjgkidhaaWLast
import Derived.Test.YthajekcjgkidhaaWTab
import Derived.Test.YthajekcjgkidhaaWFour
import Derived.Test.YthajekcjgkidhaaWQPut
import Derived.Test.YthajekcjgkidhaaWApart
import Derived.Test.YthajekcjgkidhaaWArr
import Derived.Test.YthajekcjgkidhaaWZeros
import Derived.Test.YthajekcjgkidhaaWFoot
import Derived.Test.YthajekcjgkidhaaWKept
import Derived.Test.YthajekcjgkidhaaWShare
import Derived.Test.YthajekcjgkidhaaWN
import Derived.Test.YthajekcjgkidhaaWFootNe
import Derived.Test.YthajekcjgkidhaaWAt
import Derived.Test.YthajekcjgkidhaaWEqStruct
import Derived.Test.YthajekcjgkidhaaWRepsOne
import Derived.Test.YthajekcjgkidhaaWInv
import Derived.Test.YthajekcjgkidhaaWInvWords
import Derived.Test.YthajekcjgkidhaaWGuard
import Derived.Test.YthajekcjgkidhaaWNEv
import Derived.Test.YthajekcjgkidhaaWMore
import Derived.Test.YthajekcjgkidhaaLocks
import Derived.Conc.MuLone
import Derived.Test.YthajekcjgkidhaaTF
import Derived.Test.YthajekcjgkidhaaR0
set_option linter.unusedVariables false
set_option linter.unusedSimpArgs false
namespace Go.Proofs.Ythajekcjgkidhaa.Q
open Go.RowKit Go.Proofs.YthajekcjgkidhaaW.PrintWords Go.Proofs.YthajekcjgkidhaaW.PrintLast Go.Proofs.YthajekcjgkidhaaW.PrintMore
open Go.MuLone Go.Pivot

/-- What one of the two places holds: nothing, or the program's bucket at the first block and the document's at the second. -/
abbrev Pl := Option (Nat × Nat × Bkt)
def Pl.own : Pl → Value
  | none => .pointer none
  | some x => .pointer (some ⟨x.1, 0, none⟩)
def Pl.ref : Pl → Value
  | none => .pointer none
  | some x => .pointer (some ⟨x.2.1, 0, none⟩)
def Pl.At (B m : Nat) (W : World) (p : Pl) : Prop := ∀ x, p = some x → Two W x.1 x.2.1 x.2.2 ∧ B ≤ x.1 ∧ B ≤ x.2.1 ∧ x.1 < W.heap.size ∧ x.2.1 < W.heap.size ∧ m ≠ x.1 ∧ m ≠ x.2.1
def Pl.apart (p q : Pl) : Prop := ∀ x y, p = some x → q = some y → x.1 ≠ y.1 ∧ x.1 ≠ y.2.1 ∧ x.2.1 ≠ y.1 ∧ x.2.1 ≠ y.2.1
theorem Pl.At.nothing {B m : Nat} {W : World} : Pl.At B m W none := fun _ h => by cases h
theorem Pl.apart.nothing {p : Pl} : Pl.apart p none := fun _ _ _ h => by cases h
theorem Pl.apart.nothing' {p : Pl} : Pl.apart none p := fun _ _ h => by cases h

/-- The two places, in the block at m. -/
structure IP (w W : World) (m : Nat) (p q : Pl) : Prop where
  below : Below w.heap.size w W
  blk : W.heap[m]? = some (.cells #[p.own, q.own, p.ref, q.ref] 68 (0, 0))
  ge : w.heap.size ≤ m
  atp : p.At w.heap.size m W
  atq : q.At w.heap.size m W
  ap : Pl.apart p q

theorem Pl.At.below {B m : Nat} {W W' : World} {p : Pl} (h : p.At B m W) (hb : Below W.heap.size W W') : p.At B m W' := by
  intro x hx
  obtain ⟨h1, h2, h3, h4, h5, h6, h7⟩ := h x hx
  exact ⟨⟨blk_below h1.isb hb, blk_below h1.isr hb, h1.good, h1.gk⟩, h2, h3, Nat.lt_of_lt_of_le h4 hb.size, Nat.lt_of_lt_of_le h5 hb.size, h6, h7⟩
theorem IP.grow {w W W' : World} {m : Nat} {p q : Pl} (h : IP w W m p q) (hb : Below W.heap.size W W') : IP w W' m p q :=
  ⟨below_step h.below hb, blk_below h.blk hb, h.ge, h.atp.below hb, h.atq.below hb, h.ap⟩

/-- Nothing but the two buckets of a place turns. -/
theorem Pl.At.turn {B m : Nat} {W W' : World} {p : Pl} {g k : Nat} (h : p.At B m W) (hb : But2 W W' g k) (ha : ∀ x, p = some x → x.1 ≠ g ∧ x.1 ≠ k ∧ x.2.1 ≠ g ∧ x.2.1 ≠ k) : p.At B m W' := by
  intro x hx
  obtain ⟨h1, h2, h3, h4, h5, h6, h7⟩ := h x hx
  obtain ⟨a1, a2, a3, a4⟩ := ha x hx
  exact ⟨⟨(hb.block _ h4 a1 a2).trans h1.isb, (hb.block _ h5 a3 a4).trans h1.isr, h1.good, h1.gk⟩, h2, h3, Nat.lt_of_lt_of_le h4 hb.size, Nat.lt_of_lt_of_le h5 hb.size, h6, h7⟩
theorem But2.below {B : Nat} {w W W' : World} {g k : Nat} (h : Below B w W) (hb : But2 W W' g k) (hg : B ≤ g) (hk : B ≤ k) (hB : B ≤ W.heap.size) : Below B w W' :=
  ⟨hb.os.trans h.os, hb.tape.trans h.tape, hb.output.trans h.output, Nat.le_trans h.size hb.size, fun i hi => (hb.block i (by omega) (by omega) (by omega)).trans (h.block i hi)⟩

theorem IP.turnp {w W W' : World} {m g k : Nat} {b b' : Bkt} {q : Pl} (h : IP w W m (some (g, k, b)) q) (hb : But2 W W' g k) (ht : Two W' g k b') : IP w W' m (some (g, k, b')) q := by
  obtain ⟨h1, h2, h3, h4, h5, h6, h7⟩ := h.atp _ rfl
  have hm : m < W.heap.size := blk_lt h.blk
  have e1 : w.heap.size ≤ W.heap.size := h.below.size
  refine ⟨hb.below h.below h2 h3 e1, (hb.block m hm h6 h7).trans h.blk, h.ge, ?_, h.atq.turn hb fun y hy => ?_, ?_⟩
  · intro x hx
    obtain rfl := Option.some.inj hx
    exact ⟨ht, h2, h3, Nat.lt_of_lt_of_le h4 hb.size, Nat.lt_of_lt_of_le h5 hb.size, h6, h7⟩
  · obtain ⟨a1, a2, a3, a4⟩ := h.ap _ _ rfl hy
    exact ⟨a1.symm, a3.symm, a2.symm, a4.symm⟩
  · intro x y hx hy
    obtain rfl := Option.some.inj hx
    exact h.ap (g, k, b) y rfl hy
theorem IP.turnq {w W W' : World} {m g k : Nat} {b b' : Bkt} {p : Pl} (h : IP w W m p (some (g, k, b))) (hb : But2 W W' g k) (ht : Two W' g k b') : IP w W' m p (some (g, k, b')) := by
  obtain ⟨h1, h2, h3, h4, h5, h6, h7⟩ := h.atq _ rfl
  have hm : m < W.heap.size := blk_lt h.blk
  have e1 : w.heap.size ≤ W.heap.size := h.below.size
  refine ⟨hb.below h.below h2 h3 e1, (hb.block m hm h6 h7).trans h.blk, h.ge, h.atp.turn hb fun y hy => ?_, ?_, ?_⟩
  · obtain ⟨a1, a2, a3, a4⟩ := h.ap _ _ hy rfl
    exact ⟨a1, a2, a3, a4⟩
  · intro x hx
    obtain rfl := Option.some.inj hx
    exact ⟨ht, h2, h3, Nat.lt_of_lt_of_le h4 hb.size, Nat.lt_of_lt_of_le h5 hb.size, h6, h7⟩
  · intro x y hx hy
    obtain rfl := Option.some.inj hy
    exact h.ap x (g, k, b) hx rfl

theorem kind_cases (k : Int) : (k == 1) = true ∨ ((k == 1) = false ∧ (k == 2) = true) ∨ ((k == 1) = false ∧ (k == 2) = false ∧ (k == 3) = true) ∨ ((k == 1) = false ∧ (k == 2) = false ∧ (k == 3) = false ∧ (k == 4) = true) ∨ ((k == 1) = false ∧ (k == 2) = false ∧ (k == 3) = false ∧ (k == 4) = false) := by
  by_cases h1 : k = 1
  · simp [h1]
  by_cases h2 : k = 2
  · simp [h2]
  by_cases h3 : k = 3
  · simp [h3]
  by_cases h4 : k = 4
  · simp [h4]
  simp [h1, h2, h3, h4]

/-- A step: the answer is as the document says, and the two places stay two places. -/
theorem plays_calls (m : Nat) (p q : Pl) (o : Op5) (w W : World) (h : IP w W m p q) :
    Calls Try.prog 27 #[.pointer (some ⟨m, 0, none⟩), .agg #[.int .i64 o.k, .int .i64 o.a, .int .i64 o.n, .int .i64 o.d, .int .i64 o.f]] W fun e w' => e = .returned (.bool true) ∧ ∃ p' q', IP w w' m p' q' := by
  have c0 := blk_cell h.blk 0
  have c1 := blk_cell h.blk 1
  have c2 := blk_cell h.blk 2
  have c3 := blk_cell h.blk 3
  have hp := plc_lt o.a
  by_cases h0 : plc o.a = 0
  · cases p with
    | none =>
      have fin : ∀ (e : Ending) (w' : World), (e = .returned (.bool true) ∧ Below W.heap.size W w') → e = .returned (.bool true) ∧ ∃ p' q', IP w w' m p' q' := fun e w' hh => ⟨hh.1, none, q, h.grow hh.2⟩
      rcases kind_cases o.k with a | ⟨a, b⟩ | ⟨a, b, c⟩ | ⟨a, b, c, d⟩ | ⟨a, b, c, d⟩
      · exact (playsn_tick0 m o W h0 a c0 c2).mono fin
      · exact (playsn_take0 m o W h0 a b c0 c2).mono fin
      · exact (playsn_wait0 m o W h0 a b c c0 c2).mono fin
      · exact (playsn_level0 m o W h0 a b c d c0 c2).mono fin
      · exact (playsn_idle0 m o W h0 a b c d c0 c2).mono fin
    | some x =>
      obtain ⟨g, k, bk⟩ := x
      obtain ⟨h1, h2, h3, h4, h5, h6, h7⟩ := h.atp _ rfl
      have fin : ∀ (e : Ending) (w' : World), (e = .returned (.bool true) ∧ ∃ b', Two w' g k b' ∧ bk.Like b' ∧ But2 W w' g k) → e = .returned (.bool true) ∧ ∃ p' q', IP w w' m p' q' := fun e w' ⟨he, b', t1, _, t2⟩ => ⟨he, some (g, k, b'), q, h.turnp t2 t1⟩
      rcases kind_cases o.k with a | ⟨a, b⟩ | ⟨a, b, c⟩ | ⟨a, b, c, d⟩ | ⟨a, b, c, d⟩
      · exact (plays_tick0 m g k bk o W h1 h0 a c0 c2 h4 h5 h6 h7).mono fin
      · exact (plays_take0 m g k bk o W h1 h0 a b c0 c2 h4 h5 h6 h7).mono fin
      · exact (plays_wait0 m g k bk o W h1 h0 a b c c0 c2 h4 h5 h6 h7).mono fin
      · exact (plays_level0 m g k bk o W h1 h0 a b c d c0 c2 h4 h5 h6 h7).mono fin
      · exact (plays_idle0 m g k bk o W h1 h0 a b c d c0 c2 h4 h5 h6 h7).mono fin
  · have h0 : plc o.a = 1 := by omega
    cases q with
    | none =>
      have fin : ∀ (e : Ending) (w' : World), (e = .returned (.bool true) ∧ Below W.heap.size W w') → e = .returned (.bool true) ∧ ∃ p' q', IP w w' m p' q' := fun e w' hh => ⟨hh.1, p, none, h.grow hh.2⟩
      rcases kind_cases o.k with a | ⟨a, b⟩ | ⟨a, b, c⟩ | ⟨a, b, c, d⟩ | ⟨a, b, c, d⟩
      · exact (playsn_tick1 m o W h0 a c1 c3).mono fin
      · exact (playsn_take1 m o W h0 a b c1 c3).mono fin
      · exact (playsn_wait1 m o W h0 a b c c1 c3).mono fin
      · exact (playsn_level1 m o W h0 a b c d c1 c3).mono fin
      · exact (playsn_idle1 m o W h0 a b c d c1 c3).mono fin
    | some x =>
      obtain ⟨g, k, bk⟩ := x
      obtain ⟨h1, h2, h3, h4, h5, h6, h7⟩ := h.atq _ rfl
      have fin : ∀ (e : Ending) (w' : World), (e = .returned (.bool true) ∧ ∃ b', Two w' g k b' ∧ bk.Like b' ∧ But2 W w' g k) → e = .returned (.bool true) ∧ ∃ p' q', IP w w' m p' q' := fun e w' ⟨he, b', t1, _, t2⟩ => ⟨he, p, some (g, k, b'), h.turnq t2 t1⟩
      rcases kind_cases o.k with a | ⟨a, b⟩ | ⟨a, b, c⟩ | ⟨a, b, c, d⟩ | ⟨a, b, c, d⟩
      · exact (plays_tick1 m g k bk o W h1 h0 a c1 c3 h4 h5 h6 h7).mono fin
      · exact (plays_take1 m g k bk o W h1 h0 a b c1 c3 h4 h5 h6 h7).mono fin
      · exact (plays_wait1 m g k bk o W h1 h0 a b c c1 c3 h4 h5 h6 h7).mono fin
      · exact (plays_level1 m g k bk o W h1 h0 a b c d c1 c3 h4 h5 h6 h7).mono fin
      · exact (plays_idle1 m g k bk o W h1 h0 a b c d c1 c3 h4 h5 h6 h7).mono fin

end Go.Proofs.Ythajekcjgkidhaa.Q
