/- How a slice of items that came in is read. No condition. -/
import Derived.Test.YthajekcjgkidhaaProg
import Derived.Below
import Derived.Deep.Draws
import Derived.Deep.AppendLies
import Derived.Maps.AppendAt
import Derived.OwnWalk
import Derived.Laws.BytesArg
import Derived.Laws.MakeOwn
import Derived.Laws.OwnMore
import Derived.Deep.OwnRows
import Derived.Tactics
import Derived.Lib.ConvBytes
import Derived.Laws.Slices
import Derived.WalkKit
import Derived.KernelRfl
import Derived.RowKit3
import Derived.Deep.LoopGhost
import Derived.Deep.QuietTactic
import Derived.BigQuiet
import Derived.WideLaws
import Derived.Deep.DeepCutAuto
import Derived.Deep.CutBlock
import Derived.Deep.RegionHeld3
import Derived.Laws.Rows
import Derived.Lib.AppendStr
import Derived.ArgAppend
import Derived.Laws.IdiomCopy
import Derived.OrdersHeld
import Derived.Laws.BitsLemmas
import Derived.RowKit
import Derived.Test.YthajekcjgkidhaaWWords
import Derived.Test.YthajekcjgkidhaaWLast
import Derived.Test.YthajekcjgkidhaaWTab
import Derived.Test.YthajekcjgkidhaaWFour
import Derived.Test.YthajekcjgkidhaaWQPut
import Derived.Test.YthajekcjgkidhaaWApart
import Derived.Test.YthajekcjgkidhaaWArr
import Derived.Test.YthajekcjgkidhaaWZeros
import Derived.Test.YthajekcjgkidhaaWFoot
import Derived.Test.YthajekcjgkidhaaWKept
import Derived.Test.YthajekcjgkidhaaWShare
import Derived.Test.YthajekcjgkidhaaWN
import Derived.Test.YthajekcjgkidhaaWFootNe
import Derived.Test.YthajekcjgkidhaaWAt
import Derived.Test.YthajekcjgkidhaaWEqStruct
import Derived.Test.YthajekcjgkidhaaWRepsOne
import Derived.Test.YthajekcjgkidhaaWInv
import Derived.Test.YthajekcjgkidhaaWInvWords
import Derived.Test.YthajekcjgkidhaaWGuard
import Derived.Test.YthajekcjgkidhaaWNEv
import Derived.Test.YthajekcjgkidhaaWMore
import Derived.Test.YthajekcjgkidhaaLocks
import Derived.Conc.MuLone
import Derived.Test.YthajekcjgkidhaaN5
import Derived.Deep.Slices
import Derived.ChangeSlices
set_option linter.unusedVariables false
set_option linter.unusedSimpArgs false
namespace Go.Proofs.Ythajekcjgkidhaa.Q
open Go.RowKit Go.ChangeShapes Go.Proofs.YthajekcjgkidhaaW.PrintWords

section
variable {H : Type} {enc : TypeId × Value → H} {W : World} {sp : Nat → Bool} {held : Bool}
set_option maxRecDepth 100000 in
/-- The cells of an item that is read. -/
theorem item_ints {m : Nat} {cs : List Value} {x : DataW H × List MemPlace} (h : DataW.trod enc Try.prog W 0 sp held m 35 cs = some x) (hl : cs.length = 2) : ∃ o : Int × Int, okI o ∧ cs = [.int .i64 o.1, .int .i64 o.2] := by
  have c3 : Try.prog.cellsOf 3 = 1 := by kernel_rfl
  obtain ⟨xs, m1, -, -, -, hxl, hf⟩ := DataW.trod_struct Try.underlying35 h
  match cs, hl with
  | [v0, v1], _ =>
  have hx : ∀ i, i < 2 → ∃ y, xs[i]? = some y := fun i hi => by
    have : xs.length = 2 := hxl
    exact ⟨_, List.getElem?_eq_getElem (show i < xs.length by omega)⟩
  have g0 : DataW.trod enc Try.prog W 0 sp held m1 3 (([v0, v1].drop 0).take (Try.prog.cellsOf 3)) = xs[0]? := hf 0 _ rfl
  rw [c3] at g0
  have g1 : DataW.trod enc Try.prog W 0 sp held m1 3 (([v0, v1].drop 1).take (Try.prog.cellsOf 3)) = xs[1]? := hf 1 _ rfl
  rw [c3] at g1
  obtain ⟨y0, e0⟩ := hx 0 (by omega)
  obtain ⟨y1, e1⟩ := hx 1 (by omega)
  rw [e0] at g0
  rw [e1] at g1
  obtain ⟨n0, q0, -, w0⟩ := DataW.trod_int Try.underlying3 g0
  obtain ⟨n1, q1, -, w1⟩ := DataW.trod_int Try.underlying3 g1
  simp at q0 q1
  subst q0 q1
  exact ⟨(n0, n1), ⟨w0, w1⟩, rfl⟩

theorem build_items (p : Nat → Int × Int → Prop) : ∀ (n : Nat), (∀ i, i < n → ∃ x, p i x) → ∃ l : List (Int × Int), l.length = n ∧ ∀ i x, l[i]? = some x → p i x := by
  intro n
  induction n with
  | zero => intro _; exact ⟨[], rfl, fun i x h => by simp at h⟩
  | succ n ih =>
    intro h
    obtain ⟨l, hl, hp⟩ := ih fun i hi => h i (by omega)
    obtain ⟨x, hx⟩ := h n (by omega)
    refine ⟨l ++ [x], by simp [hl], fun i y hy => ?_⟩
    rw [List.getElem?_append] at hy
    by_cases c : i < l.length
    · rw [if_pos c] at hy; exact hp i y hy
    · rw [if_neg c] at hy
      have hi : i = n := by
        rcases Nat.lt_or_ge (i - l.length) 1 with h1 | h1
        · omega
        · rw [List.getElem?_eq_none (by simpa using h1)] at hy; cases hy
      subst hi
      rw [hl, Nat.sub_self] at hy
      obtain rfl := Option.some.inj hy
      exact hx

/-- Items that came in. -/
theorem open_items {a : Option Addr} {len cap m : Nat} {x : DataW H × List MemPlace} (hf : DataW.trod enc Try.prog W 0 (fun _ => true) held m 39 [.slice a len cap] = some x) : ∃ l : List (Int × Int), RItems W a l ∧ l.length ≤ cap ∧ len = l.length ∧ ∀ o ∈ l, okI o := by
  have c35 : Try.prog.cellsOf 35 = 2 := by kernel_rfl
  rcases Go.Deep.open_slice Try.underlying39 hf with ⟨hcs, _⟩ | ⟨y, ln, c, m, n, D, Pl, hcs, _, hl, hm, hmm, _, hi⟩
  · simp at hcs
    obtain ⟨rfl, rfl, rfl⟩ := hcs
    exact ⟨[], ⟨rfl, by simp, fun h => absurd h (by simp)⟩, Nat.le_refl _, rfl, fun o ho => by cases ho⟩
  · simp at hcs
    obtain ⟨rfl, rfl, rfl⟩ := hcs
    have hm' : m = cap := by simpa using hmm
    rw [c35] at hi
    obtain ⟨l, hll, hp⟩ := build_items (fun i z => okI z ∧ ∀ k u, [Value.int .i64 z.1, .int .i64 z.2][k]? = some u → W.cell? (y.add (i * 2 + k)) = some u) len (fun i hil => by
      obtain ⟨cs, h1, h2⟩ := hi i (by omega)
      obtain ⟨_, hlen, hat⟩ := World.cells?_some h1
      obtain ⟨z, hz, rfl⟩ := item_ints h2 hlen
      refine ⟨z, hz, fun k u hu => ?_⟩
      have hk : k < 2 := by
        have := (List.getElem?_eq_some_iff.1 hu).1
        simpa using this
      rw [← Addr.add_add, hat k hk, hu])
    refine ⟨l, ⟨rfl, by unfold maxLen at hm; omega, fun _ => ⟨y, rfl, fun j p hj => ?_⟩⟩, by omega, hll.symm, fun o ho => ?_⟩
    · obtain ⟨_, h2⟩ := hp j p hj
      exact ⟨_, rfl, rfl, h2⟩
    · obtain ⟨i, hi', e⟩ := List.getElem_of_mem ho
      exact (hp i o (by rw [List.getElem?_eq_getElem hi', e])).1
end
end Go.Proofs.Ythajekcjgkidhaa.Q
