/- A mail of a call's own; columns that came in. No condition. -/
import Derived.Test.YtadbcekglcmccaaProg
import Derived.Below
import Derived.Deep.Draws
import Derived.Deep.AppendLies
import Derived.Maps.AppendAt
import Derived.OwnWalk
import Derived.Laws.BytesArg
import Derived.Laws.MakeOwn
import Derived.Laws.OwnMore
import Derived.Deep.OwnRows
import Derived.Tactics
import Derived.Lib.ConvBytes
import Derived.Laws.Slices
import Derived.WalkKit
import Derived.KernelRfl
import Derived.RowKit3
import Derived.Deep.LoopGhost
import Derived.Deep.QuietTactic
import Derived.BigQuiet
import Derived.WideLaws
import Derived.Deep.DeepCutAuto
import Derived.Deep.CutBlock
import Derived.Deep.RegionHeld3
import Derived.Laws.Rows
import Derived.Lib.AppendStr
import Derived.ArgAppend
import Derived.Laws.IdiomCopy
import Derived.OrdersHeld
import Derived.Laws.BitsLemmas
import Derived.RowKit
import Derived.Test.YtadbcekglcmccaaWWords
import Derived.Test.YtadbcekglcmccaaWLast
import Derived.Test.YtadbcekglcmccaaWTab
import Derived.Test.YtadbcekglcmccaaWFour
import Derived.Test.YtadbcekglcmccaaWQPut
import Derived.Test.YtadbcekglcmccaaWApart
import Derived.Test.YtadbcekglcmccaaWArr
import Derived.Test.YtadbcekglcmccaaWZeros
import Derived.Test.YtadbcekglcmccaaWFoot
import Derived.Test.YtadbcekglcmccaaWKept
import Derived.Test.YtadbcekglcmccaaWShare
import Derived.Test.YtadbcekglcmccaaWN
import Derived.Test.YtadbcekglcmccaaWFootNe
import Derived.Test.YtadbcekglcmccaaWAt
import Derived.Test.YtadbcekglcmccaaWEqStruct
import Derived.Test.YtadbcekglcmccaaWRepsOne
import Derived.Test.YtadbcekglcmccaaWInv
import Derived.Test.YtadbcekglcmccaaWInvWords
import Derived.Test.YtadbcekglcmccaaWGuard
import Derived.Test.YtadbcekglcmccaaWNEv
import Derived.Test.YtadbcekglcmccaaWMore
import Derived.Test.YtadbcekglcmccaaA7
set_option linter.unusedVariables false
set_option linter.unusedSimpArgs false
namespace Go.Proofs.Ytadbcekglcmccaa.Q
open Go.RowKit Go.Proofs.YtadbcekglcmccaaW.PrintWords Go.Proofs.YtadbcekglcmccaaW.PrintLast Go.Proofs.YtadbcekglcmccaaW.PrintMore
open Go.FM Go.Plan

/-! ### Columns that came in: one cell an element -/
def RCol {α : Type} (enc : α → Value) (W : World) (A : Option Addr) (l : List α) : Prop := l.length ≤ maxLen ∧ (0 < l.length → ∃ ad, A = some ad ∧ ∀ i s, l[i]? = some s → W.cell? (ad.add i) = some (enc s))
theorem RCol.at_ {α : Type} {enc : α → Value} {w W : World} {A : Option Addr} {l : List α} (h : RCol enc w A l) (hb : Below w.heap.size w W) (i : Nat) (s : α) (hi : l[i]? = some s) : ∃ ad, A = some ad ∧ W.cell? (ad.add i) = some (enc s) := by
  have hl := (List.getElem?_eq_some_iff.1 hi).1
  obtain ⟨ad, e, hc⟩ := h.2 (by omega)
  exact ⟨ad, e, pw_cell_below hb (hc i s hi)⟩
theorem num_same (n : Int) (w : World) : Calls Try.prog 11 #[.int .i64 n] w fun e w' => e = .returned (.int .i64 n) ∧ w' = w := by
  go_enter Try.func11, Try.ntmps11
  go_wp2
  go_ret
  exact ⟨rfl, rfl⟩

/-! ### A mail of the call's own -/
structure Pm.Own (w W : World) (x : Pm) : Prop where
  inn : x.In w.heap.size W
  below : Below w.heap.size w W
  bg : w.heap.size ≤ x.g
  br : w.heap.size ≤ x.r
theorem Pm.Own.ge {w W : World} {x : Pm} (h : x.Own w W) : ∀ i, x.S i → w.heap.size ≤ i := by
  intro i hi
  rcases hi with rfl | rfl | hi
  · exact h.bg
  · exact h.br
  · exact (h.inn.qlt i hi).1
theorem Pm.Own.done {w W W' : World} {x x' : Pm} (h : x.Own w W) (d : MDone W W' w.heap.size x x') : x'.Own w W' :=
  ⟨d.inn, d.fr.below h.below h.ge h.below.size, by rw [d.g]; exact h.bg, by rw [d.r]; exact h.br⟩
theorem Pm.Own.grow {w W W' : World} {x : Pm} (h : x.Own w W) (hb : Below W.heap.size W W') : x.Own w W' := ⟨IsM.below h.inn hb, below_step h.below hb, h.bg, h.br⟩
theorem Pm.Own.bless {w W W' : World} {x : Pm} (h : x.Own w W) (k : ∀ i, x.S i → W'.heap[i]? = W.heap[i]?) (hb : Below w.heap.size w W') : x.Own w W' := ⟨Pm.keep h.inn k, hb, h.bg, h.br⟩
/-- A block of bools is none of its. -/
theorem Pm.not_bools {B : Nat} {W : World} {x : Pm} (h : x.In B W) {q : Nat} {cur : Array Value} {T : TypeId} (hq : W.heap[q]? = some (.cells cur T (0, 0))) (h1 : T ≠ 71) (h2 : T ≠ 33) : ¬ x.S q := by
  intro hs
  rcases hs with e | e | e
  · exact blk_ne hq h.blk h1 e
  · subst e
    obtain ⟨es, c, h0, _⟩ := h.fm
    rw [hq] at h0
    cases h0
  · obtain ⟨c, hc⟩ := ownsRow_type h.row q e
    exact blk_ne hq hc h2 rfl

theorem Pm.Own.grown {w W W' : World} {x : Pm} (h : x.Own w W) {A : Option Nat} (hg : W.grownBy W' A) (hA : ∀ q, A = some q → w.heap.size ≤ q ∧ ¬ x.S q) : x.Own w W' :=
  h.bless (fun i hi => hg.block i (Pm.lt h.inn i hi) (fun e => (hA i e.symm).2 hi)) (h.below.grown hg h.below.size (fun q hq => (hA q hq).1))
/-- A row of bools of the call's own is none of its. -/
theorem Pm.Own.apart {w W : World} {x : Pm} (h : x.Own w W) {T size n cap : Nat} {A : Option Addr} {xs : List Value} (hr : W.ownsRow w.heap.size T size (.slice A n cap) n xs) (h1 : T ≠ 71) (h2 : T ≠ 33) : ∀ q, rowB A = some q → w.heap.size ≤ q ∧ ¬ x.S q := by
  intro q hq
  obtain ⟨cur, hc⟩ := ownsRow_type hr q hq
  exact ⟨(ownsRow_lt hr q hq).1, Pm.not_bools h.inn hc h1 h2⟩
theorem pick_nat {L : List Lt} {n : Nat} {y : Lt} (h : L[n]? = some y) : pick L (n : Int) = some y := by
  unfold pick
  rw [if_neg (by omega)]
  exact h

end Go.Proofs.Ytadbcekglcmccaa.Q
