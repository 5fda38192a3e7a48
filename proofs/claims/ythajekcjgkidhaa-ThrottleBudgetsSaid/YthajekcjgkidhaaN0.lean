/- A budget's map: its keys are items. Condition: the numbers are ints. -/
import Derived.Test.YthajekcjgkidhaaProg
import Derived.Below
import Derived.Deep.Draws
import Derived.Deep.AppendLies
import Derived.Maps.AppendAt
import Derived.OwnWalk
import Derived.Laws.BytesArg
import Derived.Laws.MakeOwn
import Derived.Laws.OwnMore
import Derived.Deep.OwnRows
import Derived.Tactics
import Derived.Lib.ConvBytes
import Derived.Laws.Slices
import Derived.WalkKit
import Derived.KernelRfl
import Derived.RowKit3
import Derived.Deep.LoopGhost
import Derived.Deep.QuietTactic
import Derived.BigQuiet
import Derived.WideLaws
import Derived.Deep.DeepCutAuto
import Derived.Deep.CutBlock
import Derived.Deep.RegionHeld3
import Derived.Laws.Rows
import Derived.Lib.AppendStr
import Derived.ArgAppend
import Derived.Laws.IdiomCopy
import Derived.OrdersHeld
import Derived.Laws.BitsLemmas
import Derived.RowKit
import Derived.Test.YthajekcjgkidhaaWWords
import Derived.Test.YthajekcjgkidhaaWLast
import Derived.Test.YthajekcjgkidhaaWTab
import Derived.Test.YthajekcjgkidhaaWFour
import Derived.Test.YthajekcjgkidhaaWQPut
import Derived.Test.YthajekcjgkidhaaWApart
import Derived.Test.YthajekcjgkidhaaWArr
import Derived.Test.YthajekcjgkidhaaWZeros
import Derived.Test.YthajekcjgkidhaaWFoot
import Derived.Test.YthajekcjgkidhaaWKept
import Derived.Test.YthajekcjgkidhaaWShare
import Derived.Test.YthajekcjgkidhaaWN
import Derived.Test.YthajekcjgkidhaaWFootNe
import Derived.Test.YthajekcjgkidhaaWAt
import Derived.Test.YthajekcjgkidhaaWEqStruct
import Derived.Test.YthajekcjgkidhaaWRepsOne
import Derived.Test.YthajekcjgkidhaaWInv
import Derived.Test.YthajekcjgkidhaaWInvWords
import Derived.Test.YthajekcjgkidhaaWGuard
import Derived.Test.YthajekcjgkidhaaWNEv
import Derived.Test.YthajekcjgkidhaaWMore
import Derived.Test.YthajekcjgkidhaaLocks
import Derived.Conc.MuLone
import Derived.Test.YthajekcjgkidhaaM0
set_option linter.unusedVariables false
set_option linter.unusedSimpArgs false
namespace Go.Proofs.Ythajekcjgkidhaa.Q
open Go.RowKit Go.Maps Go.FM

/-! ### A budget's map: keys are items, elements are states -/
def ek (k : Int × Int) : Value := .agg #[.int .i64 k.1, .int .i64 k.2]
def ev (s : Int × Int) : Value := .agg #[.int .i64 s.1, .int .i64 s.2]
def okI (k : Int × Int) : Prop := (Lit.int .i64 k.1).wf = true ∧ (Lit.int .i64 k.2).wf = true
abbrev Fm := Int × Int → Option (Int × Int)
def MapI (W : World) (r : Nat) (F : Fm) : Prop := FMap ek ev okI W r F

theorem laidI : laidOutB Try.prog = true := by kernel_rfl
theorem wideI : (match Try.prog.underlying 35 with | some (.array _ _) | some (.struct _) => true | _ => false) = true := by rw [Try.underlying35]
set_option maxRecDepth 100000 in
theorem lawI : WideMaps.KeyLaw Try.prog 35 := deep_law_laid laidI (m := 2) (by omega) (of_decide_eq_true (by kernel_rfl)) (by kernel_rfl) wideI

set_option maxRecDepth 100000 in
theorem key_item (a b : Int) (ha : (Lit.int .i64 a).wf = true) (hb : (Lit.int .i64 b).wf = true) : ∃ l, keyOf Try.prog 35 (.agg #[.int .i64 a, .int .i64 b]) = some l := by
  have h1 : Try.prog.keyType 35 = true := by kernel_rfl
  have c35 : Try.prog.cellsOf 35 = 2 := by kernel_rfl
  have c3 : Try.prog.cellsOf 3 = 1 := by kernel_rfl
  obtain ⟨n, hn⟩ : ∃ n, Try.prog.types.size = n + 1 := ⟨Try.prog.types.size - 1, by have : 0 < Try.prog.types.size := of_decide_eq_true (by kernel_rfl); omega⟩
  unfold keyOf
  rw [Try.underlying35]
  dsimp only
  rw [h1, hn]
  simp [Value.formed, Value.cells, Program.keyLits, Try.underlying35, Try.underlying3, c35, c3, ha, hb]

theorem keysI : Go.FM.Keys Try.prog ek okI 35 where
  K := Keyed.of_law lawI
  inj a b h := by
    obtain ⟨a1, a2⟩ := a
    obtain ⟨b1, b2⟩ := b
    simp [ek] at h
    rw [h.1, h.2]
  key a h := key_item a.1 a.2 h.1 h.2

theorem MapI.below {w w' : World} {r : Nat} {F : Fm} (h : MapI w r F) (hb : w'.heap[r]? = w.heap[r]?) : MapI w' r F := by
  obtain ⟨es, c, h0, h1⟩ := h
  exact ⟨es, c, hb.trans h0, h1⟩
theorem MapI.new (w : World) (c : Nat) : MapI (w.alloc (.map #[] c)) w.heap.size (fun _ => none) :=
  ⟨#[], c, heap_alloc_new w _, (fun e he => by simp at he), (fun a v h => by cases h), by simp⟩

end Go.Proofs.Ythajekcjgkidhaa.Q
