/- Pairs of buckets laid into the two places. No condition. -/
import Derived.Test.YthajekcjgkidhaaProg
import Derived.Below
import Derived.Deep.Draws
import Derived.Deep.AppendLies
import Derived.Maps.AppendAt
import Derived.OwnWalk
import Derived.Laws.BytesArg
import Derived.Laws.MakeOwn
import Derived.Laws.OwnMore
import Derived.Deep.OwnRows
import Derived.Tactics
import Derived.Lib.ConvBytes
import Derived.Laws.Slices
import Derived.WalkKit
import Derived.KernelRfl
import Derived.RowKit3
import Derived.Deep.LoopGhost
import Derived.Deep.QuietTactic
import Derived.BigQuiet
import Derived.WideLaws
import Derived.Deep.DeepCutAuto
import Derived.Deep.CutBlock
import Derived.Deep.RegionHeld3
import Derived.Laws.Rows
import Derived.Lib.AppendStr
import Derived.ArgAppend
import Derived.Laws.IdiomCopy
import Derived.OrdersHeld
import Derived.Laws.BitsLemmas
import Derived.RowKit
import Derived.Test.YthajekcjgkidhaaWWords
import Derived.Test.YthajekcjgkidhaaWLast
import Derived.Test.YthajekcjgkidhaaWTab
import Derived.Test.YthajekcjgkidhaaWFour
import Derived.Test.YthajekcjgkidhaaWQPut
import Derived.Test.YthajekcjgkidhaaWApart
import Derived.Test.YthajekcjgkidhaaWArr
import Derived.Test.YthajekcjgkidhaaWZeros
import Derived.Test.YthajekcjgkidhaaWFoot
import Derived.Test.YthajekcjgkidhaaWKept
import Derived.Test.YthajekcjgkidhaaWShare
import Derived.Test.YthajekcjgkidhaaWN
import Derived.Test.YthajekcjgkidhaaWFootNe
import Derived.Test.YthajekcjgkidhaaWAt
import Derived.Test.YthajekcjgkidhaaWEqStruct
import Derived.Test.YthajekcjgkidhaaWRepsOne
import Derived.Test.YthajekcjgkidhaaWInv
import Derived.Test.YthajekcjgkidhaaWInvWords
import Derived.Test.YthajekcjgkidhaaWGuard
import Derived.Test.YthajekcjgkidhaaWNEv
import Derived.Test.YthajekcjgkidhaaWMore
import Derived.Test.YthajekcjgkidhaaLocks
import Derived.Conc.MuLone
import Derived.Test.YthajekcjgkidhaaTG
set_option linter.unusedVariables false
set_option linter.unusedSimpArgs false
namespace Go.Proofs.Ythajekcjgkidhaa.Q
open Go.RowKit Go.Proofs.YthajekcjgkidhaaW.PrintWords Go.Proofs.YthajekcjgkidhaaW.PrintLast Go.Proofs.YthajekcjgkidhaaW.PrintMore
open Go.MuLone Go.Pivot

theorem piv5 : pivotB .any (opsOf Try.f26 5) 12 = true := by kernel_rfl
theorem piv5' (ops : Array Oper) (h : opsOf Try.f26 5 = ops) : pivotB .any ops 12 = true := h ▸ piv5
theorem piv6 : pivotB .any (opsOf Try.f26 6) 12 = true := by kernel_rfl
theorem piv6' (ops : Array Oper) (h : opsOf Try.f26 6 = ops) : pivotB .any ops 12 = true := h ▸ piv6

theorem blk_set2 {W : World} {m : Nat} {cs : Array Value} {T : TypeId} (h : W.heap[m]? = some (.cells cs T (0, 0))) (i j : Nat) (u v : Value) :
    ((W.setCell ⟨m, i, none⟩ u).setCell ⟨m, j, none⟩ v).heap[m]? = some (.cells ((cs.setIfInBounds i u).setIfInBounds j v) T (0, 0)) := blk_set (blk_set h i u) j v
theorem other2 {W : World} {m i j b : Nat} {u v : Value} (h : b ≠ m) : ((W.setCell ⟨m, i, none⟩ u).setCell ⟨m, j, none⟩ v).heap[b]? = W.heap[b]? :=
  (Below.heap_setCell _ ⟨m, j, none⟩ v b h).trans (Below.heap_setCell W ⟨m, i, none⟩ u b h)
theorem below2 {B : Nat} {w W : World} {m i j : Nat} {u v : Value} (h : Below B w W) (hm : B ≤ m) : Below B w ((W.setCell ⟨m, i, none⟩ u).setCell ⟨m, j, none⟩ v) :=
  (h.setCell (p := ⟨m, i, none⟩) hm u).setCell (p := ⟨m, j, none⟩) hm v

theorem Pl.At.set2 {B m : Nat} {W : World} {p : Pl} {i j : Nat} {u v : Value} (h : p.At B m W) : p.At B m ((W.setCell ⟨m, i, none⟩ u).setCell ⟨m, j, none⟩ v) := by
  intro x hx
  obtain ⟨h1, h2, h3, h4, h5, h6, h7⟩ := h x hx
  exact ⟨⟨(other2 (fun e => h6 e.symm)).trans h1.isb, (other2 (fun e => h7 e.symm)).trans h1.isr, h1.good, h1.gk⟩, h2, h3, by simpa [World.setCell] using h4, by simpa [World.setCell] using h5, h6, h7⟩

/-- A pair of new buckets comes to place 0. -/
theorem IP.put0 {w W W2 : World} {m g k : Nat} {b : Bkt} {q : Pl} (h : IP w W m none q) (hb : Below W.heap.size W W2) (hB : IsB W2 g b) (hR : IsR W2 k b) (good : b.Good) (hgk : g ≠ k) (hg : W.heap.size ≤ g) (hk : W.heap.size ≤ k) :
    IP w ((W2.setCell ⟨m, 0, none⟩ (.pointer (some ⟨g, 0, none⟩))).setCell ⟨m, 2, none⟩ (.pointer (some ⟨k, 0, none⟩))) m (some (g, k, b)) q := by
  have hm : m < W.heap.size := blk_lt h.blk
  have e1 : w.heap.size ≤ W.heap.size := h.below.size
  have h2 := h.grow hb
  refine ⟨below2 h2.below h.ge, blk_set2 h2.blk 0 2 _ _, h.ge, ?_, h2.atq.set2, ?_⟩
  · intro x hx
    obtain rfl := Option.some.inj hx
    have l1 : g < W2.heap.size := blk_lt hB
    have l2 : k < W2.heap.size := blk_lt hR
    exact ⟨⟨(other2 (show g ≠ m by omega)).trans hB, (other2 (show k ≠ m by omega)).trans hR, good, hgk⟩, show w.heap.size ≤ g by omega, show w.heap.size ≤ k by omega, by simpa [World.setCell] using l1, by simpa [World.setCell] using l2, show m ≠ g by omega, show m ≠ k by omega⟩
  · intro x y hx hy
    obtain rfl := Option.some.inj hx
    obtain ⟨_, _, _, h4, h5, _, _⟩ := h.atq y hy
    exact ⟨show g ≠ y.1 by omega, show g ≠ y.2.1 by omega, show k ≠ y.1 by omega, show k ≠ y.2.1 by omega⟩
theorem IP.put1 {w W W2 : World} {m g k : Nat} {b : Bkt} {p : Pl} (h : IP w W m p none) (hb : Below W.heap.size W W2) (hB : IsB W2 g b) (hR : IsR W2 k b) (good : b.Good) (hgk : g ≠ k) (hg : W.heap.size ≤ g) (hk : W.heap.size ≤ k) :
    IP w ((W2.setCell ⟨m, 1, none⟩ (.pointer (some ⟨g, 0, none⟩))).setCell ⟨m, 3, none⟩ (.pointer (some ⟨k, 0, none⟩))) m p (some (g, k, b)) := by
  have hm : m < W.heap.size := blk_lt h.blk
  have e1 : w.heap.size ≤ W.heap.size := h.below.size
  have h2 := h.grow hb
  refine ⟨below2 h2.below h.ge, blk_set2 h2.blk 1 3 _ _, h.ge, h2.atp.set2, ?_, ?_⟩
  · intro x hx
    obtain rfl := Option.some.inj hx
    have l1 : g < W2.heap.size := blk_lt hB
    have l2 : k < W2.heap.size := blk_lt hR
    exact ⟨⟨(other2 (show g ≠ m by omega)).trans hB, (other2 (show k ≠ m by omega)).trans hR, good, hgk⟩, show w.heap.size ≤ g by omega, show w.heap.size ≤ k by omega, by simpa [World.setCell] using l1, by simpa [World.setCell] using l2, show m ≠ g by omega, show m ≠ k by omega⟩
  · intro x y hx hy
    obtain rfl := Option.some.inj hy
    obtain ⟨_, _, _, h4, h5, _, _⟩ := h.atp x hx
    exact ⟨show x.1 ≠ g by omega, show x.1 ≠ k by omega, show x.2.1 ≠ g by omega, show x.2.1 ≠ k by omega⟩
/-- Nothing comes to a place that holds nothing. -/
theorem IP.nil0 {w W W2 : World} {m : Nat} {q : Pl} (h : IP w W m none q) (hb : Below W.heap.size W W2) :
    IP w ((W2.setCell ⟨m, 0, none⟩ (.pointer none)).setCell ⟨m, 2, none⟩ (.pointer none)) m none q :=
  ⟨below2 (h.grow hb).below h.ge, blk_set2 (h.grow hb).blk 0 2 _ _, h.ge, Pl.At.nothing, (h.grow hb).atq.set2, Pl.apart.nothing'⟩
theorem IP.nil1 {w W W2 : World} {m : Nat} {p : Pl} (h : IP w W m p none) (hb : Below W.heap.size W W2) :
    IP w ((W2.setCell ⟨m, 1, none⟩ (.pointer none)).setCell ⟨m, 3, none⟩ (.pointer none)) m p none :=
  ⟨below2 (h.grow hb).below h.ge, blk_set2 (h.grow hb).blk 1 3 _ _, h.ge, (h.grow hb).atp.set2, Pl.At.nothing, Pl.apart.nothing⟩

end Go.Proofs.Ythajekcjgkidhaa.Q
