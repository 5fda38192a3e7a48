/- Where an item stands when it is to fail for the f-th time. No condition. -/
import Derived.Test.YthajekcjgkidhaaProg
import Derived.Below
import Derived.Deep.Draws
import Derived.Deep.AppendLies
import Derived.Maps.AppendAt
import Derived.OwnWalk
import Derived.Laws.BytesArg
import Derived.Laws.MakeOwn
import Derived.Laws.OwnMore
import Derived.Deep.OwnRows
import Derived.Tactics
import Derived.Lib.ConvBytes
import Derived.Laws.Slices
import Derived.WalkKit
import Derived.KernelRfl
import Derived.RowKit3
import Derived.Deep.LoopGhost
import Derived.Deep.QuietTactic
import Derived.BigQuiet
import Derived.WideLaws
import Derived.Deep.DeepCutAuto
import Derived.Deep.CutBlock
import Derived.Deep.RegionHeld3
import Derived.Laws.Rows
import Derived.Lib.AppendStr
import Derived.ArgAppend
import Derived.Laws.IdiomCopy
import Derived.OrdersHeld
import Derived.Laws.BitsLemmas
import Derived.RowKit
import Derived.Test.YthajekcjgkidhaaWWords
import Derived.Test.YthajekcjgkidhaaWLast
import Derived.Test.YthajekcjgkidhaaWTab
import Derived.Test.YthajekcjgkidhaaWFour
import Derived.Test.YthajekcjgkidhaaWQPut
import Derived.Test.YthajekcjgkidhaaWApart
import Derived.Test.YthajekcjgkidhaaWArr
import Derived.Test.YthajekcjgkidhaaWZeros
import Derived.Test.YthajekcjgkidhaaWFoot
import Derived.Test.YthajekcjgkidhaaWKept
import Derived.Test.YthajekcjgkidhaaWShare
import Derived.Test.YthajekcjgkidhaaWN
import Derived.Test.YthajekcjgkidhaaWFootNe
import Derived.Test.YthajekcjgkidhaaWAt
import Derived.Test.YthajekcjgkidhaaWEqStruct
import Derived.Test.YthajekcjgkidhaaWRepsOne
import Derived.Test.YthajekcjgkidhaaWInv
import Derived.Test.YthajekcjgkidhaaWInvWords
import Derived.Test.YthajekcjgkidhaaWGuard
import Derived.Test.YthajekcjgkidhaaWNEv
import Derived.Test.YthajekcjgkidhaaWMore
import Derived.Test.YthajekcjgkidhaaLocks
import Derived.Conc.MuLone
import Derived.Test.YthajekcjgkidhaaN5
import Derived.Test.YthajekcjgkidhaaNE
set_option linter.unusedVariables false
set_option linter.unusedSimpArgs false
namespace Go.Proofs.Ythajekcjgkidhaa.Q
open Go.RowKit Go.Proofs.YthajekcjgkidhaaW.PrintWords Go.Proofs.YthajekcjgkidhaaW.PrintLast Go.Proofs.YthajekcjgkidhaaW.PrintMore
open Go.MuLone Go.FM Go.Plan

theorem unew_some (t b m : Int) (w : World) (h : okBud t b m) :
    Calls Try.prog 12 #[.int .i64 t, .int .i64 b, .int .i64 m] w fun e w' => ∃ g r, e = .returned (.tuple #[.pointer (some ⟨g, 0, none⟩), .int .i64 0]) ∧ IsU w' g r t b m (fun _ => none) ∧ Below w.heap.size w w' ∧ w.heap.size ≤ g ∧ w.heap.size ≤ r :=
  (unew_calls t b m w h).mono fun e w' ⟨h1, h2, h3, _⟩ => ⟨_, _, h1, h2, h3, by omega, by omega⟩
theorem IT.start (w W : World) (A B C : Int) (it : Int × Int) (g r : Nat) (hu : IsU W g r A B C (fun _ => none)) (hb : Below ((w.alloc (.cells #[.int .i64 A, .int .i64 B, .int .i64 C] 23)).alloc (.cells #[.int .i64 it.1, .int .i64 it.2] 35)).heap.size ((w.alloc (.cells #[.int .i64 A, .int .i64 B, .int .i64 C] 23)).alloc (.cells #[.int .i64 it.1, .int .i64 it.2] 35)) W)
    (hg : ((w.alloc (.cells #[.int .i64 A, .int .i64 B, .int .i64 C] 23)).alloc (.cells #[.int .i64 it.1, .int .i64 it.2] 35)).heap.size ≤ g) (hr : ((w.alloc (.cells #[.int .i64 A, .int .i64 B, .int .i64 C] 23)).alloc (.cells #[.int .i64 it.1, .int .i64 it.2] 35)).heap.size ≤ r) :
    IT w W w.heap.size (w.heap.size + 1) g r A B C it (fun _ => none) := by
  have b0 := ((Below.refl w.heap.size w).alloc (Nat.le_refl _) (.cells #[.int .i64 A, .int .i64 B, .int .i64 C] 23)).alloc (by simp) (.cells #[.int .i64 it.1, .int .i64 it.2] 35)
  have s1 := blk_new w (.cells #[.int .i64 A, .int .i64 B, .int .i64 C] 23)
  have s2 : ((w.alloc (.cells #[.int .i64 A, .int .i64 B, .int .i64 C] 23)).alloc (.cells #[.int .i64 it.1, .int .i64 it.2] 35)).heap[w.heap.size]? = _ := (Below.heap_alloc _ _ _ (by simp)).trans s1
  have s3 := blk_new (w.alloc (.cells #[.int .i64 A, .int .i64 B, .int .i64 C] 23)) (.cells #[.int .i64 it.1, .int .i64 it.2] 35)
  simp at hg hr
  have hz : (w.alloc (.cells #[.int .i64 A, .int .i64 B, .int .i64 C] 23)).heap.size = w.heap.size + 1 := by simp
  rw [hz] at s3
  exact ⟨below_step b0 hb, blk_below s2 hb, blk_below s3 hb, hu, (fun k s h => by cases h), by omega, by omega, by omega, by omega, by omega, by omega⟩
theorem IT.grow {w W W' : World} {h c g r : Nat} {A B C : Int} {it : Int × Int} {F : Fm} (I : IT w W h c g r A B C it F) (hb : Below W.heap.size W W') : IT w W' h c g r A B C it F :=
  ⟨below_step I.below hb, blk_below I.shp hb, blk_below I.itb hb, ⟨blk_below I.u.blk hb, I.u.fm.below (hb.block r I.u.fm.lt), I.u.gr⟩, I.good, I.ge, I.ger, I.hg, I.hr, I.cg, I.cr⟩

theorem RItems.all {w : World} {A : Option Addr} {l : List (Int × Int)} (h : RItems w A l) (i : Nat) (hi : i < l.length) : ∀ W, Below w.heap.size w W → ∃ ad, A = some ad ∧ W.cell? (ad.add (i * 2)) = some (.int .i64 (l.getD i (0, 0)).1) ∧ W.cell? ⟨(ad.add (i * 2)).block, (ad.add (i * 2)).off + 1, none⟩ = some (.int .i64 (l.getD i (0, 0)).2) := fun W hW => h.at_ hW i hi
theorem GoodF.drop {t : Int} {F : Fm} (h : GoodF t F) (it : Int × Int) : GoodF t (fun x => if x = it then none else F x) := by
  intro k s hk
  dsimp only at hk
  by_cases e : k = it
  · rw [if_pos e] at hk; cases hk
  · rw [if_neg e] at hk; exact h k s hk

/-- Where the item stands when it is to fail for the f-th time. -/
structure Sf (n f : Nat) (B C : Int) (it : Int × Int) (last wv : Int) (F : Fm) : Prop where
  f1 : 1 ≤ f
  fn : f ≤ n
  w1 : 1 ≤ wv
  w2 : wv ≤ 1024
  first : f = 1 → F it = none ∧ wv = B ∧ last = 0
  later : 2 ≤ f → F it = some ((f : Int) - 1, wv) ∧ wv = min (2 * last) C ∧ 1 ≤ last ∧ last ≤ 1024
def OthersF (k : Nat) (l : List (Int × Int)) (it : Int × Int) (F : Fm) : Prop := ∀ j, j < k → j < l.length → l.getD j (0, 0) ≠ it → ∃ s, F (l.getD j (0, 0)) = some s ∧ 1 ≤ s.1

theorem Sf.same {n f : Nat} {B C : Int} {it : Int × Int} {last wv : Int} {F F' : Fm} (h : Sf n f B C it last wv F) (e : F' it = F it) : Sf n f B C it last wv F' :=
  ⟨h.f1, h.fn, h.w1, h.w2, fun k => by rw [e]; exact h.first k, fun k => by rw [e]; exact h.later k⟩
theorem Sf.left {n f : Nat} {B C : Int} {it : Int × Int} {last wv : Int} {F : Fm} (h : Sf n f B C it last wv F) : ((F it).getD (0, 0)).1 = (f : Int) - 1 := by
  by_cases c : f = 1
  · rw [(h.first c).1]; simp; omega
  · rw [(h.later (by have := h.f1; omega)).1]; rfl
theorem Sf.fail {n f : Nat} {B C : Int} {it : Int × Int} {last wv : Int} {F : Fm} (h : Sf n f B C it last wv F) (now : Int) (hn : 0 ≤ now ∧ now ≤ 9007199254740992) :
    (failF n B C F it now).2 = (if f = n then (0, 100) else (now + wv, 0)) ∧ (failF n B C F it now).1 it = some ((f : Int), min (2 * wv) C) := by
  have hg : (F it).getD (0, B) = ((f : Int) - 1, wv) := by
    by_cases c : f = 1
    · rw [(h.first c).1, (h.first c).2.1]; simp; omega
    · rw [(h.later (by have := h.f1; omega)).1]; rfl
  have h1 := h.f1
  have h2 := h.fn
  unfold failF
  rw [if_neg (by omega), hg]
  dsimp only
  rw [if_neg (by omega), show (f : Int) - 1 + 1 = f by omega]
  by_cases c : f = n
  · rw [if_pos (by omega), if_pos c]
    exact ⟨rfl, if_pos rfl⟩
  · rw [if_neg (by omega), if_neg c]
    exact ⟨rfl, if_pos rfl⟩
theorem Sf.next {n f : Nat} {B C : Int} {it : Int × Int} {last wv : Int} {F F' : Fm} (h : Sf n f B C it last wv F) (hC : 1 ≤ C ∧ C ≤ 1024) (hf : f < n) (e : F' it = some ((f : Int), min (2 * wv) C)) : Sf n (f + 1) B C it wv (min (2 * wv) C) F' := by
  have h1 := h.w1
  have h2 := h.w2
  refine ⟨by omega, hf, by omega, by omega, fun k => by have := h.f1; omega, fun _ => ⟨?_, rfl, h1, h2⟩⟩
  rw [e]
  congr 2
  omega

end Go.Proofs.Ythajekcjgkidhaa.Q
