/- Contract of granarylaw10.purse; what ThrottleTries has in hand. No condition. -/
import Derived.Test.YthajekcjgkidhaaProg
import Derived.Below
import Derived.Deep.Draws
import Derived.Deep.AppendLies
import Derived.Maps.AppendAt
import Derived.OwnWalk
import Derived.Laws.BytesArg
import Derived.Laws.MakeOwn
import Derived.Laws.OwnMore
import Derived.Deep.OwnRows
import Derived.Tactics
import Derived.Lib.ConvBytes
import Derived.Laws.Slices
import Derived.WalkKit
import Derived.KernelRfl
import Derived.RowKit3
import Derived.Deep.LoopGhost
import Derived.Deep.QuietTactic
import Derived.BigQuiet
import Derived.WideLaws
import Derived.Deep.DeepCutAuto
import Derived.Deep.CutBlock
import Derived.Deep.RegionHeld3
import Derived.Laws.Rows
import Derived.Lib.AppendStr
import Derived.ArgAppend
import Derived.Laws.IdiomCopy
import Derived.OrdersHeld
import Derived.Laws.BitsLemmas
import Derived.RowKit
import Derived.Test.YthajekcjgkidhaaWWords
import Derived.Test.YthajekcjgkidhaaWLast
import Derived.Test.YthajekcjgkidhaaWTab
import Derived.Test.YthajekcjgkidhaaWFour
import Derived.Test.YthajekcjgkidhaaWQPut
import Derived.Test.YthajekcjgkidhaaWApart
import Derived.Test.YthajekcjgkidhaaWArr
import Derived.Test.YthajekcjgkidhaaWZeros
import Derived.Test.YthajekcjgkidhaaWFoot
import Derived.Test.YthajekcjgkidhaaWKept
import Derived.Test.YthajekcjgkidhaaWShare
import Derived.Test.YthajekcjgkidhaaWN
import Derived.Test.YthajekcjgkidhaaWFootNe
import Derived.Test.YthajekcjgkidhaaWAt
import Derived.Test.YthajekcjgkidhaaWEqStruct
import Derived.Test.YthajekcjgkidhaaWRepsOne
import Derived.Test.YthajekcjgkidhaaWInv
import Derived.Test.YthajekcjgkidhaaWInvWords
import Derived.Test.YthajekcjgkidhaaWGuard
import Derived.Test.YthajekcjgkidhaaWNEv
import Derived.Test.YthajekcjgkidhaaWMore
import Derived.Test.YthajekcjgkidhaaLocks
import Derived.Conc.MuLone
import Derived.Test.YthajekcjgkidhaaN4
import Derived.Test.YthajekcjgkidhaaT6
import Derived.Test.YthajekcjgkidhaaR1
set_option linter.unusedVariables false
set_option linter.unusedSimpArgs false
namespace Go.Proofs.Ythajekcjgkidhaa.Q
open Go.RowKit Go.Proofs.YthajekcjgkidhaaW.PrintWords Go.Proofs.YthajekcjgkidhaaW.PrintLast Go.Proofs.YthajekcjgkidhaaW.PrintMore
open Go.MuLone Go.FM Go.Plan

set_option maxHeartbeats 2000000 in
theorem purse_yes (t b m : Int) (w : World) (h : okBud t b m) :
    Calls Try.prog 13 #[.agg #[.int .i64 t, .int .i64 b, .int .i64 m]] w fun e w' => e = .returned (.bool true) ∧ Below w.heap.size w w' := by
  obtain ⟨h1, h2, h3, h4, h5, h6⟩ := h
  have b1 : decide (1 ≤ t) = true := by simp; omega
  have b2 : decide (t ≤ 64) = true := by simp; omega
  have b3 : decide (1 ≤ b) = true := by simp; omega
  have b4 : decide (b ≤ 1024) = true := by simp; omega
  have b5 : decide (b ≤ m) = true := by simp; omega
  have b6 : decide (m ≤ 1024) = true := by simp; omega
  clear h1 h2 h3 h4 h5 h6
  go_enter Try.func13, Try.ntmps13
  go_wp2
  go_ret
  exact ⟨rfl, (Below.refl _ _).alloc (Nat.le_refl _) _⟩

set_option maxHeartbeats 2000000 in
theorem purse_no (t b m : Int) (w : World) (h : ¬ okBud t b m) :
    Calls Try.prog 13 #[.agg #[.int .i64 t, .int .i64 b, .int .i64 m]] w fun e w' => e = .returned (.bool false) ∧ Below w.heap.size w w' := by
  have hdec : t < 1 ∨ 64 < t ∨ b < 1 ∨ 1024 < b ∨ m < b ∨ 1024 < m := by unfold okBud at h; omega
  by_cases h1 : t < 1
  · have b1 : decide (1 ≤ t) = false := by simp; omega
    clear h hdec h1
    go_enter Try.func13, Try.ntmps13
    go_wp2
    go_ret
    exact ⟨rfl, (Below.refl _ _).alloc (Nat.le_refl _) _⟩
  have b1 : decide (1 ≤ t) = true := by simp; omega
  by_cases h2 : 64 < t
  · have b2 : decide (t ≤ 64) = false := by simp; omega
    clear h hdec h1 h2
    go_enter Try.func13, Try.ntmps13
    go_wp2
    go_ret
    exact ⟨rfl, (Below.refl _ _).alloc (Nat.le_refl _) _⟩
  have b2 : decide (t ≤ 64) = true := by simp; omega
  by_cases h3 : b < 1
  · have b3 : decide (1 ≤ b) = false := by simp; omega
    clear h hdec h1 h2 h3
    go_enter Try.func13, Try.ntmps13
    go_wp2
    go_ret
    exact ⟨rfl, (Below.refl _ _).alloc (Nat.le_refl _) _⟩
  have b3 : decide (1 ≤ b) = true := by simp; omega
  by_cases h4 : 1024 < b
  · have b4 : decide (b ≤ 1024) = false := by simp; omega
    clear h hdec h1 h2 h3 h4
    go_enter Try.func13, Try.ntmps13
    go_wp2
    go_ret
    exact ⟨rfl, (Below.refl _ _).alloc (Nat.le_refl _) _⟩
  have b4 : decide (b ≤ 1024) = true := by simp; omega
  by_cases h5 : m < b
  · have b5 : decide (b ≤ m) = false := by simp; omega
    clear h hdec h1 h2 h3 h4 h5
    go_enter Try.func13, Try.ntmps13
    go_wp2
    go_ret
    exact ⟨rfl, (Below.refl _ _).alloc (Nat.le_refl _) _⟩
  have b5 : decide (b ≤ m) = true := by simp; omega
  have b6 : decide (m ≤ 1024) = false := by simp; omega
  clear h hdec h1 h2 h3 h4 h5
  go_enter Try.func13, Try.ntmps13
  go_wp2
  go_ret
  exact ⟨rfl, (Below.refl _ _).alloc (Nat.le_refl _) _⟩


/-- What Tries has in hand: its own shape and item, the budget; nothing else has changed since w. -/
structure IT (w W : World) (h c g r : Nat) (A B C : Int) (it : Int × Int) (F : Fm) : Prop where
  below : Below w.heap.size w W
  shp : IsS W h A B C
  itb : W.heap[c]? = some (.cells #[.int .i64 it.1, .int .i64 it.2] 35 (0, 0))
  u : IsU W g r A B C F
  good : GoodF A F
  ge : w.heap.size ≤ g
  ger : w.heap.size ≤ r
  hg : h ≠ g
  hr : h ≠ r
  cg : c ≠ g
  cr : c ≠ r
theorem IT.turn {w W W' : World} {h c g r : Nat} {A B C : Int} {it : Int × Int} {F F' : Fm} (I : IT w W h c g r A B C it F) (hu : IsU W' g r A B C F') (hb : But2 W W' g r) (hg : GoodF A F') : IT w W' h c g r A B C it F' := by
  have h1 := blk_lt I.shp
  have h2 := blk_lt I.itb
  have h3 := I.below.size
  exact ⟨⟨hb.os.trans I.below.os, hb.tape.trans I.below.tape, hb.output.trans I.below.output, Nat.le_trans h3 hb.size, fun k hk => (hb.block k (by omega) (by have := I.ge; omega) (by have := I.ger; omega)).trans (I.below.block k hk)⟩,
    (hb.block h h1 I.hg I.hr).trans I.shp, (hb.block c h2 I.cg I.cr).trans I.itb, hu, hg, I.ge, I.ger, I.hg, I.hr, I.cg, I.cr⟩
theorem IT.drewN {w W : World} {h c g r : Nat} {A B C : Int} {it : Int × Int} {F : Fm} (I : IT w W h c g r A B C it F) (n : Nat) : IT w (W.drewN n) h c g r A B C it F :=
  ⟨⟨I.below.1, I.below.2, I.below.3, I.below.4, I.below.5⟩, I.shp, I.itb, ⟨I.u.blk, I.u.fm.below rfl, I.u.gr⟩, I.good, I.ge, I.ger, I.hg, I.hr, I.cg, I.cr⟩
theorem IT.drew {w W : World} {h c g r : Nat} {A B C : Int} {it : Int × Int} {F : Fm} (I : IT w W h c g r A B C it F) : IT w W.drew h c g r A B C it F :=
  ⟨⟨I.below.1, I.below.2, I.below.3, I.below.4, I.below.5⟩, I.shp, I.itb, ⟨I.u.blk, I.u.fm.below rfl, I.u.gr⟩, I.good, I.ge, I.ger, I.hg, I.hr, I.cg, I.cr⟩

/-- A slice of items that came in. -/
def okW (k : Int × Int) : Prop := okI k
def RItems (W : World) (a : Option Addr) (l : List (Int × Int)) : Prop := ReadsRow (fun (o : Int × Int) cs => cs = [.int .i64 o.1, .int .i64 o.2]) 2 W a l.length l
theorem RItems.at_ {w W : World} {A : Option Addr} {l : List (Int × Int)} (h : RItems w A l) (hb : Below w.heap.size w W) (i : Nat) (hi : i < l.length) : ∃ ad, A = some ad ∧
    W.cell? (ad.add (i * 2)) = some (.int .i64 (l.getD i (0, 0)).1) ∧ W.cell? ⟨(ad.add (i * 2)).block, (ad.add (i * 2)).off + 1, none⟩ = some (.int .i64 (l.getD i (0, 0)).2) := by
  have h2 : ReadsRow (fun (o : Int × Int) cs => cs = [.int .i64 o.1, .int .i64 o.2]) 2 W A l.length l := ReadsRow.imp_ h hb (fun _ _ hp => hp)
  obtain ⟨ad, c, e, hl, hc, hx⟩ := h2.get_ (0, 0) (i : Int) (by omega) (by omega)
  rw [Int.toNat_natCast] at hc hx
  subst hc
  refine ⟨ad, e, hx 0 _ rfl, ?_⟩
  have h3 := hx 1 _ rfl
  rw [← Addr.add_add] at h3
  exact h3

end Go.Proofs.Ythajekcjgkidhaa.Q
