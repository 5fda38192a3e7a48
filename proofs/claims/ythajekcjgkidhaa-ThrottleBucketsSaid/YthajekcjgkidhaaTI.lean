/- Contract of (*pails).made: both makers agree, place 0 holds a pair. Condition: two empty places. -/
import Derived.Test.YthajekcjgkidhaaProg
import Derived.Below
import Derived.Deep.Draws
import Derived.Deep.AppendLies
import Derived.Maps.AppendAt
import Derived.OwnWalk
import Derived.Laws.BytesArg
import Derived.Laws.MakeOwn
import Derived.Laws.OwnMore
import Derived.Deep.OwnRows
import Derived.Tactics
import Derived.Lib.ConvBytes
import Derived.Laws.Slices
import Derived.WalkKit
import Derived.KernelRfl
import Derived.RowKit3
import Derived.Deep.LoopGhost
import Derived.Deep.QuietTactic
import Derived.BigQuiet
import Derived.WideLaws
import Derived.Deep.DeepCutAuto
import Derived.Deep.CutBlock
import Derived.Deep.RegionHeld3
import Derived.Laws.Rows
import Derived.Lib.AppendStr
import Derived.ArgAppend
import Derived.Laws.IdiomCopy
import Derived.OrdersHeld
import Derived.Laws.BitsLemmas
import Derived.RowKit
import Derived.Test.YthajekcjgkidhaaWWords
import Derived.Test.YthajekcjgkidhaaWLast
import Derived.Test.YthajekcjgkidhaaWTab
import Derived.Test.YthajekcjgkidhaaWFour
import Derived.Test.YthajekcjgkidhaaWQPut
import Derived.Test.YthajekcjgkidhaaWApart
import Derived.Test.YthajekcjgkidhaaWArr
import Derived.Test.YthajekcjgkidhaaWZeros
import Derived.Test.YthajekcjgkidhaaWFoot
import Derived.Test.YthajekcjgkidhaaWKept
import Derived.Test.YthajekcjgkidhaaWShare
import Derived.Test.YthajekcjgkidhaaWN
import Derived.Test.YthajekcjgkidhaaWFootNe
import Derived.Test.YthajekcjgkidhaaWAt
import Derived.Test.YthajekcjgkidhaaWEqStruct
import Derived.Test.YthajekcjgkidhaaWRepsOne
import Derived.Test.YthajekcjgkidhaaWInv
import Derived.Test.YthajekcjgkidhaaWInvWords
import Derived.Test.YthajekcjgkidhaaWGuard
import Derived.Test.YthajekcjgkidhaaWNEv
import Derived.Test.YthajekcjgkidhaaWMore
import Derived.Test.YthajekcjgkidhaaLocks
import Derived.Conc.MuLone
import Derived.Test.YthajekcjgkidhaaTH
set_option linter.unusedVariables false
set_option linter.unusedSimpArgs false
namespace Go.Proofs.Ythajekcjgkidhaa.Q
open Go.RowKit Go.Proofs.YthajekcjgkidhaaW.PrintWords Go.Proofs.YthajekcjgkidhaaW.PrintLast Go.Proofs.YthajekcjgkidhaaW.PrintMore
open Go.MuLone Go.Pivot

/-- The two shapes, in a block. -/
def IsL (W : World) (l : Nat) (A0 B0 C0 A1 B1 C1 : Int) : Prop := W.heap[l]? = some (.cells #[.int .i64 A0, .int .i64 B0, .int .i64 C0, .int .i64 A1, .int .i64 B1, .int .i64 C1] 72 (0, 0))
structure IM (w W : World) (m l : Nat) (A0 B0 C0 A1 B1 C1 : Int) (p q : Pl) : Prop where
  ip : IP w W m p q
  isl : IsL W l A0 B0 C0 A1 B1 C1
  ml : l ≠ m
theorem IM.drew {w W : World} {m l : Nat} {A0 B0 C0 A1 B1 C1 : Int} {p q : Pl} (h : IM w W m l A0 B0 C0 A1 B1 C1 p q) : IM w W.drew m l A0 B0 C0 A1 B1 C1 p q :=
  ⟨h.ip.grow ⟨rfl, rfl, rfl, Nat.le_refl _, fun _ _ => rfl⟩, h.isl, h.ml⟩
theorem IM.grow {w W W' : World} {m l : Nat} {A0 B0 C0 A1 B1 C1 : Int} {p q : Pl} (h : IM w W m l A0 B0 C0 A1 B1 C1 p q) (hb : Below W.heap.size W W') : IM w W' m l A0 B0 C0 A1 B1 C1 p q :=
  ⟨h.ip.grow hb, blk_below h.isl hb, h.ml⟩
theorem below_drew (w : World) : Below w.heap.size w w.drew := ⟨rfl, rfl, rfl, Nat.le_refl _, fun _ _ => rfl⟩

theorem made_start (m : Nat) (A0 B0 C0 A1 B1 C1 : Int) (w W : World) (h : IP w W m none none) (o1 o2 : Obj) :
    IM w (((W.alloc o1).alloc o2).alloc (.cells #[.int .i64 A0, .int .i64 B0, .int .i64 C0, .int .i64 A1, .int .i64 B1, .int .i64 C1] 72)) m (W.heap.size + 1 + 1) A0 B0 C0 A1 B1 C1 none none := by
  have b1 := (((Below.refl W.heap.size W).alloc (Nat.le_refl _) o1).alloc (by simp) o2).alloc (by simp; omega) (.cells #[.int .i64 A0, .int .i64 B0, .int .i64 C0, .int .i64 A1, .int .i64 B1, .int .i64 C1] 72)
  have b2 := blk_new ((W.alloc o1).alloc o2) (.cells #[.int .i64 A0, .int .i64 B0, .int .i64 C0, .int .i64 A1, .int .i64 B1, .int .i64 C1] 72)
  have hm : m < W.heap.size := blk_lt h.blk
  refine ⟨h.grow b1, ?_, by omega⟩
  simpa [IsL] using b2


set_option maxHeartbeats 8000000 in
set_option maxRecDepth 100000 in
theorem made_calls (m : Nat) (A0 B0 C0 A1 B1 C1 : Int) (w W : World) (h : IP w W m none none) :
    Calls Try.prog 26 #[.pointer (some ⟨m, 0, none⟩), .agg #[.int .i64 A0, .int .i64 B0, .int .i64 C0], .agg #[.int .i64 A1, .int .i64 B1, .int .i64 C1]] W fun e w' => e = .returned (.bool true) ∧ ∃ p q, IP w w' m p q := by
  have H := Aside0.mk (made_start m A0 B0 C0 A1 B1 C1 w W h (.cells #[.int .i64 A0, .int .i64 B0, .int .i64 C0] 23) (.cells #[.int .i64 A1, .int .i64 B1, .int .i64 C1] 23))
  clear h
  go_enter Try.func26, Try.ntmps26
  go_wp2_with fail
  generalize W.heap.size = c at *
  generalize hl : c + 1 + 1 = l at *
  go_loopg [8] 2 (fun kq v8 w' => ∃ (i : Nat) (p q : Pl), v8 = .int .i64 (i : Int) ∧ Aside0 (i + kq = 2) ∧ Aside0 (IM w w' m l A0 B0 C0 A1 B1 C1 p q) ∧ Aside0 ((i = 0 → p = none ∧ q = none) ∧ (i = 1 → q = none)))
  case atStart => exact ⟨0, none, none, rfl, ⟨by omega⟩, H, ⟨fun _ => ⟨rfl, rfl⟩, fun _ => rfl⟩⟩
  case round =>
    obtain ⟨i, p, q, rfl, HK, J, HN⟩ := hrel
    clear H
    by_cases c0 : i = 0
    · subst c0
      obtain ⟨rfl, rfl⟩ := HN.out.1 rfl
      clear HN
      by_cases hs : okShape A0 B0 C0
      · have hg := Bkt.new_good A0 B0 C0 hs
        cases gk with
        | zero => exact absurd HK.out (by omega)
        | succ k1 =>
          have a0 := blk_cell J.out.isl 0
          have a1 := blk_cell J.out.isl 1
          have a2 := blk_cell J.out.isl 2
          go_wp2_with fail
          refine wp_region_pivot 12 _ _ rfl (by kernel_rfl) (piv5' _ (by kernel_rfl)) ?_
          refine still_of_quiet _ _ ?_
          simp only [List.take_succ_cons, List.take_zero, List.drop_succ_cons, List.drop_zero]
          repeat (go_big_quiet_step (fail))
          refine wpQuiet_nil ?_
          change wpList _ _ _ _ _ wr.drew
          have K1 := Aside0.mk J.out.drew
          clear a0 a1 a2 J
          generalize wr.drew = w1 at *
          go_wp2_with (go_at_call 25; refine (new_calls A0 B0 C0 _ hs).mono ?_; rintro e w2 ⟨rfl, i1, e2⟩; have b1 : Below w1.heap.size w1 w2 := (by rw [e2]; exact (Below.refl _ _).alloc (Nat.le_refl _) _); have K2 := Aside0.mk (K1.out.grow b1); have B1 := Aside0.mk b1; have I1 := Aside0.mk i1; clear i1 b1 e2)
          show wpStill _ _ _ _ _ _
          refine still_of_quiet _ _ ?_
          repeat (go_big_quiet_step (fail))
          refine wpQuiet_nil ?_
          have a0 := blk_cell K2.out.isl 0
          have a1 := blk_cell K2.out.isl 1
          have a2 := blk_cell K2.out.isl 2
          go_wp2_with fail
          refine wp_region_pivot 12 _ _ rfl (by kernel_rfl) (piv6' _ (by kernel_rfl)) ?_
          refine still_of_quiet _ _ ?_
          simp only [List.take_succ_cons, List.take_zero, List.drop_succ_cons, List.drop_zero]
          repeat (go_big_quiet_step (fail))
          refine wpQuiet_nil ?_
          change wpList _ _ _ _ _ w2.drew
          have K3 := Aside0.mk K2.out.drew
          have B3 := Aside0.mk (below_step B1.out (below_drew w2))
          have I3 := Aside0.mk (show IsB w2.drew w1.heap.size _ from I1.out)
          clear I1
          clear a0 a1 a2 K2 B1
          generalize w2.drew = w3 at *
          go_wp2_with (go_at_call 37; refine (rnew_calls A0 B0 C0 _ hs).mono ?_; rintro e w4 ⟨rfl, i2, e4⟩; have b3 : Below w3.heap.size w3 w4 := (by rw [e4]; exact (Below.refl _ _).alloc (Nat.le_refl _) _); have K4 := Aside0.mk (K3.out.grow b3); have B4 := Aside0.mk (below_step B3.out b3); have I4 := Aside0.mk (blk_below I3.out b3); have I5 := Aside0.mk i2; have l1 : w1.heap.size < w3.heap.size := blk_lt I3.out; clear i2 I3 b3 e4 K3 B3)
          show wpStill _ _ _ _ _ _
          refine still_of_quiet _ _ ?_
          repeat (go_big_quiet_step (fail))
          refine wpQuiet_nil ?_
          have m0 := blk_cell K4.out.ip.blk 0
          have m2 := blk_cell K4.out.ip.blk 2
          have f0 := blk_frozen K4.out.ip.blk 0
          have f2 := blk_frozen K4.out.ip.blk 2
          go_wp2_with (go_at_call 14; refine (num_calls _ _).mono ?_; rintro e w5 ⟨rfl, rfl⟩)
          go_roundg k1
          case measure => have := HK.out; omega
          case rel => exact ⟨1, (some (w1.heap.size, w3.heap.size, _)), none, rfl, ⟨by have := HK.out; omega⟩, ⟨⟨K1.out.ip.put0 B4.out I4.out I5.out hg (by omega) (Nat.le_refl _) (by omega), (other2 K4.out.ml).trans K4.out.isl, K4.out.ml⟩⟩, ⟨fun h => absurd h (by decide), fun _ => rfl⟩⟩
      · cases gk with
        | zero => exact absurd HK.out (by omega)
        | succ k1 =>
          have a0 := blk_cell J.out.isl 0
          have a1 := blk_cell J.out.isl 1
          have a2 := blk_cell J.out.isl 2
          go_wp2_with fail
          refine wp_region_pivot 12 _ _ rfl (by kernel_rfl) (piv5' _ (by kernel_rfl)) ?_
          refine still_of_quiet _ _ ?_
          simp only [List.take_succ_cons, List.take_zero, List.drop_succ_cons, List.drop_zero]
          repeat (go_big_quiet_step (fail))
          refine wpQuiet_nil ?_
          change wpList _ _ _ _ _ wr.drew
          have K1 := Aside0.mk J.out.drew
          clear a0 a1 a2 J
          generalize wr.drew = w1 at *
          go_wp2_with (go_at_call 25; refine (new_refuses A0 B0 C0 _ hs).mono ?_; rintro e w2 ⟨rfl, e2⟩; have b1 : Below w1.heap.size w1 w2 := (by rw [e2]; exact Below.refl _ _); have K2 := Aside0.mk (K1.out.grow b1); have B1 := Aside0.mk b1; clear b1 e2)
          show wpStill _ _ _ _ _ _
          refine still_of_quiet _ _ ?_
          repeat (go_big_quiet_step (fail))
          refine wpQuiet_nil ?_
          have a0 := blk_cell K2.out.isl 0
          have a1 := blk_cell K2.out.isl 1
          have a2 := blk_cell K2.out.isl 2
          go_wp2_with fail
          refine wp_region_pivot 12 _ _ rfl (by kernel_rfl) (piv6' _ (by kernel_rfl)) ?_
          refine still_of_quiet _ _ ?_
          simp only [List.take_succ_cons, List.take_zero, List.drop_succ_cons, List.drop_zero]
          repeat (go_big_quiet_step (fail))
          refine wpQuiet_nil ?_
          change wpList _ _ _ _ _ w2.drew
          have K3 := Aside0.mk K2.out.drew
          have B3 := Aside0.mk (below_step B1.out (below_drew w2))
          clear a0 a1 a2 K2 B1
          generalize w2.drew = w3 at *
          go_wp2_with (go_at_call 37; refine (rnew_refuses A0 B0 C0 _ hs).mono ?_; rintro e w4 ⟨rfl, e4⟩; have b3 : Below w3.heap.size w3 w4 := (by rw [e4]; exact Below.refl _ _); have K4 := Aside0.mk (K3.out.grow b3); have B4 := Aside0.mk (below_step B3.out b3); clear b3 e4 K3 B3)
          show wpStill _ _ _ _ _ _
          refine still_of_quiet _ _ ?_
          repeat (go_big_quiet_step (fail))
          refine wpQuiet_nil ?_
          have m0 := blk_cell K4.out.ip.blk 0
          have m2 := blk_cell K4.out.ip.blk 2
          have f0 := blk_frozen K4.out.ip.blk 0
          have f2 := blk_frozen K4.out.ip.blk 2
          go_wp2_with (go_at_call 14; refine (num_calls _ _).mono ?_; rintro e w5 ⟨rfl, rfl⟩)
          go_roundg k1
          case measure => have := HK.out; omega
          case rel => exact ⟨1, none, none, rfl, ⟨by have := HK.out; omega⟩, ⟨⟨K1.out.ip.nil0 B4.out, (other2 K4.out.ml).trans K4.out.isl, K4.out.ml⟩⟩, ⟨fun h => absurd h (by decide), fun _ => rfl⟩⟩
    by_cases c1 : i = 1
    · subst c1
      obtain rfl := HN.out.2 rfl
      clear HN
      by_cases hs : okShape A1 B1 C1
      · have hg := Bkt.new_good A1 B1 C1 hs
        cases gk with
        | zero => exact absurd HK.out (by omega)
        | succ k1 =>
          have a0 := blk_cell J.out.isl 3
          have a1 := blk_cell J.out.isl 4
          have a2 := blk_cell J.out.isl 5
          go_wp2_with fail
          refine wp_region_pivot 12 _ _ rfl (by kernel_rfl) (piv5' _ (by kernel_rfl)) ?_
          refine still_of_quiet _ _ ?_
          simp only [List.take_succ_cons, List.take_zero, List.drop_succ_cons, List.drop_zero]
          repeat (go_big_quiet_step (fail))
          refine wpQuiet_nil ?_
          change wpList _ _ _ _ _ wr.drew
          have K1 := Aside0.mk J.out.drew
          clear a0 a1 a2 J
          generalize wr.drew = w1 at *
          go_wp2_with (go_at_call 25; refine (new_calls A1 B1 C1 _ hs).mono ?_; rintro e w2 ⟨rfl, i1, e2⟩; have b1 : Below w1.heap.size w1 w2 := (by rw [e2]; exact (Below.refl _ _).alloc (Nat.le_refl _) _); have K2 := Aside0.mk (K1.out.grow b1); have B1 := Aside0.mk b1; have I1 := Aside0.mk i1; clear i1 b1 e2)
          show wpStill _ _ _ _ _ _
          refine still_of_quiet _ _ ?_
          repeat (go_big_quiet_step (fail))
          refine wpQuiet_nil ?_
          have a0 := blk_cell K2.out.isl 3
          have a1 := blk_cell K2.out.isl 4
          have a2 := blk_cell K2.out.isl 5
          go_wp2_with fail
          refine wp_region_pivot 12 _ _ rfl (by kernel_rfl) (piv6' _ (by kernel_rfl)) ?_
          refine still_of_quiet _ _ ?_
          simp only [List.take_succ_cons, List.take_zero, List.drop_succ_cons, List.drop_zero]
          repeat (go_big_quiet_step (fail))
          refine wpQuiet_nil ?_
          change wpList _ _ _ _ _ w2.drew
          have K3 := Aside0.mk K2.out.drew
          have B3 := Aside0.mk (below_step B1.out (below_drew w2))
          have I3 := Aside0.mk (show IsB w2.drew w1.heap.size _ from I1.out)
          clear I1
          clear a0 a1 a2 K2 B1
          generalize w2.drew = w3 at *
          go_wp2_with (go_at_call 37; refine (rnew_calls A1 B1 C1 _ hs).mono ?_; rintro e w4 ⟨rfl, i2, e4⟩; have b3 : Below w3.heap.size w3 w4 := (by rw [e4]; exact (Below.refl _ _).alloc (Nat.le_refl _) _); have K4 := Aside0.mk (K3.out.grow b3); have B4 := Aside0.mk (below_step B3.out b3); have I4 := Aside0.mk (blk_below I3.out b3); have I5 := Aside0.mk i2; have l1 : w1.heap.size < w3.heap.size := blk_lt I3.out; clear i2 I3 b3 e4 K3 B3)
          show wpStill _ _ _ _ _ _
          refine still_of_quiet _ _ ?_
          repeat (go_big_quiet_step (fail))
          refine wpQuiet_nil ?_
          have m0 := blk_cell K4.out.ip.blk 1
          have m2 := blk_cell K4.out.ip.blk 3
          have f0 := blk_frozen K4.out.ip.blk 1
          have f2 := blk_frozen K4.out.ip.blk 3
          go_wp2_with (go_at_call 14; refine (num_calls _ _).mono ?_; rintro e w5 ⟨rfl, rfl⟩)
          go_roundg k1
          case measure => have := HK.out; omega
          case rel => exact ⟨2, p, (some (w1.heap.size, w3.heap.size, _)), rfl, ⟨by have := HK.out; omega⟩, ⟨⟨K1.out.ip.put1 B4.out I4.out I5.out hg (by omega) (Nat.le_refl _) (by omega), (other2 K4.out.ml).trans K4.out.isl, K4.out.ml⟩⟩, ⟨fun h => absurd h (by decide), fun h => absurd h (by decide)⟩⟩
      · cases gk with
        | zero => exact absurd HK.out (by omega)
        | succ k1 =>
          have a0 := blk_cell J.out.isl 3
          have a1 := blk_cell J.out.isl 4
          have a2 := blk_cell J.out.isl 5
          go_wp2_with fail
          refine wp_region_pivot 12 _ _ rfl (by kernel_rfl) (piv5' _ (by kernel_rfl)) ?_
          refine still_of_quiet _ _ ?_
          simp only [List.take_succ_cons, List.take_zero, List.drop_succ_cons, List.drop_zero]
          repeat (go_big_quiet_step (fail))
          refine wpQuiet_nil ?_
          change wpList _ _ _ _ _ wr.drew
          have K1 := Aside0.mk J.out.drew
          clear a0 a1 a2 J
          generalize wr.drew = w1 at *
          go_wp2_with (go_at_call 25; refine (new_refuses A1 B1 C1 _ hs).mono ?_; rintro e w2 ⟨rfl, e2⟩; have b1 : Below w1.heap.size w1 w2 := (by rw [e2]; exact Below.refl _ _); have K2 := Aside0.mk (K1.out.grow b1); have B1 := Aside0.mk b1; clear b1 e2)
          show wpStill _ _ _ _ _ _
          refine still_of_quiet _ _ ?_
          repeat (go_big_quiet_step (fail))
          refine wpQuiet_nil ?_
          have a0 := blk_cell K2.out.isl 3
          have a1 := blk_cell K2.out.isl 4
          have a2 := blk_cell K2.out.isl 5
          go_wp2_with fail
          refine wp_region_pivot 12 _ _ rfl (by kernel_rfl) (piv6' _ (by kernel_rfl)) ?_
          refine still_of_quiet _ _ ?_
          simp only [List.take_succ_cons, List.take_zero, List.drop_succ_cons, List.drop_zero]
          repeat (go_big_quiet_step (fail))
          refine wpQuiet_nil ?_
          change wpList _ _ _ _ _ w2.drew
          have K3 := Aside0.mk K2.out.drew
          have B3 := Aside0.mk (below_step B1.out (below_drew w2))
          clear a0 a1 a2 K2 B1
          generalize w2.drew = w3 at *
          go_wp2_with (go_at_call 37; refine (rnew_refuses A1 B1 C1 _ hs).mono ?_; rintro e w4 ⟨rfl, e4⟩; have b3 : Below w3.heap.size w3 w4 := (by rw [e4]; exact Below.refl _ _); have K4 := Aside0.mk (K3.out.grow b3); have B4 := Aside0.mk (below_step B3.out b3); clear b3 e4 K3 B3)
          show wpStill _ _ _ _ _ _
          refine still_of_quiet _ _ ?_
          repeat (go_big_quiet_step (fail))
          refine wpQuiet_nil ?_
          have m0 := blk_cell K4.out.ip.blk 1
          have m2 := blk_cell K4.out.ip.blk 3
          have f0 := blk_frozen K4.out.ip.blk 1
          have f2 := blk_frozen K4.out.ip.blk 3
          go_wp2_with (go_at_call 14; refine (num_calls _ _).mono ?_; rintro e w5 ⟨rfl, rfl⟩)
          go_roundg k1
          case measure => have := HK.out; omega
          case rel => exact ⟨2, p, none, rfl, ⟨by have := HK.out; omega⟩, ⟨⟨K1.out.ip.nil1 B4.out, (other2 K4.out.ml).trans K4.out.isl, K4.out.ml⟩⟩, ⟨fun h => absurd h (by decide), fun h => absurd h (by decide)⟩⟩
    · have c2 : i = 2 := by have := HK.out; omega
      subst c2
      clear HN c0 c1
      cases p with
      | some x =>
        have m2 : wr.cell? ⟨m, 2, none⟩ = some (.pointer (some ⟨x.2.1, 0, none⟩)) := blk_cell J.out.ip.blk 2
        go_wp2_with fail
        go_ret
        exact ⟨rfl, _, _, J.out.ip⟩
      | none =>
        have m2 : wr.cell? ⟨m, 2, none⟩ = some (.pointer none) := blk_cell J.out.ip.blk 2
        have hs : okShape 10 4 64 := by decide
        have hg := Bkt.new_good 10 4 64 hs
        have M2 := Aside0.mk m2
        go_wp2_with (first
          | (go_at_call 25; refine (new_calls 10 4 64 _ hs).mono ?_; rintro e w2 ⟨rfl, i1, e2⟩; have b1 : Below wr.heap.size wr w2 := (by rw [e2]; exact (Below.refl _ _).alloc (Nat.le_refl _) _); have I1 := Aside0.mk i1; have B1 := Aside0.mk b1; clear i1 b1 e2 m2)
          | (go_at_call 37; refine (rnew_calls 10 4 64 _ hs).mono ?_; rintro e w4 ⟨rfl, i2, e4⟩; have b3 : Below w2.heap.size w2 w4 := (by rw [e4]; exact (Below.refl _ _).alloc (Nat.le_refl _) _); have K4 := Aside0.mk (J.out.grow (below_step B1.out b3)); have B4 := Aside0.mk (below_step B1.out b3); have I4 := Aside0.mk (blk_below I1.out b3); have I5 := Aside0.mk i2; have l1 : wr.heap.size < w2.heap.size := blk_lt I1.out; clear i2 I1 b3 e4 B1; have m0 := blk_cell K4.out.ip.blk 0; have m2 := blk_cell K4.out.ip.blk 2; have f0 := blk_frozen K4.out.ip.blk 0; have f2 := blk_frozen K4.out.ip.blk 2)
          | (go_at_call 14; refine (num_calls _ _).mono ?_; rintro e w5 ⟨rfl, rfl⟩))
        go_ret
        exact ⟨rfl, _, _, J.out.ip.put0 B4.out I4.out I5.out hg (by omega) (Nat.le_refl _) (by omega)⟩

end Go.Proofs.Ythajekcjgkidhaa.Q
