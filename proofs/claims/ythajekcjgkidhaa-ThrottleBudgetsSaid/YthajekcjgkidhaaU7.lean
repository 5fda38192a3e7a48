/- Contract of (*purses).made, and the walk of granarylaw10.ThrottleBudgets: it answers true at every input. Condition: the script is read and as long as a memory can hold. -/
import Derived.Test.YthajekcjgkidhaaProg
import Derived.Below
import Derived.Deep.Draws
import Derived.Deep.AppendLies
import Derived.Maps.AppendAt
import Derived.OwnWalk
import Derived.Laws.BytesArg
import Derived.Laws.MakeOwn
import Derived.Laws.OwnMore
import Derived.Deep.OwnRows
import Derived.Tactics
import Derived.Lib.ConvBytes
import Derived.Laws.Slices
import Derived.WalkKit
import Derived.KernelRfl
import Derived.RowKit3
import Derived.Deep.LoopGhost
import Derived.Deep.QuietTactic
import Derived.BigQuiet
import Derived.WideLaws
import Derived.Deep.DeepCutAuto
import Derived.Deep.CutBlock
import Derived.Deep.RegionHeld3
import Derived.Laws.Rows
import Derived.Lib.AppendStr
import Derived.ArgAppend
import Derived.Laws.IdiomCopy
import Derived.OrdersHeld
import Derived.Laws.BitsLemmas
import Derived.RowKit
import Derived.Test.YthajekcjgkidhaaWWords
import Derived.Test.YthajekcjgkidhaaWLast
import Derived.Test.YthajekcjgkidhaaWTab
import Derived.Test.YthajekcjgkidhaaWFour
import Derived.Test.YthajekcjgkidhaaWQPut
import Derived.Test.YthajekcjgkidhaaWApart
import Derived.Test.YthajekcjgkidhaaWArr
import Derived.Test.YthajekcjgkidhaaWZeros
import Derived.Test.YthajekcjgkidhaaWFoot
import Derived.Test.YthajekcjgkidhaaWKept
import Derived.Test.YthajekcjgkidhaaWShare
import Derived.Test.YthajekcjgkidhaaWN
import Derived.Test.YthajekcjgkidhaaWFootNe
import Derived.Test.YthajekcjgkidhaaWAt
import Derived.Test.YthajekcjgkidhaaWEqStruct
import Derived.Test.YthajekcjgkidhaaWRepsOne
import Derived.Test.YthajekcjgkidhaaWInv
import Derived.Test.YthajekcjgkidhaaWInvWords
import Derived.Test.YthajekcjgkidhaaWGuard
import Derived.Test.YthajekcjgkidhaaWNEv
import Derived.Test.YthajekcjgkidhaaWMore
import Derived.Test.YthajekcjgkidhaaLocks
import Derived.Conc.MuLone
import Derived.Test.YthajekcjgkidhaaU6
set_option linter.unusedVariables false
set_option linter.unusedSimpArgs false
namespace Go.Proofs.Ythajekcjgkidhaa.Q
open Go.RowKit Go.Proofs.YthajekcjgkidhaaW.PrintWords Go.Proofs.YthajekcjgkidhaaW.PrintLast Go.Proofs.YthajekcjgkidhaaW.PrintMore
open Go.MuLone Go.FM Go.Plan Go.Pivot

/-- The two shapes, in a block. -/
def IsLB (W : World) (l : Nat) (A0 B0 C0 A1 B1 C1 : Int) : Prop := W.heap[l]? = some (.cells #[.int .i64 A0, .int .i64 B0, .int .i64 C0, .int .i64 A1, .int .i64 B1, .int .i64 C1] 72 (0, 0))
structure IMB (w W : World) (m l : Nat) (A0 B0 C0 A1 B1 C1 : Int) (p q : Qp) : Prop where
  ip : IQ w W m 0 p q
  isl : IsLB W l A0 B0 C0 A1 B1 C1
  ml : l ≠ m
theorem below_drewB (w : World) : Below w.heap.size w w.drew := ⟨rfl, rfl, rfl, Nat.le_refl _, fun _ _ => rfl⟩
theorem IMB.grow {w W W' : World} {m l : Nat} {A0 B0 C0 A1 B1 C1 : Int} {p q : Qp} (h : IMB w W m l A0 B0 C0 A1 B1 C1 p q) (hb : Below W.heap.size W W') : IMB w W' m l A0 B0 C0 A1 B1 C1 p q :=
  ⟨h.ip.grow hb, blk_below h.isl hb, h.ml⟩
theorem IMB.drew {w W : World} {m l : Nat} {A0 B0 C0 A1 B1 C1 : Int} {p q : Qp} (h : IMB w W m l A0 B0 C0 A1 B1 C1 p q) : IMB w W.drew m l A0 B0 C0 A1 B1 C1 p q := h.grow (below_drewB W)

theorem bmade_start (m : Nat) (A0 B0 C0 A1 B1 C1 : Int) (w W : World) (h : IQ w W m 0 none none) (o1 o2 : Obj) :
    IMB w (((W.alloc o1).alloc o2).alloc (.cells #[.int .i64 A0, .int .i64 B0, .int .i64 C0, .int .i64 A1, .int .i64 B1, .int .i64 C1] 72)) m (W.heap.size + 1 + 1) A0 B0 C0 A1 B1 C1 none none := by
  have b1 := (((Below.refl W.heap.size W).alloc (Nat.le_refl _) o1).alloc (by simp) o2).alloc (by simp; omega) (.cells #[.int .i64 A0, .int .i64 B0, .int .i64 C0, .int .i64 A1, .int .i64 B1, .int .i64 C1] 72)
  have b2 := blk_new ((W.alloc o1).alloc o2) (.cells #[.int .i64 A0, .int .i64 B0, .int .i64 C0, .int .i64 A1, .int .i64 B1, .int .i64 C1] 72)
  have hm : m < W.heap.size := blk_lt h.blk
  refine ⟨h.grow b1, ?_, by omega⟩
  simpa [IsLB] using b2


def BMade (w : World) (m : Nat) (e : Ending) (w' : World) : Prop := e = .returned (.bool true) ∧ ∃ p q, IQ w w' m 0 p q
set_option maxHeartbeats 8000000 in
set_option maxRecDepth 100000 in
theorem bmade_calls (m : Nat) (A0 B0 C0 A1 B1 C1 : Int) (w W : World) (h : IQ w W m 0 none none) :
    Calls Try.prog 10 #[.pointer (some ⟨m, 0, none⟩), .agg #[.int .i64 A0, .int .i64 B0, .int .i64 C0], .agg #[.int .i64 A1, .int .i64 B1, .int .i64 C1]] W (BMade w m) := by
  have H := Aside0.mk (bmade_start m A0 B0 C0 A1 B1 C1 w W h (.cells #[.int .i64 A0, .int .i64 B0, .int .i64 C0] 23) (.cells #[.int .i64 A1, .int .i64 B1, .int .i64 C1] 23))
  clear h
  go_enter Try.func10, Try.ntmps10
  go_wp2_with fail
  generalize W.heap.size = c at *
  generalize hl : c + 1 + 1 = l at *
  go_loopg [8] 2 (fun kq v8 w' => ∃ (i : Nat) (p q : Qp), v8 = .int .i64 (i : Int) ∧ Aside0 (i + kq = 2) ∧ Aside0 (IMB w w' m l A0 B0 C0 A1 B1 C1 p q) ∧ Aside0 ((i = 0 → p = none ∧ q = none) ∧ (i = 1 → q = none)))
  case atStart => exact ⟨0, none, none, rfl, ⟨by omega⟩, H, ⟨fun _ => ⟨rfl, rfl⟩, fun _ => rfl⟩⟩
  case round =>
    obtain ⟨i, p, q, rfl, HK, J, HN⟩ := hrel
    clear H
    by_cases c0 : i = 0
    · subst c0
      obtain ⟨rfl, rfl⟩ := HN.out.1 rfl
      clear HN
      by_cases hs : okBud A0 B0 C0
      · cases gk with
        | zero => exact absurd HK.out (by omega)
        | succ k1 =>
          have a0 := blk_cell J.out.isl 0
          have a1 := blk_cell J.out.isl 1
          have a2 := blk_cell J.out.isl 2
          go_wp2_with fail
          refine wp_region_pivot 12 _ _ rfl (by kernel_rfl) (pv5' _ (by kernel_rfl)) ?_
          refine still_of_quiet _ _ ?_
          simp only [List.take_succ_cons, List.take_zero, List.drop_succ_cons, List.drop_zero]
          repeat (go_big_quiet_step (fail))
          refine wpQuiet_nil ?_
          change wpList _ _ _ _ _ wr.drew
          have K1 := Aside0.mk J.out.drew
          clear a0 a1 a2 J
          generalize wr.drew = w1 at *
          go_wp2_with (go_at_call 12; refine (unew_calls A0 B0 C0 _ hs).mono ?_; rintro e w2 ⟨rfl, i1, b1, z1⟩; have K2 := Aside0.mk (K1.out.grow b1); have B1 := Aside0.mk b1; have I1 := Aside0.mk i1; have Z1 := Aside0.mk z1; clear i1 b1 z1)
          show wpStill _ _ _ _ _ _
          refine still_of_quiet _ _ ?_
          repeat (go_big_quiet_step (fail))
          refine wpQuiet_nil ?_
          have a0 := blk_cell K2.out.isl 0
          have a1 := blk_cell K2.out.isl 1
          have a2 := blk_cell K2.out.isl 2
          go_wp2_with fail
          refine wp_region_pivot 12 _ _ rfl (by kernel_rfl) (pv6' _ (by kernel_rfl)) ?_
          refine still_of_quiet _ _ ?_
          simp only [List.take_succ_cons, List.take_zero, List.drop_succ_cons, List.drop_zero]
          repeat (go_big_quiet_step (fail))
          refine wpQuiet_nil ?_
          change wpList _ _ _ _ _ w2.drew
          have K3 := Aside0.mk K2.out.drew
          have B3 := Aside0.mk (below_step B1.out (below_drewB w2))
          have I3 := Aside0.mk (show IsU w2.drew (w1.heap.size + 1) w1.heap.size _ _ _ _ from ⟨I1.out.blk, I1.out.fm.below rfl, I1.out.gr⟩)
          have Z3 := Aside0.mk (show w2.drew.heap.size = w1.heap.size + 2 from Z1.out)
          clear I1 Z1
          clear a0 a1 a2 K2 B1
          generalize w2.drew = w3 at *
          go_wp2_with (go_at_call 29; refine (runew_calls A0 B0 C0 _ hs).mono ?_; rintro e w4 ⟨rfl, i2, b3, z2⟩; have K4 := Aside0.mk (K3.out.grow b3); have B4 := Aside0.mk (below_step B3.out b3); have I4 := Aside0.mk (show IsU w4 (w1.heap.size + 1) w1.heap.size _ _ _ _ from ⟨blk_below I3.out.blk b3, I3.out.fm.below (b3.block _ I3.out.fm.lt), I3.out.gr⟩); have I5 := Aside0.mk (i2 w.heap.size); clear i2 I3 b3 z2 K3 B3)
          show wpStill _ _ _ _ _ _
          refine still_of_quiet _ _ ?_
          repeat (go_big_quiet_step (fail))
          refine wpQuiet_nil ?_
          have m0 := blk_cell K4.out.ip.blk 0
          have m2 := blk_cell K4.out.ip.blk 2
          have f0 := blk_frozen K4.out.ip.blk 0
          have f2 := blk_frozen K4.out.ip.blk 2
          go_wp2_with (go_at_call 14; refine (num_calls _ _).mono ?_; rintro e w5 ⟨rfl, rfl⟩)
          have hz := K1.out.ip.below.size
          have hz3 := Z3.out
          have ST := Aside0.mk (Pb.fresh_st (B := w.heap.size) (g := w1.heap.size + 1) (r := w1.heap.size) (k := w3.heap.size) hs (by omega) hz (by omega) (by omega) (by omega))
          have NW := Aside0.mk (Pb.fresh_new (B := w1.heap.size) (g := w1.heap.size + 1) (r := w1.heap.size) (k := w3.heap.size) (t := A0) (b := B0) (m := C0) (by omega) (Nat.le_refl _) (by omega))
          have HP := Aside0.mk (K1.out.ip.put0 (x := Pb.fresh (w1.heap.size + 1) w1.heap.size w3.heap.size A0 B0 C0) B4.out ⟨I4.out, I5.out⟩ ST.out NW.out (Nat.zero_le _))
          clear hz hz3
          go_roundg k1
          case measure => have := HK.out; omega
          case rel => exact ⟨1, (some (Pb.fresh (w1.heap.size + 1) w1.heap.size w3.heap.size A0 B0 C0)), none, rfl, ⟨by have := HK.out; omega⟩, ⟨⟨HP.out, (otherU2 K4.out.ml).trans K4.out.isl, K4.out.ml⟩⟩, ⟨fun h => absurd h (by decide), fun _ => rfl⟩⟩
      · cases gk with
        | zero => exact absurd HK.out (by omega)
        | succ k1 =>
          have a0 := blk_cell J.out.isl 0
          have a1 := blk_cell J.out.isl 1
          have a2 := blk_cell J.out.isl 2
          go_wp2_with fail
          refine wp_region_pivot 12 _ _ rfl (by kernel_rfl) (pv5' _ (by kernel_rfl)) ?_
          refine still_of_quiet _ _ ?_
          simp only [List.take_succ_cons, List.take_zero, List.drop_succ_cons, List.drop_zero]
          repeat (go_big_quiet_step (fail))
          refine wpQuiet_nil ?_
          change wpList _ _ _ _ _ wr.drew
          have K1 := Aside0.mk J.out.drew
          clear a0 a1 a2 J
          generalize wr.drew = w1 at *
          go_wp2_with (go_at_call 12; refine (unew_refuses A0 B0 C0 _ hs).mono ?_; rintro e w2 ⟨rfl, e2⟩; have b1 : Below w1.heap.size w1 w2 := (by rw [e2]; exact Below.refl _ _); have K2 := Aside0.mk (K1.out.grow b1); have B1 := Aside0.mk b1; clear b1 e2)
          show wpStill _ _ _ _ _ _
          refine still_of_quiet _ _ ?_
          repeat (go_big_quiet_step (fail))
          refine wpQuiet_nil ?_
          have a0 := blk_cell K2.out.isl 0
          have a1 := blk_cell K2.out.isl 1
          have a2 := blk_cell K2.out.isl 2
          go_wp2_with fail
          refine wp_region_pivot 12 _ _ rfl (by kernel_rfl) (pv6' _ (by kernel_rfl)) ?_
          refine still_of_quiet _ _ ?_
          simp only [List.take_succ_cons, List.take_zero, List.drop_succ_cons, List.drop_zero]
          repeat (go_big_quiet_step (fail))
          refine wpQuiet_nil ?_
          change wpList _ _ _ _ _ w2.drew
          have K3 := Aside0.mk K2.out.drew
          have B3 := Aside0.mk (below_step B1.out (below_drewB w2))
          clear a0 a1 a2 K2 B1
          generalize w2.drew = w3 at *
          go_wp2_with (go_at_call 29; refine (runew_refuses A0 B0 C0 _ hs).mono ?_; rintro e w4 ⟨rfl, e4⟩; have b3 : Below w3.heap.size w3 w4 := (by rw [e4]; exact Below.refl _ _); have K4 := Aside0.mk (K3.out.grow b3); have B4 := Aside0.mk (below_step B3.out b3); clear b3 e4 K3 B3)
          show wpStill _ _ _ _ _ _
          refine still_of_quiet _ _ ?_
          repeat (go_big_quiet_step (fail))
          refine wpQuiet_nil ?_
          have m0 := blk_cell K4.out.ip.blk 0
          have m2 := blk_cell K4.out.ip.blk 2
          have f0 := blk_frozen K4.out.ip.blk 0
          have f2 := blk_frozen K4.out.ip.blk 2
          go_wp2_with (go_at_call 14; refine (num_calls _ _).mono ?_; rintro e w5 ⟨rfl, rfl⟩)
          go_roundg k1
          case measure => have := HK.out; omega
          case rel => exact ⟨1, none, none, rfl, ⟨by have := HK.out; omega⟩, ⟨⟨K1.out.ip.nil0 B4.out, (otherU2 K4.out.ml).trans K4.out.isl, K4.out.ml⟩⟩, ⟨fun h => absurd h (by decide), fun _ => rfl⟩⟩
    by_cases c1 : i = 1
    · subst c1
      obtain rfl := HN.out.2 rfl
      clear HN
      by_cases hs : okBud A1 B1 C1
      · cases gk with
        | zero => exact absurd HK.out (by omega)
        | succ k1 =>
          have a0 := blk_cell J.out.isl 3
          have a1 := blk_cell J.out.isl 4
          have a2 := blk_cell J.out.isl 5
          go_wp2_with fail
          refine wp_region_pivot 12 _ _ rfl (by kernel_rfl) (pv5' _ (by kernel_rfl)) ?_
          refine still_of_quiet _ _ ?_
          simp only [List.take_succ_cons, List.take_zero, List.drop_succ_cons, List.drop_zero]
          repeat (go_big_quiet_step (fail))
          refine wpQuiet_nil ?_
          change wpList _ _ _ _ _ wr.drew
          have K1 := Aside0.mk J.out.drew
          clear a0 a1 a2 J
          generalize wr.drew = w1 at *
          go_wp2_with (go_at_call 12; refine (unew_calls A1 B1 C1 _ hs).mono ?_; rintro e w2 ⟨rfl, i1, b1, z1⟩; have K2 := Aside0.mk (K1.out.grow b1); have B1 := Aside0.mk b1; have I1 := Aside0.mk i1; have Z1 := Aside0.mk z1; clear i1 b1 z1)
          show wpStill _ _ _ _ _ _
          refine still_of_quiet _ _ ?_
          repeat (go_big_quiet_step (fail))
          refine wpQuiet_nil ?_
          have a0 := blk_cell K2.out.isl 3
          have a1 := blk_cell K2.out.isl 4
          have a2 := blk_cell K2.out.isl 5
          go_wp2_with fail
          refine wp_region_pivot 12 _ _ rfl (by kernel_rfl) (pv6' _ (by kernel_rfl)) ?_
          refine still_of_quiet _ _ ?_
          simp only [List.take_succ_cons, List.take_zero, List.drop_succ_cons, List.drop_zero]
          repeat (go_big_quiet_step (fail))
          refine wpQuiet_nil ?_
          change wpList _ _ _ _ _ w2.drew
          have K3 := Aside0.mk K2.out.drew
          have B3 := Aside0.mk (below_step B1.out (below_drewB w2))
          have I3 := Aside0.mk (show IsU w2.drew (w1.heap.size + 1) w1.heap.size _ _ _ _ from ⟨I1.out.blk, I1.out.fm.below rfl, I1.out.gr⟩)
          have Z3 := Aside0.mk (show w2.drew.heap.size = w1.heap.size + 2 from Z1.out)
          clear I1 Z1
          clear a0 a1 a2 K2 B1
          generalize w2.drew = w3 at *
          go_wp2_with (go_at_call 29; refine (runew_calls A1 B1 C1 _ hs).mono ?_; rintro e w4 ⟨rfl, i2, b3, z2⟩; have K4 := Aside0.mk (K3.out.grow b3); have B4 := Aside0.mk (below_step B3.out b3); have I4 := Aside0.mk (show IsU w4 (w1.heap.size + 1) w1.heap.size _ _ _ _ from ⟨blk_below I3.out.blk b3, I3.out.fm.below (b3.block _ I3.out.fm.lt), I3.out.gr⟩); have I5 := Aside0.mk (i2 w.heap.size); clear i2 I3 b3 z2 K3 B3)
          show wpStill _ _ _ _ _ _
          refine still_of_quiet _ _ ?_
          repeat (go_big_quiet_step (fail))
          refine wpQuiet_nil ?_
          have m0 := blk_cell K4.out.ip.blk 1
          have m2 := blk_cell K4.out.ip.blk 3
          have f0 := blk_frozen K4.out.ip.blk 1
          have f2 := blk_frozen K4.out.ip.blk 3
          go_wp2_with (go_at_call 14; refine (num_calls _ _).mono ?_; rintro e w5 ⟨rfl, rfl⟩)
          have hz := K1.out.ip.below.size
          have hz3 := Z3.out
          have ST := Aside0.mk (Pb.fresh_st (B := w.heap.size) (g := w1.heap.size + 1) (r := w1.heap.size) (k := w3.heap.size) hs (by omega) hz (by omega) (by omega) (by omega))
          have NW := Aside0.mk (Pb.fresh_new (B := w1.heap.size) (g := w1.heap.size + 1) (r := w1.heap.size) (k := w3.heap.size) (t := A1) (b := B1) (m := C1) (by omega) (Nat.le_refl _) (by omega))
          have HP := Aside0.mk (K1.out.ip.put1 (x := Pb.fresh (w1.heap.size + 1) w1.heap.size w3.heap.size A1 B1 C1) B4.out ⟨I4.out, I5.out⟩ ST.out NW.out (Nat.zero_le _))
          clear hz hz3
          go_roundg k1
          case measure => have := HK.out; omega
          case rel => exact ⟨2, p, (some (Pb.fresh (w1.heap.size + 1) w1.heap.size w3.heap.size A1 B1 C1)), rfl, ⟨by have := HK.out; omega⟩, ⟨⟨HP.out, (otherU2 K4.out.ml).trans K4.out.isl, K4.out.ml⟩⟩, ⟨fun h => absurd h (by decide), fun h => absurd h (by decide)⟩⟩
      · cases gk with
        | zero => exact absurd HK.out (by omega)
        | succ k1 =>
          have a0 := blk_cell J.out.isl 3
          have a1 := blk_cell J.out.isl 4
          have a2 := blk_cell J.out.isl 5
          go_wp2_with fail
          refine wp_region_pivot 12 _ _ rfl (by kernel_rfl) (pv5' _ (by kernel_rfl)) ?_
          refine still_of_quiet _ _ ?_
          simp only [List.take_succ_cons, List.take_zero, List.drop_succ_cons, List.drop_zero]
          repeat (go_big_quiet_step (fail))
          refine wpQuiet_nil ?_
          change wpList _ _ _ _ _ wr.drew
          have K1 := Aside0.mk J.out.drew
          clear a0 a1 a2 J
          generalize wr.drew = w1 at *
          go_wp2_with (go_at_call 12; refine (unew_refuses A1 B1 C1 _ hs).mono ?_; rintro e w2 ⟨rfl, e2⟩; have b1 : Below w1.heap.size w1 w2 := (by rw [e2]; exact Below.refl _ _); have K2 := Aside0.mk (K1.out.grow b1); have B1 := Aside0.mk b1; clear b1 e2)
          show wpStill _ _ _ _ _ _
          refine still_of_quiet _ _ ?_
          repeat (go_big_quiet_step (fail))
          refine wpQuiet_nil ?_
          have a0 := blk_cell K2.out.isl 3
          have a1 := blk_cell K2.out.isl 4
          have a2 := blk_cell K2.out.isl 5
          go_wp2_with fail
          refine wp_region_pivot 12 _ _ rfl (by kernel_rfl) (pv6' _ (by kernel_rfl)) ?_
          refine still_of_quiet _ _ ?_
          simp only [List.take_succ_cons, List.take_zero, List.drop_succ_cons, List.drop_zero]
          repeat (go_big_quiet_step (fail))
          refine wpQuiet_nil ?_
          change wpList _ _ _ _ _ w2.drew
          have K3 := Aside0.mk K2.out.drew
          have B3 := Aside0.mk (below_step B1.out (below_drewB w2))
          clear a0 a1 a2 K2 B1
          generalize w2.drew = w3 at *
          go_wp2_with (go_at_call 29; refine (runew_refuses A1 B1 C1 _ hs).mono ?_; rintro e w4 ⟨rfl, e4⟩; have b3 : Below w3.heap.size w3 w4 := (by rw [e4]; exact Below.refl _ _); have K4 := Aside0.mk (K3.out.grow b3); have B4 := Aside0.mk (below_step B3.out b3); clear b3 e4 K3 B3)
          show wpStill _ _ _ _ _ _
          refine still_of_quiet _ _ ?_
          repeat (go_big_quiet_step (fail))
          refine wpQuiet_nil ?_
          have m0 := blk_cell K4.out.ip.blk 1
          have m2 := blk_cell K4.out.ip.blk 3
          have f0 := blk_frozen K4.out.ip.blk 1
          have f2 := blk_frozen K4.out.ip.blk 3
          go_wp2_with (go_at_call 14; refine (num_calls _ _).mono ?_; rintro e w5 ⟨rfl, rfl⟩)
          go_roundg k1
          case measure => have := HK.out; omega
          case rel => exact ⟨2, p, none, rfl, ⟨by have := HK.out; omega⟩, ⟨⟨K1.out.ip.nil1 B4.out, (otherU2 K4.out.ml).trans K4.out.isl, K4.out.ml⟩⟩, ⟨fun h => absurd h (by decide), fun h => absurd h (by decide)⟩⟩
    · have c2 : i = 2 := by have := HK.out; omega
      subst c2
      clear HN c0 c1
      cases p with
      | some x =>
        have m2 : wr.cell? ⟨m, 2, none⟩ = some (.pointer (some ⟨x.k, 0, none⟩)) := blk_cell J.out.ip.blk 2
        go_wp2_with fail
        go_ret
        exact ⟨rfl, _, _, J.out.ip⟩
      | none =>
        have m2 : wr.cell? ⟨m, 2, none⟩ = some (.pointer none) := blk_cell J.out.ip.blk 2
        have hs : okBud 4 3 8 := by decide
        have M2 := Aside0.mk m2
        go_wp2_with (first
          | (go_at_call 12; refine (unew_calls 4 3 8 _ hs).mono ?_; rintro e w2 ⟨rfl, i1, b1, z1⟩; have I1 := Aside0.mk i1; have B1 := Aside0.mk b1; have Z1 := Aside0.mk z1; clear i1 b1 z1 m2)
          | (go_at_call 29; refine (runew_calls 4 3 8 _ hs).mono ?_; rintro e w4 ⟨rfl, i2, b3, z2⟩; have K4 := Aside0.mk (J.out.grow (below_step B1.out b3)); have B4 := Aside0.mk (below_step B1.out b3); have I4 := Aside0.mk (show IsU w4 (wr.heap.size + 1) wr.heap.size _ _ _ _ from ⟨blk_below I1.out.blk b3, I1.out.fm.below (b3.block _ I1.out.fm.lt), I1.out.gr⟩); have I5 := Aside0.mk (i2 w.heap.size); clear i2 I1 b3 z2 B1; have m0 := blk_cell K4.out.ip.blk 0; have m2 := blk_cell K4.out.ip.blk 2; have f0 := blk_frozen K4.out.ip.blk 0; have f2 := blk_frozen K4.out.ip.blk 2)
          | (go_at_call 14; refine (num_calls _ _).mono ?_; rintro e w5 ⟨rfl, rfl⟩))
        have hz := J.out.ip.below.size
        have hz3 := Z1.out
        have ST := Aside0.mk (Pb.fresh_st (B := w.heap.size) (g := wr.heap.size + 1) (r := wr.heap.size) (k := w2.heap.size) hs (by omega) hz (by omega) (by omega) (by omega))
        have NW := Aside0.mk (Pb.fresh_new (B := wr.heap.size) (g := wr.heap.size + 1) (r := wr.heap.size) (k := w2.heap.size) (t := 4) (b := 3) (m := 8) (by omega) (Nat.le_refl _) (by omega))
        have HP := Aside0.mk (J.out.ip.put0 (x := Pb.fresh (wr.heap.size + 1) wr.heap.size w2.heap.size 4 3 8) B4.out ⟨I4.out, I5.out⟩ ST.out NW.out (Nat.zero_le _))
        clear hz hz3
        go_ret
        exact ⟨rfl, _, _, HP.out⟩

theorem bbench_start (w : World) (o1 o2 : Obj) : IQ w (((w.alloc o1).alloc o2).alloc (.cells #[.pointer none, .pointer none, .pointer none, .pointer none] 31)) (w.heap.size + 1 + 1) 0 none none := by
  have b1 := (((Below.refl w.heap.size w).alloc (Nat.le_refl _) o1).alloc (by simp) o2).alloc (by simp; omega) (.cells #[.pointer none, .pointer none, .pointer none, .pointer none] 31)
  have b2 := blk_new ((w.alloc o1).alloc o2) (.cells #[.pointer none, .pointer none, .pointer none, .pointer none] 31)
  exact ⟨b1, by simpa [Qp.own, Qp.ref] using b2, by omega, (fun x h => by cases h), (fun x h => by cases h), (fun x y h => by cases h)⟩

set_option maxHeartbeats 8000000 in
set_option maxRecDepth 100000 in
theorem budgets_calls (A0 B0 C0 A1 B1 C1 : Int) (A : Option Addr) (c1 : Nat) (l : List Op5) (w : World) (hr : ROps w A l) (hc : l.length ≤ c1) (hok : ∀ o ∈ l, okI (o.d, o.f)) (hz : c1 ≤ 8796093000000) :
    Calls Try.prog 3 #[.agg #[.int .i64 A0, .int .i64 B0, .int .i64 C0], .agg #[.int .i64 A1, .int .i64 B1, .int .i64 C1], .slice A l.length c1] w fun e w' => e = .returned (.bool true) ∧ Below w.heap.size w w' := by
  have H := Aside0.mk (bbench_start w (.cells #[.int .i64 A0, .int .i64 B0, .int .i64 C0] 23) (.cells #[.int .i64 A1, .int .i64 B1, .int .i64 C1] 23))
  have HR := Aside0.mk hr
  have HC := Aside0.mk hc
  have HL := Aside0.mk (show l.length ≤ 8796093000000 by omega)
  have HOK := Aside0.mk hok
  clear hr hc hok hz
  go_enter Try.func3, Try.ntmps3
  go_wp2_with (first
    | (go_at_call 10; refine (bmade_calls _ A0 B0 C0 A1 B1 C1 w _ H.out).mono ?_; rintro e w2 ⟨rfl, p, q, hip⟩; have HI := Aside0.mk hip; clear hip))
  generalize hm : w.heap.size + 1 + 1 = m at *
  clear hm H
  go_loopg [9] l.length (fun kq v9 w' => ∃ (i : Nat) (p q : Qp), v9 = .int .i64 (i : Int) ∧ Aside0 (i + kq = l.length) ∧ Aside0 (IQ w w' m i p q))
  case atStart => exact ⟨0, p, q, rfl, ⟨by omega⟩, HI⟩
  case round =>
    clear HI p q
    obtain ⟨i, p, q, rfl, HK, HJ⟩ := hrel
    by_cases c : (i : Int) < (l.length : Int)
    · cases gk with
      | zero => exact absurd HK.out (by omega)
      | succ k1 =>
      obtain ⟨ad, rfl, hx0, hx1, hx2, hx3, hx4⟩ := HR.out.at_ HJ.out.below i (by omega)
      have cb : decide ((i : Int) < (l.length : Int)) = true := by simpa using c
      have p1 : (0 ≤ (i : Int)) = True := eq_true (by omega)
      have p2 : ((i : Int) < (l.length : Int)) = True := eq_true c
      have hwi : wrap64 ((i : Int) + 1) = ((i + 1 : Nat) : Int) := Go.IntWalk.wrap64_in _ (by have := HL.out; omega)
      have hoi := HOK.out (l.getD i ⟨0, 0, 0, 0, 0⟩) (by rw [List.getD_eq_getElem?_getD, List.getElem?_eq_getElem (show i < l.length by omega)]; exact List.getElem_mem _)
      have hni := Aside0.mk (show i + 1 ≤ 8796093022208 by have := HL.out; omega)
      have HOI := Aside0.mk hoi
      clear hoi
      generalize l.getD i ⟨0, 0, 0, 0, 0⟩ = o at *
      clear c
      go_wp2_with (first
        | (go_at_call 11; refine (bplays_calls m i p q o HOI.out hni.out w _ HJ.out).mono ?_; rintro e w3 ⟨rfl, p', q', hip⟩; have HI := Aside0.mk hip; clear hip))
      go_roundg k1
      case measure => have := HK.out; omega
      case rel => exact ⟨i + 1, p', q', by rw [hwi], ⟨by have := HK.out; omega⟩, HI⟩
    · have cb : decide ((i : Int) < (l.length : Int)) = false := by simpa using c
      have cb2 : decide (i < l.length) = false := by simp; omega
      have cb3 : ((i : Int) < (l.length : Int)) = False := eq_false c
      have hni := Aside0.mk (show i + 1 ≤ 8796093022208 by have := HL.out; have := HK.out; omega)
      have h00 := Aside0.mk (show okI (0, 0) from ⟨by decide, by decide⟩)
      go_wp2_with (go_at_call 11; (with_reducible refine (bplays_calls m i p q ⟨6, 0, 0, 0, 0⟩ h00.out hni.out w _ HJ.out).mono ?_); rintro e w3 ⟨rfl, p', q', hip⟩; have HI := Aside0.mk hip; clear hip)
      go_ret
      exact ⟨rfl, HI.out.below⟩

end Go.Proofs.Ythajekcjgkidhaa.Q
