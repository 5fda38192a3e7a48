/- The walk of granarylaw10.ThrottleServes: it answers true at every input. No condition but that the slice is read. -/
import Derived.Test.YthajekcjgkidhaaProg
import Derived.Below
import Derived.Deep.Draws
import Derived.Deep.AppendLies
import Derived.Maps.AppendAt
import Derived.OwnWalk
import Derived.Laws.BytesArg
import Derived.Laws.MakeOwn
import Derived.Laws.OwnMore
import Derived.Deep.OwnRows
import Derived.Tactics
import Derived.Lib.ConvBytes
import Derived.Laws.Slices
import Derived.WalkKit
import Derived.KernelRfl
import Derived.RowKit3
import Derived.Deep.LoopGhost
import Derived.Deep.QuietTactic
import Derived.BigQuiet
import Derived.WideLaws
import Derived.Deep.DeepCutAuto
import Derived.Deep.CutBlock
import Derived.Deep.RegionHeld3
import Derived.Laws.Rows
import Derived.Lib.AppendStr
import Derived.ArgAppend
import Derived.Laws.IdiomCopy
import Derived.OrdersHeld
import Derived.Laws.BitsLemmas
import Derived.RowKit
import Derived.Test.YthajekcjgkidhaaWWords
import Derived.Test.YthajekcjgkidhaaWLast
import Derived.Test.YthajekcjgkidhaaWTab
import Derived.Test.YthajekcjgkidhaaWFour
import Derived.Test.YthajekcjgkidhaaWQPut
import Derived.Test.YthajekcjgkidhaaWApart
import Derived.Test.YthajekcjgkidhaaWArr
import Derived.Test.YthajekcjgkidhaaWZeros
import Derived.Test.YthajekcjgkidhaaWFoot
import Derived.Test.YthajekcjgkidhaaWKept
import Derived.Test.YthajekcjgkidhaaWShare
import Derived.Test.YthajekcjgkidhaaWN
import Derived.Test.YthajekcjgkidhaaWFootNe
import Derived.Test.YthajekcjgkidhaaWAt
import Derived.Test.YthajekcjgkidhaaWEqStruct
import Derived.Test.YthajekcjgkidhaaWRepsOne
import Derived.Test.YthajekcjgkidhaaWInv
import Derived.Test.YthajekcjgkidhaaWInvWords
import Derived.Test.YthajekcjgkidhaaWGuard
import Derived.Test.YthajekcjgkidhaaWNEv
import Derived.Test.YthajekcjgkidhaaWMore
import Derived.Test.YthajekcjgkidhaaLocks
import Derived.Conc.MuLone
import Derived.Test.YthajekcjgkidhaaT5
set_option linter.unusedVariables false
set_option linter.unusedSimpArgs false
namespace Go.Proofs.Ythajekcjgkidhaa.Q
open Go.RowKit Go.Proofs.YthajekcjgkidhaaW.PrintWords Go.Proofs.YthajekcjgkidhaaW.PrintLast Go.Proofs.YthajekcjgkidhaaW.PrintMore
open Go.MuLone

/-- The shape's own block. -/
def IsS (W : World) (h : Nat) (A B C : Int) : Prop := W.heap[h]? = some (.cells #[.int .i64 A, .int .i64 B, .int .i64 C] 23 (0, 0))

theorem Held.below {w W W' : World} {g : Nat} (h : Held W W' g) (hg : w.heap.size ≤ g) (hb : Below w.heap.size w W) : Below w.heap.size w W' :=
  ⟨h.os.trans hb.os, h.tape.trans hb.tape, h.output.trans hb.output, by rw [h.size]; exact hb.size, fun k hk => (h.block k (by omega)).trans (hb.block k hk)⟩

/-- One bucket at g, the shape at h; nothing else has changed since w. -/
structure Inv (w W : World) (h g : Nat) (A B C : Int) (b : Bkt) : Prop where
  below : Below w.heap.size w W
  shape : IsS W h A B C
  isb : IsB W g b
  good : b.Good
  ra : b.ra = A
  pe : b.pe = B
  bu : b.bu = C
  ne : h ≠ g
  ge : w.heap.size ≤ g

theorem Inv.turn {w W W' : World} {h g : Nat} {A B C : Int} {b b' : Bkt} (I : Inv w W h g A B C b) (hh : Held W W' g) (hb : IsB W' g b') (hg : b'.Good) (hl : b.Like b') : Inv w W' h g A B C b' :=
  ⟨hh.below I.ge I.below, (hh.block h I.ne).trans I.shape, hb, hg, hl.1.trans I.ra, hl.2.1.trans I.pe, hl.2.2.trans I.bu, I.ne, I.ge⟩
theorem Inv.drewN {w W : World} {h g : Nat} {A B C : Int} {b : Bkt} (I : Inv w W h g A B C b) (m : Nat) : Inv w (W.drewN m) h g A B C b :=
  ⟨pw_below_drewN I.below m, I.shape, I.isb, I.good, I.ra, I.pe, I.bu, I.ne, I.ge⟩

set_option maxHeartbeats 4000000 in
set_option maxRecDepth 100000 in
theorem serves_beyond (A B C : Int) (A1 : Option Addr) (c1 : Nat) (l : List Int) (w : World) (hl : 2147483647 < l.length) :
    Calls Try.prog 6 #[.agg #[.int .i64 A, .int .i64 B, .int .i64 C], .slice A1 l.length c1] w fun e w' => e = .returned (.bool true) ∧ Below w.heap.size w w' := by
  have hb : decide (2147483647 < (l.length : Int)) = true := by simp; omega
  clear hl
  go_enter Try.func6, Try.ntmps6
  go_wp2_with (go_at_call 24; refine (beyond_calls _ _).mono ?_; rintro e w' ⟨rfl, rfl⟩; rw [hb])
  go_ret
  exact ⟨rfl, (Below.refl _ _).alloc (Nat.le_refl _) _⟩

set_option maxHeartbeats 4000000 in
set_option maxRecDepth 100000 in
theorem serves_bad (A B C : Int) (hs : ¬ okShape A B C) (A1 : Option Addr) (c1 : Nat) (l : List Int) (w : World) (hl : ¬ 2147483647 < l.length) :
    Calls Try.prog 6 #[.agg #[.int .i64 A, .int .i64 B, .int .i64 C], .slice A1 l.length c1] w fun e w' => e = .returned (.bool true) ∧ Below w.heap.size w w' := by
  have hb : decide (2147483647 < (l.length : Int)) = false := by simp; omega
  clear hl
  have B0 := (Below.refl w.heap.size w).alloc (Nat.le_refl _) (.cells #[.int .i64 A, .int .i64 B, .int .i64 C] 23)
  have bx := blk_new w (.cells #[.int .i64 A, .int .i64 B, .int .i64 C] 23)
  go_enter Try.func6, Try.ntmps6
  go_wp2_with (first
    | (go_at_call 24; refine (beyond_calls _ _).mono ?_; rintro e w' ⟨rfl, rfl⟩; rw [hb])
    | (go_at_call 18; refine (good_no A B C _ hs).mono ?_; rintro e w1 ⟨rfl, hb1⟩; have bx1 := blk_below bx hb1; have d0 := blk_cell bx1 0; have d1 := blk_cell bx1 1; have d2 := blk_cell bx1 2)
    | (go_at_call 19; refine (refused_calls A B C _ hs).mono ?_; rintro e w2 ⟨rfl, hb2⟩))
  go_ret
  exact ⟨rfl, below_step (below_step B0 hb1) hb2⟩

set_option maxHeartbeats 4000000 in
set_option maxRecDepth 100000 in
theorem serves_good (A B C : Int) (hs : okShape A B C) (A1 : Option Addr) (c1 : Nat) (l : List Int) (w : World) (hr : (Kd.int .i64).C w A1 l.length l) (hc : l.length ≤ c1) (hl : ¬ 2147483647 < l.length) :
    Calls Try.prog 6 #[.agg #[.int .i64 A, .int .i64 B, .int .i64 C], .slice A1 l.length c1] w fun e w' => e = .returned (.bool true) ∧ Below w.heap.size w w' := by
  have hb : decide (2147483647 < (l.length : Int)) = false := by simp; omega
  have B0 := (Below.refl w.heap.size w).alloc (Nat.le_refl _) (.cells #[.int .i64 A, .int .i64 B, .int .i64 C] 23)
  have bx := blk_new w (.cells #[.int .i64 A, .int .i64 B, .int .i64 C] 23)
  go_enter Try.func6, Try.ntmps6
  go_wp2_with (first
    | (go_at_call 24; refine (beyond_calls _ _).mono ?_; rintro e w' ⟨rfl, rfl⟩; rw [hb])
    | (go_at_call 18; refine (good_yes A B C _ hs).mono ?_; rintro e w1 ⟨rfl, hb1⟩; have bx1 := blk_below bx hb1; have d0 := blk_cell bx1 0; have d1 := blk_cell bx1 1; have d2 := blk_cell bx1 2)
    | (go_at_call 25; refine (new_calls A B C _ hs).mono ?_; rintro e w2 ⟨rfl, hI, rfl⟩)
    | (go_at_call 14; refine (num_calls _ _).mono ?_; rintro e w' ⟨rfl, rfl⟩))
  have hbl : Below w.heap.size w (w1.alloc (.cells (Bkt.cells ⟨A, B, C, C, 0⟩ 0) 92)) := (below_step B0 hb1).alloc (by have := B0.size; have := hb1.size; omega) _
  have hlt : w.heap.size < w1.heap.size := blk_lt bx1
  have HI := Aside0.mk (show Inv w (w1.alloc (.cells (Bkt.cells ⟨A, B, C, C, 0⟩ 0) 92)) w.heap.size w1.heap.size A B C ⟨A, B, C, C, 0⟩ from
    ⟨hbl, blk_alloc bx1 _, hI, Bkt.new_good A B C hs, rfl, rfl, rfl, by omega, by omega⟩)
  have HR := Aside0.mk hr
  have HC := Aside0.mk hc
  have HS := Aside0.mk hs
  have HL := Aside0.mk hl
  clear hr hc hs hl hI hbl hlt d0 d1 d2 bx1 bx B0 hb1 hb
  generalize (w1.alloc (.cells (Bkt.cells ⟨A, B, C, C, 0⟩ 0) 92)) = W0 at *
  generalize w1.heap.size = g at *
  go_loopg [7, 8, 9] l.length (fun kq v7 v8 v9 w' => ∃ (i : Nat) (t bd : Int) (b : Bkt), v7 = .int .i64 t ∧ v8 = .int .i64 bd ∧ v9 = .int .i64 (i : Int) ∧ Aside0 (i + kq = l.length) ∧ Aside0 (0 ≤ t ∧ t ≤ bd ∧ bd ≤ (i : Int) * 67200000) ∧ Aside0 (Inv w w' w.heap.size g A B C b))
  case atStart => exact ⟨0, 0, 0, _, rfl, rfl, rfl, ⟨by omega⟩, ⟨by omega⟩, HI⟩
  case round =>
    obtain ⟨i, t, bd, b, rfl, rfl, rfl, HK, HT, HJ⟩ := hrel
    clear HI
    have d0 := blk_cell HJ.out.shape 0
    have d1 := blk_cell HJ.out.shape 1
    have d2 := blk_cell HJ.out.shape 2
    by_cases c : (i : Int) < (l.length : Int)
    · cases gk with
      | zero => exact absurd HK.out (by omega)
      | succ k1 =>
      obtain ⟨ad, rfl, hx⟩ := Kd.at_int (Kd.C_below HR.out HJ.out.below) i (by omega) c
      rw [Int.toNat_natCast] at hx
      have cb : decide ((i : Int) < (l.length : Int)) = true := by simpa using c
      have p1 : (0 ≤ (i : Int)) = True := eq_true (by omega)
      have p2 : ((i : Int) < (l.length : Int)) = True := eq_true c
      have hwi : wrap64 ((i : Int) + 1) = ((i + 1 : Nat) : Int) := Go.IntWalk.wrap64_in _ (by have := HL.out; omega)
      generalize rd l (i : Int) = n at *
      by_cases k1 : n < 0
      · have k1b : decide (n < 0) = true := by simpa using k1
        clear c k1
        go_wp2_with fail
        go_roundg k1
        case measure => have := HK.out; omega
        case rel => exact ⟨i + 1, t, bd, b, rfl, rfl, by rw [hwi], ⟨by have := HK.out; omega⟩, ⟨by have := HT.out; omega⟩, HJ⟩
      have k1b : decide (n < 0) = false := by simpa using k1
      by_cases k2 : C < n
      · have k2b : decide (C < n) = true := by simpa using k2
        clear c k1 k2
        go_wp2_with fail
        go_roundg k1
        case measure => have := HK.out; omega
        case rel => exact ⟨i + 1, t, bd, b, rfl, rfl, by rw [hwi], ⟨by have := HK.out; omega⟩, ⟨by have := HT.out; omega⟩, HJ⟩
      have k2b : decide (C < n) = false := by simpa using k2
      have J := HJ.out
      have jra := J.ra
      have jpe := J.pe
      have jbu := J.bu
      obtain ⟨q, hq, q0, q1, q2, q3, -, -⟩ := Bkt.wait_ok J.good n (by omega) (by omega)
      obtain ⟨e1, e2⟩ := Bkt.tick_there J.good n q (by omega) q0 (by omega) q3
      have e3 := Bkt.take_ok (b.tick q).1 n (by omega) (by have := (Bkt.tick_like b q).2.2; omega) e2
      have e4 : ((b.tick q).1.take n).2.1 = true := by rw [e3]
      have e5 : ((b.tick q).1.take n).2.2 = 0 := by rw [e3]
      have e6 : (b.wait n).1 = q := by rw [hq]
      have e7 : (b.wait n).2 = 0 := by rw [hq]
      have k3b : decide (q < 0) = false := by simp; omega
      rw [jra, jpe] at q2
      obtain ⟨o1, o2, o3, o4, o5, o6⟩ := HS.out
      have x0 : 0 ≤ n * B := Int.mul_nonneg (by omega) (by omega)
      have x1 : n * B ≤ 65536 * 1024 := Int.mul_le_mul (by omega) o4 (by omega) (by omega)
      obtain ⟨x, hx2⟩ : ∃ x, n * B = x := ⟨_, rfl⟩
      rw [hx2] at x0 x1 q2
      have f1 : IntKind.i64.wrap (n * B) = x := by rw [hx2]; exact (i64_w _).trans (Go.IntWalk.wrap64_in _ (by omega))
      obtain ⟨y, hy⟩ : ∃ y, x + A = y := ⟨_, rfl⟩
      have f2 : IntKind.i64.wrap (x + A) = y := by rw [hy]; exact (i64_w _).trans (Go.IntWalk.wrap64_in _ (by omega))
      obtain ⟨z, hz⟩ : ∃ z, y - 1 = z := ⟨_, rfl⟩
      have f3 : IntKind.i64.wrap (y - 1) = z := by rw [hz]; exact (i64_w _).trans (Go.IntWalk.wrap64_in _ (by omega))
      rw [hy, hz] at q2
      have z0 : 0 ≤ z := by omega
      have z1 : z ≤ 67200000 := by omega
      have f4 : IntKind.i64.wrap (z.tdiv A) = z / A := Go.IntWalk.i64_quo _ _ ⟨z0, by omega, o1⟩
      have u0 : 0 ≤ z / A := Int.ediv_nonneg z0 (by omega)
      have u1 : z / A ≤ z := Int.ediv_le_self _ z0
      obtain ⟨u, hu⟩ : ∃ u, z / A = u := ⟨_, rfl⟩
      rw [hu] at q2 f4 u0 u1
      have f5 : ¬ A = 0 := by omega
      have T := HT.out
      have L := HL.out
      have K := HK.out
      obtain ⟨bd', hbd⟩ : ∃ v, bd + u = v := ⟨_, rfl⟩
      have f6 : IntKind.i64.wrap (bd + u) = bd' := by rw [hbd]; exact (i64_w _).trans (Go.IntWalk.wrap64_in _ (by omega))
      obtain ⟨t', ht'⟩ : ∃ v, t + q = v := ⟨_, rfl⟩
      have f7 : IntKind.i64.wrap (t + q) = t' := by rw [ht']; exact (i64_w _).trans (Go.IntWalk.wrap64_in _ (by omega))
      have f8 : decide (bd' < t') = false := by simp; omega
      have HT2 : Aside0 (0 ≤ t' ∧ t' ≤ bd' ∧ bd' ≤ ((i + 1 : Nat) : Int) * 67200000) := ⟨by omega⟩
      clear c k1 k2 jra jpe jbu q0 q1 q2 q3 e2 e3 o1 o2 o3 o4 o5 o6 x0 x1 hx2 hy hz z0 z1 u0 u1 hu T L K hbd ht' hq J
      go_wp2_with (first
        | (go_at_call 23; (with_reducible refine (wait_calls g b HJ.out.good n _ HJ.out.isb).mono ?_); rintro e w2 ⟨rfl, hI2, hH2⟩; rw [e6, e7]; have J2 := Aside0.mk (HJ.out.turn hH2 hI2 HJ.out.good (Bkt.Like.refl b)); clear hI2 hH2)
        | (go_at_call 22; (with_reducible refine (tick_calls g b HJ.out.good q _ J2.out.isb).mono ?_); rintro e w3 ⟨rfl, hI3, hH3⟩; rw [e1]; have J3 := Aside0.mk (J2.out.turn hH3 hI3 (Bkt.tick_good HJ.out.good q) (Bkt.tick_like b q)); clear hI3 hH3)
        | (go_at_call 21; (with_reducible refine (take_calls g _ J3.out.good n _ J3.out.isb).mono ?_); rintro e w4 ⟨rfl, hI4, hH4⟩; rw [e4, e5]; have J4 := Aside0.mk (J3.out.turn hH4 hI4 (Bkt.take_good J3.out.good n) (Bkt.take_like _ n)); clear hI4 hH4; have g0 := blk_cell J4.out.shape 0; have g1 := blk_cell J4.out.shape 1)
        | (go_at_call 14; refine (num_calls _ _).mono ?_; rintro e w' ⟨rfl, rfl⟩))
      go_roundg k1
      case measure => have := HK.out; omega
      case rel => exact ⟨i + 1, t', bd', _, rfl, rfl, by rw [hwi], ⟨by have := HK.out; omega⟩, HT2, J4⟩
    · have cb : decide ((i : Int) < (l.length : Int)) = false := by simpa using c
      have cb2 : decide (i < l.length) = false := by simp; omega
      have cb3 : ((i : Int) < (l.length : Int)) = False := eq_false c
      have e3 := Bkt.take_ok b 0 (Int.le_refl _) (by have := HJ.out.good.bu1; omega) HJ.out.good.tk1
      have e4 : (b.take 0).2.1 = true := by rw [e3]
      have e5 : (b.take 0).2.2 = 0 := by rw [e3]
      clear e3 c
      go_wp2_with (first
        | (go_at_call 21; (with_reducible refine (take_calls g _ HJ.out.good 0 _ HJ.out.isb).mono ?_); rintro e w4 ⟨rfl, hI4, hH4⟩; rw [e4, e5]; have J4 := Aside0.mk (HJ.out.turn hH4 hI4 (Bkt.take_good HJ.out.good 0) (Bkt.take_like _ 0)); clear hI4 hH4)
        | (go_at_call 14; refine (num_calls _ _).mono ?_; rintro e w' ⟨rfl, rfl⟩))
      go_ret
      exact ⟨rfl, J4.out.below⟩

theorem serves_calls (A B C : Int) (A1 : Option Addr) (c1 : Nat) (l : List Int) (w : World) (hr : (Kd.int .i64).C w A1 l.length l) (hc : l.length ≤ c1) :
    Calls Try.prog 6 #[.agg #[.int .i64 A, .int .i64 B, .int .i64 C], .slice A1 l.length c1] w fun e w' => e = .returned (.bool true) ∧ Below w.heap.size w w' := by
  by_cases h1 : 2147483647 < l.length
  · exact serves_beyond A B C A1 c1 l w h1
  by_cases h2 : okShape A B C
  · exact serves_good A B C h2 A1 c1 l w hr hc h1
  · exact serves_bad A B C h2 A1 c1 l w h1

end Go.Proofs.Ythajekcjgkidhaa.Q
