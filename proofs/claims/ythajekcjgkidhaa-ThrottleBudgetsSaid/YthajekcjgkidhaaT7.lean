/- The walk of granarylaw10.ThrottleWaits: it answers true at every input. No condition but that the slice is read. -/
import Derived.Test.YthajekcjgkidhaaProg
import Derived.Below
import Derived.Deep.Draws
import Derived.Deep.AppendLies
import Derived.Maps.AppendAt
import Derived.OwnWalk
import Derived.Laws.BytesArg
import Derived.Laws.MakeOwn
import Derived.Laws.OwnMore
import Derived.Deep.OwnRows
import Derived.Tactics
import Derived.Lib.ConvBytes
import Derived.Laws.Slices
import Derived.WalkKit
import Derived.KernelRfl
import Derived.RowKit3
import Derived.Deep.LoopGhost
import Derived.Deep.QuietTactic
import Derived.BigQuiet
import Derived.WideLaws
import Derived.Deep.DeepCutAuto
import Derived.Deep.CutBlock
import Derived.Deep.RegionHeld3
import Derived.Laws.Rows
import Derived.Lib.AppendStr
import Derived.ArgAppend
import Derived.Laws.IdiomCopy
import Derived.OrdersHeld
import Derived.Laws.BitsLemmas
import Derived.RowKit
import Derived.Test.YthajekcjgkidhaaWWords
import Derived.Test.YthajekcjgkidhaaWLast
import Derived.Test.YthajekcjgkidhaaWTab
import Derived.Test.YthajekcjgkidhaaWFour
import Derived.Test.YthajekcjgkidhaaWQPut
import Derived.Test.YthajekcjgkidhaaWApart
import Derived.Test.YthajekcjgkidhaaWArr
import Derived.Test.YthajekcjgkidhaaWZeros
import Derived.Test.YthajekcjgkidhaaWFoot
import Derived.Test.YthajekcjgkidhaaWKept
import Derived.Test.YthajekcjgkidhaaWShare
import Derived.Test.YthajekcjgkidhaaWN
import Derived.Test.YthajekcjgkidhaaWFootNe
import Derived.Test.YthajekcjgkidhaaWAt
import Derived.Test.YthajekcjgkidhaaWEqStruct
import Derived.Test.YthajekcjgkidhaaWRepsOne
import Derived.Test.YthajekcjgkidhaaWInv
import Derived.Test.YthajekcjgkidhaaWInvWords
import Derived.Test.YthajekcjgkidhaaWGuard
import Derived.Test.YthajekcjgkidhaaWNEv
import Derived.Test.YthajekcjgkidhaaWMore
import Derived.Test.YthajekcjgkidhaaLocks
import Derived.Conc.MuLone
import Derived.Test.YthajekcjgkidhaaT6
set_option linter.unusedVariables false
set_option linter.unusedSimpArgs false
namespace Go.Proofs.Ythajekcjgkidhaa.Q
open Go.RowKit Go.Proofs.YthajekcjgkidhaaW.PrintWords Go.Proofs.YthajekcjgkidhaaW.PrintLast Go.Proofs.YthajekcjgkidhaaW.PrintMore
open Go.MuLone

/-- Two buckets, at g and at k, the shape at h; nothing else has changed since w. -/
structure Inv2 (w W : World) (h g k : Nat) (A B C : Int) (b c : Bkt) : Prop where
  below : Below w.heap.size w W
  shape : IsS W h A B C
  isb : IsB W g b
  isc : IsB W k c
  good : b.Good
  goodc : c.Good
  ra : b.ra = A
  pe : b.pe = B
  bu : b.bu = C
  rac : c.ra = A
  pec : c.pe = B
  buc : c.bu = C
  ne : h ≠ g
  nek : h ≠ k
  gk : g ≠ k
  ge : w.heap.size ≤ g
  gek : w.heap.size ≤ k

theorem Inv2.turn {w W W' : World} {h g k : Nat} {A B C : Int} {b c b' : Bkt} (I : Inv2 w W h g k A B C b c) (hh : Held W W' g) (hb : IsB W' g b') (hg : b'.Good) (hl : b.Like b') : Inv2 w W' h g k A B C b' c :=
  ⟨hh.below I.ge I.below, (hh.block h I.ne).trans I.shape, hb, (hh.block k (fun e => I.gk e.symm)).trans I.isc, hg, I.goodc, hl.1.trans I.ra, hl.2.1.trans I.pe, hl.2.2.trans I.bu, I.rac, I.pec, I.buc, I.ne, I.nek, I.gk, I.ge, I.gek⟩
theorem Inv2.turn2 {w W W' : World} {h g k : Nat} {A B C : Int} {b c c' : Bkt} (I : Inv2 w W h g k A B C b c) (hh : Held W W' k) (hb : IsB W' k c') (hg : c'.Good) (hl : c.Like c') : Inv2 w W' h g k A B C b c' :=
  ⟨hh.below I.gek I.below, (hh.block h I.nek).trans I.shape, (hh.block g I.gk).trans I.isb, hb, I.good, hg, I.ra, I.pe, I.bu, hl.1.trans I.rac, hl.2.1.trans I.pec, hl.2.2.trans I.buc, I.ne, I.nek, I.gk, I.ge, I.gek⟩

theorem Bkt.wait_neg (b : Bkt) (n : Int) (h : n < 0) : b.wait n = (0, 1) := by
  have : b.chk n = 1 := by unfold Bkt.chk; rw [if_pos h]
  unfold Bkt.wait
  rw [this, if_pos (by decide)]
theorem Bkt.wait_never (b : Bkt) (n : Int) (h : ¬ n < 0) (h1 : b.bu < n) : b.wait n = (0, 101) := by
  have : b.chk n = 101 := by unfold Bkt.chk; rw [if_neg h, if_pos h1]
  unfold Bkt.wait
  rw [this, if_pos (by decide)]

set_option maxHeartbeats 4000000 in
set_option maxRecDepth 100000 in
theorem waits_bad (A B C : Int) (hs : ¬ okShape A B C) (A1 : Option Addr) (c1 : Nat) (l : List Int) (n : Int) (w : World) :
    Calls Try.prog 5 #[.agg #[.int .i64 A, .int .i64 B, .int .i64 C], .slice A1 l.length c1, .int .i64 n] w fun e w' => e = .returned (.bool true) ∧ Below w.heap.size w w' := by
  have B0 := (Below.refl w.heap.size w).alloc (Nat.le_refl _) (.cells #[.int .i64 A, .int .i64 B, .int .i64 C] 23)
  have bx := blk_new w (.cells #[.int .i64 A, .int .i64 B, .int .i64 C] 23)
  go_enter Try.func5, Try.ntmps5
  go_wp2_with (first
    | (go_at_call 18; refine (good_no A B C _ hs).mono ?_; rintro e w1 ⟨rfl, hb1⟩; have bx1 := blk_below bx hb1; have d0 := blk_cell bx1 0; have d1 := blk_cell bx1 1; have d2 := blk_cell bx1 2)
    | (go_at_call 19; refine (refused_calls A B C _ hs).mono ?_; rintro e w2 ⟨rfl, hb2⟩))
  go_ret
  exact ⟨rfl, below_step (below_step B0 hb1) hb2⟩

set_option maxHeartbeats 8000000 in
set_option maxRecDepth 100000 in
theorem waits_good (A B C : Int) (hs : okShape A B C) (A1 : Option Addr) (c1 : Nat) (l : List Int) (n : Int) (w : World) (hr : (Kd.int .i64).C w A1 l.length l) (hc : l.length ≤ c1) :
    Calls Try.prog 5 #[.agg #[.int .i64 A, .int .i64 B, .int .i64 C], .slice A1 l.length c1, .int .i64 n] w fun e w' => e = .returned (.bool true) ∧ Below w.heap.size w w' := by
  have B0 := (Below.refl w.heap.size w).alloc (Nat.le_refl _) (.cells #[.int .i64 A, .int .i64 B, .int .i64 C] 23)
  have bx := blk_new w (.cells #[.int .i64 A, .int .i64 B, .int .i64 C] 23)
  have hlen := hr.2.1
  go_enter Try.func5, Try.ntmps5
  go_wp2_with (first
    | (go_at_call 18; refine (good_yes A B C _ hs).mono ?_; rintro e w1 ⟨rfl, hb1⟩; have bx1 := blk_below bx hb1; have d0 := blk_cell bx1 0; have d1 := blk_cell bx1 1; have d2 := blk_cell bx1 2)
    | (go_at_call 20; refine (twin_calls A B C _ hs).mono ?_; rintro e w2 ⟨rfl, hI, hK, hb2⟩))
  have hlt : w.heap.size < w1.heap.size := blk_lt bx1
  have HI := Aside0.mk (show Inv2 w w2 w.heap.size (w1.heap.size + 1) (w1.heap.size + 2) A B C ⟨A, B, C, C, 0⟩ ⟨A, B, C, C, 0⟩ from
    ⟨below_step (below_step B0 hb1) hb2, blk_below bx1 hb2, hI, hK, Bkt.new_good A B C hs, Bkt.new_good A B C hs, rfl, rfl, rfl, rfl, rfl, rfl, by omega, by omega, by omega, by omega, by omega⟩)
  have HR := Aside0.mk hr
  have HC := Aside0.mk hc
  have HS := Aside0.mk hs
  have HL := Aside0.mk hlen
  clear hr hc hs hlen hI hK hlt hb2 d0 d1 d2 bx1 bx B0 hb1
  generalize w1.heap.size + 1 = g at *
  generalize w1.heap.size + 2 = k at *
  go_loopg [10] l.length (fun kq v10 w' => ∃ (i : Nat) (b : Bkt), v10 = .int .i64 (i : Int) ∧ Aside0 (i + kq = l.length) ∧ Aside0 (Inv2 w w' w.heap.size g k A B C b b))
  case atStart => exact ⟨0, _, rfl, ⟨by omega⟩, HI⟩
  case round =>
    obtain ⟨i, b, rfl, HK, HJ⟩ := hrel
    clear HI
    by_cases c : (i : Int) < (l.length : Int)
    · cases gk with
      | zero => exact absurd HK.out (by omega)
      | succ k1 =>
      obtain ⟨ad, rfl, hx⟩ := Kd.at_int (Kd.C_below HR.out HJ.out.below) i (by omega) c
      rw [Int.toNat_natCast] at hx
      have cb : decide ((i : Int) < (l.length : Int)) = true := by simpa using c
      have p1 : (0 ≤ (i : Int)) = True := eq_true (by omega)
      have p2 : ((i : Int) < (l.length : Int)) = True := eq_true c
      have hwi : wrap64 ((i : Int) + 1) = ((i + 1 : Nat) : Int) := Go.IntWalk.wrap64_in _ (by have := HL.out; omega)
      have hdr := fun W (hW : Below w.heap.size w W) => (Kd.at_int (Kd.C_below HR.out hW) i (by omega) c)
      generalize rd l (i : Int) = n1 at *
      have hcell : ∀ W, Below w.heap.size w W → W.cell? (ad.add i) = some (.int .i64 n1) := fun W hW => by
        obtain ⟨ad', e', h'⟩ := hdr W hW
        obtain rfl := Option.some.inj e'
        rw [Int.toNat_natCast] at h'
        exact h'
      have HCell := Aside0.mk hcell
      clear hdr hcell c
      go_wp2_with (first
        | (go_at_call 21; (with_reducible refine (take_calls g b HJ.out.good _ _ HJ.out.isb).mono ?_); rintro e w3 ⟨rfl, hI3, hH3⟩; have J1 := Aside0.mk (HJ.out.turn hH3 hI3 (Bkt.take_good HJ.out.good _) (Bkt.take_like b _)); clear hI3 hH3; have hx1 := HCell.out _ J1.out.below)
        | (go_at_call 21; (with_reducible refine (take_calls k _ J1.out.goodc _ _ J1.out.isc).mono ?_); rintro e w4 ⟨rfl, hI4, hH4⟩; have J2 := Aside0.mk (J1.out.turn2 hH4 hI4 (Bkt.take_good J1.out.goodc _) (Bkt.take_like b _)); clear hI4 hH4)
        | (go_at_call 22; (with_reducible refine (tick_calls g _ J2.out.good _ _ J2.out.isb).mono ?_); rintro e w5 ⟨rfl, hI5, hH5⟩; have J3 := Aside0.mk (J2.out.turn hH5 hI5 (Bkt.tick_good J2.out.good _) (Bkt.tick_like _ _)); clear hI5 hH5)
        | (go_at_call 22; (with_reducible refine (tick_calls k _ J3.out.goodc _ _ J3.out.isc).mono ?_); rintro e w6 ⟨rfl, hI6, hH6⟩; have J4 := Aside0.mk (J3.out.turn2 hH6 hI6 (Bkt.tick_good J3.out.goodc _) (Bkt.tick_like _ _)); clear hI6 hH6))
      go_roundg k1
      case measure => have := HK.out; omega
      case rel => exact ⟨i + 1, _, by rw [hwi], ⟨by have := HK.out; omega⟩, J4⟩
    · have cb : decide ((i : Int) < (l.length : Int)) = false := by simpa using c
      have cb2 : decide (i < l.length) = false := by simp; omega
      have cb3 : ((i : Int) < (l.length : Int)) = False := eq_false c
      have d0 := blk_cell HJ.out.shape 0
      have d1 := blk_cell HJ.out.shape 1
      have d2 := blk_cell HJ.out.shape 2
      have J := HJ.out
      have jra := J.ra
      have jpe := J.pe
      have jbu := J.bu
      by_cases k1 : n < 0
      · have k1b : decide (n < 0) = true := by simpa using k1
        have e3 := b.wait_neg n k1
        have e4 : (b.wait n).1 = 0 := by rw [e3]
        have e5 : (b.wait n).2 = 1 := by rw [e3]
        clear e3 c k1 J jra jpe jbu
        go_wp2_with (first
          | (go_at_call 23; (with_reducible refine (wait_calls g b HJ.out.good n _ HJ.out.isb).mono ?_); rintro e w3 ⟨rfl, hI3, hH3⟩; rw [e4, e5]; have J1 := Aside0.mk (HJ.out.turn hH3 hI3 HJ.out.good (Bkt.Like.refl b)); clear hI3 hH3)
          | (go_at_call 14; refine (num_calls _ _).mono ?_; rintro e w' ⟨rfl, rfl⟩))
        go_ret
        exact ⟨rfl, J1.out.below⟩
      have k1b : decide (n < 0) = false := by simpa using k1
      by_cases k2 : C < n
      · have k2b : decide (C < n) = true := by simpa using k2
        have e3 := b.wait_never n k1 (by omega)
        have e4 : (b.wait n).1 = 0 := by rw [e3]
        have e5 : (b.wait n).2 = 101 := by rw [e3]
        clear e3 c k1 k2 J jra jpe jbu
        go_wp2_with (first
          | (go_at_call 23; (with_reducible refine (wait_calls g b HJ.out.good n _ HJ.out.isb).mono ?_); rintro e w3 ⟨rfl, hI3, hH3⟩; rw [e4, e5]; have J1 := Aside0.mk (HJ.out.turn hH3 hI3 HJ.out.good (Bkt.Like.refl b)); clear hI3 hH3; have g2 := blk_cell J1.out.shape 2)
          | (go_at_call 14; refine (num_calls _ _).mono ?_; rintro e w' ⟨rfl, rfl⟩))
        go_ret
        exact ⟨rfl, J1.out.below⟩
      have k2b : decide (C < n) = false := by simpa using k2
      obtain ⟨q, hq, q0, q1, q2, q3, q4, q5⟩ := Bkt.wait_ok J.good n (by omega) (by omega)
      obtain ⟨e1, e2⟩ := Bkt.tick_there J.good n q (by omega) q0 (by omega) q3
      have e3 := Bkt.take_ok (b.tick q).1 n (by omega) (by have := (Bkt.tick_like b q).2.2; omega) e2
      have e4 : ((b.tick q).1.take n).2.1 = true := by rw [e3]
      have e5 : ((b.tick q).1.take n).2.2 = 0 := by rw [e3]
      have e6 : (b.wait n).1 = q := by rw [hq]
      have e7 : (b.wait n).2 = 0 := by rw [hq]
      have k3b : decide (q < 0) = false := by simp; omega
      rw [jra, jpe] at q2
      obtain ⟨o1, o2, o3, o4, o5, o6⟩ := HS.out
      have x0 : 0 ≤ n * B := Int.mul_nonneg (by omega) (by omega)
      have x1 : n * B ≤ 65536 * 1024 := Int.mul_le_mul (by omega) o4 (by omega) (by omega)
      obtain ⟨x, hx2⟩ : ∃ x, n * B = x := ⟨_, rfl⟩
      rw [hx2] at x0 x1 q2
      have f1 : IntKind.i64.wrap (n * B) = x := by rw [hx2]; exact (i64_w _).trans (Go.IntWalk.wrap64_in _ (by omega))
      obtain ⟨y, hy⟩ : ∃ y, x + A = y := ⟨_, rfl⟩
      have f2 : IntKind.i64.wrap (x + A) = y := by rw [hy]; exact (i64_w _).trans (Go.IntWalk.wrap64_in _ (by omega))
      obtain ⟨z, hz⟩ : ∃ z, y - 1 = z := ⟨_, rfl⟩
      have f3 : IntKind.i64.wrap (y - 1) = z := by rw [hz]; exact (i64_w _).trans (Go.IntWalk.wrap64_in _ (by omega))
      rw [hy, hz] at q2
      have z0 : 0 ≤ z := by omega
      have f4 : IntKind.i64.wrap (z.tdiv A) = z / A := Go.IntWalk.i64_quo _ _ ⟨z0, by omega, o1⟩
      obtain ⟨u, hu⟩ : ∃ u, z / A = u := ⟨_, rfl⟩
      rw [hu] at q2 f4
      have f5 : ¬ A = 0 := by omega
      have f8 : decide (u < q) = false := by simp; omega
      by_cases k3 : 0 < q
      · have k4b : decide (0 < q) = true := by simpa using k3
        obtain ⟨r, hr⟩ : ∃ r, q - 1 = r := ⟨_, rfl⟩
        have f9 : IntKind.i64.wrap (q - 1) = r := by rw [hr]; exact (i64_w _).trans (Go.IntWalk.wrap64_in _ (by omega))
        have q6 := q4 k3
        rw [hr] at q6
        obtain ⟨m1, m2⟩ := Bkt.tick_early J.good n r (by omega) (by omega) (by omega) q6
        have m3 := Bkt.take_not (b.tick r).1 n (by omega) (by have := (Bkt.tick_like b r).2.2; omega) m2
        have m4 : ((b.tick r).1.take n).2.1 = false := by rw [m3]
        have m5 : ((b.tick r).1.take n).2.2 = 0 := by rw [m3]
        clear c k1 k2 k3 J jra jpe jbu hq q0 q1 q2 q3 q4 q5 e2 e3 o1 o2 o3 o4 o5 o6 x0 x1 hx2 hy hz z0 hu hr q6 m2 m3
        go_wp2_with (first
          | (go_at_call 23; (with_reducible refine (wait_calls g b HJ.out.good n _ HJ.out.isb).mono ?_); rintro e w3 ⟨rfl, hI3, hH3⟩; rw [e6, e7]; have J1 := Aside0.mk (HJ.out.turn hH3 hI3 HJ.out.good (Bkt.Like.refl b)); clear hI3 hH3; have g0 := blk_cell J1.out.shape 0; have g1 := blk_cell J1.out.shape 1; have g2 := blk_cell J1.out.shape 2)
          | (go_at_call 22; (with_reducible refine (tick_calls k b J1.out.goodc r _ J1.out.isc).mono ?_); rintro e w4 ⟨rfl, hI4, hH4⟩; have J2 := Aside0.mk (J1.out.turn2 hH4 hI4 (Bkt.tick_good J1.out.goodc _) (Bkt.tick_like _ _)); clear hI4 hH4)
          | (go_at_call 21; (with_reducible refine (take_calls k _ J2.out.goodc n _ J2.out.isc).mono ?_); rintro e w5 ⟨rfl, hI5, hH5⟩; rw [m4, m5]; have J3 := Aside0.mk (J2.out.turn2 hH5 hI5 (Bkt.take_good J2.out.goodc _) (Bkt.take_like _ _)); clear hI5 hH5)
          | (go_at_call 22; (with_reducible refine (tick_calls g b J3.out.good q _ J3.out.isb).mono ?_); rintro e w6 ⟨rfl, hI6, hH6⟩; have J4 := Aside0.mk (J3.out.turn hH6 hI6 (Bkt.tick_good J3.out.good _) (Bkt.tick_like _ _)); clear hI6 hH6)
          | (go_at_call 21; (with_reducible refine (take_calls g _ J4.out.good n _ J4.out.isb).mono ?_); rintro e w7 ⟨rfl, hI7, hH7⟩; rw [e4, e5]; have J5 := Aside0.mk (J4.out.turn hH7 hI7 (Bkt.take_good J4.out.good _) (Bkt.take_like _ _)); clear hI7 hH7)
          | (go_at_call 14; refine (num_calls _ _).mono ?_; rintro e w' ⟨rfl, rfl⟩))
        go_ret
        exact ⟨rfl, J5.out.below⟩
      · have k4b : decide (0 < q) = false := by simpa using k3
        clear c k1 k2 k3 J jra jpe jbu hq q0 q1 q2 q3 q4 q5 e2 e3 o1 o2 o3 o4 o5 o6 x0 x1 hx2 hy hz z0 hu
        go_wp2_with (first
          | (go_at_call 23; (with_reducible refine (wait_calls g b HJ.out.good n _ HJ.out.isb).mono ?_); rintro e w3 ⟨rfl, hI3, hH3⟩; rw [e6, e7]; have J1 := Aside0.mk (HJ.out.turn hH3 hI3 HJ.out.good (Bkt.Like.refl b)); clear hI3 hH3; have g0 := blk_cell J1.out.shape 0; have g1 := blk_cell J1.out.shape 1; have g2 := blk_cell J1.out.shape 2)
          | (go_at_call 22; (with_reducible refine (tick_calls g b J1.out.good q _ J1.out.isb).mono ?_); rintro e w6 ⟨rfl, hI6, hH6⟩; have J4 := Aside0.mk (J1.out.turn hH6 hI6 (Bkt.tick_good J1.out.good _) (Bkt.tick_like _ _)); clear hI6 hH6)
          | (go_at_call 21; (with_reducible refine (take_calls g _ J4.out.good n _ J4.out.isb).mono ?_); rintro e w7 ⟨rfl, hI7, hH7⟩; rw [e4, e5]; have J5 := Aside0.mk (J4.out.turn hH7 hI7 (Bkt.take_good J4.out.good _) (Bkt.take_like _ _)); clear hI7 hH7)
          | (go_at_call 14; refine (num_calls _ _).mono ?_; rintro e w' ⟨rfl, rfl⟩))
        go_ret
        exact ⟨rfl, J5.out.below⟩

theorem waits_calls (A B C : Int) (A1 : Option Addr) (c1 : Nat) (l : List Int) (n : Int) (w : World) (hr : (Kd.int .i64).C w A1 l.length l) (hc : l.length ≤ c1) :
    Calls Try.prog 5 #[.agg #[.int .i64 A, .int .i64 B, .int .i64 C], .slice A1 l.length c1, .int .i64 n] w fun e w' => e = .returned (.bool true) ∧ Below w.heap.size w w' := by
  by_cases h2 : okShape A B C
  · exact waits_good A B C h2 A1 c1 l n w hr hc
  · exact waits_bad A B C h2 A1 c1 l n w

end Go.Proofs.Ythajekcjgkidhaa.Q
