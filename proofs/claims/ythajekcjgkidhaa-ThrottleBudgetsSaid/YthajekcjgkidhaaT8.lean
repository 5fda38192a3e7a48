/- The walk of granarylaw10.ThrottleSplit: it answers true at every input. No condition but that the slice is read. -/
import Derived.Test.YthajekcjgkidhaaProg
import Derived.Below
import Derived.Deep.Draws
import Derived.Deep.AppendLies
import Derived.Maps.AppendAt
import Derived.OwnWalk
import Derived.Laws.BytesArg
import Derived.Laws.MakeOwn
import Derived.Laws.OwnMore
import Derived.Deep.OwnRows
import Derived.Tactics
import Derived.Lib.ConvBytes
import Derived.Laws.Slices
import Derived.WalkKit
import Derived.KernelRfl
import Derived.RowKit3
import Derived.Deep.LoopGhost
import Derived.Deep.QuietTactic
import Derived.BigQuiet
import Derived.WideLaws
import Derived.Deep.DeepCutAuto
import Derived.Deep.CutBlock
import Derived.Deep.RegionHeld3
import Derived.Laws.Rows
import Derived.Lib.AppendStr
import Derived.ArgAppend
import Derived.Laws.IdiomCopy
import Derived.OrdersHeld
import Derived.Laws.BitsLemmas
import Derived.RowKit
import Derived.Test.YthajekcjgkidhaaWWords
import Derived.Test.YthajekcjgkidhaaWLast
import Derived.Test.YthajekcjgkidhaaWTab
import Derived.Test.YthajekcjgkidhaaWFour
import Derived.Test.YthajekcjgkidhaaWQPut
import Derived.Test.YthajekcjgkidhaaWApart
import Derived.Test.YthajekcjgkidhaaWArr
import Derived.Test.YthajekcjgkidhaaWZeros
import Derived.Test.YthajekcjgkidhaaWFoot
import Derived.Test.YthajekcjgkidhaaWKept
import Derived.Test.YthajekcjgkidhaaWShare
import Derived.Test.YthajekcjgkidhaaWN
import Derived.Test.YthajekcjgkidhaaWFootNe
import Derived.Test.YthajekcjgkidhaaWAt
import Derived.Test.YthajekcjgkidhaaWEqStruct
import Derived.Test.YthajekcjgkidhaaWRepsOne
import Derived.Test.YthajekcjgkidhaaWInv
import Derived.Test.YthajekcjgkidhaaWInvWords
import Derived.Test.YthajekcjgkidhaaWGuard
import Derived.Test.YthajekcjgkidhaaWNEv
import Derived.Test.YthajekcjgkidhaaWMore
import Derived.Test.YthajekcjgkidhaaLocks
import Derived.Conc.MuLone
import Derived.Test.YthajekcjgkidhaaT7
set_option linter.unusedVariables false
set_option linter.unusedSimpArgs false
namespace Go.Proofs.Ythajekcjgkidhaa.Q
open Go.RowKit Go.Proofs.YthajekcjgkidhaaW.PrintWords Go.Proofs.YthajekcjgkidhaaW.PrintLast Go.Proofs.YthajekcjgkidhaaW.PrintMore
open Go.MuLone

theorem Bkt.tick_zero (b : Bkt) (n : Int) (h0 : 0 ≤ n) (h1 : n ≤ 1099511627776) : (b.tick n).2 = 0 := by
  unfold Bkt.tick
  rw [if_neg (by omega)]
  split <;> rfl

/-- Ticks in two parts are ticks at once. -/
theorem Bkt.tick_split {b : Bkt} (h : b.Good) (m n : Int) (hm : 0 ≤ m) (hn : 0 ≤ n) (h2 : m + n ≤ 1099511627776) : ((b.tick m).1.tick n).1 = (b.tick (m + n)).1 := by
  have p1 := h.pe1
  have a1 := h.ra1
  have u0 : 0 ≤ n * b.ra := Int.mul_nonneg hn (by omega)
  have e0 : b.re + (m + n) * b.ra = (b.re + m * b.ra) + n * b.ra := by rw [Int.add_mul]; omega
  have hd : b.tick (m + n) = if b.bu ≤ b.tk + ((b.re + m * b.ra) + n * b.ra) / b.pe then ({ b with tk := b.bu, re := 0 }, 0) else ({ b with tk := b.tk + ((b.re + m * b.ra) + n * b.ra) / b.pe, re := ((b.re + m * b.ra) + n * b.ra) % b.pe }, 0) := by
    unfold Bkt.tick
    rw [if_neg (by omega), e0]
  have hm1 : b.tick m = if b.bu ≤ b.tk + (b.re + m * b.ra) / b.pe then ({ b with tk := b.bu, re := 0 }, 0) else ({ b with tk := b.tk + (b.re + m * b.ra) / b.pe, re := (b.re + m * b.ra) % b.pe }, 0) := by
    unfold Bkt.tick
    rw [if_neg (by omega)]
  rw [hd, hm1]
  generalize b.re + m * b.ra = r
  have er := Int.mul_ediv_add_emod r b.pe
  by_cases c : b.bu ≤ b.tk + r / b.pe
  · rw [if_pos c]
    have c2 : b.bu ≤ b.tk + (r + n * b.ra) / b.pe := by
      have := Int.ediv_le_ediv (a := r) (b := r + n * b.ra) (c := b.pe) (by omega) (by omega)
      omega
    rw [if_pos c2]
    have c3 : b.bu ≤ b.bu + (0 + n * b.ra) / b.pe := by
      have : 0 ≤ (0 + n * b.ra) / b.pe := Int.ediv_nonneg (by omega) (by omega)
      omega
    unfold Bkt.tick
    rw [if_neg (by omega)]
    dsimp only
    rw [if_pos c3]
  · rw [if_neg c]
    have e1 : r + n * b.ra = (r % b.pe + n * b.ra) + b.pe * (r / b.pe) := by omega
    have e2 : (r + n * b.ra) / b.pe = (r % b.pe + n * b.ra) / b.pe + r / b.pe := by rw [e1, Int.add_mul_ediv_left _ _ (by omega)]
    have e3 : (r + n * b.ra) % b.pe = (r % b.pe + n * b.ra) % b.pe := by rw [e1, Int.add_mul_emod_self_left]
    have e4 : b.tk + r / b.pe + (r % b.pe + n * b.ra) / b.pe = b.tk + (r + n * b.ra) / b.pe := by omega
    unfold Bkt.tick
    rw [if_neg (by omega)]
    dsimp only
    rw [e4, e3]

set_option maxHeartbeats 4000000 in
set_option maxRecDepth 100000 in
theorem split_bad (A B C : Int) (hs : ¬ okShape A B C) (A1 : Option Addr) (c1 : Nat) (l : List Int) (m n ask : Int) (w : World) :
    Calls Try.prog 9 #[.agg #[.int .i64 A, .int .i64 B, .int .i64 C], .slice A1 l.length c1, .int .i64 m, .int .i64 n, .int .i64 ask] w fun e w' => e = .returned (.bool true) ∧ Below w.heap.size w w' := by
  have B0 := (Below.refl w.heap.size w).alloc (Nat.le_refl _) (.cells #[.int .i64 A, .int .i64 B, .int .i64 C] 23)
  have bx := blk_new w (.cells #[.int .i64 A, .int .i64 B, .int .i64 C] 23)
  go_enter Try.func9, Try.ntmps9
  go_wp2_with (first
    | (go_at_call 18; refine (good_no A B C _ hs).mono ?_; rintro e w1 ⟨rfl, hb1⟩; have bx1 := blk_below bx hb1; have d0 := blk_cell bx1 0; have d1 := blk_cell bx1 1; have d2 := blk_cell bx1 2)
    | (go_at_call 19; refine (refused_calls A B C _ hs).mono ?_; rintro e w2 ⟨rfl, hb2⟩))
  go_ret
  exact ⟨rfl, below_step (below_step B0 hb1) hb2⟩

set_option maxHeartbeats 8000000 in
set_option maxRecDepth 100000 in
theorem split_good (A B C : Int) (hs : okShape A B C) (A1 : Option Addr) (c1 : Nat) (l : List Int) (m n ask : Int) (w : World) (hr : (Kd.int .i64).C w A1 l.length l) (hc : l.length ≤ c1) :
    Calls Try.prog 9 #[.agg #[.int .i64 A, .int .i64 B, .int .i64 C], .slice A1 l.length c1, .int .i64 m, .int .i64 n, .int .i64 ask] w fun e w' => e = .returned (.bool true) ∧ Below w.heap.size w w' := by
  have B0 := (Below.refl w.heap.size w).alloc (Nat.le_refl _) (.cells #[.int .i64 A, .int .i64 B, .int .i64 C] 23)
  have bx := blk_new w (.cells #[.int .i64 A, .int .i64 B, .int .i64 C] 23)
  have hlen := hr.2.1
  go_enter Try.func9, Try.ntmps9
  go_wp2_with (first
    | (go_at_call 18; refine (good_yes A B C _ hs).mono ?_; rintro e w1 ⟨rfl, hb1⟩; have bx1 := blk_below bx hb1; have d0 := blk_cell bx1 0; have d1 := blk_cell bx1 1; have d2 := blk_cell bx1 2)
    | (go_at_call 20; refine (twin_calls A B C _ hs).mono ?_; rintro e w2 ⟨rfl, hI, hK, hb2⟩))
  have hlt : w.heap.size < w1.heap.size := blk_lt bx1
  have HI := Aside0.mk (show Inv2 w w2 w.heap.size (w1.heap.size + 1) (w1.heap.size + 2) A B C ⟨A, B, C, C, 0⟩ ⟨A, B, C, C, 0⟩ from
    ⟨below_step (below_step B0 hb1) hb2, blk_below bx1 hb2, hI, hK, Bkt.new_good A B C hs, Bkt.new_good A B C hs, rfl, rfl, rfl, rfl, rfl, rfl, by omega, by omega, by omega, by omega, by omega⟩)
  have HR := Aside0.mk hr
  have HC := Aside0.mk hc
  have HS := Aside0.mk hs
  have HL := Aside0.mk hlen
  clear hr hc hs hlen hI hK hlt hb2 d0 d1 d2 bx1 bx B0 hb1
  generalize w1.heap.size + 1 = g at *
  generalize w1.heap.size + 2 = k at *
  go_loopg [14] l.length (fun kq v14 w' => ∃ (i : Nat) (b : Bkt), v14 = .int .i64 (i : Int) ∧ Aside0 (i + kq = l.length) ∧ Aside0 (Inv2 w w' w.heap.size g k A B C b b))
  case atStart => exact ⟨0, _, rfl, ⟨by omega⟩, HI⟩
  case round =>
    obtain ⟨i, b, rfl, HK, HJ⟩ := hrel
    clear HI
    by_cases c : (i : Int) < (l.length : Int)
    · cases gk with
      | zero => exact absurd HK.out (by omega)
      | succ k1 =>
      obtain ⟨ad, rfl, hx⟩ := Kd.at_int (Kd.C_below HR.out HJ.out.below) i (by omega) c
      rw [Int.toNat_natCast] at hx
      have cb : decide ((i : Int) < (l.length : Int)) = true := by simpa using c
      have p1 : (0 ≤ (i : Int)) = True := eq_true (by omega)
      have p2 : ((i : Int) < (l.length : Int)) = True := eq_true c
      have hwi : wrap64 ((i : Int) + 1) = ((i + 1 : Nat) : Int) := Go.IntWalk.wrap64_in _ (by have := HL.out; omega)
      have hdr := fun W (hW : Below w.heap.size w W) => (Kd.at_int (Kd.C_below HR.out hW) i (by omega) c)
      generalize rd l (i : Int) = n1 at *
      have hcell : ∀ W, Below w.heap.size w W → W.cell? (ad.add i) = some (.int .i64 n1) := fun W hW => by
        obtain ⟨ad', e', h'⟩ := hdr W hW
        obtain rfl := Option.some.inj e'
        rw [Int.toNat_natCast] at h'
        exact h'
      have HCell := Aside0.mk hcell
      clear hdr hcell c
      obtain ⟨t, ht⟩ : ∃ t, (b.take n1).2.1 = t := ⟨_, rfl⟩
      obtain ⟨u, hu⟩ : ∃ u, (b.take n1).2.2 = u := ⟨_, rfl⟩
      have ft : (t != t) = false := by simp
      have fu : (u != u) = false := by simp
      go_wp2_with (first
        | (go_at_call 21; (with_reducible refine (take_calls g b HJ.out.good n1 _ HJ.out.isb).mono ?_); rintro e w3 ⟨rfl, hI3, hH3⟩; rw [ht, hu]; have J1 := Aside0.mk (HJ.out.turn hH3 hI3 (Bkt.take_good HJ.out.good _) (Bkt.take_like b _)); clear hI3 hH3; have hx1 := HCell.out _ J1.out.below)
        | (go_at_call 21; (with_reducible refine (take_calls k b J1.out.goodc n1 _ J1.out.isc).mono ?_); rintro e w4 ⟨rfl, hI4, hH4⟩; rw [ht, hu]; have J2 := Aside0.mk (J1.out.turn2 hH4 hI4 (Bkt.take_good J1.out.goodc _) (Bkt.take_like b _)); clear hI4 hH4)
        | (go_at_call 14; refine (num_calls _ _).mono ?_; rintro e w' ⟨rfl, rfl⟩))
      go_roundg k1
      case measure => have := HK.out; omega
      case rel => exact ⟨i + 1, _, by rw [hwi], ⟨by have := HK.out; omega⟩, J2⟩
    · have cb : decide ((i : Int) < (l.length : Int)) = false := by simpa using c
      have cb2 : decide (i < l.length) = false := by simp; omega
      have cb3 : ((i : Int) < (l.length : Int)) = False := eq_false c
      have z1 : b.tick (-1) = (b, 1) := by unfold Bkt.tick; rw [if_pos (by omega)]
      have z2 : (b.tick (-1)).1 = b := by rw [z1]
      have z3 : (b.tick (-1)).2 = 1 := by rw [z1]
      have z4 : (b.tk == b.tk) = true := by simp
      by_cases k1 : m < 0
      · have k1b : decide (m < 0) = true := by simpa using k1
        clear z1 c k1
        go_wp2_with (first
          | (go_at_call 22; (with_reducible refine (tick_calls g b HJ.out.good (-1) _ HJ.out.isb).mono ?_); rintro e w3 ⟨rfl, hI3, hH3⟩; rw [z2] at hI3; rw [z3]; have J1 := Aside0.mk (HJ.out.turn hH3 hI3 HJ.out.good (Bkt.Like.refl b)); clear hI3 hH3)
          | (go_at_call 28; (with_reducible refine (level_calls g b _ J1.out.isb).mono ?_); rintro e w4 ⟨rfl, hI4, hH4⟩; have J2 := Aside0.mk (J1.out.turn hH4 hI4 J1.out.good (Bkt.Like.refl b)); clear hI4 hH4)
          | (go_at_call 28; (with_reducible refine (level_calls k b _ J2.out.isc).mono ?_); rintro e w5 ⟨rfl, hI5, hH5⟩; have J3 := Aside0.mk (J2.out.turn2 hH5 hI5 J2.out.goodc (Bkt.Like.refl b)); clear hI5 hH5)
          | (go_at_call 14; refine (num_calls _ _).mono ?_; rintro e w' ⟨rfl, rfl⟩))
        go_ret
        exact ⟨rfl, J3.out.below⟩
      have k1b : decide (m < 0) = false := by simpa using k1
      by_cases k2 : n < 0
      · have k2b : decide (n < 0) = true := by simpa using k2
        clear z1 c k1 k2
        go_wp2_with (first
          | (go_at_call 22; (with_reducible refine (tick_calls g b HJ.out.good (-1) _ HJ.out.isb).mono ?_); rintro e w3 ⟨rfl, hI3, hH3⟩; rw [z2] at hI3; rw [z3]; have J1 := Aside0.mk (HJ.out.turn hH3 hI3 HJ.out.good (Bkt.Like.refl b)); clear hI3 hH3)
          | (go_at_call 28; (with_reducible refine (level_calls g b _ J1.out.isb).mono ?_); rintro e w4 ⟨rfl, hI4, hH4⟩; have J2 := Aside0.mk (J1.out.turn hH4 hI4 J1.out.good (Bkt.Like.refl b)); clear hI4 hH4)
          | (go_at_call 28; (with_reducible refine (level_calls k b _ J2.out.isc).mono ?_); rintro e w5 ⟨rfl, hI5, hH5⟩; have J3 := Aside0.mk (J2.out.turn2 hH5 hI5 J2.out.goodc (Bkt.Like.refl b)); clear hI5 hH5)
          | (go_at_call 14; refine (num_calls _ _).mono ?_; rintro e w' ⟨rfl, rfl⟩))
        go_ret
        exact ⟨rfl, J3.out.below⟩
      have k2b : decide (n < 0) = false := by simpa using k2
      by_cases k3 : 549755813888 < m
      · have k3b : decide (549755813888 < m) = true := by simpa using k3
        clear z1 c k1 k2 k3
        go_wp2_with (first
          | (go_at_call 22; (with_reducible refine (tick_calls g b HJ.out.good (-1) _ HJ.out.isb).mono ?_); rintro e w3 ⟨rfl, hI3, hH3⟩; rw [z2] at hI3; rw [z3]; have J1 := Aside0.mk (HJ.out.turn hH3 hI3 HJ.out.good (Bkt.Like.refl b)); clear hI3 hH3)
          | (go_at_call 28; (with_reducible refine (level_calls g b _ J1.out.isb).mono ?_); rintro e w4 ⟨rfl, hI4, hH4⟩; have J2 := Aside0.mk (J1.out.turn hH4 hI4 J1.out.good (Bkt.Like.refl b)); clear hI4 hH4)
          | (go_at_call 28; (with_reducible refine (level_calls k b _ J2.out.isc).mono ?_); rintro e w5 ⟨rfl, hI5, hH5⟩; have J3 := Aside0.mk (J2.out.turn2 hH5 hI5 J2.out.goodc (Bkt.Like.refl b)); clear hI5 hH5)
          | (go_at_call 14; refine (num_calls _ _).mono ?_; rintro e w' ⟨rfl, rfl⟩))
        go_ret
        exact ⟨rfl, J3.out.below⟩
      have k3b : decide (549755813888 < m) = false := by simpa using k3
      by_cases k4 : 549755813888 < n
      · have k4b : decide (549755813888 < n) = true := by simpa using k4
        clear z1 c k1 k2 k3 k4
        go_wp2_with (first
          | (go_at_call 22; (with_reducible refine (tick_calls g b HJ.out.good (-1) _ HJ.out.isb).mono ?_); rintro e w3 ⟨rfl, hI3, hH3⟩; rw [z2] at hI3; rw [z3]; have J1 := Aside0.mk (HJ.out.turn hH3 hI3 HJ.out.good (Bkt.Like.refl b)); clear hI3 hH3)
          | (go_at_call 28; (with_reducible refine (level_calls g b _ J1.out.isb).mono ?_); rintro e w4 ⟨rfl, hI4, hH4⟩; have J2 := Aside0.mk (J1.out.turn hH4 hI4 J1.out.good (Bkt.Like.refl b)); clear hI4 hH4)
          | (go_at_call 28; (with_reducible refine (level_calls k b _ J2.out.isc).mono ?_); rintro e w5 ⟨rfl, hI5, hH5⟩; have J3 := Aside0.mk (J2.out.turn2 hH5 hI5 J2.out.goodc (Bkt.Like.refl b)); clear hI5 hH5)
          | (go_at_call 14; refine (num_calls _ _).mono ?_; rintro e w' ⟨rfl, rfl⟩))
        go_ret
        exact ⟨rfl, J3.out.below⟩
      have k4b : decide (549755813888 < n) = false := by simpa using k4
      have J := HJ.out
      have e1 := Bkt.tick_zero b m (by omega) (by omega)
      have e2 := Bkt.tick_zero (b.tick m).1 n (by omega) (by omega)
      obtain ⟨s, hs⟩ : ∃ s, m + n = s := ⟨_, rfl⟩
      have e3 := Bkt.tick_zero b s (by omega) (by omega)
      have e4 := Bkt.tick_split J.good m n (by omega) (by omega) (by omega)
      rw [hs] at e4
      have f1 : IntKind.i64.wrap (m + n) = s := by rw [hs]; exact (i64_w _).trans (Go.IntWalk.wrap64_in _ (by omega))
      clear z1 z2 z3 z4 c k1 k2 k3 k4 J hs
      obtain ⟨d, hd⟩ : ∃ d, (b.tick s).1 = d := ⟨_, rfl⟩
      rw [hd] at e4
      have g0 := Aside0.mk (Bkt.tick_good HJ.out.good s)
      rw [hd] at g0
      obtain ⟨q, hq⟩ : ∃ q, (d.wait ask).1 = q := ⟨_, rfl⟩
      obtain ⟨r, hr⟩ : ∃ r, (d.wait ask).2 = r := ⟨_, rfl⟩
      have f2 : (q == q) = true := by simp
      have f3 : (r == r) = true := by simp
      have f4 : (d.tk == d.tk) = true := by simp
      go_wp2_with (first
        | (go_at_call 22; (with_reducible refine (tick_calls g b HJ.out.good m _ HJ.out.isb).mono ?_); rintro e w3 ⟨rfl, hI3, hH3⟩; rw [e1]; have J1 := Aside0.mk (HJ.out.turn hH3 hI3 (Bkt.tick_good HJ.out.good m) (Bkt.tick_like b m)); clear hI3 hH3)
        | (go_at_call 22; (with_reducible refine (tick_calls g _ J1.out.good n _ J1.out.isb).mono ?_); rintro e w4 ⟨rfl, hI4, hH4⟩; rw [e2]; have J2 := Aside0.mk (J1.out.turn hH4 hI4 (Bkt.tick_good J1.out.good n) (Bkt.tick_like _ n)); clear hI4 hH4; rw [e4] at J2)
        | (go_at_call 22; (with_reducible refine (tick_calls k b J2.out.goodc s _ J2.out.isc).mono ?_); rintro e w5 ⟨rfl, hI5, hH5⟩; rw [e3]; have J3 := Aside0.mk (J2.out.turn2 hH5 hI5 (Bkt.tick_good J2.out.goodc s) (Bkt.tick_like _ s)); clear hI5 hH5; rw [hd] at J3)
        | (go_at_call 23; (with_reducible refine (wait_calls g d J3.out.good ask _ J3.out.isb).mono ?_); rintro e w6 ⟨rfl, hI6, hH6⟩; rw [hq, hr]; have J4 := Aside0.mk (J3.out.turn hH6 hI6 J3.out.good (Bkt.Like.refl d)); clear hI6 hH6)
        | (go_at_call 23; (with_reducible refine (wait_calls k d J4.out.goodc ask _ J4.out.isc).mono ?_); rintro e w7 ⟨rfl, hI7, hH7⟩; rw [hq, hr]; have J5 := Aside0.mk (J4.out.turn2 hH7 hI7 J4.out.goodc (Bkt.Like.refl d)); clear hI7 hH7)
        | (go_at_call 28; (with_reducible refine (level_calls g d _ J5.out.isb).mono ?_); rintro e w8 ⟨rfl, hI8, hH8⟩; have J6 := Aside0.mk (J5.out.turn hH8 hI8 J5.out.good (Bkt.Like.refl d)); clear hI8 hH8)
        | (go_at_call 28; (with_reducible refine (level_calls k d _ J6.out.isc).mono ?_); rintro e w9 ⟨rfl, hI9, hH9⟩; have J7 := Aside0.mk (J6.out.turn2 hH9 hI9 J6.out.goodc (Bkt.Like.refl d)); clear hI9 hH9)
        | (go_at_call 14; refine (num_calls _ _).mono ?_; rintro e w' ⟨rfl, rfl⟩))
      go_ret
      exact ⟨rfl, J7.out.below⟩

theorem split_calls (A B C : Int) (A1 : Option Addr) (c1 : Nat) (l : List Int) (m n ask : Int) (w : World) (hr : (Kd.int .i64).C w A1 l.length l) (hc : l.length ≤ c1) :
    Calls Try.prog 9 #[.agg #[.int .i64 A, .int .i64 B, .int .i64 C], .slice A1 l.length c1, .int .i64 m, .int .i64 n, .int .i64 ask] w fun e w' => e = .returned (.bool true) ∧ Below w.heap.size w w' := by
  by_cases h2 : okShape A B C
  · exact split_good A B C h2 A1 c1 l m n ask w hr hc
  · exact split_bad A B C h2 A1 c1 l m n ask w

end Go.Proofs.Ythajekcjgkidhaa.Q
