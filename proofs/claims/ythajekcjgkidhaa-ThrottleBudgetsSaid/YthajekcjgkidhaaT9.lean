/- The walk of granarylaw10.ThrottleWindow: it answers true at every input. No condition but that the slice is read. -/
import Derived.Test.YthajekcjgkidhaaProg
import Derived.Below
import Derived.Deep.Draws
import Derived.Deep.AppendLies
import Derived.Maps.AppendAt
import Derived.OwnWalk
import Derived.Laws.BytesArg
import Derived.Laws.MakeOwn
import Derived.Laws.OwnMore
import Derived.Deep.OwnRows
import Derived.Tactics
import Derived.Lib.ConvBytes
import Derived.Laws.Slices
import Derived.WalkKit
import Derived.KernelRfl
import Derived.RowKit3
import Derived.Deep.LoopGhost
import Derived.Deep.QuietTactic
import Derived.BigQuiet
import Derived.WideLaws
import Derived.Deep.DeepCutAuto
import Derived.Deep.CutBlock
import Derived.Deep.RegionHeld3
import Derived.Laws.Rows
import Derived.Lib.AppendStr
import Derived.ArgAppend
import Derived.Laws.IdiomCopy
import Derived.OrdersHeld
import Derived.Laws.BitsLemmas
import Derived.RowKit
import Derived.Test.YthajekcjgkidhaaWWords
import Derived.Test.YthajekcjgkidhaaWLast
import Derived.Test.YthajekcjgkidhaaWTab
import Derived.Test.YthajekcjgkidhaaWFour
import Derived.Test.YthajekcjgkidhaaWQPut
import Derived.Test.YthajekcjgkidhaaWApart
import Derived.Test.YthajekcjgkidhaaWArr
import Derived.Test.YthajekcjgkidhaaWZeros
import Derived.Test.YthajekcjgkidhaaWFoot
import Derived.Test.YthajekcjgkidhaaWKept
import Derived.Test.YthajekcjgkidhaaWShare
import Derived.Test.YthajekcjgkidhaaWN
import Derived.Test.YthajekcjgkidhaaWFootNe
import Derived.Test.YthajekcjgkidhaaWAt
import Derived.Test.YthajekcjgkidhaaWEqStruct
import Derived.Test.YthajekcjgkidhaaWRepsOne
import Derived.Test.YthajekcjgkidhaaWInv
import Derived.Test.YthajekcjgkidhaaWInvWords
import Derived.Test.YthajekcjgkidhaaWGuard
import Derived.Test.YthajekcjgkidhaaWNEv
import Derived.Test.YthajekcjgkidhaaWMore
import Derived.Test.YthajekcjgkidhaaLocks
import Derived.Conc.MuLone
import Derived.Test.YthajekcjgkidhaaT8
set_option linter.unusedVariables false
set_option linter.unusedSimpArgs false
namespace Go.Proofs.Ythajekcjgkidhaa.Q
open Go.RowKit Go.Proofs.YthajekcjgkidhaaW.PrintWords Go.Proofs.YthajekcjgkidhaaW.PrintLast Go.Proofs.YthajekcjgkidhaaW.PrintMore
open Go.MuLone

/-- One step of a script. -/
structure Op5 where
  k : Int
  a : Int
  n : Int
  d : Int
  f : Int
def Op5.cells (o : Op5) : List Value := [.int .i64 o.k, .int .i64 o.a, .int .i64 o.n, .int .i64 o.d, .int .i64 o.f]
def ROps (W : World) (A : Option Addr) (l : List Op5) : Prop := ReadsRow (fun (o : Op5) c => c = o.cells) 5 W A l.length l
theorem addr_add_add (ad : Addr) (x y : Nat) : (ad.add x).add y = ad.add (x + y) := by
  unfold Addr.add
  by_cases hx : x = 0
  · subst hx; simp
  · by_cases hy : y = 0
    · subst hy; simp [hx]
    · simp [hx, hy, Nat.add_assoc]
theorem ROps.at_ {w W : World} {A : Option Addr} {l : List Op5} (h : ROps w A l) (hb : Below w.heap.size w W) (i : Nat) (hi : i < l.length) : ∃ ad, A = some ad ∧
    W.cell? (ad.add (i * 5)) = some (.int .i64 (l.getD i ⟨0, 0, 0, 0, 0⟩).k) ∧ W.cell? ⟨(ad.add (i * 5)).block, (ad.add (i * 5)).off + 1, none⟩ = some (.int .i64 (l.getD i ⟨0, 0, 0, 0, 0⟩).a) ∧ W.cell? ⟨(ad.add (i * 5)).block, (ad.add (i * 5)).off + 2, none⟩ = some (.int .i64 (l.getD i ⟨0, 0, 0, 0, 0⟩).n) ∧
    W.cell? ⟨(ad.add (i * 5)).block, (ad.add (i * 5)).off + 3, none⟩ = some (.int .i64 (l.getD i ⟨0, 0, 0, 0, 0⟩).d) ∧ W.cell? ⟨(ad.add (i * 5)).block, (ad.add (i * 5)).off + 4, none⟩ = some (.int .i64 (l.getD i ⟨0, 0, 0, 0, 0⟩).f) := by
  have h2 : ReadsRow (fun (o : Op5) c => c = o.cells) 5 W A l.length l := ReadsRow.imp_ h hb (fun _ _ hp => hp)
  obtain ⟨ad, c, e, hl, hc, hx⟩ := h2.get_ ⟨0, 0, 0, 0, 0⟩ (i : Int) (by omega) (by omega)
  rw [Int.toNat_natCast] at hc hx
  subst hc
  have ha : ∀ j, (ad.add (i * 5)).add j = ad.add (i * 5 + j) := addr_add_add ad (i * 5)
  refine ⟨ad, e, ?_, ?_, ?_, ?_, ?_⟩
  · exact hx 0 _ rfl
  · have h3 := hx 1 _ rfl
    rw [← ha] at h3
    exact h3
  · have h3 := hx 2 _ rfl
    rw [← ha] at h3
    exact h3
  · have h3 := hx 3 _ rfl
    rw [← ha] at h3
    exact h3
  · have h3 := hx 4 _ rfl
    rw [← ha] at h3
    exact h3

theorem Inv.alloc {w W : World} {h g : Nat} {A B C : Int} {b : Bkt} (I : Inv w W h g A B C b) (o : Obj) : Inv w (W.alloc o) h g A B C b :=
  ⟨below_alloc I.below o, blk_alloc I.shape o, blk_alloc I.isb o, I.good, I.ra, I.pe, I.bu, I.ne, I.ge⟩

set_option maxHeartbeats 4000000 in
set_option maxRecDepth 100000 in
theorem window_bad (A B C : Int) (hs : ¬ okShape A B C) (A1 : Option Addr) (c1 : Nat) (l : List Op5) (w : World) :
    Calls Try.prog 8 #[.agg #[.int .i64 A, .int .i64 B, .int .i64 C], .slice A1 l.length c1] w fun e w' => e = .returned (.bool true) ∧ Below w.heap.size w w' := by
  have B0 := (Below.refl w.heap.size w).alloc (Nat.le_refl _) (.cells #[.int .i64 A, .int .i64 B, .int .i64 C] 23)
  have bx := blk_new w (.cells #[.int .i64 A, .int .i64 B, .int .i64 C] 23)
  go_enter Try.func8, Try.ntmps8
  go_wp2_with (first
    | (go_at_call 18; refine (good_no A B C _ hs).mono ?_; rintro e w1 ⟨rfl, hb1⟩; have bx1 := blk_below bx hb1; have d0 := blk_cell bx1 0; have d1 := blk_cell bx1 1; have d2 := blk_cell bx1 2)
    | (go_at_call 19; refine (refused_calls A B C _ hs).mono ?_; rintro e w2 ⟨rfl, hb2⟩))
  go_ret
  exact ⟨rfl, below_step (below_step B0 hb1) hb2⟩

def Bkt.parts (b : Bkt) : Int := b.tk * b.pe + b.re

theorem Bkt.tick_parts {b : Bkt} (h : b.Good) (n : Int) (h0 : 0 ≤ n) (h1 : n ≤ 1099511627776) : (b.tick n).1.parts ≤ b.parts + n * b.ra ∧ (b.tick n).1.parts ≤ b.pe * b.bu := by
  have p1 := h.pe1
  unfold Bkt.tick Bkt.parts
  rw [if_neg (by omega)]
  have e0 : b.tk * b.pe + b.re + n * b.ra = b.tk * b.pe + (b.re + n * b.ra) := by omega
  rw [e0]
  generalize b.re + n * b.ra = r
  have er := Int.mul_ediv_add_emod r b.pe
  have s0 : 0 ≤ r % b.pe := Int.emod_nonneg _ (by omega)
  have s1 : r % b.pe < b.pe := Int.emod_lt_of_pos _ (by omega)
  have e1 : (b.tk + r / b.pe) * b.pe = b.tk * b.pe + b.pe * (r / b.pe) := by rw [Int.add_mul, Int.mul_comm (r / b.pe)]
  by_cases c : b.bu ≤ b.tk + r / b.pe
  · rw [if_pos c]
    have e2 : b.bu * b.pe ≤ (b.tk + r / b.pe) * b.pe := Int.mul_le_mul_of_nonneg_right c (by omega)
    have e3 : b.bu * b.pe = b.pe * b.bu := Int.mul_comm _ _
    exact ⟨by show b.bu * b.pe + 0 ≤ _; omega, by show b.bu * b.pe + 0 ≤ _; omega⟩
  · rw [if_neg c]
    have e2 : (b.tk + r / b.pe + 1) * b.pe ≤ b.bu * b.pe := Int.mul_le_mul_of_nonneg_right (by omega) (by omega)
    have e3 : b.bu * b.pe = b.pe * b.bu := Int.mul_comm _ _
    rw [Int.add_mul, Int.one_mul] at e2
    exact ⟨by show (b.tk + r / b.pe) * b.pe + r % b.pe ≤ _; omega, by show (b.tk + r / b.pe) * b.pe + r % b.pe ≤ _; omega⟩

theorem Bkt.parts_nonneg {b : Bkt} (h : b.Good) : 0 ≤ b.parts := by
  unfold Bkt.parts
  have := h.re1
  have : 0 ≤ b.tk * b.pe := Int.mul_nonneg h.tk1 (by have := h.pe1; omega)
  omega

set_option maxHeartbeats 8000000 in
set_option maxRecDepth 100000 in
theorem window_good (A B C : Int) (hs : okShape A B C) (A1 : Option Addr) (c1 : Nat) (l : List Op5) (w : World) (hr : ROps w A1 l) (hc : l.length ≤ c1) :
    Calls Try.prog 8 #[.agg #[.int .i64 A, .int .i64 B, .int .i64 C], .slice A1 l.length c1] w fun e w' => e = .returned (.bool true) ∧ Below w.heap.size w w' := by
  have hlen := hr.2.1
  have B0 := (Below.refl w.heap.size w).alloc (Nat.le_refl _) (.cells #[.int .i64 A, .int .i64 B, .int .i64 C] 23)
  have bx := blk_new w (.cells #[.int .i64 A, .int .i64 B, .int .i64 C] 23)
  go_enter Try.func8, Try.ntmps8
  go_wp2_with (first
    | (go_at_call 18; refine (good_yes A B C _ hs).mono ?_; rintro e w1 ⟨rfl, hb1⟩; have bx1 := blk_below bx hb1; have d0 := blk_cell bx1 0; have d1 := blk_cell bx1 1; have d2 := blk_cell bx1 2)
    | (go_at_call 25; refine (new_calls A B C _ hs).mono ?_; rintro e w2 ⟨rfl, hI, rfl⟩)
    | (go_at_call 14; refine (num_calls _ _).mono ?_; rintro e w' ⟨rfl, rfl⟩))
  have hbl : Below w.heap.size w (w1.alloc (.cells (Bkt.cells ⟨A, B, C, C, 0⟩ 0) 92)) := (below_step B0 hb1).alloc (by have := B0.size; have := hb1.size; omega) _
  have hlt : w.heap.size < w1.heap.size := blk_lt bx1
  have HI := Aside0.mk (show Inv w (w1.alloc (.cells (Bkt.cells ⟨A, B, C, C, 0⟩ 0) 92)) w.heap.size w1.heap.size A B C ⟨A, B, C, C, 0⟩ from
    ⟨hbl, blk_alloc bx1 _, hI, Bkt.new_good A B C hs, rfl, rfl, rfl, by omega, by omega⟩)
  have HM : Aside0 ((0 : Int) + (⟨A, B, C, C, 0⟩ : Bkt).parts ≤ B * C) := ⟨by unfold Bkt.parts; dsimp only; rw [Int.mul_comm]; omega⟩
  have HR := Aside0.mk hr
  have HC := Aside0.mk hc
  have HS := Aside0.mk hs
  have HL := Aside0.mk hlen
  clear hr hc hs hlen hI hbl hlt d0 d1 d2 bx1 bx B0 hb1
  generalize (w1.alloc (.cells (Bkt.cells ⟨A, B, C, C, 0⟩ 0) 92)) = W0 at *
  generalize w1.heap.size = g at *
  go_loopg [7, 8] l.length (fun kq v7 v8 w' => ∃ (i : Nat) (t : Int) (b : Bkt), v7 = .int .i64 t ∧ v8 = .int .i64 (i : Int) ∧ Aside0 (i + kq = l.length) ∧ Aside0 (0 ≤ t) ∧ Aside0 (t + b.parts ≤ B * C) ∧ Aside0 (Inv w w' w.heap.size g A B C b))
  case atStart => exact ⟨0, 0, _, rfl, rfl, ⟨by omega⟩, ⟨by omega⟩, HM, HI⟩
  case round =>
    obtain ⟨i, t, b, rfl, rfl, HK, HT, HP, HJ⟩ := hrel
    clear HI HM
    have d0 := blk_cell HJ.out.shape 0
    have d1 := blk_cell HJ.out.shape 1
    have d2 := blk_cell HJ.out.shape 2
    by_cases c : (i : Int) < (l.length : Int)
    · cases gk with
      | zero => exact absurd HK.out (by omega)
      | succ k1 =>
      obtain ⟨ad, rfl, hx0, hx1, hx2, hx3, hx4⟩ := HR.out.at_ HJ.out.below i (by omega)
      have cb : decide ((i : Int) < (l.length : Int)) = true := by simpa using c
      have p1 : (0 ≤ (i : Int)) = True := eq_true (by omega)
      have p2 : ((i : Int) < (l.length : Int)) = True := eq_true c
      have hwi : wrap64 ((i : Int) + 1) = ((i + 1 : Nat) : Int) := Go.IntWalk.wrap64_in _ (by have := HL.out; omega)
      generalize l.getD i ⟨0, 0, 0, 0, 0⟩ = o at *
      obtain ⟨ok, oa, on, od, of⟩ := o
      dsimp only at hx0 hx1 hx2 hx3 hx4
      clear c
      have hlt : w.heap.size < wr.heap.size := blk_lt HJ.out.shape
      have J0 := Aside0.mk (HJ.out.alloc (.cells #[.int .i64 ok, .int .i64 oa, .int .i64 on, .int .i64 od, .int .i64 of] 37))
      have e0 := blk_cell J0.out.shape 0
      have e1 := blk_cell J0.out.shape 1
      have e2 := blk_cell J0.out.shape 2
      have b0 := blk_new wr (.cells #[.int .i64 ok, .int .i64 oa, .int .i64 on, .int .i64 od, .int .i64 of] 37)
      obtain ⟨o1, o2, o3, o4, o5, o6⟩ := HS.out
      have x0 : 0 ≤ B * C := Int.mul_nonneg (by omega) (by omega)
      have x1 : B * C ≤ 1024 * 65536 := Int.mul_le_mul o4 o6 (by omega) (by omega)
      have f1 : IntKind.i64.wrap (B * C) = B * C := (i64_w _).trans (Go.IntWalk.wrap64_in _ (by omega))
      have J := HJ.out
      have hpos : 0 ≤ b.parts := by
        unfold Bkt.parts
        have := J.good.re1
        have : 0 ≤ b.tk * b.pe := Int.mul_nonneg J.good.tk1 (by have := J.good.pe1; omega)
        omega
      have hgs : g < wr.heap.size := blk_lt HJ.out.isb
      have hne : wr.heap.size ≠ g := by omega
      have k9 : decide (B * C < t) = false := by have := HP.out; simp; omega
      by_cases q1 : ok = 1
      · have q1b : (ok == 1) = true := by simpa using q1
        by_cases m1 : on < 0 ∨ 1099511627776 < on
        · have z1 : b.tick on = (b, 1) := by unfold Bkt.tick; rw [if_pos m1]
          have z2 : (b.tick on).1 = b := by rw [z1]
          have z3 : (b.tick on).2 = 1 := by rw [z1]
          clear o1 o2 o3 o4 o5 o6 x0 x1 J hpos q1 m1 z1
          go_wp2_with (first
            | (go_at_call 22; (with_reducible refine (tick_calls g b J0.out.good on _ J0.out.isb).mono ?_); rintro e w3 ⟨rfl, hI3, hH3⟩; rw [z2] at hI3; rw [z3]; have J1 := Aside0.mk (J0.out.turn hH3 hI3 J0.out.good (Bkt.Like.refl b)); have ob := blk_cell ((hH3.block _ hne).trans b0) 2; clear hI3 hH3; have g0 := blk_cell J1.out.shape 0; have g1 := blk_cell J1.out.shape 1; have g2 := blk_cell J1.out.shape 2)
            | (go_at_call 14; refine (num_calls _ _).mono ?_; rintro e w' ⟨rfl, rfl⟩))
          go_roundg k1
          case measure => have := HK.out; omega
          case rel => exact ⟨i + 1, t, _, rfl, by rw [hwi], ⟨by have := HK.out; omega⟩, HT, HP, J1⟩
        · have z3 := Bkt.tick_zero b on (by omega) (by omega)
          obtain ⟨tp1, tp2⟩ := Bkt.tick_parts J.good on (by omega) (by omega)
          have y0 : 0 ≤ A * on := Int.mul_nonneg (by omega) (by omega)
          have y1 : A * on ≤ 65536 * 1099511627776 := Int.mul_le_mul o2 (by omega) (by omega) (by omega)
          have ea : on * b.ra = A * on := by rw [J.ra, Int.mul_comm]
          have eb : b.pe * b.bu = B * C := by rw [J.pe, J.bu]
          rw [ea] at tp1
          rw [eb] at tp2
          obtain ⟨x, hx⟩ : ∃ x, A * on = x := ⟨_, rfl⟩
          rw [hx] at y0 y1 tp1
          have T := HT.out
          have Q := HP.out
          have f2 : IntKind.i64.wrap (A * on) = x := by rw [hx]; exact (i64_w _).trans (Go.IntWalk.wrap64_in _ (by omega))
          obtain ⟨t', ht'⟩ : ∃ v, t - x = v := ⟨_, rfl⟩
          have f3 : IntKind.i64.wrap (t - x) = t' := by rw [ht']; exact (i64_w _).trans (Go.IntWalk.wrap64_in _ (by omega))
          have m2 : decide (0 ≤ on) = true := by simp; omega
          have m3 : decide (on ≤ 1099511627776) = true := by simp; omega
          have k8 : decide (B * C < t') = false := by simp; omega
          have k7 : decide (B * C < 0) = false := by simp; omega
          by_cases m4 : t' < 0
          · have m4b : decide (t' < 0) = true := by simpa using m4
            have HP2 : Aside0 (0 + (b.tick on).1.parts ≤ B * C) := ⟨by omega⟩
            clear o1 o2 o3 o4 o5 o6 x0 x1 J hpos q1 m1 tp1 tp2 y0 y1 ea eb hx T Q ht' m4
            go_wp2_with (first
              | (go_at_call 22; (with_reducible refine (tick_calls g b J0.out.good on _ J0.out.isb).mono ?_); rintro e w3 ⟨rfl, hI3, hH3⟩; rw [z3]; have J1 := Aside0.mk (J0.out.turn hH3 hI3 (Bkt.tick_good J0.out.good on) (Bkt.tick_like b on)); have ob := blk_cell ((hH3.block _ hne).trans b0) 2; clear hI3 hH3; have g0 := blk_cell J1.out.shape 0; have g1 := blk_cell J1.out.shape 1; have g2 := blk_cell J1.out.shape 2)
              | (go_at_call 14; refine (num_calls _ _).mono ?_; rintro e w' ⟨rfl, rfl⟩))
            go_roundg k1
            case measure => have := HK.out; omega
            case rel => exact ⟨i + 1, 0, _, rfl, by rw [hwi], ⟨by have := HK.out; omega⟩, ⟨Int.le_refl _⟩, HP2, J1⟩
          · have m4b : decide (t' < 0) = false := by simpa using m4
            have HT2 : Aside0 (0 ≤ t') := ⟨by omega⟩
            have HP2 : Aside0 (t' + (b.tick on).1.parts ≤ B * C) := ⟨by omega⟩
            clear o1 o2 o3 o4 o5 o6 x0 x1 J hpos q1 m1 tp1 tp2 y0 y1 ea eb hx T Q ht' m4
            go_wp2_with (first
              | (go_at_call 22; (with_reducible refine (tick_calls g b J0.out.good on _ J0.out.isb).mono ?_); rintro e w3 ⟨rfl, hI3, hH3⟩; rw [z3]; have J1 := Aside0.mk (J0.out.turn hH3 hI3 (Bkt.tick_good J0.out.good on) (Bkt.tick_like b on)); have ob := blk_cell ((hH3.block _ hne).trans b0) 2; clear hI3 hH3; have g0 := blk_cell J1.out.shape 0; have g1 := blk_cell J1.out.shape 1; have g2 := blk_cell J1.out.shape 2)
              | (go_at_call 14; refine (num_calls _ _).mono ?_; rintro e w' ⟨rfl, rfl⟩))
            go_roundg k1
            case measure => have := HK.out; omega
            case rel => exact ⟨i + 1, t', _, rfl, by rw [hwi], ⟨by have := HK.out; omega⟩, HT2, HP2, J1⟩
      have q1b : (ok == 1) = false := by simpa using q1
      by_cases q2 : ok = 2
      · have q2b : (ok == 2) = true := by simpa using q2
        by_cases m1 : 0 ≤ on ∧ on ≤ C ∧ on ≤ b.tk
        · have z1 := Bkt.take_ok b on m1.1 (by rw [J.bu]; exact m1.2.1) m1.2.2
          have z2 : (b.take on).2.1 = true := by rw [z1]
          have z3 : (b.take on).2.2 = 0 := by rw [z1]
          have y0 : 0 ≤ B * on := Int.mul_nonneg (by omega) (by omega)
          have y1 : B * on ≤ 1024 * 65536 := Int.mul_le_mul o4 (by omega) (by omega) (by omega)
          have ep : (b.take on).1.parts + B * on = b.parts := by
            rw [z1]; unfold Bkt.parts; dsimp only; rw [Int.sub_mul, J.pe, Int.mul_comm on B]; omega
          obtain ⟨x, hx⟩ : ∃ x, B * on = x := ⟨_, rfl⟩
          rw [hx] at y0 y1 ep
          have T := HT.out
          have Q := HP.out
          have np := Bkt.parts_nonneg (Bkt.take_good J.good on)
          have f2 : IntKind.i64.wrap (B * on) = x := by rw [hx]; exact (i64_w _).trans (Go.IntWalk.wrap64_in _ (by omega))
          obtain ⟨t', ht'⟩ : ∃ v, t + x = v := ⟨_, rfl⟩
          have f3 : IntKind.i64.wrap (t + x) = t' := by rw [ht']; exact (i64_w _).trans (Go.IntWalk.wrap64_in _ (by omega))
          have m2 : decide (on < 0) = false := by simp; omega
          have m3 : decide (C < on) = false := by simp; omega
          have k8 : decide (B * C < t') = false := by simp; omega
          have HT2 : Aside0 (0 ≤ t') := ⟨by omega⟩
          have HP2 : Aside0 (t' + (b.take on).1.parts ≤ B * C) := ⟨by omega⟩
          clear o1 o2 o3 o4 o5 o6 x0 x1 J hpos q1 q2 m1 z1 y0 y1 ep hx T Q np ht'
          go_wp2_with (first
            | (go_at_call 21; (with_reducible refine (take_calls g b J0.out.good on _ J0.out.isb).mono ?_); rintro e w3 ⟨rfl, hI3, hH3⟩; rw [z2, z3]; have J1 := Aside0.mk (J0.out.turn hH3 hI3 (Bkt.take_good J0.out.good on) (Bkt.take_like b on)); have ob := blk_cell ((hH3.block _ hne).trans b0) 2; clear hI3 hH3; have g0 := blk_cell J1.out.shape 0; have g1 := blk_cell J1.out.shape 1; have g2 := blk_cell J1.out.shape 2)
            | (go_at_call 14; refine (num_calls _ _).mono ?_; rintro e w' ⟨rfl, rfl⟩))
          go_roundg k1
          case measure => have := HK.out; omega
          case rel => exact ⟨i + 1, t', _, rfl, by rw [hwi], ⟨by have := HK.out; omega⟩, HT2, HP2, J1⟩
        · have z2 : (b.take on).2.1 = false ∧ (b.take on).1 = b := by
            unfold Bkt.take
            by_cases k0 : b.chk on = 0
            · have := Bkt.chk_zero k0
              rw [if_neg (show ¬ b.chk on ≠ 0 by simp [k0]), if_pos (by have := J.bu; omega)]; exact ⟨rfl, rfl⟩
            · rw [if_pos (show b.chk on ≠ 0 from k0)]; exact ⟨rfl, rfl⟩
          obtain ⟨z2, z4⟩ := z2
          clear o1 o2 o3 o4 o5 o6 x0 x1 J hpos q1 q2 m1
          go_wp2_with (first
            | (go_at_call 21; (with_reducible refine (take_calls g b J0.out.good on _ J0.out.isb).mono ?_); rintro e w3 ⟨rfl, hI3, hH3⟩; rw [z4] at hI3; rw [z2]; have J1 := Aside0.mk (J0.out.turn hH3 hI3 J0.out.good (Bkt.Like.refl b)); have ob := blk_cell ((hH3.block _ hne).trans b0) 2; clear hI3 hH3; have g0 := blk_cell J1.out.shape 0; have g1 := blk_cell J1.out.shape 1; have g2 := blk_cell J1.out.shape 2)
            | (go_at_call 14; refine (num_calls _ _).mono ?_; rintro e w' ⟨rfl, rfl⟩))
          go_roundg k1
          case measure => have := HK.out; omega
          case rel => exact ⟨i + 1, t, _, rfl, by rw [hwi], ⟨by have := HK.out; omega⟩, HT, HP, J1⟩
      have q2b : (ok == 2) = false := by simpa using q2
      by_cases q3 : ok = 3
      · have q3b : (ok == 3) = true := by simpa using q3
        clear o1 o2 o3 o4 o5 o6 x0 x1 J hpos q1 q2 q3
        go_wp2_with (first
          | (go_at_call 23; (with_reducible refine (wait_calls g b J0.out.good on _ J0.out.isb).mono ?_); rintro e w3 ⟨rfl, hI3, hH3⟩; have J1 := Aside0.mk (J0.out.turn hH3 hI3 J0.out.good (Bkt.Like.refl b)); clear hI3 hH3; have g0 := blk_cell J1.out.shape 0; have g1 := blk_cell J1.out.shape 1; have g2 := blk_cell J1.out.shape 2))
        go_roundg k1
        case measure => have := HK.out; omega
        case rel => exact ⟨i + 1, t, _, rfl, by rw [hwi], ⟨by have := HK.out; omega⟩, HT, HP, J1⟩
      have q3b : (ok == 3) = false := by simpa using q3
      clear o1 o2 o3 o4 o5 o6 x0 x1 J hpos q1 q2 q3
      go_wp2_with fail
      go_roundg k1
      case measure => have := HK.out; omega
      case rel => exact ⟨i + 1, t, _, rfl, by rw [hwi], ⟨by have := HK.out; omega⟩, HT, HP, J0⟩
    · have cb : decide ((i : Int) < (l.length : Int)) = false := by simpa using c
      have cb2 : decide (i < l.length) = false := by simp; omega
      have cb3 : ((i : Int) < (l.length : Int)) = False := eq_false c
      have J := HJ.out
      have jbu := J.bu
      have bu1 := J.good.bu1
      obtain ⟨q, hq, q0, q1, -, q3, -, -⟩ := Bkt.wait_ok J.good C (by omega) (by omega)
      obtain ⟨e1, e2⟩ := Bkt.tick_there J.good C q (by omega) q0 (by omega) q3
      have lk := (Bkt.tick_like b q).2.2
      have tk2 := (Bkt.tick_good J.good q).tk2
      have e3 := Bkt.take_ok (b.tick q).1 C (by omega) (by omega) e2
      have e4 : ((b.tick q).1.take C).2.1 = true := by rw [e3]
      have e5 : ((b.tick q).1.take C).2.2 = 0 := by rw [e3]
      have e8 : ((b.tick q).1.take C).1.tk = 0 := by rw [e3]; show (b.tick q).1.tk - C = 0; omega
      have e6 : (b.wait C).1 = q := by rw [hq]
      have e7 : (b.wait C).2 = 0 := by rw [hq]
      clear c J jbu bu1 hq q0 q1 q3 e2 lk tk2 e3
      go_wp2_with (first
        | (go_at_call 23; (with_reducible refine (wait_calls g b HJ.out.good C _ HJ.out.isb).mono ?_); rintro e w2 ⟨rfl, hI2, hH2⟩; rw [e6, e7]; have J2 := Aside0.mk (HJ.out.turn hH2 hI2 HJ.out.good (Bkt.Like.refl b)); clear hI2 hH2)
        | (go_at_call 22; (with_reducible refine (tick_calls g b J2.out.good q _ J2.out.isb).mono ?_); rintro e w3 ⟨rfl, hI3, hH3⟩; rw [e1]; have J3 := Aside0.mk (J2.out.turn hH3 hI3 (Bkt.tick_good J2.out.good q) (Bkt.tick_like b q)); clear hI3 hH3; have g2 := blk_cell J3.out.shape 2)
        | (go_at_call 21; (with_reducible refine (take_calls g _ J3.out.good C _ J3.out.isb).mono ?_); rintro e w4 ⟨rfl, hI4, hH4⟩; rw [e4, e5]; have J4 := Aside0.mk (J3.out.turn hH4 hI4 (Bkt.take_good J3.out.good C) (Bkt.take_like _ C)); clear hI4 hH4)
        | (go_at_call 28; (with_reducible refine (level_calls g _ _ J4.out.isb).mono ?_); rintro e w5 ⟨rfl, hI5, hH5⟩; rw [e8]; have J5 := Aside0.mk (J4.out.turn hH5 hI5 J4.out.good (Bkt.Like.refl _)); clear hI5 hH5)
        | (go_at_call 14; refine (num_calls _ _).mono ?_; rintro e w' ⟨rfl, rfl⟩))
      go_ret
      exact ⟨rfl, J5.out.below⟩

theorem window_calls (A B C : Int) (A1 : Option Addr) (c1 : Nat) (l : List Op5) (w : World) (hr : ROps w A1 l) (hc : l.length ≤ c1) :
    Calls Try.prog 8 #[.agg #[.int .i64 A, .int .i64 B, .int .i64 C], .slice A1 l.length c1] w fun e w' => e = .returned (.bool true) ∧ Below w.heap.size w w' := by
  by_cases h2 : okShape A B C
  · exact window_good A B C h2 A1 c1 l w hr hc
  · exact window_bad A B C h2 A1 c1 l w

end Go.Proofs.Ythajekcjgkidhaa.Q
