/- Plain laws of a bucket: it stays within its bounds; a wait is just long enough; one tick less is too few. Condition: numbers within what NewBucket makes. -/
import Derived.Test.YthajekcjgkidhaaProg
import Derived.Below
import Derived.Deep.Draws
import Derived.Deep.AppendLies
import Derived.Maps.AppendAt
import Derived.OwnWalk
import Derived.Laws.BytesArg
import Derived.Laws.MakeOwn
import Derived.Laws.OwnMore
import Derived.Deep.OwnRows
import Derived.Tactics
import Derived.Lib.ConvBytes
import Derived.Laws.Slices
import Derived.WalkKit
import Derived.KernelRfl
import Derived.RowKit3
import Derived.Deep.LoopGhost
import Derived.Deep.QuietTactic
import Derived.BigQuiet
import Derived.WideLaws
import Derived.Deep.DeepCutAuto
import Derived.Deep.CutBlock
import Derived.Deep.RegionHeld3
import Derived.Laws.Rows
import Derived.Lib.AppendStr
import Derived.ArgAppend
import Derived.Laws.IdiomCopy
import Derived.OrdersHeld
import Derived.Laws.BitsLemmas
import Derived.RowKit
import Derived.Test.YthajekcjgkidhaaWWords
import Derived.Test.YthajekcjgkidhaaWLast
import Derived.Test.YthajekcjgkidhaaWTab
import Derived.Test.YthajekcjgkidhaaWFour
import Derived.Test.YthajekcjgkidhaaWQPut
import Derived.Test.YthajekcjgkidhaaWApart
import Derived.Test.YthajekcjgkidhaaWArr
import Derived.Test.YthajekcjgkidhaaWZeros
import Derived.Test.YthajekcjgkidhaaWFoot
import Derived.Test.YthajekcjgkidhaaWKept
import Derived.Test.YthajekcjgkidhaaWShare
import Derived.Test.YthajekcjgkidhaaWN
import Derived.Test.YthajekcjgkidhaaWFootNe
import Derived.Test.YthajekcjgkidhaaWAt
import Derived.Test.YthajekcjgkidhaaWEqStruct
import Derived.Test.YthajekcjgkidhaaWRepsOne
import Derived.Test.YthajekcjgkidhaaWInv
import Derived.Test.YthajekcjgkidhaaWInvWords
import Derived.Test.YthajekcjgkidhaaWGuard
import Derived.Test.YthajekcjgkidhaaWNEv
import Derived.Test.YthajekcjgkidhaaWMore
import Derived.Test.YthajekcjgkidhaaLocks
import Derived.Conc.MuLone
import Derived.Test.YthajekcjgkidhaaT2
import Derived.Test.YthajekcjgkidhaaT4
set_option linter.unusedVariables false
set_option linter.unusedSimpArgs false
namespace Go.Proofs.Ythajekcjgkidhaa.Q

/-! ### Plain laws of a bucket -/
theorem Bkt.chk_in (b : Bkt) (n : Int) (h0 : 0 ≤ n) (h1 : n ≤ b.bu) : b.chk n = 0 := by
  unfold Bkt.chk
  rw [if_neg (by omega), if_neg (by omega)]

theorem Bkt.new_good (ra pe bu : Int) (h : okShape ra pe bu) : (⟨ra, pe, bu, bu, 0⟩ : Bkt).Good := by
  obtain ⟨h1, h2, h3, h4, h5, h6⟩ := h
  exact ⟨h1, h2, h3, h4, h5, h6, by show 0 ≤ bu; omega, Int.le_refl _, Int.le_refl _, by show 0 < pe; omega⟩

/-- The same rate, per and burst. -/
def Bkt.Like (b c : Bkt) : Prop := c.ra = b.ra ∧ c.pe = b.pe ∧ c.bu = b.bu
theorem Bkt.Like.refl (b : Bkt) : b.Like b := ⟨rfl, rfl, rfl⟩
theorem Bkt.Like.trans {a b c : Bkt} (h : a.Like b) (k : b.Like c) : a.Like c := ⟨k.1.trans h.1, k.2.1.trans h.2.1, k.2.2.trans h.2.2⟩

theorem Bkt.tick_like (b : Bkt) (n : Int) : b.Like (b.tick n).1 := by
  unfold Bkt.tick
  split
  · exact ⟨rfl, rfl, rfl⟩
  split <;> exact ⟨rfl, rfl, rfl⟩
theorem Bkt.take_like (b : Bkt) (n : Int) : b.Like (b.take n).1 := by
  unfold Bkt.take
  split
  · exact ⟨rfl, rfl, rfl⟩
  split <;> exact ⟨rfl, rfl, rfl⟩

theorem Bkt.tick_good {b : Bkt} (h : b.Good) (n : Int) : (b.tick n).1.Good := by
  unfold Bkt.tick
  by_cases k0 : n < 0 ∨ 1099511627776 < n
  · rw [if_pos k0]; exact h
  rw [if_neg k0]
  have a1 := h.ra1
  have p1 := h.pe1
  have t1 := h.tk1
  have r1 := h.re1
  have h1 : 0 ≤ n * b.ra := Int.mul_nonneg (by omega) (by omega)
  generalize n * b.ra = m at *
  have q0 : 0 ≤ (b.re + m) / b.pe := Int.ediv_nonneg (by omega) (by omega)
  have s0 : 0 ≤ (b.re + m) % b.pe := Int.emod_nonneg _ (by omega)
  have s1 : (b.re + m) % b.pe < b.pe := Int.emod_lt_of_pos _ (by omega)
  generalize (b.re + m) / b.pe = q at *
  generalize (b.re + m) % b.pe = s at *
  by_cases k1 : b.bu ≤ b.tk + q
  · rw [if_pos k1]
    exact ⟨h.ra1, h.ra2, h.pe1, h.pe2, h.bu1, h.bu2, by show 0 ≤ b.bu; have := h.bu1; omega, Int.le_refl _, Int.le_refl _, by show 0 < b.pe; omega⟩
  · rw [if_neg k1]
    exact ⟨h.ra1, h.ra2, h.pe1, h.pe2, h.bu1, h.bu2, by show 0 ≤ b.tk + q; omega, by show b.tk + q ≤ b.bu; omega, s0, s1⟩

theorem Bkt.take_good {b : Bkt} (h : b.Good) (n : Int) : (b.take n).1.Good := by
  unfold Bkt.take
  by_cases k0 : b.chk n = 0
  · rw [if_neg (show ¬ b.chk n ≠ 0 by simp [k0])]
    have hn := Bkt.chk_zero k0
    by_cases k1 : b.tk < n
    · rw [if_pos k1]; exact h
    · rw [if_neg k1]
      exact ⟨h.ra1, h.ra2, h.pe1, h.pe2, h.bu1, h.bu2, by show 0 ≤ b.tk - n; omega, by show b.tk - n ≤ b.bu; have := h.tk2; omega, h.re1, h.re2⟩
  · rw [if_pos (show b.chk n ≠ 0 from k0)]; exact h

theorem Bkt.take_ok (b : Bkt) (n : Int) (h0 : 0 ≤ n) (h1 : n ≤ b.bu) (h2 : n ≤ b.tk) : b.take n = ({ b with tk := b.tk - n }, true, 0) := by
  unfold Bkt.take
  rw [b.chk_in n h0 h1, if_neg (by decide), if_neg (by omega)]
theorem Bkt.take_not (b : Bkt) (n : Int) (h0 : 0 ≤ n) (h1 : n ≤ b.bu) (h2 : b.tk < n) : b.take n = (b, false, 0) := by
  unfold Bkt.take
  rw [b.chk_in n h0 h1, if_neg (by decide), if_pos h2]

theorem up_div (l a c : Int) (ha : 1 ≤ a) (hl : 0 ≤ l) (hc : l ≤ c) : (if 0 < l % a then l / a + 1 else l / a) ≤ (c + a - 1) / a := by
  have e := Int.mul_ediv_add_emod l a
  have s1 : l % a < a := Int.emod_lt_of_pos _ (by omega)
  have s0 : 0 ≤ l % a := Int.emod_nonneg _ (by omega)
  by_cases k : 0 < l % a
  · rw [if_pos k]
    refine Int.le_ediv_of_mul_le (by omega) ?_
    rw [Int.add_mul, Int.one_mul, Int.mul_comm]
    omega
  · rw [if_neg k]
    refine Int.le_ediv_of_mul_le (by omega) ?_
    rw [Int.mul_comm]
    omega

/-- What a wait is: just long enough. -/
theorem Bkt.wait_ok {b : Bkt} (h : b.Good) (n : Int) (h0 : 0 ≤ n) (h1 : n ≤ b.bu) :
    ∃ q, b.wait n = (q, 0) ∧ 0 ≤ q ∧ q ≤ 67108865 ∧ q ≤ (n * b.pe + b.ra - 1) / b.ra ∧ (n - b.tk) * b.pe - b.re ≤ q * b.ra ∧ (0 < q → (q - 1) * b.ra < (n - b.tk) * b.pe - b.re) ∧ (q = 0 → n ≤ b.tk) := by
  unfold Bkt.wait
  rw [b.chk_in n h0 h1, if_neg (by decide)]
  have a1 := h.ra1
  have a2 := h.ra2
  have p1 := h.pe1
  have p2 := h.pe2
  have t1 := h.tk1
  have r1 := h.re1
  have r2 := h.re2
  have u2 := h.bu2
  have hnp : 0 ≤ n * b.pe := Int.mul_nonneg h0 (by omega)
  by_cases k : n ≤ b.tk
  · rw [if_pos k]
    refine ⟨0, rfl, Int.le_refl _, by omega, Int.ediv_nonneg (by omega) (by omega), ?_, fun h => absurd h (by omega), fun _ => k⟩
    have : (n - b.tk) * b.pe ≤ 0 := Int.mul_nonpos_of_nonpos_of_nonneg (by omega) (by omega)
    omega
  rw [if_neg k]
  have m1 : 1 * b.pe ≤ (n - b.tk) * b.pe := Int.mul_le_mul (by omega) (Int.le_refl _) (by omega) (by omega)
  have m2 : (n - b.tk) * b.pe ≤ 65536 * 1024 := Int.mul_le_mul (by omega) p2 (by omega) (by omega)
  have m3 : (n - b.tk) * b.pe ≤ n * b.pe := Int.mul_le_mul (by omega) (Int.le_refl _) (by omega) (by omega)
  obtain ⟨l, hl⟩ : ∃ l, (n - b.tk) * b.pe - b.re = l := ⟨_, rfl⟩
  rw [hl]
  have l0 : 0 < l := by omega
  have l1 : l ≤ n * b.pe := by omega
  have l2 : l ≤ 67108864 := by omega
  have e := Int.mul_ediv_add_emod l b.ra
  have s1 : l % b.ra < b.ra := Int.emod_lt_of_pos _ (by omega)
  have s0 : 0 ≤ l % b.ra := Int.emod_nonneg _ (by omega)
  have q0 : 0 ≤ l / b.ra := Int.ediv_nonneg (by omega) (by omega)
  have q1 : l / b.ra ≤ l := Int.ediv_le_self _ (by omega)
  have up := up_div l b.ra (n * b.pe) a1 (by omega) l1
  rw [Int.mul_comm] at e
  by_cases c : 0 < l % b.ra
  · rw [if_pos c] at up ⊢
    refine ⟨_, rfl, by omega, by omega, up, ?_, fun _ => ?_, fun hh => absurd hh (by omega)⟩
    · rw [Int.add_mul, Int.one_mul]; omega
    · rw [Int.add_sub_cancel]; omega
  · rw [if_neg c] at up ⊢
    refine ⟨_, rfl, by omega, by omega, up, by omega, fun _ => ?_, fun hh => ?_⟩
    · rw [Int.sub_mul, Int.one_mul]; omega
    · rw [hh] at e; omega

/-- Behind the wait the tokens are there. -/
theorem Bkt.tick_there {b : Bkt} (h : b.Good) (n q : Int) (h1 : n ≤ b.bu) (hq : 0 ≤ q) (hq2 : q ≤ 1099511627776) (hl : (n - b.tk) * b.pe - b.re ≤ q * b.ra) : (b.tick q).2 = 0 ∧ n ≤ (b.tick q).1.tk := by
  unfold Bkt.tick
  rw [if_neg (by omega)]
  have p1 := h.pe1
  have d : n - b.tk ≤ (b.re + q * b.ra) / b.pe := Int.le_ediv_of_mul_le (by omega) (by omega)
  by_cases c : b.bu ≤ b.tk + (b.re + q * b.ra) / b.pe
  · rw [if_pos c]; exact ⟨rfl, h1⟩
  · rw [if_neg c]; refine ⟨rfl, ?_⟩; show n ≤ b.tk + (b.re + q * b.ra) / b.pe; omega

/-- One tick less and they are not. -/
theorem Bkt.tick_early {b : Bkt} (h : b.Good) (n q : Int) (h1 : n ≤ b.bu) (hn : 0 ≤ q) (hq2 : q ≤ 1099511627776) (hl : q * b.ra < (n - b.tk) * b.pe - b.re) : (b.tick q).2 = 0 ∧ (b.tick q).1.tk < n := by
  unfold Bkt.tick
  rw [if_neg (by omega)]
  have p1 := h.pe1
  have d : (b.re + q * b.ra) / b.pe < n - b.tk := Int.ediv_lt_of_lt_mul (by omega) (by omega)
  have c : ¬ b.bu ≤ b.tk + (b.re + q * b.ra) / b.pe := by omega
  rw [if_neg c]; refine ⟨rfl, ?_⟩; show b.tk + (b.re + q * b.ra) / b.pe < n; omega

end Go.Proofs.Ythajekcjgkidhaa.Q
