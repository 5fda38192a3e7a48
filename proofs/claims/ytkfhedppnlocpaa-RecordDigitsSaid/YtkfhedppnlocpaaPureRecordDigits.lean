/- The statement RecordDigits of the package granarylaw3: ReadNumber reads what Number wrote, whatever stands around it; the bytes rise as the numbers do; what does not fit is refused. No condition. -/
import Derived.Test.YtkfhedppnlocpaaPa
set_option linter.unusedVariables false
set_option linter.unusedSimpArgs false
namespace Go.Proofs.Ytkfhedppnlocpaa.Pure
open Go.RowKit Go.Proofs.Ytkfhedppnlocpaa.Q Go.Proofs.YtkfhedppnlocpaaW.PrintWords Go.Proofs.YtkfhedppnlocpaaW.PrintLast

theorem beNum_be (w : Nat) : ∀ (n : Int), 0 ≤ n → n < 256 ^ w → beNum (be n w) = n := by
  induction w with
  | zero => intro n h0 h1; simp at h1; simp [be, beNum]; omega
  | succ w ih =>
    intro n h0 h1
    rw [Int.pow_succ] at h1
    rw [be, beNum_snoc, ih (n / 256) (by omega) (Int.ediv_lt_of_lt_mul (by decide) h1)]
    rw [UInt8.toNat_ofNat']
    omega

theorem less_snoc : ∀ (a b : List UInt8) (x y : UInt8), a.length = b.length → Op.bytesLess (a ++ [x]) (b ++ [y]) = (Op.bytesLess a b || (a == b && decide (x < y)))
  | [], [], x, y, _ => by simp [Op.bytesLess]
  | p :: a, q :: b, x, y, h => by
    have ih := less_snoc a b x y (by simpa using h)
    by_cases hpq : p = q
    · subst hpq
      simp [Op.bytesLess, ih]
    · have hb : (p == q) = false := by simpa using hpq
      simp [Op.bytesLess, hb]

theorem be_inj (w : Nat) : ∀ (n m : Int), 0 ≤ n → n < 256 ^ w → 0 ≤ m → m < 256 ^ w → be n w = be m w → n = m := by
  intro n m h0 h1 h2 h3 h
  have := congrArg beNum h
  rwa [beNum_be w n h0 h1, beNum_be w m h2 h3] at this

theorem be_less (w : Nat) : ∀ (n m : Int), 0 ≤ n → n < 256 ^ w → 0 ≤ m → m < 256 ^ w → Op.bytesLess (be n w) (be m w) = decide (n < m) := by
  induction w with
  | zero =>
    intro n m h0 h1 h2 h3
    simp at h1 h3
    have : ¬ n < m := by omega
    simp [be, Op.bytesLess, this]
  | succ w ih =>
    intro n m h0 h1 h2 h3
    rw [Int.pow_succ] at h1 h3
    have a1 := Int.ediv_lt_of_lt_mul (by decide) h1
    have a3 := Int.ediv_lt_of_lt_mul (by decide) h3
    rw [be, be, less_snoc _ _ _ _ (by rw [be_length, be_length]), ih (n / 256) (m / 256) (by omega) a1 (by omega) a3]
    have hlt : decide (UInt8.ofNat (n % 256).toNat < UInt8.ofNat (m % 256).toNat) = decide (n % 256 < m % 256) := by
      rw [decide_eq_decide, UInt8.lt_iff_toNat_lt, UInt8.toNat_ofNat', UInt8.toNat_ofNat']
      omega
    have heq : (be (n / 256) w == be (m / 256) w) = decide (n / 256 = m / 256) := by
      by_cases e : n / 256 = m / 256
      · rw [e]; simp
      · have : ¬ be (n / 256) w = be (m / 256) w := fun h => e (be_inj w _ _ (by omega) a1 (by omega) a3 h)
        simp [this, e]
    rw [hlt, heq, Bool.eq_iff_iff]
    simp only [Bool.or_eq_true, Bool.and_eq_true, decide_eq_true_eq]
    omega

theorem top_l0 (n m : Int) (w : Nat) (a b : ByteArray) (h4 : w ≤ 4) : ∀ (d i k : Nat), i + d = w → d < k →
    ∃ k', k = k' + d ∧ granarylaw3_RecordDigits.l0 k n m w a b (256 ^ i) i = granarylaw3_RecordDigits.l0 k' n m w a b (256 ^ w) w := by
  intro d
  induction d with
  | zero => intro i k hi hk; obtain rfl : i = w := by omega
            exact ⟨k, rfl, rfl⟩
  | succ d ih =>
    intro i k hi hk
    obtain ⟨k, rfl⟩ : ∃ m, k = m + 1 := ⟨k - 1, by omega⟩
    obtain ⟨k', hk', e⟩ := ih (i + 1) k (by omega) (by omega)
    refine ⟨k', by omega, ?_⟩
    rw [← e]
    conv => lhs; unfold granarylaw3_RecordDigits.l0
    have hp : (256 : Int) ^ i * 256 = 256 ^ (i + 1) := (Int.pow_succ _ _).symm
    have hb := pow4 (i + 1) (by omega) (by omega)
    have h0 : (0 : Int) < 256 ^ (i + 1) := Int.pow_pos (by decide)
    rw [if_pos (by omega), hp, w64 _ (by omega) (by omega), w64 _ (by omega) (by omega)]
    rfl

theorem mid (a x b : ByteArray) : ((a ++ x) ++ b).extract a.size (a.size + x.size) = x := by
  rw [ByteArray.extract_append, ByteArray.extract_append]
  have h1 : a.extract a.size (a.size + x.size) = ByteArray.empty := by
    apply ByteArray.ext_getElem
    · simp
    · intro i h1 h2; simp at h1
  have h2 : b.extract (a.size - (a ++ x).size) (a.size + x.size - (a ++ x).size) = ByteArray.empty := by
    rw [ByteArray.size_append, Nat.sub_self]
    apply ByteArray.ext_getElem
    · simp
    · intro i h1 h2; simp at h1
  rw [h1, h2]
  simp

theorem RecordDigits : granarylaw3_RecordDigits.Pure := by
  intro n m w a b hn hm hw ha hb
  have bn := i64b hn
  have bm := i64b hm
  refine ⟨40, ?_⟩
  unfold granarylaw3_RecordDigits.f
  by_cases c : w < 1 ∨ 4 < w
  · have hj : granarylaw3_RecordDigits.j0 40 n m w a b true = some true := by
      simp only [granarylaw3_RecordDigits.j0]
      rw [readNumber_tells a 0 w (by omega) 39 (by omega)]
      unfold record_Number.f readNum
      rw [if_pos c, if_pos c]
      simp [granarylaw3_num.f]
    rcases c with c | c
    · rw [if_pos c, hj]
    · rw [if_neg (by omega), show decide (w > 4) = true by simpa using c, hj]
  rw [if_neg (by omega), show decide (w > 4) = false by simp; omega]
  obtain ⟨w, rfl⟩ := Int.eq_ofNat_of_zero_le (show 0 ≤ w by omega)
  have hp := pow4 w (by omega) (by omega)
  simp only [granarylaw3_RecordDigits.j0, Bool.false_eq_true, if_false]
  obtain ⟨k', hk', e⟩ := top_l0 n m w a b (by omega) w 0 39 (by omega) (by omega)
  refine e.trans ?_
  obtain ⟨k, rfl⟩ : ∃ m, k' = m + 1 := ⟨k' - 1, by omega⟩
  simp only [granarylaw3_RecordDigits.l0]
  rw [if_neg (show ¬ ((w : Int) < (w : Int)) by omega)]
  obtain ⟨k, rfl⟩ : ∃ m, k = m + 1 := ⟨k - 1, by omega⟩
  by_cases c1 : n < 0 ∨ 256 ^ w ≤ n
  · have hx : record_Number.f n w = some (⟨#[]⟩, 31) := by
      unfold record_Number.f
      rw [if_neg c, Int.toNat_natCast, if_pos c1]
    have hj : granarylaw3_RecordDigits.j2 (k + 1) n m w a b (256 ^ w) ⟨#[]⟩ 31 true = some true := by
      simp [granarylaw3_RecordDigits.j2, granarylaw3_num.f]
    rw [hx]
    simp only [Option.bind_some]
    by_cases c0 : n < 0
    · rw [if_pos c0, hj]
    · rw [if_neg c0, show decide (n ≥ 256 ^ w) = true by simp; omega, hj]
  have hx : record_Number.f n w = some (⟨(be n w).toArray⟩, 0) := by
    unfold record_Number.f
    rw [if_neg c, Int.toNat_natCast, if_neg c1]
  have hz : (⟨(be n w).toArray⟩ : ByteArray).size = w := by simp [ByteArray.size, be_length]
  rw [hx]
  simp only [Option.bind_some]
  rw [if_neg (show ¬ n < 0 by omega), show decide (n ≥ 256 ^ w) = false by simp; omega]
  simp only [granarylaw3_RecordDigits.j2, Bool.false_eq_true, if_false, granarylaw3_num.f, Option.bind_some, if_true]
  rw [hz, show (((w : Nat) : Int) != (w : Int)) = false by simp]
  obtain ⟨k, rfl⟩ : ∃ m, k = m + 1 := ⟨k - 1, by omega⟩
  simp only [granarylaw3_RecordDigits.j3, Bool.false_eq_true, if_false]
  rw [hz, if_pos (by omega), if_pos (by rw [ByteArray.size_append, hz]; omega)]
  have hr : readNum ((a ++ ⟨(be n w).toArray⟩) ++ b) a.size w = (n, 0) := by
    unfold readNum
    rw [if_neg c, if_neg (by rw [ByteArray.size_append, ByteArray.size_append, hz]; omega), Int.toNat_natCast, Int.toNat_natCast]
    have : ((a ++ ⟨(be n w).toArray⟩) ++ b).extract a.size (a.size + w) = ⟨(be n w).toArray⟩ := by
      have := mid a ⟨(be n w).toArray⟩ b
      rwa [hz] at this
    rw [this, List.toList_toArray, beNum_be w n (by omega) (by omega)]
  rw [readNumber_tells _ _ _ (by rw [ByteArray.size_append, ByteArray.size_append, hz]; omega) k (by omega), hr]
  simp only [Option.bind_some, if_true]
  rw [show ((n : Int) != n) = false by simp]
  obtain ⟨k, rfl⟩ : ∃ m, k = m + 1 := ⟨k - 1, by omega⟩
  simp only [granarylaw3_RecordDigits.j4, Bool.false_eq_true, if_false]
  by_cases c2 : m < 0 ∨ 256 ^ w ≤ m
  · have hy : record_Number.f m w = some (⟨#[]⟩, 31) := by
      unfold record_Number.f
      rw [if_neg c, Int.toNat_natCast, if_pos c2]
    rw [hy]
    simp only [Option.bind_some, granarylaw3_num.f]
    rw [if_neg (show ¬ ((31 : Int) = 0) by decide)]
    by_cases c0 : m < 0
    · rw [if_pos c0]
      simp
    · rw [if_neg c0, show decide (m ≥ 256 ^ w) = true by simp; omega]
      simp
  have hy : record_Number.f m w = some (⟨(be m w).toArray⟩, 0) := by
    unfold record_Number.f
    rw [if_neg c, Int.toNat_natCast, if_neg c2]
  rw [hy]
  simp only [Option.bind_some, granarylaw3_num.f, if_true, ByteArray.toList_eq, List.toList_toArray]
  rw [be_less w n m (by omega) (by omega) (by omega) (by omega)]
  have : (be n w == be m w) = (n == m) := by
    rw [Bool.eq_iff_iff]
    simp only [beq_iff_eq]
    exact ⟨be_inj w n m (by omega) (by omega) (by omega) (by omega), fun h => by rw [h]⟩
  rw [this]
  simp

end Go.Proofs.Ytkfhedppnlocpaa.Pure
