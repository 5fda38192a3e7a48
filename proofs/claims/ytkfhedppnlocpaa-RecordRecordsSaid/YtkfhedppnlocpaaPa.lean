/- Plain laws: the document's power, digits, sum, Number and ReadNumber come to the same as the program's. Conditions: the numbers and lengths that an int and a memory can hold. -/
import Derived.Test.YtkfhedppnlocpaaQx3
namespace Go.Proofs.Ytkfhedppnlocpaa.Q
open Go.RowKit Go.Proofs.YtkfhedppnlocpaaW.PrintWords Go.Proofs.YtkfhedppnlocpaaW.PrintLast

/-! ### Plain laws: numbers as bytes -/
theorem w64 (n : Int) (h : -9223372036854775808 ≤ n) (h2 : n ≤ 9223372036854775807) : wrap64 n = n := by unfold wrap64; omega

theorem i64b {n : Int} (h : (Lit.int .i64 n).wf = true) : -9223372036854775808 ≤ n ∧ n ≤ 9223372036854775807 := by
  simp [Lit.wf, IntKind.min, IntKind.max, IntKind.signed, IntKind.bits] at h
  omega

theorem ba_app (a b : Array UInt8) : (⟨a⟩ ++ ⟨b⟩ : ByteArray) = ⟨a ++ b⟩ := by
  apply ByteArray.ext
  simp

theorem power_l0 (w : Nat) (h4 : w ≤ 4) : ∀ (d i k : Nat), i + d = w → d < k → granaryref3_power.l0 k w (256 ^ i) i = some (256 ^ w) := by
  intro d
  induction d with
  | zero =>
    intro i k hi hk
    obtain ⟨k, rfl⟩ : ∃ m, k = m + 1 := ⟨k - 1, by omega⟩
    simp only [granaryref3_power.l0]
    rw [if_neg (by omega), show i = w by omega]
  | succ d ih =>
    intro i k hi hk
    obtain ⟨k, rfl⟩ : ∃ m, k = m + 1 := ⟨k - 1, by omega⟩
    simp only [granaryref3_power.l0]
    have hp : (256 : Int) ^ i * 256 = 256 ^ (i + 1) := (Int.pow_succ _ _).symm
    have hb := pow4 (i + 1) (by omega) (by omega)
    have h0 : (0 : Int) < 256 ^ (i + 1) := Int.pow_pos (by decide)
    rw [if_pos (by omega), hp, w64 _ (by omega) (by omega), w64 _ (by omega) (by omega)]
    exact ih (i + 1) k (by omega) (by omega)

theorem power_tells (w : Nat) (h4 : w ≤ 4) (k : Nat) (hk : 4 < k) : granaryref3_power.f k w = some (256 ^ w) := by
  have := power_l0 w h4 w 0 k (by omega) (by omega)
  simpa [granaryref3_power.f] using this

theorem digits_l0 (w : Nat) (hw : w ≤ 4) : ∀ (d i k : Nat) (n : Int) (s : ByteArray), i + d = w → d < k → 0 ≤ n → n ≤ 9223372036854775807 → s.size + d ≤ 100 → granaryref3_digits.l0 k n w s i = some (⟨(be n d).toArray⟩ ++ s) := by
  intro d
  induction d with
  | zero =>
    intro i k n s hi hk h0 h1 hs
    obtain ⟨k, rfl⟩ : ∃ m, k = m + 1 := ⟨k - 1, by omega⟩
    simp only [granaryref3_digits.l0]
    rw [if_neg (by omega)]
    exact congrArg some (ByteArray.ext (by simp [be]))
  | succ d ih =>
    intro i k n s hi hk h0 h1 hs
    obtain ⟨k, rfl⟩ : ∃ m, k = m + 1 := ⟨k - 1, by omega⟩
    simp only [granaryref3_digits.l0]
    have e1 : Int.tmod n 256 % 256 = n % 256 := by rw [Int.tmod_eq_emod_of_nonneg h0]; omega
    have e2 : Int.tdiv n 256 = n / 256 := Int.tdiv_eq_ediv_of_nonneg h0
    have e3 : (strOfNums [n % 256]).size = 1 := by rw [strOfNums_size]; rfl
    rw [if_pos (by omega), e1, e2, w64 _ (by omega) (by omega), w64 _ (by omega) (by omega)]
    simp only [Option.bind_some]
    rw [if_pos (by omega)]
    have := ih (i + 1) k (n / 256) (strOfNums [n % 256] ++ s) (by omega) (by omega) (by omega) (by omega) (by rw [ByteArray.size_append]; omega)
    rw [show ((i : Int) + 1) = ((i + 1 : Nat) : Int) from rfl, this]
    congr 1
    apply ByteArray.ext
    simp [be, strOfNums]

theorem digits_tells (w : Nat) (h4 : w ≤ 4) (n : Int) (h0 : 0 ≤ n) (h1 : n ≤ 9223372036854775807) (k : Nat) (hk : 4 < k) : granaryref3_digits.f k n w = some ⟨(be n w).toArray⟩ := by
  have := digits_l0 w h4 w 0 k n ⟨#[]⟩ (by omega) (by omega) h0 h1 (by show 0 + w ≤ 100; omega)
  unfold granaryref3_digits.f
  refine this.trans ?_
  rw [ba_app, Array.append_empty]

theorem bt_get (s : ByteArray) (i : Nat) (h : i < s.size) : bt s i = (s[i].toNat : Int) := by simp [bt, h]

theorem extract_take (s : ByteArray) (at_ w i : Nat) (h : at_ + w ≤ s.size) (hi : i < w) :
    (s.extract at_ (at_ + w)).data.toList.take (i + 1) = (s.extract at_ (at_ + w)).data.toList.take i ++ [s[at_ + i]'(by omega)] := by
  have hl : i < (s.extract at_ (at_ + w)).size := by rw [ByteArray.size_extract]; omega
  rw [take_snoc1 _ _ hl, ByteArray.getElem_extract]

theorem sum_l0 (s : ByteArray) (at_ w : Nat) (hw : w ≤ 4) (hs : at_ + w ≤ s.size) (hb : s.size ≤ 1000000000000000) : ∀ (d i k : Nat), i + d = w → d < k →
    granaryref3_sum.l0 k s at_ w (beNum ((s.extract at_ (at_ + w)).data.toList.take i)) i = some (beNum (s.extract at_ (at_ + w)).data.toList) := by
  have hlen : (s.extract at_ (at_ + w)).data.toList.length = w := by
    have : (s.extract at_ (at_ + w)).size = w := by rw [ByteArray.size_extract]; omega
    rw [Array.length_toList]
    exact this
  intro d
  induction d with
  | zero =>
    intro i k hi hk
    obtain ⟨k, rfl⟩ : ∃ m, k = m + 1 := ⟨k - 1, by omega⟩
    simp only [granaryref3_sum.l0]
    rw [if_neg (by omega), List.take_of_length_le (by omega)]
  | succ d ih =>
    intro i k hi hk
    obtain ⟨k, rfl⟩ : ∃ m, k = m + 1 := ⟨k - 1, by omega⟩
    have hbd := beNum_bd4 ((s.extract at_ (at_ + w)).data.toList.take i) (by rw [List.length_take]; omega)
    have hst := extract_take s at_ w i hs (by omega)
    have hx := (s[at_ + i]'(by omega)).toNat_lt
    simp only [granaryref3_sum.l0]
    rw [w64 ((at_ : Int) + i) (by omega) (by omega), show ((at_ : Int) + i) = ((at_ + i : Nat) : Int) from rfl, bt_get s (at_ + i) (by omega)]
    rw [if_pos (by omega), if_pos (by omega), if_pos (by omega), w64 (beNum _ * 256) (by omega) (by omega), w64 ((UInt8.toNat _ : Nat) : Int) (by omega) (by omega), w64 (_ + _) (by omega) (by omega), w64 ((i : Int) + 1) (by omega) (by omega), ← beNum_snoc, ← hst]
    exact ih (i + 1) k (by omega) (by omega)

theorem sum_tells (s : ByteArray) (at_ w : Nat) (hw : w ≤ 4) (hs : at_ + w ≤ s.size) (hb : s.size ≤ 1000000000000000) (k : Nat) (hk : 4 < k) :
    granaryref3_sum.f k s at_ w = some (beNum (s.extract at_ (at_ + w)).data.toList) :=
  sum_l0 s at_ w hw hs hb w 0 k (by omega) (by omega)

/-! ### Number and ReadNumber: the program's and the document's -/
theorem refNumber_tells (n w : Int) (hn : -9223372036854775808 ≤ n) (hn2 : n ≤ 9223372036854775807) (k : Nat) (hk : 10 < k) : granaryref3_Number.f k n w = record_Number.f n w := by
  obtain ⟨k, rfl⟩ : ∃ m, k = m + 1 := ⟨k - 1, by omega⟩
  unfold granaryref3_Number.f record_Number.f
  simp only [granaryref3_Number.j0]
  by_cases c1 : w < 1
  · rw [if_pos c1, if_pos (show w < 1 ∨ 4 < w from .inl c1)]; simp
  rw [if_neg c1]
  by_cases c2 : w > 4
  · rw [if_pos (show decide (w > 4) = true by simpa using c2), if_pos (show w < 1 ∨ 4 < w from .inr c2)]
  rw [if_neg (show ¬ (decide (w > 4) = true) by simpa using c2), if_neg (show ¬ (w < 1 ∨ 4 < w) by omega)]
  by_cases c3 : n < 0
  · rw [if_pos c3, if_pos (show n < 0 ∨ 256 ^ w.toNat ≤ n from .inl c3)]
  obtain ⟨m, rfl⟩ := Int.eq_ofNat_of_zero_le (show 0 ≤ w by omega)
  rw [if_neg c3, power_tells m (by omega) k (by omega), Int.toNat_natCast]
  simp only [Option.bind_some]
  by_cases c4 : 256 ^ m ≤ n
  · rw [if_pos c4, if_pos (show n < 0 ∨ 256 ^ m ≤ n from .inr c4)]
  · rw [if_neg c4, if_neg (show ¬ (n < 0 ∨ 256 ^ m ≤ n) by omega), digits_tells m (by omega) n (by omega) hn2 k (by omega)]
    rfl

/-- What both ReadNumbers answer. -/
def readNum (s : ByteArray) (at_ w : Int) : Int × Int :=
  if w < 1 ∨ 4 < w then (0, 30) else if at_ < 0 ∨ (s.size : Int) - w < at_ then (0, 1) else (beNum (s.extract at_.toNat (at_.toNat + w.toNat)).data.toList, 0)

theorem readNumber_tells (s : ByteArray) (at_ w : Int) (hs : s.size ≤ 1000000000000000) (k : Nat) (hk : 10 < k) : record_ReadNumber.f k s at_ w = some (readNum s at_ w) := by
  obtain ⟨k, rfl⟩ : ∃ m, k = m + 1 := ⟨k - 1, by omega⟩
  unfold record_ReadNumber.f readNum
  simp only [record_ReadNumber.j0]
  by_cases c1 : w < 1
  · rw [if_pos c1, if_pos (show w < 1 ∨ 4 < w from .inl c1)]; simp
  rw [if_neg c1]
  by_cases c2 : w > 4
  · rw [if_pos (show decide (w > 4) = true by simpa using c2), if_pos (show w < 1 ∨ 4 < w from .inr c2)]
  rw [if_neg (show ¬ (decide (w > 4) = true) by simpa using c2), if_neg (show ¬ (w < 1 ∨ 4 < w) by omega)]
  by_cases c3 : at_ < 0
  · rw [if_pos c3, if_pos (show at_ < 0 ∨ (s.size : Int) - w < at_ from .inl c3)]
  rw [if_neg c3, w64 ((s.size : Int) - w) (by omega) (by omega)]
  by_cases c4 : (s.size : Int) - w < at_
  · rw [if_pos (show at_ > (s.size : Int) - w from c4), if_pos (show at_ < 0 ∨ (s.size : Int) - w < at_ from .inr c4)]
  rw [if_neg (show ¬ at_ > (s.size : Int) - w from c4), if_neg (show ¬ (at_ < 0 ∨ (s.size : Int) - w < at_) by omega), w64 (at_ + w) (by omega) (by omega), if_pos (by omega), if_pos (by omega), if_pos (by omega)]
  unfold record_take.f
  rw [show (at_ + w).toNat = at_.toNat + w.toNat by omega, if_pos (by rw [ByteArray.size_extract]; omega)]
  rfl

theorem refReadNumber_tells (s : ByteArray) (at_ w : Int) (hs : s.size ≤ 1000000000000000) (k : Nat) (hk : 10 < k) : granaryref3_ReadNumber.f k s at_ w = some (readNum s at_ w) := by
  obtain ⟨k, rfl⟩ : ∃ m, k = m + 1 := ⟨k - 1, by omega⟩
  unfold granaryref3_ReadNumber.f readNum
  simp only [granaryref3_ReadNumber.j0]
  by_cases c1 : w < 1
  · rw [if_pos c1, if_pos (show w < 1 ∨ 4 < w from .inl c1)]; simp
  rw [if_neg c1]
  by_cases c2 : w > 4
  · rw [if_pos (show decide (w > 4) = true by simpa using c2), if_pos (show w < 1 ∨ 4 < w from .inr c2)]
  rw [if_neg (show ¬ (decide (w > 4) = true) by simpa using c2), if_neg (show ¬ (w < 1 ∨ 4 < w) by omega)]
  by_cases c3 : at_ < 0
  · rw [if_pos c3, if_pos (show at_ < 0 ∨ (s.size : Int) - w < at_ from .inl c3)]
  rw [if_neg c3]
  by_cases c5 : at_ > (s.size : Int)
  · rw [if_pos c5, if_pos (show at_ < 0 ∨ (s.size : Int) - w < at_ from .inr (by omega))]
  rw [if_neg c5, w64 ((s.size : Int) - at_) (by omega) (by omega)]
  by_cases c4 : (s.size : Int) - w < at_
  · rw [if_pos (show (s.size : Int) - at_ < w by omega), if_pos (show at_ < 0 ∨ (s.size : Int) - w < at_ from .inr c4)]
  rw [if_neg (show ¬ (s.size : Int) - at_ < w by omega), if_neg (show ¬ (at_ < 0 ∨ (s.size : Int) - w < at_) by omega)]
  obtain ⟨m, rfl⟩ := Int.eq_ofNat_of_zero_le (show 0 ≤ w by omega)
  obtain ⟨a, rfl⟩ := Int.eq_ofNat_of_zero_le (show 0 ≤ at_ by omega)
  rw [sum_tells s a m (by omega) (by omega) hs k (by omega)]
  rfl

end Go.Proofs.Ytkfhedppnlocpaa.Q
