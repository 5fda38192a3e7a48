/- Plain laws: the document's power, digits, sum, Number and ReadNumber come to the same as the program's. Conditions: the numbers and lengths that an int and a memory can hold. Plain laws: which error a list of pairs bears, its size, and the bytes of the record that the document spells. Conditions: the numbers and lengths that an int and a memory can hold. -/
import Derived.Test.YtkfhedppnlocpaaQx3
import Derived.Test.YtkfhedppnlocpaaQx5
import Derived.Test.YtkfhedppnlocpaaE8
namespace Go.Proofs.Ytkfhedppnlocpaa.Q
open Go.RowKit Go.Proofs.YtkfhedppnlocpaaW.PrintWords Go.Proofs.YtkfhedppnlocpaaW.PrintLast

/-! ### Plain laws: numbers as bytes -/
theorem w64 (n : Int) (h : -9223372036854775808 ≤ n) (h2 : n ≤ 9223372036854775807) : wrap64 n = n := by unfold wrap64; omega

theorem i64b {n : Int} (h : (Lit.int .i64 n).wf = true) : -9223372036854775808 ≤ n ∧ n ≤ 9223372036854775807 := by
  simp [Lit.wf, IntKind.min, IntKind.max, IntKind.signed, IntKind.bits] at h
  omega

theorem ba_app (a b : Array UInt8) : (⟨a⟩ ++ ⟨b⟩ : ByteArray) = ⟨a ++ b⟩ := by
  apply ByteArray.ext
  simp

theorem power_l0 (w : Nat) (h4 : w ≤ 4) : ∀ (d i k : Nat), i + d = w → d < k → granaryref3_power.l0 k w (256 ^ i) i = some (256 ^ w) := by
  intro d
  induction d with
  | zero =>
    intro i k hi hk
    obtain ⟨k, rfl⟩ : ∃ m, k = m + 1 := ⟨k - 1, by omega⟩
    simp only [granaryref3_power.l0]
    rw [if_neg (by omega), show i = w by omega]
  | succ d ih =>
    intro i k hi hk
    obtain ⟨k, rfl⟩ : ∃ m, k = m + 1 := ⟨k - 1, by omega⟩
    simp only [granaryref3_power.l0]
    have hp : (256 : Int) ^ i * 256 = 256 ^ (i + 1) := (Int.pow_succ _ _).symm
    have hb := pow4 (i + 1) (by omega) (by omega)
    have h0 : (0 : Int) < 256 ^ (i + 1) := Int.pow_pos (by decide)
    rw [if_pos (by omega), hp, w64 _ (by omega) (by omega), w64 _ (by omega) (by omega)]
    exact ih (i + 1) k (by omega) (by omega)

theorem power_tells (w : Nat) (h4 : w ≤ 4) (k : Nat) (hk : 4 < k) : granaryref3_power.f k w = some (256 ^ w) := by
  have := power_l0 w h4 w 0 k (by omega) (by omega)
  simpa [granaryref3_power.f] using this

theorem digits_l0 (w : Nat) (hw : w ≤ 4) : ∀ (d i k : Nat) (n : Int) (s : ByteArray), i + d = w → d < k → 0 ≤ n → n ≤ 9223372036854775807 → s.size + d ≤ 100 → granaryref3_digits.l0 k n w s i = some (⟨(be n d).toArray⟩ ++ s) := by
  intro d
  induction d with
  | zero =>
    intro i k n s hi hk h0 h1 hs
    obtain ⟨k, rfl⟩ : ∃ m, k = m + 1 := ⟨k - 1, by omega⟩
    simp only [granaryref3_digits.l0]
    rw [if_neg (by omega)]
    exact congrArg some (ByteArray.ext (by simp [be]))
  | succ d ih =>
    intro i k n s hi hk h0 h1 hs
    obtain ⟨k, rfl⟩ : ∃ m, k = m + 1 := ⟨k - 1, by omega⟩
    simp only [granaryref3_digits.l0]
    have e1 : Int.tmod n 256 % 256 = n % 256 := by rw [Int.tmod_eq_emod_of_nonneg h0]; omega
    have e2 : Int.tdiv n 256 = n / 256 := Int.tdiv_eq_ediv_of_nonneg h0
    have e3 : (strOfNums [n % 256]).size = 1 := by rw [strOfNums_size]; rfl
    rw [if_pos (by omega), e1, e2, w64 _ (by omega) (by omega), w64 _ (by omega) (by omega)]
    simp only [Option.bind_some]
    rw [if_pos (by omega)]
    have := ih (i + 1) k (n / 256) (strOfNums [n % 256] ++ s) (by omega) (by omega) (by omega) (by omega) (by rw [ByteArray.size_append]; omega)
    rw [show ((i : Int) + 1) = ((i + 1 : Nat) : Int) from rfl, this]
    congr 1
    apply ByteArray.ext
    simp [be, strOfNums]

theorem digits_tells (w : Nat) (h4 : w ≤ 4) (n : Int) (h0 : 0 ≤ n) (h1 : n ≤ 9223372036854775807) (k : Nat) (hk : 4 < k) : granaryref3_digits.f k n w = some ⟨(be n w).toArray⟩ := by
  have := digits_l0 w h4 w 0 k n ⟨#[]⟩ (by omega) (by omega) h0 h1 (by show 0 + w ≤ 100; omega)
  unfold granaryref3_digits.f
  refine this.trans ?_
  rw [ba_app, Array.append_empty]

theorem bt_get (s : ByteArray) (i : Nat) (h : i < s.size) : bt s i = (s[i].toNat : Int) := by simp [bt, h]

theorem extract_take (s : ByteArray) (at_ w i : Nat) (h : at_ + w ≤ s.size) (hi : i < w) :
    (s.extract at_ (at_ + w)).data.toList.take (i + 1) = (s.extract at_ (at_ + w)).data.toList.take i ++ [s[at_ + i]'(by omega)] := by
  have hl : i < (s.extract at_ (at_ + w)).size := by rw [ByteArray.size_extract]; omega
  rw [take_snoc1 _ _ hl, ByteArray.getElem_extract]

theorem sum_l0 (s : ByteArray) (at_ w : Nat) (hw : w ≤ 4) (hs : at_ + w ≤ s.size) (hb : s.size ≤ 1000000000000000) : ∀ (d i k : Nat), i + d = w → d < k →
    granaryref3_sum.l0 k s at_ w (beNum ((s.extract at_ (at_ + w)).data.toList.take i)) i = some (beNum (s.extract at_ (at_ + w)).data.toList) := by
  have hlen : (s.extract at_ (at_ + w)).data.toList.length = w := by
    have : (s.extract at_ (at_ + w)).size = w := by rw [ByteArray.size_extract]; omega
    rw [Array.length_toList]
    exact this
  intro d
  induction d with
  | zero =>
    intro i k hi hk
    obtain ⟨k, rfl⟩ : ∃ m, k = m + 1 := ⟨k - 1, by omega⟩
    simp only [granaryref3_sum.l0]
    rw [if_neg (by omega), List.take_of_length_le (by omega)]
  | succ d ih =>
    intro i k hi hk
    obtain ⟨k, rfl⟩ : ∃ m, k = m + 1 := ⟨k - 1, by omega⟩
    have hbd := beNum_bd4 ((s.extract at_ (at_ + w)).data.toList.take i) (by rw [List.length_take]; omega)
    have hst := extract_take s at_ w i hs (by omega)
    have hx := (s[at_ + i]'(by omega)).toNat_lt
    simp only [granaryref3_sum.l0]
    rw [w64 ((at_ : Int) + i) (by omega) (by omega), show ((at_ : Int) + i) = ((at_ + i : Nat) : Int) from rfl, bt_get s (at_ + i) (by omega)]
    rw [if_pos (by omega), if_pos (by omega), if_pos (by omega), w64 (beNum _ * 256) (by omega) (by omega), w64 ((UInt8.toNat _ : Nat) : Int) (by omega) (by omega), w64 (_ + _) (by omega) (by omega), w64 ((i : Int) + 1) (by omega) (by omega), ← beNum_snoc, ← hst]
    exact ih (i + 1) k (by omega) (by omega)

theorem sum_tells (s : ByteArray) (at_ w : Nat) (hw : w ≤ 4) (hs : at_ + w ≤ s.size) (hb : s.size ≤ 1000000000000000) (k : Nat) (hk : 4 < k) :
    granaryref3_sum.f k s at_ w = some (beNum (s.extract at_ (at_ + w)).data.toList) :=
  sum_l0 s at_ w hw hs hb w 0 k (by omega) (by omega)

/-! ### Number and ReadNumber: the program's and the document's -/
theorem refNumber_tells (n w : Int) (hn : -9223372036854775808 ≤ n) (hn2 : n ≤ 9223372036854775807) (k : Nat) (hk : 10 < k) : granaryref3_Number.f k n w = record_Number.f n w := by
  obtain ⟨k, rfl⟩ : ∃ m, k = m + 1 := ⟨k - 1, by omega⟩
  unfold granaryref3_Number.f record_Number.f
  simp only [granaryref3_Number.j0]
  by_cases c1 : w < 1
  · rw [if_pos c1, if_pos (show w < 1 ∨ 4 < w from .inl c1)]; simp
  rw [if_neg c1]
  by_cases c2 : w > 4
  · rw [if_pos (show decide (w > 4) = true by simpa using c2), if_pos (show w < 1 ∨ 4 < w from .inr c2)]
  rw [if_neg (show ¬ (decide (w > 4) = true) by simpa using c2), if_neg (show ¬ (w < 1 ∨ 4 < w) by omega)]
  by_cases c3 : n < 0
  · rw [if_pos c3, if_pos (show n < 0 ∨ 256 ^ w.toNat ≤ n from .inl c3)]
  obtain ⟨m, rfl⟩ := Int.eq_ofNat_of_zero_le (show 0 ≤ w by omega)
  rw [if_neg c3, power_tells m (by omega) k (by omega), Int.toNat_natCast]
  simp only [Option.bind_some]
  by_cases c4 : 256 ^ m ≤ n
  · rw [if_pos c4, if_pos (show n < 0 ∨ 256 ^ m ≤ n from .inr c4)]
  · rw [if_neg c4, if_neg (show ¬ (n < 0 ∨ 256 ^ m ≤ n) by omega), digits_tells m (by omega) n (by omega) hn2 k (by omega)]
    rfl

/-- What both ReadNumbers answer. -/
def readNum (s : ByteArray) (at_ w : Int) : Int × Int :=
  if w < 1 ∨ 4 < w then (0, 30) else if at_ < 0 ∨ (s.size : Int) - w < at_ then (0, 1) else (beNum (s.extract at_.toNat (at_.toNat + w.toNat)).data.toList, 0)

theorem readNumber_tells (s : ByteArray) (at_ w : Int) (hs : s.size ≤ 1000000000000000) (k : Nat) (hk : 10 < k) : record_ReadNumber.f k s at_ w = some (readNum s at_ w) := by
  obtain ⟨k, rfl⟩ : ∃ m, k = m + 1 := ⟨k - 1, by omega⟩
  unfold record_ReadNumber.f readNum
  simp only [record_ReadNumber.j0]
  by_cases c1 : w < 1
  · rw [if_pos c1, if_pos (show w < 1 ∨ 4 < w from .inl c1)]; simp
  rw [if_neg c1]
  by_cases c2 : w > 4
  · rw [if_pos (show decide (w > 4) = true by simpa using c2), if_pos (show w < 1 ∨ 4 < w from .inr c2)]
  rw [if_neg (show ¬ (decide (w > 4) = true) by simpa using c2), if_neg (show ¬ (w < 1 ∨ 4 < w) by omega)]
  by_cases c3 : at_ < 0
  · rw [if_pos c3, if_pos (show at_ < 0 ∨ (s.size : Int) - w < at_ from .inl c3)]
  rw [if_neg c3, w64 ((s.size : Int) - w) (by omega) (by omega)]
  by_cases c4 : (s.size : Int) - w < at_
  · rw [if_pos (show at_ > (s.size : Int) - w from c4), if_pos (show at_ < 0 ∨ (s.size : Int) - w < at_ from .inr c4)]
  rw [if_neg (show ¬ at_ > (s.size : Int) - w from c4), if_neg (show ¬ (at_ < 0 ∨ (s.size : Int) - w < at_) by omega), w64 (at_ + w) (by omega) (by omega), if_pos (by omega), if_pos (by omega), if_pos (by omega)]
  unfold record_take.f
  rw [show (at_ + w).toNat = at_.toNat + w.toNat by omega, if_pos (by rw [ByteArray.size_extract]; omega)]
  rfl

theorem refReadNumber_tells (s : ByteArray) (at_ w : Int) (hs : s.size ≤ 1000000000000000) (k : Nat) (hk : 10 < k) : granaryref3_ReadNumber.f k s at_ w = some (readNum s at_ w) := by
  obtain ⟨k, rfl⟩ : ∃ m, k = m + 1 := ⟨k - 1, by omega⟩
  unfold granaryref3_ReadNumber.f readNum
  simp only [granaryref3_ReadNumber.j0]
  by_cases c1 : w < 1
  · rw [if_pos c1, if_pos (show w < 1 ∨ 4 < w from .inl c1)]; simp
  rw [if_neg c1]
  by_cases c2 : w > 4
  · rw [if_pos (show decide (w > 4) = true by simpa using c2), if_pos (show w < 1 ∨ 4 < w from .inr c2)]
  rw [if_neg (show ¬ (decide (w > 4) = true) by simpa using c2), if_neg (show ¬ (w < 1 ∨ 4 < w) by omega)]
  by_cases c3 : at_ < 0
  · rw [if_pos c3, if_pos (show at_ < 0 ∨ (s.size : Int) - w < at_ from .inl c3)]
  rw [if_neg c3]
  by_cases c5 : at_ > (s.size : Int)
  · rw [if_pos c5, if_pos (show at_ < 0 ∨ (s.size : Int) - w < at_ from .inr (by omega))]
  rw [if_neg c5, w64 ((s.size : Int) - at_) (by omega) (by omega)]
  by_cases c4 : (s.size : Int) - w < at_
  · rw [if_pos (show (s.size : Int) - at_ < w by omega), if_pos (show at_ < 0 ∨ (s.size : Int) - w < at_ from .inr c4)]
  rw [if_neg (show ¬ (s.size : Int) - at_ < w by omega), if_neg (show ¬ (at_ < 0 ∨ (s.size : Int) - w < at_) by omega)]
  obtain ⟨m, rfl⟩ := Int.eq_ofNat_of_zero_le (show 0 ≤ w by omega)
  obtain ⟨a, rfl⟩ := Int.eq_ofNat_of_zero_le (show 0 ≤ at_ by omega)
  rw [sum_tells s a m (by omega) (by omega) hs k (by omega)]
  rfl

end Go.Proofs.Ytkfhedppnlocpaa.Q
set_option linter.unusedVariables false
set_option linter.unusedSimpArgs false
namespace Go.Proofs.Ytkfhedppnlocpaa.Q
open Go.RowKit Go.Proofs.YtkfhedppnlocpaaW.PrintWords Go.Proofs.YtkfhedppnlocpaaW.PrintLast

/-! ### Plain laws: a record's pairs -/
theorem toList_nil_iff (s : ByteArray) : s.toList = ([] : List UInt8) ↔ s.size = 0 := by
  rw [ByteArray.toList_eq, ← ba_size, List.length_eq_zero_iff]

theorem wrong_l0 (l : List S94) (hl : l.length ≤ 1000000) : ∀ (d i k : Nat), i + d = l.length → 3 * d + 3 < k → granaryref3_wrong.l0 k l i = some (firstErr l d i) := by
  intro d
  induction d with
  | zero =>
    intro i k hi hk
    obtain ⟨k, rfl⟩ : ∃ m, k = m + 1 := ⟨k - 1, by omega⟩
    simp only [granaryref3_wrong.l0]
    rw [if_neg (by omega)]
    rfl
  | succ d ih =>
    intro i k hi hk
    obtain ⟨k, rfl⟩ : ∃ m, k = m + 3 := ⟨k - 3, by omega⟩
    have IH := ih (i + 1) k (by omega) (by omega)
    simp only [granaryref3_wrong.l0, granaryref3_wrong.j2, granaryref3_wrong.j3]
    rw [rd_nat, if_pos (show (i : Int) < (l.length : Int) by omega), if_pos (show (0 : Int) ≤ (i : Int) by omega), w64 ((i : Int) + 1) (by omega) (by omega), w64 ((i : Int) - 1) (by omega) (by omega)]
    rw [show ((i : Int) + 1) = ((i + 1 : Nat) : Int) from rfl, IH]
    have hf : firstErr l (d + 1) i = if pairErr l i ≠ 0 then pairErr l i else firstErr l d (i + 1) := rfl
    rw [hf]
    generalize firstErr l d (i + 1) = FE
    have hp : pairErr l i = if (l.getD i z94).f0.size < 1 ∨ 255 < (l.getD i z94).f0.size then 32 else if 4096 < (l.getD i z94).f1.size then 33
      else if i = 0 then 0 else if key l i = key l (i - 1) then 35 else if Op.bytesLess (key l i) (key l (i - 1)) = true then 37 else 0 := rfl
    have hki : key l i = (l.getD i z94).f0.toList := by rw [key, ByteArray.toList_eq]
    rw [hki] at hp
    generalize pairErr l i = e at *
    generalize l.getD i z94 = p at *
    have hn := toList_nil_iff p.f0
    by_cases c0 : p.f0.size < 1 ∨ 255 < p.f0.size
    · rw [if_pos c0] at hp
      subst hp
      rw [if_pos (show (32 : Int) ≠ 0 by decide)]
      by_cases c1 : p.f0.size = 0
      · rw [if_pos (hn.2 c1), if_pos trivial]
      · rw [if_neg (fun h => c1 (hn.1 h)), show decide ((p.f0.size : Int) > 255) = true from decide_eq_true (by omega), if_pos rfl]
    rw [if_neg c0] at hp
    rw [if_neg (fun h => c0 (.inl (by rw [hn.1 h]; omega))), show decide ((p.f0.size : Int) > 255) = false from decide_eq_false (by omega)]
    rw [if_neg (show ¬ (false = true) by decide)]
    by_cases c1 : 4096 < p.f1.size
    · rw [if_pos c1] at hp
      subst hp
      rw [if_pos (show (p.f1.size : Int) > 4096 by omega), if_pos (show (33 : Int) ≠ 0 by decide)]
    rw [if_neg c1] at hp
    rw [if_neg (show ¬ ((p.f1.size : Int) > 4096) by omega)]
    by_cases c2 : i = 0
    · rw [if_pos c2] at hp
      subst hp
      rw [if_neg (show ¬ ((i : Int) > 0) by omega), if_neg (show ¬ ((i : Int) > 0) by omega)]
      simp
    rw [if_neg c2] at hp
    have hi1 : ((i : Int) - 1) = ((i - 1 : Nat) : Int) := by omega
    have hk1 : (l.getD (i - 1) z94).f0.toList = key l (i - 1) := by rw [key, ByteArray.toList_eq]
    rw [if_pos (show (i : Int) > 0 by omega), hi1, rd_nat, if_pos (by omega), if_pos (by omega), hk1]
    by_cases c3 : p.f0.toList = key l (i - 1)
    · rw [if_pos c3] at hp
      subst hp
      rw [show (p.f0.toList == key l (i - 1)) = true by simpa using c3]
      simp
    rw [if_neg c3] at hp
    rw [show (p.f0.toList == key l (i - 1)) = false by simpa using c3, if_neg (show ¬ (false = true) by decide), if_pos (show (i : Int) > 0 by omega), if_pos (by omega), if_pos (by omega)]
    by_cases c4 : Op.bytesLess p.f0.toList (key l (i - 1)) = true
    · rw [if_pos c4] at hp
      subst hp
      rw [if_pos c4]
      simp
    · rw [if_neg c4] at hp
      subst hp
      rw [if_neg c4]
      simp

theorem wrong_tells (l : List S94) (k : Nat) (hk : 3 * l.length + 6 < k) (hl : l.length ≤ 4398046511104) : granaryref3_wrong.f k l = some (wrongF l) := by
  obtain ⟨k, rfl⟩ : ∃ m, k = m + 1 := ⟨k - 1, by omega⟩
  unfold granaryref3_wrong.f wrongF
  by_cases c0 : l.length = 0 ∨ 512 < l.length
  · rw [if_pos c0]
    simp only [granaryref3_wrong.j0]
    by_cases c1 : l.length = 0
    · rw [if_pos (by omega)]; simp
    · rw [if_neg (by omega), show decide ((l.length : Int) > 512) = true from decide_eq_true (by omega)]; simp
  · rw [if_neg c0, if_neg (by omega), show decide ((l.length : Int) > 512) = false from decide_eq_false (by omega)]
    simp only [granaryref3_wrong.j0]
    rw [if_neg (by decide)]
    exact wrong_l0 l (by omega) l.length 0 k (by omega) (by omega)

theorem be_size (n : Int) (w : Nat) : (⟨(be n w).toArray⟩ : ByteArray).size = w := by show (be n w).toArray.size = w; rw [List.size_toArray, be_length]
theorem size_l0 (l : List S94) (hl : l.length ≤ 1000000) : ∀ (d i k s : Nat), i + d = l.length → d < k → s + sz (l.drop i) ≤ 1000000000000000 → granaryref3_Size.l0 k l (s : Int) i = some ((s + sz (l.drop i) : Nat) : Int) := by
  intro d
  induction d with
  | zero =>
    intro i k s hi hk hs
    obtain ⟨k, rfl⟩ : ∃ m, k = m + 1 := ⟨k - 1, by omega⟩
    simp only [granaryref3_Size.l0]
    rw [if_neg (by omega), List.drop_of_length_le (by omega)]
    rfl
  | succ d ih =>
    intro i k s hi hk hs
    obtain ⟨k, rfl⟩ : ∃ m, k = m + 1 := ⟨k - 1, by omega⟩
    have hd := drop_cons l i (by omega)
    rw [hd, sz] at hs
    simp only [granaryref3_Size.l0]
    rw [rd_nat, if_pos (by omega), if_pos (by omega)]
    rw [w64 ((s : Int) + 6) (by omega) (by omega), w64 ((s : Int) + 6 + ((l.getD i z94).f0.size : Int)) (by omega) (by omega), w64 ((s : Int) + 6 + ((l.getD i z94).f0.size : Int) + ((l.getD i z94).f1.size : Int)) (by omega) (by omega), w64 ((i : Int) + 1) (by omega) (by omega)]
    have := ih (i + 1) k (s + 6 + (l.getD i z94).f0.size + (l.getD i z94).f1.size) (by omega) (by omega) (by omega)
    refine Eq.trans this ?_
    rw [hd, sz]
    congr 2
    omega

theorem size_tells (l : List S94) (hl : l.length ≤ 1000000) (k : Nat) (hk : l.length < k) (hs : 2 + sz l ≤ 1000000000000000) : granaryref3_Size.f k l = some ((2 + sz l : Nat) : Int) :=
  size_l0 l hl l.length 0 k 2 (by omega) hk hs

def ints (bs : List UInt8) : List Int := bs.map fun b => (b.toNat : Int)
theorem ints_app (a b : List UInt8) : ints (a ++ b) = ints a ++ ints b := by simp [ints]
theorem ints_len (a : List UInt8) : (ints a).length = a.length := by simp [ints]
theorem bytesOf_ints (s : ByteArray) : bytesOf s = ints s.data.toList := rfl
theorem str_ints (bs : List UInt8) : strOfNums (ints bs) = ⟨bs.toArray⟩ := by
  unfold strOfNums ints
  congr 1
  rw [List.map_map]
  congr 1
  conv => rhs; rw [← List.map_id bs]
  apply List.map_congr_left
  intro b _
  simp

theorem refRec_l0 (l : List S94) (hz : ∀ j, j < l.length → pairErr l j = 0) : ∀ (d i k : Nat) (bs : List UInt8), i + d = l.length → d + 10 < k → bs.length + sz (l.drop i) ≤ 1000000000 → l.length ≤ 1000000 →
    granaryref3_Record.l0 k l (ints bs) i = some (⟨(bs ++ (l.drop i).flatMap pairBytes).toArray⟩, 0) := by
  intro d
  induction d with
  | zero =>
    intro i k bs hi hk hs hl
    obtain ⟨k, rfl⟩ : ∃ m, k = m + 1 := ⟨k - 1, by omega⟩
    simp only [granaryref3_Record.l0]
    rw [if_neg (by omega), List.drop_of_length_le (by omega), str_ints]
    simp
  | succ d ih =>
    intro i k bs hi hk hs hl
    obtain ⟨k, rfl⟩ : ∃ m, k = m + 1 := ⟨k - 1, by omega⟩
    have hd := drop_cons l i (by omega)
    have hp := pairErr_sizes l i (hz i (by omega))
    rw [hd, sz] at hs
    simp only [granaryref3_Record.l0]
    rw [rd_nat, if_pos (by omega), if_pos (by omega)]
    generalize l.getD i z94 = p at *
    have z2 : (⟨(be (p.f0.size : Int) 2).toArray⟩ : ByteArray).size = 2 := be_size _ _
    have z4 : (⟨(be (p.f1.size : Int) 4).toArray⟩ : ByteArray).size = 4 := be_size _ _
    rw [show (2 : Int) = ((2 : Nat) : Int) from rfl, digits_tells 2 (by omega) _ (by omega) (by omega) k (by omega)]
    simp only [Option.bind_some]
    rw [show (4 : Int) = ((4 : Nat) : Int) from rfl, digits_tells 4 (by omega) _ (by omega) (by omega) k (by omega)]
    simp only [Option.bind_some, bytesOf_ints, List.length_append, ints_len, List.length_append]
    rw [z2, z4]
    simp only [List.toList_toArray, be_length, ba_size]
    rw [if_pos (by omega), if_pos (by omega), if_pos (by omega), if_pos (by omega), w64 ((i : Int) + 1) (by omega) (by omega)]
    have := ih (i + 1) k (bs ++ be p.f0.size 2 ++ be p.f1.size 4 ++ p.f0.data.toList ++ p.f1.data.toList) (by omega) (by omega) (by simp only [List.length_append, be_length, ba_size]; omega) hl
    rw [ints_app, ints_app, ints_app, ints_app] at this
    refine Eq.trans this ?_
    rw [hd, List.flatMap_cons, pairBytes]
    simp only [List.append_assoc]

theorem refRecord_tells (l : List S94) (hl : l.length ≤ 4398046511104) (k : Nat) (hk : 3 * l.length + 20 < k) : granaryref3_Record.f k l = some (recF l) := by
  unfold granaryref3_Record.f recF
  rw [wrong_tells l k (by omega) hl]
  simp only [Option.bind_some]
  by_cases c : wrongF l = 0
  · obtain ⟨h1, h2, hz, hs⟩ := wrongF_zero l c
    rw [if_pos c, if_neg (show ¬ wrongF l ≠ 0 from fun e => e c), size_tells l (by omega) k (by omega) (by omega)]
    simp only [Option.bind_some]
    by_cases c1 : 65536 < 2 + sz l
    · rw [if_pos (by omega), if_pos c1]
    · rw [if_neg (by omega), if_neg c1, show (2 : Int) = ((2 : Nat) : Int) from rfl, digits_tells 2 (by omega) _ (by omega) (by omega) k (by omega)]
      simp only [Option.bind_some]
      have z2 : (⟨(be (l.length : Int) 2).toArray⟩ : ByteArray).size = 2 := be_size _ _
      rw [z2, if_pos (by simp), bytesOf_ints, List.nil_append]
      have := refRec_l0 l hz l.length 0 k (be l.length 2) (by omega) (by omega) (by rw [be_length, List.drop_zero]; omega) (by omega)
      simp only [List.toList_toArray]
      refine Eq.trans this ?_
      rw [List.drop_zero, recBytes]
  · rw [if_neg c, if_pos c]

end Go.Proofs.Ytkfhedppnlocpaa.Q
