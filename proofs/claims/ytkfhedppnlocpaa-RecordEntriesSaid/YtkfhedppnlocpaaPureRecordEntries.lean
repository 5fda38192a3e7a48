/- The statement RecordEntries of the package granarylaw3: Entry and ReadEntry of the program answer, at every argument, what the document's answer says. No condition. -/
import Derived.Test.YtkfhedppnlocpaaPa
namespace Go.Proofs.Ytkfhedppnlocpaa.Pure
open Go.RowKit Go.Proofs.Ytkfhedppnlocpaa.Q Go.Proofs.YtkfhedppnlocpaaW.PrintWords Go.Proofs.YtkfhedppnlocpaaW.PrintLast

theorem refEntry_tells (w : Int) (h : ByteArray) (o : Int) (k : Nat) (hk : 10 < k) : granaryref3_Entry.f k w h o = record_Entry.f w h o := by
  obtain ⟨k, rfl⟩ : ∃ m, k = m + 1 := ⟨k - 1, by omega⟩
  unfold granaryref3_Entry.f record_Entry.f
  simp only [granaryref3_Entry.j0]
  by_cases c1 : w < 1
  · rw [if_pos c1, if_pos (show w < 1 ∨ 16 < w from .inl c1)]; simp
  rw [if_neg c1]
  by_cases c2 : w > 16
  · rw [if_pos (show decide (w > 16) = true by simpa using c2), if_pos (show w < 1 ∨ 16 < w from .inr c2)]
  rw [if_neg (show ¬ (decide (w > 16) = true) by simpa using c2), if_neg (show ¬ (w < 1 ∨ 16 < w) by omega)]
  by_cases c3 : (h.size : Int) = w
  · rw [if_pos c3, if_neg (show ¬ ((h.size : Int) ≠ w) from fun e => e c3)]
    by_cases c4 : o < 0
    · rw [if_pos c4, if_pos (show o < 0 ∨ 4294967295 < o from .inl c4)]
    rw [if_neg c4]
    by_cases c5 : o > 4294967295
    · rw [if_pos c5, if_pos (show o < 0 ∨ 4294967295 < o from .inr c5)]
    rw [if_neg c5, if_neg (show ¬ (o < 0 ∨ 4294967295 < o) by omega), show (4 : Int) = ((4 : Nat) : Int) from rfl, digits_tells 4 (by omega) o (by omega) (by omega) k (by omega)]
    simp only [Option.bind_some]
    have hz : (⟨(be o 4).toArray⟩ : ByteArray).size = 4 := by simp [ByteArray.size, be_length]
    rw [if_pos (by omega)]
    have : h ++ ⟨(be o 4).toArray⟩ = ⟨(h.data.toList ++ be o 4).toArray⟩ := ByteArray.ext (by simp)
    rw [this]
  · rw [if_neg c3, if_pos c3]

theorem refReadEntry_tells (w : Int) (x : ByteArray) (i : Int) (hw : -9223372036854775808 ≤ w ∧ w ≤ 9223372036854775807) (hi : -9223372036854775808 ≤ i ∧ i ≤ 9223372036854775807) (hs : x.size ≤ 140737488351232) (k : Nat) (hk : 10 < k) : granaryref3_ReadEntry.f k w x i = record_ReadEntry.f w x i := by
  obtain ⟨k, rfl⟩ : ∃ m, k = m + 1 := ⟨k - 1, by omega⟩
  unfold granaryref3_ReadEntry.f record_ReadEntry.f
  simp only [granaryref3_ReadEntry.j0]
  rw [if_neg (show ¬ (140737488351232 < x.size) by omega)]
  by_cases c1 : w < 1
  · rw [if_pos c1, if_pos (show w < 1 ∨ 16 < w from .inl c1)]; simp
  rw [if_neg c1]
  by_cases c2 : w > 16
  · rw [if_pos (show decide (w > 16) = true by simpa using c2), if_pos (show w < 1 ∨ 16 < w from .inr c2)]
  rw [if_neg (show ¬ (decide (w > 16) = true) by simpa using c2), if_neg (show ¬ (w < 1 ∨ 16 < w) by omega)]
  obtain ⟨m, rfl⟩ := Int.eq_ofNat_of_zero_le (show 0 ≤ w by omega)
  rw [w64 ((m : Int) + 4) (by omega) (by omega), Int.toNat_natCast]
  rw [if_neg (show ¬ ((m : Int) + 4 = 0) by omega)]
  have e0 : ((m : Int) + 4) = ((m + 4 : Nat) : Int) := by simp
  rw [e0]
  by_cases c3 : x.size % (m + 4) = 0
  · rw [if_pos (show ((x.size : Int) % ((m + 4 : Nat) : Int)) = 0 by rw [← Int.natCast_emod, c3]; rfl), if_neg (show ¬ (x.size % (m + 4) ≠ 0) from fun e => e c3)]
    obtain ⟨q, hq⟩ : ∃ q, q = x.size / (m + 4) := ⟨_, rfl⟩
    have hqs : q * (m + 4) = x.size := by rw [hq]; exact Nat.div_mul_cancel (Nat.dvd_of_mod_eq_zero c3)
    have hqle : q ≤ x.size := by rw [← hqs]; exact Nat.le_mul_of_pos_right _ (by omega)
    rw [← Int.natCast_ediv, ← hq, w64 (q : Int) (by omega) (by omega)]
    by_cases c4 : i < 0
    · rw [if_pos c4, if_pos (show i < 0 ∨ (q : Int) ≤ i from .inl c4)]
    rw [if_neg c4]
    by_cases c5 : i ≥ (q : Int)
    · rw [if_pos c5, if_pos (show i < 0 ∨ (q : Int) ≤ i from .inr c5)]
    rw [if_neg c5, if_neg (show ¬ (i < 0 ∨ (q : Int) ≤ i) by omega)]
    obtain ⟨j, rfl⟩ := Int.eq_ofNat_of_zero_le (show 0 ≤ i by omega)
    rw [Int.toNat_natCast]
    have hj1 : (j + 1) * (m + 4) ≤ x.size := by rw [← hqs]; exact Nat.mul_le_mul_right _ (by omega)
    have hj2 : (j + 1) * (m + 4) = j * (m + 4) + (m + 4) := by rw [Nat.add_mul, Nat.one_mul]
    rw [← Int.natCast_mul, hj2]
    generalize j * (m + 4) = lo at *
    rw [w64 (lo : Int) (by omega) (by omega), w64 ((lo : Int) + (m : Int)) (by omega) (by omega)]
    rw [if_pos (show 0 ≤ (lo : Int) by omega), if_pos (show (lo : Int) ≤ (lo : Int) + m by omega), if_pos (show (lo : Int) + m ≤ (x.size : Int) by omega)]
    rw [show ((lo : Int) + m) = ((lo + m : Nat) : Int) from rfl, show (4 : Int) = ((4 : Nat) : Int) from rfl, sum_tells x (lo + m) 4 (by omega) (by omega) (by omega) k (by omega)]
    rfl
  · rw [if_neg (show ¬ (((x.size : Int) % ((m + 4 : Nat) : Int)) = 0) by rw [← Int.natCast_emod]; omega), if_pos c3]

theorem entry_some (w : Int) (h : ByteArray) (o : Int) : ∃ x e, record_Entry.f w h o = some (x, e) := by
  unfold record_Entry.f
  split
  · exact ⟨_, _, rfl⟩
  · split
    · exact ⟨_, _, rfl⟩
    · split
      · exact ⟨_, _, rfl⟩
      · exact ⟨_, _, rfl⟩

theorem readEntry_some (w : Int) (x : ByteArray) (i : Int) (hs : x.size ≤ 140737488351232) : ∃ a b e, record_ReadEntry.f w x i = some (a, b, e) := by
  unfold record_ReadEntry.f
  rw [if_neg (by omega)]
  split
  · exact ⟨_, _, _, rfl⟩
  · split
    · exact ⟨_, _, _, rfl⟩
    · split
      · exact ⟨_, _, _, rfl⟩
      · exact ⟨_, _, _, rfl⟩

theorem RecordEntries : granarylaw3_RecordEntries.Pure := by
  intro w h o x i hw hh ho hx hi
  refine ⟨20, ?_⟩
  obtain ⟨a, e, ha⟩ := entry_some w h o
  obtain ⟨c, d, g, hg⟩ := readEntry_some w x i hx
  unfold granarylaw3_RecordEntries.f
  rw [refEntry_tells w h o 20 (by omega), ha]
  simp only [Option.bind_some, granarylaw3_num.f, if_true, bne_self_eq_false, granarylaw3_RecordEntries.j0, Bool.false_eq_true, if_false]
  rw [refReadEntry_tells w x i (i64b hw) (i64b hi) hx 19 (by omega), hg]
  simp

end Go.Proofs.Ytkfhedppnlocpaa.Pure
