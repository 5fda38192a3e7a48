/- Plain laws: which error a list of pairs bears, its size, and the bytes of the record that the document spells. Conditions: the numbers and lengths that an int and a memory can hold. -/
import Derived.Test.YtkfhedppnlocpaaPa
import Derived.Test.YtkfhedppnlocpaaQx5
import Derived.Test.YtkfhedppnlocpaaE8
set_option linter.unusedVariables false
set_option linter.unusedSimpArgs false
namespace Go.Proofs.Ytkfhedppnlocpaa.Q
open Go.RowKit Go.Proofs.YtkfhedppnlocpaaW.PrintWords Go.Proofs.YtkfhedppnlocpaaW.PrintLast

/-! ### Plain laws: a record's pairs -/
theorem toList_nil_iff (s : ByteArray) : s.toList = ([] : List UInt8) ↔ s.size = 0 := by
  rw [ByteArray.toList_eq, ← ba_size, List.length_eq_zero_iff]

theorem wrong_l0 (l : List S94) (hl : l.length ≤ 1000000) : ∀ (d i k : Nat), i + d = l.length → 3 * d + 3 < k → granaryref3_wrong.l0 k l i = some (firstErr l d i) := by
  intro d
  induction d with
  | zero =>
    intro i k hi hk
    obtain ⟨k, rfl⟩ : ∃ m, k = m + 1 := ⟨k - 1, by omega⟩
    simp only [granaryref3_wrong.l0]
    rw [if_neg (by omega)]
    rfl
  | succ d ih =>
    intro i k hi hk
    obtain ⟨k, rfl⟩ : ∃ m, k = m + 3 := ⟨k - 3, by omega⟩
    have IH := ih (i + 1) k (by omega) (by omega)
    simp only [granaryref3_wrong.l0, granaryref3_wrong.j2, granaryref3_wrong.j3]
    rw [rd_nat, if_pos (show (i : Int) < (l.length : Int) by omega), if_pos (show (0 : Int) ≤ (i : Int) by omega), w64 ((i : Int) + 1) (by omega) (by omega), w64 ((i : Int) - 1) (by omega) (by omega)]
    rw [show ((i : Int) + 1) = ((i + 1 : Nat) : Int) from rfl, IH]
    have hf : firstErr l (d + 1) i = if pairErr l i ≠ 0 then pairErr l i else firstErr l d (i + 1) := rfl
    rw [hf]
    generalize firstErr l d (i + 1) = FE
    have hp : pairErr l i = if (l.getD i z94).f0.size < 1 ∨ 255 < (l.getD i z94).f0.size then 32 else if 4096 < (l.getD i z94).f1.size then 33
      else if i = 0 then 0 else if key l i = key l (i - 1) then 35 else if Op.bytesLess (key l i) (key l (i - 1)) = true then 37 else 0 := rfl
    have hki : key l i = (l.getD i z94).f0.toList := by rw [key, ByteArray.toList_eq]
    rw [hki] at hp
    generalize pairErr l i = e at *
    generalize l.getD i z94 = p at *
    have hn := toList_nil_iff p.f0
    by_cases c0 : p.f0.size < 1 ∨ 255 < p.f0.size
    · rw [if_pos c0] at hp
      subst hp
      rw [if_pos (show (32 : Int) ≠ 0 by decide)]
      by_cases c1 : p.f0.size = 0
      · rw [if_pos (hn.2 c1), if_pos trivial]
      · rw [if_neg (fun h => c1 (hn.1 h)), show decide ((p.f0.size : Int) > 255) = true from decide_eq_true (by omega), if_pos rfl]
    rw [if_neg c0] at hp
    rw [if_neg (fun h => c0 (.inl (by rw [hn.1 h]; omega))), show decide ((p.f0.size : Int) > 255) = false from decide_eq_false (by omega)]
    rw [if_neg (show ¬ (false = true) by decide)]
    by_cases c1 : 4096 < p.f1.size
    · rw [if_pos c1] at hp
      subst hp
      rw [if_pos (show (p.f1.size : Int) > 4096 by omega), if_pos (show (33 : Int) ≠ 0 by decide)]
    rw [if_neg c1] at hp
    rw [if_neg (show ¬ ((p.f1.size : Int) > 4096) by omega)]
    by_cases c2 : i = 0
    · rw [if_pos c2] at hp
      subst hp
      rw [if_neg (show ¬ ((i : Int) > 0) by omega), if_neg (show ¬ ((i : Int) > 0) by omega)]
      simp
    rw [if_neg c2] at hp
    have hi1 : ((i : Int) - 1) = ((i - 1 : Nat) : Int) := by omega
    have hk1 : (l.getD (i - 1) z94).f0.toList = key l (i - 1) := by rw [key, ByteArray.toList_eq]
    rw [if_pos (show (i : Int) > 0 by omega), hi1, rd_nat, if_pos (by omega), if_pos (by omega), hk1]
    by_cases c3 : p.f0.toList = key l (i - 1)
    · rw [if_pos c3] at hp
      subst hp
      rw [show (p.f0.toList == key l (i - 1)) = true by simpa using c3]
      simp
    rw [if_neg c3] at hp
    rw [show (p.f0.toList == key l (i - 1)) = false by simpa using c3, if_neg (show ¬ (false = true) by decide), if_pos (show (i : Int) > 0 by omega), if_pos (by omega), if_pos (by omega)]
    by_cases c4 : Op.bytesLess p.f0.toList (key l (i - 1)) = true
    · rw [if_pos c4] at hp
      subst hp
      rw [if_pos c4]
      simp
    · rw [if_neg c4] at hp
      subst hp
      rw [if_neg c4]
      simp

theorem wrong_tells (l : List S94) (k : Nat) (hk : 3 * l.length + 6 < k) (hl : l.length ≤ 4398046511104) : granaryref3_wrong.f k l = some (wrongF l) := by
  obtain ⟨k, rfl⟩ : ∃ m, k = m + 1 := ⟨k - 1, by omega⟩
  unfold granaryref3_wrong.f wrongF
  by_cases c0 : l.length = 0 ∨ 512 < l.length
  · rw [if_pos c0]
    simp only [granaryref3_wrong.j0]
    by_cases c1 : l.length = 0
    · rw [if_pos (by omega)]; simp
    · rw [if_neg (by omega), show decide ((l.length : Int) > 512) = true from decide_eq_true (by omega)]; simp
  · rw [if_neg c0, if_neg (by omega), show decide ((l.length : Int) > 512) = false from decide_eq_false (by omega)]
    simp only [granaryref3_wrong.j0]
    rw [if_neg (by decide)]
    exact wrong_l0 l (by omega) l.length 0 k (by omega) (by omega)

theorem be_size (n : Int) (w : Nat) : (⟨(be n w).toArray⟩ : ByteArray).size = w := by show (be n w).toArray.size = w; rw [List.size_toArray, be_length]
theorem size_l0 (l : List S94) (hl : l.length ≤ 1000000) : ∀ (d i k s : Nat), i + d = l.length → d < k → s + sz (l.drop i) ≤ 1000000000000000 → granaryref3_Size.l0 k l (s : Int) i = some ((s + sz (l.drop i) : Nat) : Int) := by
  intro d
  induction d with
  | zero =>
    intro i k s hi hk hs
    obtain ⟨k, rfl⟩ : ∃ m, k = m + 1 := ⟨k - 1, by omega⟩
    simp only [granaryref3_Size.l0]
    rw [if_neg (by omega), List.drop_of_length_le (by omega)]
    rfl
  | succ d ih =>
    intro i k s hi hk hs
    obtain ⟨k, rfl⟩ : ∃ m, k = m + 1 := ⟨k - 1, by omega⟩
    have hd := drop_cons l i (by omega)
    rw [hd, sz] at hs
    simp only [granaryref3_Size.l0]
    rw [rd_nat, if_pos (by omega), if_pos (by omega)]
    rw [w64 ((s : Int) + 6) (by omega) (by omega), w64 ((s : Int) + 6 + ((l.getD i z94).f0.size : Int)) (by omega) (by omega), w64 ((s : Int) + 6 + ((l.getD i z94).f0.size : Int) + ((l.getD i z94).f1.size : Int)) (by omega) (by omega), w64 ((i : Int) + 1) (by omega) (by omega)]
    have := ih (i + 1) k (s + 6 + (l.getD i z94).f0.size + (l.getD i z94).f1.size) (by omega) (by omega) (by omega)
    refine Eq.trans this ?_
    rw [hd, sz]
    congr 2
    omega

theorem size_tells (l : List S94) (hl : l.length ≤ 1000000) (k : Nat) (hk : l.length < k) (hs : 2 + sz l ≤ 1000000000000000) : granaryref3_Size.f k l = some ((2 + sz l : Nat) : Int) :=
  size_l0 l hl l.length 0 k 2 (by omega) hk hs

def ints (bs : List UInt8) : List Int := bs.map fun b => (b.toNat : Int)
theorem ints_app (a b : List UInt8) : ints (a ++ b) = ints a ++ ints b := by simp [ints]
theorem ints_len (a : List UInt8) : (ints a).length = a.length := by simp [ints]
theorem bytesOf_ints (s : ByteArray) : bytesOf s = ints s.data.toList := rfl
theorem str_ints (bs : List UInt8) : strOfNums (ints bs) = ⟨bs.toArray⟩ := by
  unfold strOfNums ints
  congr 1
  rw [List.map_map]
  congr 1
  conv => rhs; rw [← List.map_id bs]
  apply List.map_congr_left
  intro b _
  simp

theorem refRec_l0 (l : List S94) (hz : ∀ j, j < l.length → pairErr l j = 0) : ∀ (d i k : Nat) (bs : List UInt8), i + d = l.length → d + 10 < k → bs.length + sz (l.drop i) ≤ 1000000000 → l.length ≤ 1000000 →
    granaryref3_Record.l0 k l (ints bs) i = some (⟨(bs ++ (l.drop i).flatMap pairBytes).toArray⟩, 0) := by
  intro d
  induction d with
  | zero =>
    intro i k bs hi hk hs hl
    obtain ⟨k, rfl⟩ : ∃ m, k = m + 1 := ⟨k - 1, by omega⟩
    simp only [granaryref3_Record.l0]
    rw [if_neg (by omega), List.drop_of_length_le (by omega), str_ints]
    simp
  | succ d ih =>
    intro i k bs hi hk hs hl
    obtain ⟨k, rfl⟩ : ∃ m, k = m + 1 := ⟨k - 1, by omega⟩
    have hd := drop_cons l i (by omega)
    have hp := pairErr_sizes l i (hz i (by omega))
    rw [hd, sz] at hs
    simp only [granaryref3_Record.l0]
    rw [rd_nat, if_pos (by omega), if_pos (by omega)]
    generalize l.getD i z94 = p at *
    have z2 : (⟨(be (p.f0.size : Int) 2).toArray⟩ : ByteArray).size = 2 := be_size _ _
    have z4 : (⟨(be (p.f1.size : Int) 4).toArray⟩ : ByteArray).size = 4 := be_size _ _
    rw [show (2 : Int) = ((2 : Nat) : Int) from rfl, digits_tells 2 (by omega) _ (by omega) (by omega) k (by omega)]
    simp only [Option.bind_some]
    rw [show (4 : Int) = ((4 : Nat) : Int) from rfl, digits_tells 4 (by omega) _ (by omega) (by omega) k (by omega)]
    simp only [Option.bind_some, bytesOf_ints, List.length_append, ints_len, List.length_append]
    rw [z2, z4]
    simp only [List.toList_toArray, be_length, ba_size]
    rw [if_pos (by omega), if_pos (by omega), if_pos (by omega), if_pos (by omega), w64 ((i : Int) + 1) (by omega) (by omega)]
    have := ih (i + 1) k (bs ++ be p.f0.size 2 ++ be p.f1.size 4 ++ p.f0.data.toList ++ p.f1.data.toList) (by omega) (by omega) (by simp only [List.length_append, be_length, ba_size]; omega) hl
    rw [ints_app, ints_app, ints_app, ints_app] at this
    refine Eq.trans this ?_
    rw [hd, List.flatMap_cons, pairBytes]
    simp only [List.append_assoc]

theorem refRecord_tells (l : List S94) (hl : l.length ≤ 4398046511104) (k : Nat) (hk : 3 * l.length + 20 < k) : granaryref3_Record.f k l = some (recF l) := by
  unfold granaryref3_Record.f recF
  rw [wrong_tells l k (by omega) hl]
  simp only [Option.bind_some]
  by_cases c : wrongF l = 0
  · obtain ⟨h1, h2, hz, hs⟩ := wrongF_zero l c
    rw [if_pos c, if_neg (show ¬ wrongF l ≠ 0 from fun e => e c), size_tells l (by omega) k (by omega) (by omega)]
    simp only [Option.bind_some]
    by_cases c1 : 65536 < 2 + sz l
    · rw [if_pos (by omega), if_pos c1]
    · rw [if_neg (by omega), if_neg c1, show (2 : Int) = ((2 : Nat) : Int) from rfl, digits_tells 2 (by omega) _ (by omega) (by omega) k (by omega)]
      simp only [Option.bind_some]
      have z2 : (⟨(be (l.length : Int) 2).toArray⟩ : ByteArray).size = 2 := be_size _ _
      rw [z2, if_pos (by simp), bytesOf_ints, List.nil_append]
      have := refRec_l0 l hz l.length 0 k (be l.length 2) (by omega) (by omega) (by rw [be_length, List.drop_zero]; omega) (by omega)
      simp only [List.toList_toArray]
      refine Eq.trans this ?_
      rw [List.drop_zero, recBytes]
  · rw [if_neg c, if_pos c]

end Go.Proofs.Ytkfhedppnlocpaa.Q
