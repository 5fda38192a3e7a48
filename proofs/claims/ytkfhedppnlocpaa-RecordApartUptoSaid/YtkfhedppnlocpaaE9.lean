/- Laws for <= , > and >= of texts, each by the one comparison less. No condition. -/
import Derived.Laws.Cover1
set_option linter.unusedVariables false
set_option linter.unusedSimpArgs false
namespace Go.Proofs.Ytkfhedppnlocpaa.Q
open Go

theorem bl_irrefl (x : List UInt8) : Op.bytesLess x x = false := by
  induction x with
  | nil => rfl
  | cons a x ih => simp [Op.bytesLess, ih]
theorem bl_total : ∀ (x y : List UInt8), (Op.bytesLess x y || x == y) = !(Op.bytesLess y x)
  | [], [] => rfl
  | [], b :: y => by simp [Op.bytesLess]
  | a :: x, [] => by simp [Op.bytesLess]
  | a :: x, b :: y => by
    have ih := bl_total x y
    by_cases h : a = b
    · subst h
      have e : ((a :: x) == (a :: y)) = (x == y) := by
        rw [Bool.eq_iff_iff]
        simp
      rw [e]
      simp only [Op.bytesLess, beq_self_eq_true, Bool.true_and]
      have hlt : decide (a < a) = false := by simp
      rw [hlt, Bool.false_or, Bool.false_or, ih]
    · have e : ((a :: x) == (b :: y)) = false := by simp [h]
      have e2 : (a == b) = false := by simp [h]
      have e3 : (b == a) = false := by simp [Ne.symm h]
      rw [e, Bool.or_false]
      simp only [Op.bytesLess, e2, e3, Bool.false_and, Bool.or_false]
      rcases UInt8.lt_or_lt_of_ne h with h1 | h1
      · have : ¬ b < a := fun h2 => absurd (UInt8.lt_trans h1 h2) (UInt8.lt_irrefl a)
        simp [h1, this]
      · have : ¬ a < b := fun h2 => absurd (UInt8.lt_trans h1 h2) (UInt8.lt_irrefl b)
        simp [h1, this]
theorem leq_str (t : TypeId) (a b : ByteArray) : binOp .leq t (.string a) (.string b) = pure (.bool (!(Op.bytesLess b.toList a.toList))) := by
  rw [binOp_string_leq, bl_total]
theorem gtr_str (t : TypeId) (a b : ByteArray) : binOp .gtr t (.string a) (.string b) = pure (.bool (Op.bytesLess b.toList a.toList)) := by
  rw [binOp_string_gtr, bl_total, Bool.not_not]
theorem geq_str (t : TypeId) (a b : ByteArray) : binOp .geq t (.string a) (.string b) = pure (.bool (!(Op.bytesLess a.toList b.toList))) := binOp_string_geq t a b

end Go.Proofs.Ytkfhedppnlocpaa.Q
