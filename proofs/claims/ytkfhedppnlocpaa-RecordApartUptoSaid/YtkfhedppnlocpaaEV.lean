/- Plain laws: what Lookup answers; keys that rise; Among tells it. No condition. -/
import Derived.Test.YtkfhedppnlocpaaEO
import Derived.Test.YtkfhedppnlocpaaE9
import Derived.Test.YtkfhedppnlocpaaQx7
set_option linter.unusedVariables false
set_option linter.unusedSimpArgs false
namespace Go.Proofs.Ytkfhedppnlocpaa.Q
open Go.RowKit Go.Proofs.YtkfhedppnlocpaaW.PrintWords Go.Proofs.YtkfhedppnlocpaaW.PrintLast

/-! ### Plain laws: looking up -/
theorem bl_trans : ∀ (x y z : List UInt8), Op.bytesLess x y = true → Op.bytesLess y z = true → Op.bytesLess x z = true
  | [], [], _, h, _ => by cases h
  | [], _ :: _, [], _, h => by cases h
  | [], _ :: _, _ :: _, _, _ => rfl
  | _ :: _, [], _, h, _ => by cases h
  | _ :: _, _ :: _, [], _, h => by cases h
  | a :: x, b :: y, c :: z, h1, h2 => by
    simp only [Op.bytesLess, Bool.or_eq_true, Bool.and_eq_true, decide_eq_true_eq, beq_iff_eq] at h1 h2 ⊢
    rcases h1 with h1 | ⟨rfl, h1⟩ <;> rcases h2 with h2 | ⟨rfl, h2⟩
    · exact .inl (UInt8.lt_trans h1 h2)
    · exact .inl h1
    · exact .inl h2
    · exact .inr ⟨rfl, bl_trans x y z h1 h2⟩
theorem bl_ne {x y : List UInt8} (h : Op.bytesLess x y = true) : x ≠ y := by
  rintro rfl
  rw [bl_irrefl] at h
  cases h
theorem bl_up {x y : List UInt8} (h : Op.bytesLess x y = false) (hn : x ≠ y) : Op.bytesLess y x = true := by
  have := bl_total x y
  rw [h, Bool.false_or] at this
  have e : (x == y) = false := by simpa using hn
  rw [e] at this
  cases hb : Op.bytesLess y x with
  | true => rfl
  | false => rw [hb] at this; cases this
def looked (o : Option ByteArray) : ByteArray × Bool := (o.getD ⟨#[]⟩, o.isSome)
/-! Among tells it -/
end Go.Proofs.Ytkfhedppnlocpaa.Q
