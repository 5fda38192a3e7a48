-- written by a program of this session (wip/tools), out of the translation; Lean checks it
import Derived.Test.YtkfhedppnlocpaaQx0
import Derived.Test.YtkfhedppnlocpaaE3
namespace Go.Proofs.Ytkfhedppnlocpaa.Q
open Go.RowKit Go.Proofs.YtkfhedppnlocpaaW.PrintWords Go.Proofs.YtkfhedppnlocpaaW.PrintLast Go.Proofs.YtkfhedppnlocpaaW.PrintMore
attribute [local go_sem] max2_int min2_int max_two min_two max_three min_three max_four min_four   -- for this text's walks alone
set_option linter.unusedVariables false
set_option linter.unusedSimpArgs false

-- NOT PRINTED: function 82 (abi_NoEscape)

-- NOT PRINTED: function 79 (strings_Builder_copyCheck)

-- NOT PRINTED: function 78 (strings_Builder_WriteByte)

-- NOT PRINTED: function 51 (record_put)

-- NOT PRINTED: function 52 (strings_Builder_String)

-- EXTERNAL: function 15 (record_Number)

/-! ### granaryref3_power: function 53 -/
/-! ### granaryref3_digits: function 54 -/
/-! ### granaryref3_Number: function 16 -/
/-! ### granarylaw3_num: function 17 -/
def granarylaw3_num.f (a0 : Int) : Option (Int) := some a0
set_option maxHeartbeats 8000000 in
set_option maxRecDepth 100000 in
theorem granarylaw3_num.calls (a0 : Int) (r : Int) (w : World) (h : granarylaw3_num.f a0 = some r) :
    Calls Try.prog 17 #[.int .i64 a0] w fun e w' => e = .returned (.int .i64 r) ∧ Drawn0 w w' := by
  have H : (some a0) = some r := h
  clear h
  obtain rfl := Option.some.inj H
  go_enter Try.func17, Try.ntmps17
  go_wp2
  go_ret
  exact ⟨by first | rfl | (simp; done) | (simp [*]; done), by repeat (first | exact Drawn0.refl _ | apply Drawn0.step)⟩

-- EXTERNAL: function 55 (record_take)

/-! ### record_ReadNumber: function 18 -/
/-! ### granaryref3_sum: function 56 -/
/-! ### granaryref3_ReadNumber: function 19 -/
end Go.Proofs.Ytkfhedppnlocpaa.Q
