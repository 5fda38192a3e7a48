-- written by a program of this session (wip/tools), out of the translation; Lean checks it
import Derived.Test.YtkfhedppnlocpaaQx0
import Derived.Test.YtkfhedppnlocpaaQx1
import Derived.Test.YtkfhedppnlocpaaE3
namespace Go.Proofs.Ytkfhedppnlocpaa.Q
open Go.RowKit Go.Proofs.YtkfhedppnlocpaaW.PrintWords Go.Proofs.YtkfhedppnlocpaaW.PrintLast Go.Proofs.YtkfhedppnlocpaaW.PrintMore
attribute [local go_sem] max2_int min2_int max_two min_two max_three min_three max_four min_four   -- for this text's walks alone
set_option linter.unusedVariables false
set_option linter.unusedSimpArgs false

/-! ### record_widthOK: function 57 -/
-- NOT PRINTED: function 58 (strings_Builder_WriteString)

-- EXTERNAL: function 20 (record_Entry)

/-! ### granaryref3_Entry: function 21 -/
-- EXTERNAL: function 22 (record_ReadEntry)

end Go.Proofs.Ytkfhedppnlocpaa.Q
