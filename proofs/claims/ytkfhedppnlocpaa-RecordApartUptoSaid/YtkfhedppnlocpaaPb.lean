/- Plain laws: the document's power, digits, sum, Number and ReadNumber come to the same as the program's. Conditions: the numbers and lengths that an int and a memory can hold. Plain laws: which error a list of pairs bears, its size, and the bytes of the record that the document spells. Conditions: the numbers and lengths that an int and a memory can hold. -/
import Derived.Test.YtkfhedppnlocpaaQx3
import Derived.Test.YtkfhedppnlocpaaQx5
import Derived.Test.YtkfhedppnlocpaaE8
namespace Go.Proofs.Ytkfhedppnlocpaa.Q
open Go.RowKit Go.Proofs.YtkfhedppnlocpaaW.PrintWords Go.Proofs.YtkfhedppnlocpaaW.PrintLast

/-! ### Plain laws: numbers as bytes -/
theorem w64 (n : Int) (h : -9223372036854775808 ≤ n) (h2 : n ≤ 9223372036854775807) : wrap64 n = n := by unfold wrap64; omega

/-! ### Number and ReadNumber: the program's and the document's -/
end Go.Proofs.Ytkfhedppnlocpaa.Q
set_option linter.unusedVariables false
set_option linter.unusedSimpArgs false
namespace Go.Proofs.Ytkfhedppnlocpaa.Q
open Go.RowKit Go.Proofs.YtkfhedppnlocpaaW.PrintWords Go.Proofs.YtkfhedppnlocpaaW.PrintLast

/-! ### Plain laws: a record's pairs -/
theorem toList_nil_iff (s : ByteArray) : s.toList = ([] : List UInt8) ↔ s.size = 0 := by
  rw [ByteArray.toList_eq, ← ba_size, List.length_eq_zero_iff]

def ints (bs : List UInt8) : List Int := bs.map fun b => (b.toNat : Int)
theorem str_ints (bs : List UInt8) : strOfNums (ints bs) = ⟨bs.toArray⟩ := by
  unfold strOfNums ints
  congr 1
  rw [List.map_map]
  congr 1
  conv => rhs; rw [← List.map_id bs]
  apply List.map_congr_left
  intro b _
  simp

end Go.Proofs.Ytkfhedppnlocpaa.Q
