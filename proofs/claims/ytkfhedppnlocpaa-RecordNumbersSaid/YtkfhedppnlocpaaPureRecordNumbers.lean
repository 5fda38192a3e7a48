/- The statement RecordNumbers of the package granarylaw3: Number and ReadNumber of the program answer, at every argument, what the document's answer says. No condition. -/
import Derived.Test.YtkfhedppnlocpaaPa
namespace Go.Proofs.Ytkfhedppnlocpaa.Pure
open Go.RowKit Go.Proofs.Ytkfhedppnlocpaa.Q Go.Proofs.YtkfhedppnlocpaaW.PrintWords Go.Proofs.YtkfhedppnlocpaaW.PrintLast

theorem number_some (n w : Int) : ∃ x e, record_Number.f n w = some (x, e) := by
  unfold record_Number.f
  split
  · exact ⟨_, _, rfl⟩
  · split
    · exact ⟨_, _, rfl⟩
    · exact ⟨_, _, rfl⟩

theorem RecordNumbers : granarylaw3_RecordNumbers.Pure := by
  intro n w s at_ hn hw hs ha
  have bn := i64b hn
  refine ⟨20, ?_⟩
  obtain ⟨x, e, hx⟩ := number_some n w
  unfold granarylaw3_RecordNumbers.f
  rw [refNumber_tells n w bn.1 bn.2 20 (by omega), hx]
  simp only [Option.bind_some, granarylaw3_num.f, if_true, bne_self_eq_false, granarylaw3_RecordNumbers.j0, Bool.false_eq_true, if_false]
  rw [readNumber_tells s at_ w (by omega) 19 (by omega), refReadNumber_tells s at_ w (by omega) 19 (by omega)]
  simp

end Go.Proofs.Ytkfhedppnlocpaa.Pure
