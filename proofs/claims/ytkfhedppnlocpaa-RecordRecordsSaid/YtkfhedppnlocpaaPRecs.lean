/- Plain law: the record's bytes and error are the document's, and what was handed in is left. Condition: a length that a memory can hold. -/
import Derived.Test.YtkfhedppnlocpaaEA
import Derived.Test.YtkfhedppnlocpaaPb
set_option linter.unusedVariables false
set_option linter.unusedSimpArgs false
namespace Go.Proofs.Ytkfhedppnlocpaa.Q
open Go.RowKit Go.Proofs.YtkfhedppnlocpaaW.PrintWords Go.Proofs.YtkfhedppnlocpaaW.PrintLast

theorem samePairs_l0' (l : List S94) (hl : l.length ≤ 4398046511106) : ∀ (d i k : Nat), i + d = l.length → d < k → granarylaw3_samePairs.l0 k l l (i : Int) = some true := by
  intro d
  induction d with
  | zero =>
    intro i k hi hk
    obtain ⟨k, rfl⟩ : ∃ m, k = m + 1 := ⟨k - 1, by omega⟩
    rw [granarylaw3_samePairs.l0, if_neg (by omega)]
  | succ d ih =>
    intro i k hi hk
    obtain ⟨k, rfl⟩ : ∃ m, k = m + 1 := ⟨k - 1, by omega⟩
    rw [granarylaw3_samePairs.l0, if_pos (by omega), if_pos (by omega), if_pos (by omega), if_pos rfl, if_pos rfl, w64 ((i : Int) + 1) (by omega) (by omega)]
    exact ih (i + 1) k (by omega) (by omega)

theorem samePairs_self' (l : List S94) (hl : l.length ≤ 4398046511106) (k : Nat) (hk : l.length < k) : granarylaw3_samePairs.f k l l = some true := by
  unfold granarylaw3_samePairs.f
  rw [if_pos rfl]
  exact samePairs_l0' l hl l.length 0 k (by omega) hk

theorem roomy_tells (l : List S94) (hl : l.length ≤ 4398046511000) : ∃ a b, granarylaw3_roomy.f l = some (l ++ [a, b]) := by
  unfold granarylaw3_roomy.f
  rw [if_pos (by simp; omega), Option.bind_some, Option.bind_some, if_pos (by simp; omega)]
  exact ⟨_, _, rfl⟩

/-- Record's bytes and error are the document's; what was handed in is left. -/
theorem recordRecords_true (l : List S94) (hl : l.length ≤ 4398046511000) : ∃ k, granarylaw3_RecordRecords.f k l = some true := by
  obtain ⟨a, b, hr⟩ := roomy_tells l hl
  refine ⟨3 * l.length + 40, ?_⟩
  unfold granarylaw3_RecordRecords.f
  have hs := samePairs_self' (l ++ [a, b]) (by simp; omega) (3 * l.length + 40) (by simp; omega)
  have ht : (l ++ [a, b]).take ((l.length : Int)).toNat = l := by
    rw [Int.toNat_natCast, List.take_left]
  have hd := refRecord_tells l (by omega) (3 * l.length + 40) (by omega)
  rw [hr, Option.bind_some, if_pos (by omega), if_pos (by simp; omega), ht, record_Record.f, Option.bind_some, hd, Option.bind_some, if_pos rfl, granarylaw3_num.f, Option.bind_some, if_pos rfl, Option.bind_some, hs]
  rfl

end Go.Proofs.Ytkfhedppnlocpaa.Q
