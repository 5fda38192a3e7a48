/- What the bound of an 'upto' statement gives: how many places a slice has at the most. No condition. -/
import Derived.Test.YtadbcekglcmccaaRows
namespace Go.Proofs.Ytadbcekglcmccaa.bulks

theorem pos {H : Type} (d : DataW H) : 0 < Rows.uptoBulk d := by
  cases d with
  | lit l => cases l <;> simp [Rows.uptoBulk]
  | _ => simp [Rows.uptoBulk]
theorem count {H : Type} (l : List (DataW H)) : l.length ≤ Rows.uptoBulkAll l := by
  induction l with
  | nil => exact Nat.zero_le _
  | cons d r ih =>
    have := pos d
    rw [Rows.uptoBulkAll, List.length_cons]
    omega
theorem places {H : Type} (E F : List (DataW H)) : E.length + F.length ≤ Rows.uptoBulk (.slice E F) := by
  have := count E
  have := count F
  rw [Rows.uptoBulk]
  omega
theorem small {H : Type} {l : List (DataW H)} (h : Rows.uptoSmall H l = true) : Rows.uptoBulkAll l ≤ 1048576 := of_decide_eq_true h

end Go.Proofs.Ytadbcekglcmccaa.bulks
