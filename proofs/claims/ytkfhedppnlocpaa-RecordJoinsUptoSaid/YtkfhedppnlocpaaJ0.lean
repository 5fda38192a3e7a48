/- Plain laws: a chunk's entries and records, one by one. No condition. -/
import Derived.Test.YtkfhedppnlocpaaK4
set_option linter.unusedVariables false
set_option linter.unusedSimpArgs false
namespace Go.Proofs.Ytkfhedppnlocpaa.Q
open Go.RowKit Go.Proofs.YtkfhedppnlocpaaW.PrintWords Go.Proofs.YtkfhedppnlocpaaW.PrintLast Go.Proofs.YtkfhedppnlocpaaW.PrintMore

/-! ### A chunk's entries and records, one by one -/
section
variable {wn : Nat} {L : List S80}
theorem total_take_le (L : List S80) (i : Nat) : total (L.take i) ≤ total L := by have := total_split L i; omega
theorem off_good (H : GoodG wn L) {i : Nat} (hi : i < L.length) : beNum ((idxB L).extract (i * (wn + 4) + wn) ((i + 1) * (wn + 4))).data.toList = ((total (L.take i) : Nat) : Int) := by
  obtain ⟨A, B, h1, h2⟩ := idx_at L 0 i H.hs hi
  have hs := H.hs _ (getD_mem hi)
  rw [Nat.zero_add] at h1
  rw [mid (idxB L) (A ++ (L.getD i z80).f0.data.toList) (be ((total (L.take i) : Nat) : Int) 4) B (by rw [idxB_list, h1]; simp only [List.append_assoc]) _ _ (by rw [List.length_append, h2, ba_size, hs]) (by rw [List.length_append, h2, ba_size, hs, be_length, Nat.add_mul]; omega)]
  have h3 := total_take_le L i
  have h4 := H.wt
  exact num_be 4 _ (by omega) (by omega)
theorem entry_good (h1 : 1 ≤ wn) (h2 : wn ≤ 16) (H : GoodG wn L) {i : Nat} (hi : i < L.length) : record_ReadEntry.f (wn : Int) (idxB L) (i : Int) = some ((L.getD i z80).f0, ((total (L.take i) : Nat) : Int), 0) := by
  have hs := idxB_size H
  have hn : (idxB L).size / (wn + 4) = L.length := by rw [hs, Nat.mul_div_cancel _ (by omega)]
  have hb := idxB_small h2 H
  unfold record_ReadEntry.f
  rw [if_neg (by omega), if_neg (by omega), Int.toNat_natCast, if_neg (fun h => h (by rw [hs]; exact Nat.mul_mod_left _ _)), hn, if_neg (by omega), Int.toNat_natCast, off_good H hi]
  have := hash_good H hi
  unfold hashAt at this
  rw [this]
theorem entry_past (h1 : 1 ≤ wn) (h2 : wn ≤ 16) (H : GoodG wn L) : record_ReadEntry.f (wn : Int) (idxB L) (L.length : Int) = some (⟨#[]⟩, 0, 1) := by
  have hs := idxB_size H
  have hn : (idxB L).size / (wn + 4) = L.length := by rw [hs, Nat.mul_div_cancel _ (by omega)]
  have hb := idxB_small h2 H
  unfold record_ReadEntry.f
  rw [if_neg (by omega), if_neg (by omega), Int.toNat_natCast, if_neg (fun h => h (by rw [hs]; exact Nat.mul_mod_left _ _)), hn, if_pos (by omega)]
theorem total_step {i : Nat} (hi : i < L.length) : total (L.take (i + 1)) = total (L.take i) + wG (L.getD i z80) := by
  unfold total
  rw [List.take_add_one, List.map_append, List.sum_append, List.getD_eq_getElem?_getD, List.getElem?_eq_getElem hi]
  simp
theorem part_good (H : GoodG wn L) {i : Nat} (hi : i < L.length) : (dataB L).extract (total (L.take i)) (total (L.take (i + 1))) = ⟨(recBytes (L.getD i z80).f1).toArray⟩ := by
  obtain ⟨A, B, h1, h2⟩ := data_at L i hi
  refine ba_ext ?_
  rw [mid (dataB L) A (recBytes (L.getD i z80).f1) B (by rw [dataB_list, h1]) _ _ h2.symm (by rw [total_step hi, h2, recBytes_length]; rfl)]
end

end Go.Proofs.Ytkfhedppnlocpaa.Q
