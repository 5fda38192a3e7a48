/- Plain laws: Decode gives back what was encoded, Lookup finds it, copied tells it. No condition. -/
import Derived.Test.YtkfhedppnlocpaaK2
import Derived.Test.YtkfhedppnlocpaaQx12
set_option linter.unusedVariables false
set_option linter.unusedSimpArgs false
namespace Go.Proofs.Ytkfhedppnlocpaa.Q
open Go.RowKit Go.Proofs.YtkfhedppnlocpaaW.PrintWords Go.Proofs.YtkfhedppnlocpaaW.PrintLast

/-! ### Plain laws: Decode gives back what was encoded, Lookup finds it -/
def idxB (L : List S80) : ByteArray := ⟨(idxFrom L 0).toArray⟩
def dataB (L : List S80) : ByteArray := ⟨(dataOf L).toArray⟩
theorem idxB_list (L : List S80) : (idxB L).data.toList = idxFrom L 0 := by unfold idxB; rw [List.toList_toArray]
theorem dataB_list (L : List S80) : (dataB L).data.toList = dataOf L := by unfold dataB; rw [List.toList_toArray]
theorem dataB_size (L : List S80) : (dataB L).size = total L := by rw [← ba_size, dataB_list, dataOf_length]
section
variable {wn : Nat} {L : List S80}
theorem idxB_size (H : GoodG wn L) : (idxB L).size = L.length * (wn + 4) := by rw [← ba_size, idxB_list, idxFrom_length L 0 H.hs]
theorem hash_good (H : GoodG wn L) {i : Nat} (hi : i < L.length) : hashAt wn (idxB L) i = (L.getD i z80).f0 := by
  obtain ⟨A, B, h1, h2⟩ := idx_at L 0 i H.hs hi
  have hs := H.hs _ (getD_mem hi)
  unfold hashAt
  exact ba_ext (mid (idxB L) A (L.getD i z80).f0.data.toList _ (by rw [idxB_list, h1]) _ _ h2.symm (by rw [h2, ba_size, hs]))
theorem up_good (H : GoodG wn L) : ∀ n, n ≤ L.length → upAll wn (idxB L) n = true := by
  intro n
  induction n with
  | zero => intro _; rfl
  | succ n ih =>
    intro hn
    rw [upAll, ih (by omega), Bool.true_and]
    unfold upAt
    by_cases c : n = 0
    · subst c; rfl
    · rw [hash_good H (show n < L.length by omega), hash_good H (show n - 1 < L.length by omega)]
      have := up_asc k80' z80 L H.up n (by omega) (by omega)
      unfold k80' at this
      rw [this]
      simp
theorem rrF_good2 (H : GoodG wn L) {i : Nat} (hi : i < L.length) : rrF (dataB L) ((total (L.take i) : Nat) : Int) = ((L.getD i z80).f1, ((total (L.take (i + 1)) : Nat) : Int), 0) := by
  obtain ⟨A, B, h1, h2⟩ := data_at L i hi
  have hm := getD_mem hi
  have h3 := rrF_read (dataB L) (L.getD i z80).f1 A B (by rw [dataB_list, h1]) (H.wrong hm) (by have := total_le hm; have := H.wt; unfold wG at *; omega)
  rw [h2] at h3
  rw [h3]
  have h4 : total (L.take (i + 1)) = total (L.take i) + wG (L.getD i z80) := by
    unfold total
    rw [List.take_add_one, List.map_append, List.sum_append, List.getD_eq_getElem?_getD, List.getElem?_eq_getElem hi]
    simp
  rw [h4]
  rfl
theorem rd2_good2 (H : GoodG wn L) : ∀ (k i : Nat), i + k = L.length → rd2 (dataB L) k ((total (L.take i) : Nat) : Int) = some ((L.drop i).map (·.f1), ((total L : Nat) : Int)) := by
  intro k
  induction k with
  | zero =>
    intro i hi
    rw [List.drop_eq_nil_of_le (by omega), List.take_of_length_le (by omega)]
    rfl
  | succ k ih =>
    intro i hi
    rw [rd2, rrF_good2 H (by omega), if_neg (fun h => h rfl), ih (i + 1) (by omega), drop_cons80 L i (by omega)]
    rfl
theorem groupsOf_good (H : GoodG wn L) : groupsOf wn (idxB L) (L.map (·.f1)) = L := by
  apply List.ext_getElem?
  intro j
  unfold groupsOf
  rw [List.getElem?_map, List.getElem?_zipIdx, List.getElem?_map]
  rcases Nat.lt_or_ge j L.length with h | h
  · have h1 := hash_good H h
    rw [List.getD_eq_getElem?_getD, List.getElem?_eq_getElem h] at h1
    rw [List.getElem?_eq_getElem h]
    simp only [Option.map_some, Nat.zero_add, h1]
    rfl
  · rw [List.getElem?_eq_none h]
    rfl
theorem dec_good (h1 : 1 ≤ wn) (h2 : wn ≤ 16) (H : GoodG wn L) : refF (wn : Int) (idxB L) (dataB L) = (L, 0) := by
  have hs := idxB_size H
  have hn : (idxB L).size / (wn + 4) = L.length := by rw [hs, Nat.mul_div_cancel _ (by omega)]
  unfold refF
  rw [if_neg (by omega), Int.toNat_natCast, hn, if_neg (fun h => h.elim (fun h => h (by rw [hs]; exact Nat.mul_mod_left _ _)) (fun h => by rw [up_good H _ (Nat.le_refl _)] at h; cases h)), if_neg (by rw [dataB_size]; have := H.wt; omega)]
  have hr := rd2_good2 H L.length 0 (by omega)
  rw [List.drop_zero] at hr
  have e0 : ((total (L.take 0) : Nat) : Int) = 0 := rfl
  rw [e0] at hr
  rw [hr]
  unfold refTail
  dsimp only
  rw [Int.toNat_natCast, groupsOf_good H, enc_good h1 h2 H]
  dsimp only
  rw [if_neg (fun h => h.elim (fun h => h rfl) (fun h => h.elim (fun h => h rfl) (fun h => h rfl)))]
end
theorem copied_l (L : List S80) (hL : L.length ≤ 4194304) (hp : ∀ g ∈ L, g.f1.length ≤ 4194304) : ∀ (d i K : Nat) (acc : List S80), i + d = L.length → d + 1 ≤ K → acc.length = i → granarylaw3_copied.l0 K L acc (i : Int) = some (acc ++ L.drop i) := by
  intro d
  induction d with
  | zero =>
    intro i K acc hi hK ha
    obtain ⟨K, rfl⟩ : ∃ m, K = m + 1 := ⟨K - 1, by omega⟩
    rw [granarylaw3_copied.l0, if_neg (by omega), List.drop_eq_nil_of_le (by omega), List.append_nil]
  | succ d ih =>
    intro i K acc hi hK ha
    obtain ⟨K, rfl⟩ : ∃ m, K = m + 1 := ⟨K - 1, by omega⟩
    have hg : rd_T80 L (i : Int) = L.getD i z80 := rfl
    have hb := hp _ (getD_mem (show i < L.length by omega))
    rw [granarylaw3_copied.l0, if_pos (by omega), if_pos (by omega), hg, if_pos (show ([] : List S94).length + (L.getD i z80).f1.length < 4398046511104 from by rw [List.length_nil]; omega), if_pos (by omega), w64 ((i : Int) + 1) (by omega) (by omega), drop_cons80 L i (by omega)]
    have := ih (i + 1) K (acc ++ [L.getD i z80]) (by omega) (by omega) (by rw [List.length_append, ha]; rfl)
    rw [List.append_assoc] at this
    rw [List.nil_append]
    exact this
theorem copied_tells (L : List S80) (hL : L.length ≤ 4194304) (hp : ∀ g ∈ L, g.f1.length ≤ 4194304) : granarylaw3_copied.f 5000000 L = some L := by
  have := copied_l L hL hp L.length 0 5000000 [] (by omega) (by omega) rfl
  rw [List.drop_zero, List.nil_append] at this
  exact this

end Go.Proofs.Ytkfhedppnlocpaa.Q
