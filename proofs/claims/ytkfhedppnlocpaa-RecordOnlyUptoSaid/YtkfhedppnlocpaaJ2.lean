/- Plain laws: a chunk's entries and records, one by one. No condition. Plain laws: what Decode takes is what Encode makes; no chunk is the beginning of another in one of its files. No condition. -/
import Derived.Test.YtkfhedppnlocpaaK4
import Derived.Test.YtkfhedppnlocpaaQx12
set_option linter.unusedVariables false
set_option linter.unusedSimpArgs false
namespace Go.Proofs.Ytkfhedppnlocpaa.Q
open Go.RowKit Go.Proofs.YtkfhedppnlocpaaW.PrintWords Go.Proofs.YtkfhedppnlocpaaW.PrintLast Go.Proofs.YtkfhedppnlocpaaW.PrintMore

/-! ### A chunk's entries and records, one by one -/
section
variable {wn : Nat} {L : List S80}
theorem total_take_le (L : List S80) (i : Nat) : total (L.take i) ≤ total L := by have := total_split L i; omega
theorem off_good (H : GoodG wn L) {i : Nat} (hi : i < L.length) : beNum ((idxB L).extract (i * (wn + 4) + wn) ((i + 1) * (wn + 4))).data.toList = ((total (L.take i) : Nat) : Int) := by
  obtain ⟨A, B, h1, h2⟩ := idx_at L 0 i H.hs hi
  have hs := H.hs _ (getD_mem hi)
  rw [Nat.zero_add] at h1
  rw [mid (idxB L) (A ++ (L.getD i z80).f0.data.toList) (be ((total (L.take i) : Nat) : Int) 4) B (by rw [idxB_list, h1]; simp only [List.append_assoc]) _ _ (by rw [List.length_append, h2, ba_size, hs]) (by rw [List.length_append, h2, ba_size, hs, be_length, Nat.add_mul]; omega)]
  have h3 := total_take_le L i
  have h4 := H.wt
  exact num_be 4 _ (by omega) (by omega)
theorem entry_good (h1 : 1 ≤ wn) (h2 : wn ≤ 16) (H : GoodG wn L) {i : Nat} (hi : i < L.length) : record_ReadEntry.f (wn : Int) (idxB L) (i : Int) = some ((L.getD i z80).f0, ((total (L.take i) : Nat) : Int), 0) := by
  have hs := idxB_size H
  have hn : (idxB L).size / (wn + 4) = L.length := by rw [hs, Nat.mul_div_cancel _ (by omega)]
  have hb := idxB_small h2 H
  unfold record_ReadEntry.f
  rw [if_neg (by omega), if_neg (by omega), Int.toNat_natCast, if_neg (fun h => h (by rw [hs]; exact Nat.mul_mod_left _ _)), hn, if_neg (by omega), Int.toNat_natCast, off_good H hi]
  have := hash_good H hi
  unfold hashAt at this
  rw [this]
theorem entry_past (h1 : 1 ≤ wn) (h2 : wn ≤ 16) (H : GoodG wn L) : record_ReadEntry.f (wn : Int) (idxB L) (L.length : Int) = some (⟨#[]⟩, 0, 1) := by
  have hs := idxB_size H
  have hn : (idxB L).size / (wn + 4) = L.length := by rw [hs, Nat.mul_div_cancel _ (by omega)]
  have hb := idxB_small h2 H
  unfold record_ReadEntry.f
  rw [if_neg (by omega), if_neg (by omega), Int.toNat_natCast, if_neg (fun h => h (by rw [hs]; exact Nat.mul_mod_left _ _)), hn, if_pos (by omega)]
theorem total_step {i : Nat} (hi : i < L.length) : total (L.take (i + 1)) = total (L.take i) + wG (L.getD i z80) := by
  unfold total
  rw [List.take_add_one, List.map_append, List.sum_append, List.getD_eq_getElem?_getD, List.getElem?_eq_getElem hi]
  simp
theorem part_good (H : GoodG wn L) {i : Nat} (hi : i < L.length) : (dataB L).extract (total (L.take i)) (total (L.take (i + 1))) = ⟨(recBytes (L.getD i z80).f1).toArray⟩ := by
  obtain ⟨A, B, h1, h2⟩ := data_at L i hi
  refine ba_ext ?_
  rw [mid (dataB L) A (recBytes (L.getD i z80).f1) B (by rw [dataB_list, h1]) _ _ h2.symm (by rw [total_step hi, h2, recBytes_length]; rfl)]
end

end Go.Proofs.Ytkfhedppnlocpaa.Q
set_option linter.unusedVariables false
set_option linter.unusedSimpArgs false
namespace Go.Proofs.Ytkfhedppnlocpaa.Q
open Go.RowKit Go.Proofs.YtkfhedppnlocpaaW.PrintWords Go.Proofs.YtkfhedppnlocpaaW.PrintLast Go.Proofs.YtkfhedppnlocpaaW.PrintMore

/-! ### What Decode takes, is what Encode makes of groups that may be -/
theorem recF_ok (l : List S94) (h : (recF l).2 = 0) : (recF l).1 = ⟨(recBytes l).toArray⟩ ∧ wrongF l = 0 := by
  unfold recF at h ⊢
  by_cases c : wrongF l ≠ 0
  · rw [if_pos c] at h; exact absurd h c
  · rw [if_neg c] at h ⊢
    by_cases c2 : 65536 < 2 + sz l
    · rw [if_pos c2] at h; exact absurd h (by decide)
    · rw [if_neg c2]
      exact ⟨rfl, Decidable.not_not.1 c⟩
theorem encL_ok (wd : Int) (l : List S80) : ∀ (k i : Nat) (X D X' D' : List UInt8), i + k = l.length → encL wd l k i X D = (X', D', 0) → D' = D ++ dataOf (l.drop i) ∧ D'.length ≤ 65536 := by
  intro k
  induction k with
  | zero =>
    intro i X D X' D' hi h
    rw [encL] at h
    by_cases c : 65536 < D.length
    · rw [if_pos c] at h; simp at h
    · rw [if_neg c] at h
      simp only [Prod.mk.injEq] at h
      rw [List.drop_eq_nil_of_le (by omega), ← h.2.1]
      exact ⟨by simp [dataOf], by omega⟩
  | succ k ih =>
    intro i X D X' D' hi h
    rw [encL] at h
    split at h
    · simp at h
    split at h
    · simp at h
    split at h
    · rename_i c
      exact absurd (congrArg (fun p => p.2.2) h) c
    · rename_i c
      have h1 := recF_ok _ (Decidable.not_not.1 c)
      rw [h1.1] at h
      obtain ⟨h2, h3⟩ := ih (i + 1) _ _ _ _ (by omega) h
      refine ⟨?_, h3⟩
      rw [h2, drop_cons80 l i (by omega)]
      simp [dataOf]
theorem up_of (α : Type) (K : α → List UInt8) (z : α) (l : List α) (h : ∀ i, 0 < i → i < l.length → Op.bytesLess (K (l.getD (i - 1) z)) (K (l.getD i z)) = true) : Up K l := by
  unfold Up
  rw [List.pairwise_iff_getElem]
  intro i j hi hj hij
  have := asc_all (fun i => K (l.getD i z)) l.length h j i hij hj
  rw [List.getD_eq_getElem?_getD, List.getElem?_eq_getElem hi, List.getD_eq_getElem?_getD, List.getElem?_eq_getElem hj] at this
  exact this
theorem good_of_ref (wn : Nat) (x d : ByteArray) (hd : d.size ≤ 140737488351232) (L : List S80) (h : refF (wn : Int) x d = (L, 0)) : GoodG wn L ∧ x = idxB L ∧ d = dataB L := by
  obtain ⟨g1, g2, g3⟩ := refF_good (wn : Int) x d hd L h
  unfold refF at h
  by_cases c1 : (wn : Int) < 1 ∨ 16 < (wn : Int)
  · rw [if_pos c1] at h; exact absurd (congrArg Prod.snd h) (by simp)
  rw [if_neg c1] at h
  split at h
  · exact absurd (congrArg Prod.snd h) (by simp)
  split at h
  · exact absurd (congrArg Prod.snd h) (by simp)
  rename_i c2 c3
  revert h
  cases rd2 d (x.size / ((wn : Int).toNat + 4)) 0 with
  | none => intro h; exact absurd (congrArg Prod.snd h) (by simp [refTail])
  | some r =>
    intro h
    unfold refTail at h
    dsimp only at h
    split at h
    · exact absurd (congrArg Prod.snd h) (by simp)
    rename_i c
    obtain ⟨e1, e2⟩ : ((encF (wn : Int) L).2.2 = 0 ∧ (⟨(encF (wn : Int) L).1.toArray⟩ : ByteArray) = x ∧ (⟨(encF (wn : Int) L).2.1.toArray⟩ : ByteArray) = d) ∧ True := by
      have hL : groupsOf (wn : Int).toNat x r.1 = L := congrArg Prod.fst h
      rw [hL] at c
      exact ⟨⟨Classical.byContradiction fun q => c (.inl q), Classical.byContradiction fun q => c (.inr (.inl q)), Classical.byContradiction fun q => c (.inr (.inr q))⟩, trivial⟩
    obtain ⟨e3, e4, e5⟩ := e1
    have hE : encL (wn : Int) L L.length 0 [] [] = ((encF (wn : Int) L).1, (encF (wn : Int) L).2.1, 0) := by
      rw [← e3]
      unfold encF
      rw [if_neg c1]
    obtain ⟨h1, h2⟩ := encL_ok (wn : Int) L L.length 0 [] [] _ _ (by omega) hE
    rw [List.nil_append, List.drop_zero] at h1
    have HG : GoodG wn L := by
      refine ⟨up_of _ k80' z80 L g1, fun g hg => by have := g3 g hg; omega, fun g hg => ?_, fun g hg => (wrongF_zero _ (g2 g hg)).1, fun g hg => (wrongF_zero _ (g2 g hg)).2.1, fun g hg p hp => ?_, ?_⟩
      · exact up_of _ k94' z94 g.f1 (pairs_asc g.f1 (g2 g hg))
      · obtain ⟨j, hj, rfl⟩ := List.mem_iff_getElem.1 hp
        have := (wrongF_zero _ (g2 g hg)).2.2.1 j hj
        unfold pairErr at this
        rw [List.getD_eq_getElem?_getD, List.getElem?_eq_getElem hj] at this
        dsimp only [Option.getD_some] at this
        split at this
        · cases this
        split at this
        · cases this
        omega
      · rw [← dataOf_length, ← h1]; exact h2
    refine ⟨HG, ?_, ?_⟩
    · have := enc_good (by omega) (by omega) HG
      rw [this] at e4
      exact e4.symm
    · rw [h1] at e5
      exact e5.symm

/-! ### No chunk is the beginning of another, in one of its files -/
theorem off_at {wn : Nat} {L : List S80} (H : GoodG wn L) {i : Nat} (hi : i < L.length) (C : List UInt8) : beNum (((idxFrom L 0 ++ C).drop (i * (wn + 4) + wn)).take 4) = ((total (L.take i) : Nat) : Int) := by
  obtain ⟨A, B, h1, h2⟩ := idx_at L 0 i H.hs hi
  have hs := H.hs _ (getD_mem hi)
  rw [Nat.zero_add] at h1
  have h3 := total_take_le L i
  have h4 := H.wt
  rw [h1, show A ++ ((L.getD i z80).f0.data.toList ++ (be ((total (L.take i) : Nat) : Int) 4 ++ B)) ++ C = (A ++ (L.getD i z80).f0.data.toList) ++ (be ((total (L.take i) : Nat) : Int) 4 ++ (B ++ C)) by simp only [List.append_assoc], List.drop_left' (by rw [List.length_append, h2, ba_size, hs]), List.take_left' (by rw [be_length])]
  exact num_be 4 _ (by omega) (by omega)
theorem no_cut {wn : Nat} {L M : List S80} (H : GoodG wn L) (K : GoodG wn M) (C B : List UInt8) (h1 : idxFrom L 0 = idxFrom M 0 ++ C) (h2 : dataOf L = dataOf M ++ B) (h : C = [] ∨ B = []) : C = [] ∧ B = [] := by
  have l1 : L.length * (wn + 4) = M.length * (wn + 4) + C.length := by
    rw [← idxFrom_length L 0 H.hs, ← idxFrom_length M 0 K.hs, h1, List.length_append]
  have l2 : total L = total M + B.length := by rw [← dataOf_length, ← dataOf_length, h2, List.length_append]
  have hle : M.length ≤ L.length := Nat.le_of_mul_le_mul_right (show M.length * (wn + 4) ≤ L.length * (wn + 4) by omega) (by omega)
  have hne : ∀ k, M.length = k + 1 → total (L.take M.length) = total M := by
    intro k hk
    have hkM : k < M.length := by omega
    have hkL : k < L.length := by omega
    have o1 := off_at H hkL []
    have o2 := off_at K hkM C
    rw [← h1] at o2
    rw [List.append_nil, o2] at o1
    obtain ⟨A1, B1, d1, d2⟩ := data_at L k hkL
    obtain ⟨A2, B2, d3, d4⟩ := data_at M k hkM
    have hA : A1.length = A2.length := by omega
    have r1 := rrF_read (dataB L) (L.getD k z80).f1 A1 B1 (by rw [dataB_list]; exact d1) (H.wrong (getD_mem hkL)) (by have := total_le (getD_mem hkL); have := H.wt; unfold wG at *; omega)
    have r2 := rrF_read (dataB L) (M.getD k z80).f1 A2 (B2 ++ B) (by rw [dataB_list, h2, d3]; simp only [List.append_assoc]) (K.wrong (getD_mem hkM)) (by have := total_le (getD_mem hkM); have := K.wt; unfold wG at *; omega)
    rw [hA, r2] at r1
    have r3 := congrArg (fun p => p.2.1) r1
    dsimp only at r3
    have s1 := total_step hkL
    have s2 := total_step hkM
    unfold wG at s1 s2
    have hM : M.take (k + 1) = M := List.take_of_length_le (by omega)
    rw [hM] at s2
    rw [hk, s1, s2]
    omega
  have hsp := total_split L M.length
  have hdl := total_len (L.drop M.length)
  rw [List.length_drop] at hdl
  have hM0 : total (L.take M.length) = total M := by
    cases hM : M.length with
    | zero =>
      have : M = [] := List.length_eq_zero_iff.1 hM
      subst this
      rfl
    | succ k => rw [← hM]; exact hne k hM
  have e1 : L.length = M.length ↔ C = [] := by
    constructor
    · intro e
      rw [e] at l1
      exact List.length_eq_zero_iff.1 (by omega)
    · rintro rfl
      exact Nat.le_antisymm (Nat.le_of_mul_le_mul_right (show L.length * (wn + 4) ≤ M.length * (wn + 4) by simpa using Nat.le_of_eq l1) (by omega)) hle
  rcases h with rfl | rfl
  · refine ⟨rfl, List.length_eq_zero_iff.1 ?_⟩
    have := e1.2 rfl
    rw [← this, List.take_length] at hM0
    omega
  · refine ⟨e1.1 ?_, rfl⟩
    simp only [List.length_nil] at l2
    omega

/-! ### What is shorter -/
def shortF (a b : ByteArray) : Bool := decide (a.size < b.size) && decide (b.data.toList.take a.size = a.data.toList)
theorem shortF_app {a b : ByteArray} (h : shortF a b = true) : ∃ C, C ≠ [] ∧ b.data.toList = a.data.toList ++ C := by
  unfold shortF at h
  simp only [Bool.and_eq_true, decide_eq_true_eq] at h
  refine ⟨b.data.toList.drop a.size, fun e => ?_, ?_⟩
  · have := congrArg List.length e
    simp only [List.length_drop, ba_size, List.length_nil] at this
    omega
  · rw [← h.2, List.take_append_drop]
/-- The last line of RecordOnly. -/
theorem only_end {wn : Nat} {L M : List S80} (H : GoodG wn L) (K : GoodG wn M) : (idxB M = idxB L → shortF (dataB M) (dataB L) = false ∧ shortF (dataB L) (dataB M) = false) ∧ (dataB M = dataB L → shortF (idxB M) (idxB L) = false ∧ shortF (idxB L) (idxB M) = false) := by
  have f : ∀ b, (b = true → False) → b = false := by intro b; cases b <;> simp
  refine ⟨fun e => ⟨f _ fun h => ?_, f _ fun h => ?_⟩, fun e => ⟨f _ fun h => ?_, f _ fun h => ?_⟩⟩
  · obtain ⟨B, hB, h1⟩ := shortF_app h
    rw [dataB_list, dataB_list] at h1
    have e' : idxFrom L 0 = idxFrom M 0 ++ [] := by rw [List.append_nil, ← idxB_list, ← idxB_list, e]
    exact hB (no_cut H K [] B e' h1 (.inl rfl)).2
  · obtain ⟨B, hB, h1⟩ := shortF_app h
    rw [dataB_list, dataB_list] at h1
    have e' : idxFrom M 0 = idxFrom L 0 ++ [] := by rw [List.append_nil, ← idxB_list, ← idxB_list, e]
    exact hB (no_cut K H [] B e' h1 (.inl rfl)).2
  · obtain ⟨B, hB, h1⟩ := shortF_app h
    rw [idxB_list, idxB_list] at h1
    have e' : dataOf L = dataOf M ++ [] := by rw [List.append_nil, ← dataB_list, ← dataB_list, e]
    exact hB (no_cut H K B [] h1 e' (.inr rfl)).1
  · obtain ⟨B, hB, h1⟩ := shortF_app h
    rw [idxB_list, idxB_list] at h1
    have e' : dataOf M = dataOf L ++ [] := by rw [List.append_nil, ← dataB_list, ← dataB_list, e]
    exact hB (no_cut K H B [] h1 e' (.inr rfl)).1

/-! ### Lists told apart -/
theorem ba_of_list {s t : ByteArray} (h : s.toList = t.toList) : s = t := ba_ext (by rw [ByteArray.toList_eq, ByteArray.toList_eq] at h; exact h)
theorem samePairs_dec (l m : List S94) (hlm : l.length = m.length) (hl : l.length ≤ 1000000) : ∀ (d i k : Nat), i + d = l.length → d < k → ∃ b, granarylaw3_samePairs.l0 k l m (i : Int) = some b ∧ (b = true → l.drop i = m.drop i) := by
  intro d
  induction d with
  | zero =>
    intro i k hi hk
    obtain ⟨k, rfl⟩ : ∃ m, k = m + 1 := ⟨k - 1, by omega⟩
    rw [granarylaw3_samePairs.l0, if_neg (by omega), List.drop_eq_nil_of_le (by omega), List.drop_eq_nil_of_le (by omega)]
    exact ⟨true, rfl, fun _ => rfl⟩
  | succ d ih =>
    intro i k hi hk
    obtain ⟨k, rfl⟩ : ∃ m, k = m + 1 := ⟨k - 1, by omega⟩
    have hr1 : rd_T94 l (i : Int) = l.getD i z94 := rfl
    have hr2 : rd_T94 m (i : Int) = m.getD i z94 := rfl
    rw [granarylaw3_samePairs.l0, if_pos (by omega), if_pos (by omega), if_pos (by omega), hr1, hr2, drop_cons l i (by omega), drop_cons m i (by omega)]
    by_cases c1 : (l.getD i z94).f0.toList = (m.getD i z94).f0.toList
    · rw [if_pos c1]
      by_cases c2 : (l.getD i z94).f1.toList = (m.getD i z94).f1.toList
      · rw [if_pos c2, w64 ((i : Int) + 1) (by omega) (by omega)]
        obtain ⟨b, h1, h2⟩ := ih (i + 1) k (by omega) (by omega)
        refine ⟨b, h1, fun e => ?_⟩
        rw [h2 e]
        congr 1
        have e1 := ba_of_list c1
        have e2 := ba_of_list c2
        revert e1 e2
        generalize l.getD i z94 = p
        generalize m.getD i z94 = q
        intro e1 e2
        cases p; cases q
        simp_all
      · rw [if_neg c2]
        exact ⟨false, rfl, fun h => by cases h⟩
    · rw [if_neg c1]
      exact ⟨false, rfl, fun h => by cases h⟩
theorem samePairs_tells (l m : List S94) (hl : l.length ≤ 1000000) (k : Nat) (hk : l.length < k) : ∃ b, granarylaw3_samePairs.f k l m = some b ∧ (b = true → l = m) := by
  unfold granarylaw3_samePairs.f
  by_cases c : (l.length : Int) = (m.length : Int)
  · rw [if_pos c]
    obtain ⟨b, h1, h2⟩ := samePairs_dec l m (by omega) hl l.length 0 k (by omega) hk
    exact ⟨b, h1, fun e => by simpa using h2 e⟩
  · rw [if_neg c]
    exact ⟨false, rfl, fun h => by cases h⟩
theorem sameGroups_dec (L M : List S80) (hlm : L.length = M.length) (hl : L.length ≤ 4194304) (hp : ∀ g ∈ L, g.f1.length ≤ 1000000) : ∀ (d i k : Nat), i + d = L.length → d + 1000000 < k → ∃ b, granarylaw3_sameGroups.l0 k L M (i : Int) = some b ∧ (b = true → L.drop i = M.drop i) := by
  intro d
  induction d with
  | zero =>
    intro i k hi hk
    obtain ⟨k, rfl⟩ : ∃ m, k = m + 1 := ⟨k - 1, by omega⟩
    rw [granarylaw3_sameGroups.l0, if_neg (by omega), List.drop_eq_nil_of_le (by omega), List.drop_eq_nil_of_le (by omega)]
    exact ⟨true, rfl, fun _ => rfl⟩
  | succ d ih =>
    intro i k hi hk
    obtain ⟨k, rfl⟩ : ∃ m, k = m + 1 := ⟨k - 1, by omega⟩
    have hg := hp _ (getD_mem (show i < L.length by omega))
    rw [granarylaw3_sameGroups.l0, if_pos (by omega), if_pos (by omega), if_pos (by omega), rd80_nat, rd80_nat, drop_cons80 L i (by omega), drop_cons80 M i (by omega)]
    by_cases c1 : (L.getD i z80).f0.toList = (M.getD i z80).f0.toList
    · rw [if_pos c1]
      obtain ⟨b, h1, h2⟩ := samePairs_tells (L.getD i z80).f1 (M.getD i z80).f1 hg k (by omega)
      rw [h1, Option.bind_some]
      cases b with
      | false => rw [if_neg (by decide)]; exact ⟨false, rfl, fun h => by cases h⟩
      | true =>
        rw [if_pos rfl, w64 ((i : Int) + 1) (by omega) (by omega)]
        obtain ⟨b, h3, h4⟩ := ih (i + 1) k (by omega) (by omega)
        refine ⟨b, h3, fun e => ?_⟩
        rw [h4 e]
        congr 1
        have e1 := ba_of_list c1
        have e2 := h2 rfl
        revert e1 e2
        generalize L.getD i z80 = p
        generalize M.getD i z80 = q
        intro e1 e2
        cases p; cases q
        simp_all
    · rw [if_neg c1]
      exact ⟨false, rfl, fun h => by cases h⟩
theorem sameGroups_ne (L M : List S80) (h : L ≠ M) (hl : L.length ≤ 4194304) (hp : ∀ g ∈ L, g.f1.length ≤ 1000000) : granarylaw3_sameGroups.f 6000000 L M = some false := by
  unfold granarylaw3_sameGroups.f
  by_cases c : (L.length : Int) = (M.length : Int)
  · rw [if_pos c]
    obtain ⟨b, h1, h2⟩ := sameGroups_dec L M (by omega) hl hp L.length 0 6000000 (by omega) (by omega)
    rw [show granarylaw3_sameGroups.l0 6000000 L M 0 = some b from h1]
    cases b with
    | false => rfl
    | true => exact absurd (by simpa using h2 rfl) h
  · rw [if_neg c]
theorem differ_any {wn wm : Nat} {L M : List S80} (H : GoodG wn L) (K : GoodG wm M) (hne : L ≠ M) (A0 : Option Addr) (c0 : Nat) (A1 : Option Addr) (c1 : Nat) (w : World) (h0 : Kd.C k80 w A0 L.length L) (l0 : L.length ≤ c0) (h1 : Kd.C k80 w A1 M.length M) (l1 : M.length ≤ c1) :
    Calls Try.prog 32 #[.slice A0 L.length c0, .slice A1 M.length c1] w fun e w' => e = .returned (.bool false) ∧ Drawn0 w w' :=
  granarylaw3_sameGroups.calls 6000000 A0 c0 L A1 c1 M false w h0 l0 h1 l1 (sameGroups_ne L M hne (by have := H.len; omega) (fun g hg => by have := H.le g hg; omega))
theorem shorter_any (a b : ByteArray) (w : World) : Calls Try.prog 44 #[.string a, .string b] w fun e w' => e = .returned (.bool (shortF a b)) ∧ Drawn0 w w' := by
  refine granarylaw3_shorter.calls a b (shortF a b) w ?_
  unfold granarylaw3_shorter.f shortF
  by_cases c : (a.size : Int) < (b.size : Int)
  · rw [if_pos c, if_pos (by omega), if_pos (by omega), Int.toNat_natCast, decide_eq_true (show a.size < b.size by omega), Bool.true_and]
    congr 1
    rw [ByteArray.toList_eq, ByteArray.toList_eq]
    have : (b.extract 0 a.size).data.toList = b.data.toList.take a.size := by simp
    rw [this]
    by_cases c2 : b.data.toList.take a.size = a.data.toList
    · rw [c2]; simp
    · rw [decide_eq_false c2]; simpa using c2
  · rw [if_neg c, decide_eq_false (show ¬ a.size < b.size by omega), Bool.false_and]
theorem refF_err (wd : Int) (x d : ByteArray) (h : (refF wd x d).2 ≠ 0) : (refF wd x d).1 = [] := by
  unfold refF at h ⊢
  split
  · rfl
  split
  · rfl
  split
  · rfl
  rename_i c1 c2 c3
  rw [if_neg c1, if_neg c2, if_neg c3] at h
  cases hr : rd2 d (x.size / (wd.toNat + 4)) 0 with
  | none => rfl
  | some r =>
    rw [hr] at h
    unfold refTail at h ⊢
    dsimp only at h ⊢
    split
    · rfl
    · rename_i c; rw [if_neg c] at h; exact absurd rfl h

end Go.Proofs.Ytkfhedppnlocpaa.Q
