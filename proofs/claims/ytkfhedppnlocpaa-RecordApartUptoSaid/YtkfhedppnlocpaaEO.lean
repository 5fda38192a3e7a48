/- Plain law: the two Decodes answer alike. No condition. RecordDecodes: the law, up to its row. Condition: the texts are not too long. -/
import Derived.Test.YtkfhedppnlocpaaEM
import Derived.Test.YtkfhedppnlocpaaQx7
set_option linter.unusedVariables false
set_option linter.unusedSimpArgs false
namespace Go.Proofs.Ytkfhedppnlocpaa.Q
open Go.RowKit Go.Proofs.YtkfhedppnlocpaaW.PrintWords Go.Proofs.YtkfhedppnlocpaaW.PrintLast

/-! ### Plain law: the two Decodes answer alike -/
theorem num_be (w : Nat) : ∀ (n : Int), 0 ≤ n → n < 256 ^ w → beNum (be n w) = n := by
  induction w with
  | zero => intro n h0 h1; simp at h1; simp [be, beNum]; omega
  | succ w ih =>
    intro n h0 h1
    rw [Int.pow_succ] at h1
    rw [be, beNum_snoc, ih (n / 256) (by omega) (Int.ediv_lt_of_lt_mul (by decide) h1)]
    rw [UInt8.toNat_ofNat']
    omega
theorem rrF_good (d : ByteArray) (hD : d.size ≤ 140737488351232) (at_ : Int) (l : List S94) (nx : Int) (h : rrF d at_ = (l, nx, 0)) :
    ∃ a e : Nat, at_ = (a : Int) ∧ nx = (e : Int) ∧ a ≤ e ∧ e ≤ d.size ∧ recF l = (d.extract a e, 0) := by
  unfold rrF at h
  by_cases c1 : at_ < 0 ∨ (d.size : Int) < at_
  · rw [if_pos c1] at h
    simp only [Prod.mk.injEq] at h
    exact absurd h.2.2 (by decide)
  rw [if_neg c1] at h
  by_cases c2 : d.size < at_.toNat + 2
  · rw [if_pos c2] at h
    simp only [Prod.mk.injEq] at h
    exact absurd h.2.2 (by decide)
  rw [if_neg c2] at h
  cases hs : sp d (numN d at_.toNat 2) (at_.toNat + 2) with
  | none =>
    rw [hs] at h
    simp [fin] at h
  | some r =>
    obtain ⟨l0, e⟩ := r
    rw [hs] at h
    by_cases w0 : wrongF l0 = 0
    · rw [fin_nil_good l0 e w0] at h
      by_cases c3 : 65536 < 2 + sz l0
      · rw [if_pos c3] at h
        simp only [Prod.mk.injEq] at h
        exact absurd h.2.2 (by decide)
      rw [if_neg c3] at h
      simp only [Prod.mk.injEq, and_true] at h
      obtain ⟨rfl, rfl⟩ := h
      obtain ⟨h1, h2, h3⟩ := sp_some d _ _ l0 e (by omega) hs
      have h4 := sp_bytes d _ _ l0 e (by omega) hs
      refine ⟨at_.toNat, e, by omega, rfl, by omega, h3, ?_⟩
      unfold recF
      rw [if_neg (fun h => h w0), if_neg c3]
      refine Prod.ext ?_ rfl
      show (⟨(recBytes l0).toArray⟩ : ByteArray) = d.extract at_.toNat e
      unfold recBytes
      rw [h1, be_numN d at_.toNat 2 (by omega) (by omega), h4, cut d _ _ _ (by omega) (by omega)]
    · rw [fin_nil_bad l0 e w0] at h
      simp only [Prod.mk.injEq] at h
      exact absurd h.2.2 (by decide)
theorem rd2_len (d : ByteArray) : ∀ (n : Nat) (at_ : Int) (ps : List (List S94)) (f : Int), rd2 d n at_ = some (ps, f) → ps.length = n := by
  intro n
  induction n with
  | zero => intro at_ ps f h; simp [rd2] at h; rw [h.1]; rfl
  | succ n ih =>
    intro at_ ps f h
    rw [rd2] at h
    split at h
    · cases h
    · obtain ⟨⟨ps', f'⟩, h1, h2⟩ := Option.map_eq_some_iff.1 h
      simp only [Prod.mk.injEq] at h2
      rw [← h2.1, List.length_cons, ih _ _ _ h1]
theorem groupsOf_getD (wn : Nat) (x : ByteArray) (ps : List (List S94)) (i : Nat) (h : i < ps.length) : (groupsOf wn x ps).getD i z80 = ⟨hashAt wn x i, ps.getD i []⟩ := by
  unfold groupsOf
  rw [List.getD_eq_getElem?_getD, List.getElem?_map, List.getElem?_zipIdx, List.getD_eq_getElem?_getD, List.getElem?_eq_getElem h]
  simp
theorem upAll_at {wn : Nat} {x : ByteArray} : ∀ {n : Nat}, upAll wn x n = true → ∀ i, i < n → upAt wn x i = true := by
  intro n
  induction n with
  | zero => intro _ i hi; omega
  | succ n ih =>
    intro h i hi
    rw [upAll, Bool.and_eq_true] at h
    rcases Nat.lt_or_ge i n with h1 | h1
    · exact ih h.1 i h1
    · obtain rfl : i = n := by omega
      exact h.2
theorem hash_size (wn : Nat) (x : ByteArray) (n i : Nat) (hx : x.size = n * (wn + 4)) (hi : i < n) : (hashAt wn x i).size = wn := by
  unfold hashAt
  have := Nat.mul_le_mul_right (wn + 4) (show i + 1 ≤ n by omega)
  rw [Nat.add_mul, Nat.one_mul] at this
  rw [ByteArray.size_extract]
  omega
theorem enc_dec (wn : Nat) (x d : ByteArray) (hD : d.size ≤ 65536) (n : Nat) (hx : x.size = n * (wn + 4)) (PS : List (List S94)) (hPS : PS.length = n) (hup : upAll wn x n = true) : ∀ (k i : Nat) (at_ : Int) (ps : List (List S94)) (f : Int) (X D : List UInt8), i + k = n → rd2 d k at_ = some (ps, f) → (∀ j, j < k → PS.getD (i + j) [] = ps.getD j []) → (∃ a : Nat, at_ = (a : Int) ∧ a ≤ d.size ∧ D = (d.extract 0 a).data.toList) →
    ∃ (X' : List UInt8) (e : Nat), f = (e : Int) ∧ e ≤ d.size ∧ encL (wn : Int) (groupsOf wn x PS) k i X D = (X ++ X', (d.extract 0 e).data.toList, 0) ∧ (X = (x.extract 0 (i * (wn + 4))).data.toList → (X ++ X' = x.data.toList ∧ dec2 wn x d k i at_ = some (ps, f)) ∨ (X ++ X' ≠ x.data.toList ∧ dec2 wn x d k i at_ = none)) := by
  intro k
  induction k with
  | zero =>
    intro i at_ ps f X D hi hr _ hD2
    obtain ⟨a, rfl, ha, rfl⟩ := hD2
    simp only [rd2, Option.some.injEq, Prod.mk.injEq] at hr
    obtain ⟨rfl, rfl⟩ := hr
    have hl : ((d.extract 0 a).data.toList).length = a := by rw [ba_size, ByteArray.size_extract]; omega
    refine ⟨[], a, rfl, ha, ?_, fun hX => .inl ⟨?_, rfl⟩⟩
    · rw [encL, hl, if_neg (by omega), List.append_nil]
    · rw [List.append_nil, hX, show i * (wn + 4) = x.size by rw [hx, show i = n by omega], ByteArray.extract_zero_size]
  | succ k ih =>
    intro i at_ ps f X D hi hr hps hD2
    obtain ⟨a, rfl, ha, rfl⟩ := hD2
    rw [rd2] at hr
    by_cases ce : (rrF d (a : Int)).2.2 ≠ 0
    · rw [if_pos ce] at hr; cases hr
    rw [if_neg ce] at hr
    replace ce := Decidable.not_not.1 ce
    obtain ⟨⟨ps', f'⟩, h1, h2⟩ := Option.map_eq_some_iff.1 hr
    simp only [Prod.mk.injEq] at h2
    obtain ⟨rfl, rfl⟩ := h2
    obtain ⟨⟨l, nx, er⟩, ht⟩ : ∃ t, rrF d (a : Int) = t := ⟨_, rfl⟩
    rw [ht] at h1 hps ce hr
    dsimp only at h1 hps ce hr
    subst ce
    obtain ⟨a', e, ea, rfl, hae, hed, hrec⟩ := rrF_good d (by omega) _ l nx ht
    obtain rfl : a = a' := by omega
    have hin : i < n := by omega
    have hg := groupsOf_getD wn x PS i (by omega)
    have hp0 := hps 0 (by omega)
    rw [Nat.add_zero] at hp0
    have hp0' : PS.getD i [] = l := hp0
    rw [hp0'] at hg
    have hord : ordN (groupsOf wn x PS) i = upAt wn x i := by
      unfold ordN upAt
      by_cases c : i = 0
      · subst c; rfl
      · rw [hg, groupsOf_getD wn x PS (i - 1) (by omega)]
    have hl : ((d.extract 0 a).data.toList).length = a := by rw [ba_size, ByteArray.size_extract]; omega
    have hstep : encL (wn : Int) (groupsOf wn x PS) (k + 1) i X (d.extract 0 a).data.toList = encL (wn : Int) (groupsOf wn x PS) k (i + 1) (X ++ ((hashAt wn x i).data.toList ++ be a 4)) (d.extract 0 e).data.toList := by
      rw [encL, hg]
      dsimp only
      rw [hash_size wn x n i hx hin, if_neg (fun h => h rfl), hord, upAll_at hup i hin, if_neg (by decide), hrec, if_neg (fun h => h rfl), hl]
      dsimp only
      rw [cut d 0 a e (by omega) hae]
    obtain ⟨X', e', he', hed', hE, hW⟩ := ih (i + 1) (e : Int) ps' f' (X ++ ((hashAt wn x i).data.toList ++ be a 4)) (d.extract 0 e).data.toList (by omega) h1 (fun j hj => by
      have := hps (j + 1) (by omega)
      rw [show i + 1 + j = i + (j + 1) by omega, this]
      rfl) ⟨e, rfl, hed, rfl⟩
    refine ⟨(hashAt wn x i).data.toList ++ be a 4 ++ X', e', he', hed', ?_, fun hX => ?_⟩
    · rw [hstep, hE]
      simp only [List.append_assoc]
    · have hmn : i * (wn + 4) + (wn + 4) ≤ x.size := by
        rw [hx]
        have := Nat.mul_le_mul_right (wn + 4) (show i + 1 ≤ n by omega)
        rw [Nat.add_mul, Nat.one_mul] at this
        exact this
      have hXl : X.length = i * (wn + 4) := by rw [hX, ba_size, ByteArray.size_extract]; omega
      have hoff : offAt wn x i = beNum (x.extract (i * (wn + 4) + wn) (i * (wn + 4) + (wn + 4))).data.toList := by
        unfold offAt
        rw [Nat.add_mul, Nat.one_mul]
      have hol : (x.extract (i * (wn + 4) + wn) (i * (wn + 4) + (wn + 4))).data.toList.length = 4 := by rw [ba_size, ByteArray.size_extract]; omega
      have hcat : X ++ ((hashAt wn x i).data.toList ++ (x.extract (i * (wn + 4) + wn) (i * (wn + 4) + (wn + 4))).data.toList) = (x.extract 0 ((i + 1) * (wn + 4))).data.toList := by
        rw [hX]
        unfold hashAt
        rw [cut x _ _ _ (by omega) (by omega), cut x _ _ _ (by omega) (by omega), Nat.add_mul, Nat.one_mul]
      by_cases co : offAt wn x i ≠ (a : Int)
      · refine .inr ⟨fun hall => co ?_, by rw [dec2, if_pos co]⟩
        have hx2 : x.data.toList = (x.extract 0 ((i + 1) * (wn + 4))).data.toList ++ (x.extract ((i + 1) * (wn + 4)) x.size).data.toList := by
          rw [cut x _ _ _ (by omega) (by rw [Nat.add_mul, Nat.one_mul]; omega), ByteArray.extract_zero_size]
        rw [hx2, ← hcat] at hall
        simp only [List.append_assoc] at hall
        have hall2 := List.append_cancel_left (List.append_cancel_left hall)
        have hall3 := (List.append_inj hall2 (by rw [be_length, hol])).1
        rw [hoff, ← hall3, num_be 4 _ (by omega) (by omega)]
      · have co' := co
        replace co' := Decidable.not_not.1 co'
        have hbe : be (a : Int) 4 = (x.extract (i * (wn + 4) + wn) (i * (wn + 4) + (wn + 4))).data.toList := by
          rw [← co', hoff]
          have := be_num (x.extract (i * (wn + 4) + wn) (i * (wn + 4) + (wn + 4))).data.toList
          rwa [hol] at this
        have hd2 : dec2 wn x d (k + 1) i (a : Int) = (dec2 wn x d k (i + 1) (e : Int)).map fun r => (l :: r.1, r.2) := by
          rw [dec2, if_neg co, ht]
          dsimp only
          rw [if_neg (fun h => h rfl)]
        rw [hd2]
        rcases hW (by rw [hbe, hcat]) with ⟨g1, g2⟩ | ⟨g1, g2⟩
        · refine .inl ⟨?_, by rw [g2, ht]; rfl⟩
          simp only [List.append_assoc] at g1 ⊢
          exact g1
        · refine .inr ⟨?_, by rw [g2]; rfl⟩
          simp only [List.append_assoc] at g1 ⊢
          exact g1
theorem dec2_rd2 (wn : Nat) (x d : ByteArray) : ∀ (k i : Nat) (at_ : Int), rd2 d k at_ = none → dec2 wn x d k i at_ = none := by
  intro k
  induction k with
  | zero => intro i at_ h; cases h
  | succ k ih =>
    intro i at_ h
    rw [rd2] at h
    rw [dec2]
    split
    · rfl
    split
    · rfl
    · rename_i h1 h2
      rw [if_neg h2] at h
      rw [ih _ _ (Option.map_eq_none_iff.1 h)]
      rfl
theorem ba_ext {s t : ByteArray} (h : s.data.toList = t.data.toList) : s = t := ByteArray.ext (Array.toList_inj.1 h)
theorem dec_ref (wd : Int) (x d : ByteArray) : decF wd x d = refF wd x d := by
  unfold decF refF
  by_cases c1 : wd < 1 ∨ 16 < wd
  · rw [if_pos c1, if_pos c1]
  rw [if_neg c1, if_neg c1]
  obtain ⟨wn, rfl⟩ : ∃ wn : Nat, wd = (wn : Int) := ⟨wd.toNat, by omega⟩
  rw [Int.toNat_natCast]
  by_cases c2 : x.size % (wn + 4) ≠ 0
  · rw [if_pos c2, if_pos (.inl c2)]
  rw [if_neg c2]
  by_cases c3 : upAll wn x (x.size / (wn + 4)) = false
  · rw [if_pos c3, if_pos (.inr c3)]
  rw [if_neg c3, if_neg (fun h => h.elim c2 c3)]
  have hx : x.size = x.size / (wn + 4) * (wn + 4) := by
    have h1 := Nat.div_add_mod x.size (wn + 4)
    rw [Nat.mul_comm] at h1
    omega
  generalize x.size / (wn + 4) = n at *
  have hup : upAll wn x n = true := by simpa using c3
  by_cases c4 : 65536 < d.size
  · rw [if_pos c4]
    cases dec2 wn x d n 0 0 with
    | none => rfl
    | some r =>
      unfold decTail
      dsimp only
      by_cases h : r.2 = (d.size : Int)
      · rw [if_pos (.inr (by omega))]
      · rw [if_pos (.inl h)]
  rw [if_neg c4]
  cases hr : rd2 d n 0 with
  | none => rw [dec2_rd2 wn x d n 0 0 hr]; rfl
  | some r =>
    obtain ⟨ps, f⟩ := r
    have hl := rd2_len d n 0 ps f hr
    obtain ⟨X', e, rfl, he, hE, hW⟩ := enc_dec wn x d (by omega) n hx ps hl hup n 0 0 ps f [] [] (by omega) hr (fun j _ => by rw [Nat.zero_add]) ⟨0, rfl, by omega, by
      have : (d.extract 0 0).data.toList.length = 0 := by rw [ba_size, ByteArray.size_extract]; omega
      rw [List.length_eq_zero_iff.1 this]⟩
    have hgl : (groupsOf wn x ps).length = n := by unfold groupsOf; rw [List.length_map, List.length_zipIdx, hl]
    have hEn : encF (wn : Int) (groupsOf wn x ps) = (X', (d.extract 0 e).data.toList, 0) := by
      unfold encF
      rw [if_neg c1, hgl, hE, List.nil_append]
    have hW2 := hW (by
      have : (x.extract 0 (0 * (wn + 4))).data.toList.length = 0 := by rw [ba_size, ByteArray.size_extract]; omega
      rw [List.length_eq_zero_iff.1 this])
    rw [List.nil_append] at hW2
    unfold refTail
    dsimp only
    rw [Int.toNat_natCast, hEn]
    dsimp only
    have hs : ((⟨((d.extract 0 e).data.toList).toArray⟩ : ByteArray) = d) ↔ e = d.size := by
      constructor
      · intro h
        have h2 : (⟨((d.extract 0 e).data.toList).toArray⟩ : ByteArray).size = d.size := by rw [h]
        have h3 : (⟨((d.extract 0 e).data.toList).toArray⟩ : ByteArray).size = e := by
          show ((d.extract 0 e).data.toList).toArray.size = e
          rw [List.size_toArray, ba_size, ByteArray.size_extract]
          omega
        omega
      · rintro rfl
        rw [ByteArray.extract_zero_size]
    rcases hW2 with ⟨g1, g2⟩ | ⟨g1, g2⟩
    · rw [g2]
      unfold decTail
      dsimp only
      have hxe : (⟨X'.toArray⟩ : ByteArray) = x := by rw [g1]
      by_cases ce : e = d.size
      · rw [if_neg (by omega), if_neg (fun h => h.elim (fun h => h rfl) (fun h => h.elim (fun h => h hxe) (fun h => h (hs.2 ce))))]
      · rw [if_pos (.inl (by omega)), if_pos (.inr (.inr (fun h => ce (hs.1 h))))]
    · rw [g2]
      unfold decTail
      dsimp only
      rw [if_pos (.inr (.inl (fun h => g1 (by rw [← h]))))]

end Go.Proofs.Ytkfhedppnlocpaa.Q
set_option linter.unusedVariables false
set_option linter.unusedSimpArgs false
namespace Go.Proofs.Ytkfhedppnlocpaa.Q
open Go.RowKit Go.Proofs.YtkfhedppnlocpaaW.PrintWords Go.Proofs.YtkfhedppnlocpaaW.PrintLast Go.Proofs.YtkfhedppnlocpaaW.PrintMore

theorem sameGroups_l0 (l : List S80) (hl : l.length ≤ 4194304) (hp : ∀ g ∈ l, g.f1.length ≤ 1000000) : ∀ (d i k : Nat), i + d = l.length → d + 1000000 < k → granarylaw3_sameGroups.l0 k l l (i : Int) = some true := by
  intro d
  induction d with
  | zero =>
    intro i k hi hk
    obtain ⟨k, rfl⟩ : ∃ m, k = m + 1 := ⟨k - 1, by omega⟩
    rw [granarylaw3_sameGroups.l0, if_neg (by omega)]
  | succ d ih =>
    intro i k hi hk
    obtain ⟨k, rfl⟩ : ∃ m, k = m + 1 := ⟨k - 1, by omega⟩
    obtain ⟨g, hg, hm⟩ := rd_getD l i (by omega)
    have := hp g hm
    rw [granarylaw3_sameGroups.l0, if_pos (by omega), if_pos (by omega), if_pos (by omega), hg, if_pos rfl, samePairs_self g.f1 this k (by omega), Option.bind_some, if_pos rfl, w64 ((i : Int) + 1) (by omega) (by omega)]
    exact ih (i + 1) k (by omega) (by omega)
theorem sameGroups_self (l : List S80) (hl : l.length ≤ 4194304) (hp : ∀ g ∈ l, g.f1.length ≤ 1000000) : granarylaw3_sameGroups.f 6000000 l l = some true := by
  unfold granarylaw3_sameGroups.f
  rw [if_pos rfl]
  exact sameGroups_l0 l hl hp l.length 0 _ (by omega) (by omega)
end Go.Proofs.Ytkfhedppnlocpaa.Q
