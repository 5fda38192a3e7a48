/- The statement RecordReads of the package granarylaw3: the program's ReadRecord and the document's answer alike at every text and every place. Condition: the text's length is what a memory holds. -/
import Derived.Test.YtkfhedppnlocpaaPc
set_option linter.unusedVariables false
set_option linter.unusedSimpArgs false
namespace Go.Proofs.Ytkfhedppnlocpaa.Pure
open Go.RowKit Go.Proofs.Ytkfhedppnlocpaa.Q Go.Proofs.YtkfhedppnlocpaaW.PrintWords Go.Proofs.YtkfhedppnlocpaaW.PrintLast

/-! ### Plain laws: the two ReadRecords answer alike -/
theorem fin_nil_bad (l : List S94) (e : Nat) (h : wrongF l ≠ 0) : fin [] (some (l, e)) = ([], 0, 39) := by simp [fin, h]
theorem fin_nil_good (l : List S94) (e : Nat) (h : wrongF l = 0) : fin [] (some (l, e)) = if 65536 < 2 + sz l then ([], 0, 39) else (l, (e : Int), 0) := by
  simp only [fin, List.nil_append, h, true_and]
  by_cases c : 65536 < 2 + sz l
  · rw [if_neg (by omega), if_pos c]
  · rw [if_pos (by omega), if_neg c]

theorem readRecord_tells (data : ByteArray) (hD : data.size ≤ 140737488351232) (at_ : Int) (k : Nat) (hk : 600 < k) : record_ReadRecord.f k data at_ = some (rrF data at_) := by
  obtain ⟨k, rfl⟩ : ∃ m, k = m + 1 := ⟨k - 1, by omega⟩
  unfold record_ReadRecord.f rrF
  by_cases c0 : at_ < 0
  · rw [if_pos c0, if_pos (show at_ < 0 ∨ (data.size : Int) < at_ from Or.inl c0)]
    rfl
  rw [if_neg c0]
  by_cases c1 : (data.size : Int) < at_
  · rw [if_pos (show at_ < 0 ∨ (data.size : Int) < at_ from Or.inr c1), show decide (at_ > (data.size : Int)) = true by simpa using c1]
    rfl
  rw [if_neg (show ¬ (at_ < 0 ∨ (data.size : Int) < at_) by omega), show decide (at_ > (data.size : Int)) = false by simpa using c1]
  obtain ⟨p, rfl⟩ : ∃ p : Nat, at_ = (p : Int) := ⟨at_.toNat, by omega⟩
  rw [Int.toNat_natCast, record_ReadRecord.j0, if_neg (show ¬ (false = true) by decide), if_pos (show (0 : Int) ≤ p by omega), if_pos (show (p : Int) ≤ data.size by omega), Int.toNat_natCast]
  have n2 := next_at data p 2 (by omega)
  rw [show ((2 : Nat) : Int) = 2 from rfl] at n2
  have hm := numN_eq data p 2 (by omega)
  have hl : numN data p 2 < 65536 ∨ data.size < p + 2 := by
    by_cases c : data.size < p + 2
    · exact Or.inr c
    left
    have h : (data.extract p (p + 2)).data.toList.length = 2 := by rw [ba_size, ByteArray.size_extract]; omega
    revert h hm
    generalize (data.extract p (p + 2)).data.toList = L
    intro hm h
    match L, h with
    | [x, y], _ =>
      have := x.toNat_lt; have := y.toNat_lt
      simp [beNum] at hm
      omega
  have tk : record_take.f (data.extract p (p + 2)) = some (numN data p 2 : Int) := by
    unfold record_take.f
    rw [← hm, if_pos (by rw [ByteArray.size_extract]; omega)]
  generalize numN data p 2 = m at *
  by_cases c2 : data.size < p + 2
  · rw [if_pos c2] at n2 ⊢
    rw [n2, Option.bind_some]
    obtain ⟨k, rfl⟩ : ∃ m, k = m + 1 := ⟨k - 1, by omega⟩
    rfl
  rw [if_neg c2] at n2 ⊢
  rw [n2, Option.bind_some]
  dsimp only
  rw [tk, Option.bind_some, if_neg (show ¬ (false = true) by decide)]
  obtain ⟨k, rfl⟩ : ∃ m, k = m + 1 := ⟨k - 1, by omega⟩
  have bad : wrongF [] = 36 := rfl
  by_cases c3 : m = 0
  · rw [if_pos (show (m : Int) < 1 by omega), record_ReadRecord.j1, if_pos rfl, c3, sp]
    rw [fin_nil_bad [] _ (by decide)]
  rw [if_neg (show ¬ (m : Int) < 1 by omega)]
  by_cases c4 : 512 < m
  · rw [show decide ((m : Int) > 512) = true by simp; omega, record_ReadRecord.j1, if_pos rfl]
    cases hs : sp data m (p + 2) with
    | none => rfl
    | some r =>
      have := (sp_some data m (p + 2) r.1 r.2 (by omega) hs).1
      rw [show r = (r.1, r.2) from rfl, fin_nil_bad r.1 _ (fun h => by have := (wrongF_zero _ h).2.1; omega)]
  rw [show decide ((m : Int) > 512) = false by simp; omega, record_ReadRecord.j1, if_neg (show ¬ (false = true) by decide), if_pos (show (0 : Int) ≤ m by omega), if_pos (by omega)]
  exact read_l0 data hD p m (by omega) (by omega) m k (p + 2) [] (by simp) (by omega) (by simp [sz]) (by omega) (fun j hj => absurd hj (by simp))

theorem be_zero_num (x : UInt8) : UInt8.ofNat ((x.toNat : Int) % 256).toNat = x := by
  have := x.toNat_lt
  rw [show ((x.toNat : Int) % 256).toNat = x.toNat by omega]
  simp

theorem be_num (L : List UInt8) : be (beNum L) L.length = L := by
  have key : ∀ (n : Nat) (L : List UInt8), L.length = n → be (beNum L) n = L := by
    intro n
    induction n with
    | zero => intro L h; rw [List.length_eq_zero_iff] at h; subst h; rfl
    | succ n ih =>
      intro L h
      have hne : L ≠ [] := fun e => by subst e; simp at h
      obtain ⟨I, x, rfl⟩ : ∃ I x, L = I ++ [x] := ⟨L.dropLast, L.getLast hne, (List.dropLast_concat_getLast hne).symm⟩
      have hx := x.toNat_lt
      rw [beNum_snoc, be, show (beNum I * 256 + (x.toNat : Int)) / 256 = beNum I by omega, show (beNum I * 256 + (x.toNat : Int)) % 256 = (x.toNat : Int) % 256 by omega, be_zero_num, ih I (by simpa using h)]
  exact key _ L rfl

theorem be_numN (data : ByteArray) (p w : Nat) (hw : w ≤ 4) (h : p + w ≤ data.size) : be (numN data p w : Int) w = (data.extract p (p + w)).data.toList := by
  have hl : (data.extract p (p + w)).data.toList.length = w := by rw [ba_size, ByteArray.size_extract]; omega
  rw [← numN_eq data p w hw]
  conv => lhs; rw [← hl]
  rw [hl]
  have := be_num (data.extract p (p + w)).data.toList
  rw [hl] at this
  exact this

theorem cut (data : ByteArray) (i j k : Nat) (h1 : i ≤ j) (h2 : j ≤ k) : (data.extract i j).data.toList ++ (data.extract j k).data.toList = (data.extract i k).data.toList := by
  have := ByteArray.extract_append_extract (a := data) (i := i) (j := j) (k := k)
  rw [Nat.min_eq_left h1, Nat.max_eq_right h2] at this
  rw [← this, ByteArray.data_append, Array.toList_append]

theorem sp_bytes (data : ByteArray) : ∀ (m pos : Nat) (l : List S94) (e : Nat), pos ≤ data.size → sp data m pos = some (l, e) → l.flatMap pairBytes = (data.extract pos e).data.toList := by
  intro m
  induction m with
  | zero =>
    intro pos l e hp h
    simp only [sp, Option.some.injEq, Prod.mk.injEq] at h
    obtain ⟨rfl, rfl⟩ := h
    have : (data.extract pos pos).data.toList.length = 0 := by rw [ba_size, ByteArray.size_extract]; omega
    rw [List.length_eq_zero_iff.1 this]; rfl
  | succ m ih =>
    intro pos l e hp h
    rw [sp] at h
    by_cases c : data.size < pos + 6
    · rw [if_pos c] at h; cases h
    rw [if_neg c] at h
    by_cases c1 : data.size < pos + 6 + numN data pos 2 + numN data (pos + 2) 4
    · rw [if_pos c1] at h; cases h
    rw [if_neg c1] at h
    obtain ⟨⟨l', e'⟩, hs, hr⟩ := Option.map_eq_some_iff.1 h
    simp only [Prod.mk.injEq] at hr
    obtain ⟨rfl, rfl⟩ := hr
    have h1 := ih _ l' e' (by omega) hs
    have h3 := (sp_some data m _ l' e' (by omega) hs).2
    have z0 : (pairAt data pos).f0.size = numN data pos 2 := by unfold pairAt; rw [ByteArray.size_extract]; omega
    have z1 : (pairAt data pos).f1.size = numN data (pos + 2) 4 := by unfold pairAt; rw [ByteArray.size_extract]; omega
    rw [List.flatMap_cons, h1, pairBytes, z0, z1, be_numN data pos 2 (by omega) (by omega), be_numN data (pos + 2) 4 (by omega) (by omega)]
    unfold pairAt
    dsimp only
    rw [cut data _ _ _ (by omega) (by omega), ← List.append_assoc, cut data _ _ _ (by omega) (by omega), cut data _ _ _ (by omega) (by omega), cut data _ _ _ (by omega) (by omega)]

theorem numN_lt2 (data : ByteArray) (p : Nat) (h : p + 2 ≤ data.size) : numN data p 2 < 65536 := by
  have hm := numN_eq data p 2 (by omega)
  have h : (data.extract p (p + 2)).data.toList.length = 2 := by rw [ba_size, ByteArray.size_extract]; omega
  revert h hm
  generalize (data.extract p (p + 2)).data.toList = L
  intro hm h
  match L, h with
  | [x, y], _ =>
    have := x.toNat_lt; have := y.toNat_lt
    simp [beNum] at hm
    omega

theorem spelled_tells (data : ByteArray) (hD : data.size ≤ 140737488351232) (p : Nat) (hp : p ≤ data.size) (k : Nat) (hk : 70000 < k) : granaryref3_spelled.f k data (p : Int) =
    some (if data.size < p + 2 then ([], -1) else spl [] (sp data (numN data p 2) (p + 2))) := by
  unfold granaryref3_spelled.f
  rw [w64 ((data.size : Int) - p) (by omega) (by omega)]
  by_cases c : data.size < p + 2
  · rw [if_pos (show (data.size : Int) - p < 2 by omega), if_pos c]
  rw [if_neg (show ¬ (data.size : Int) - p < 2 by omega), if_neg c]
  have l2 := numN_lt2 data p (by omega)
  have s2 : granaryref3_sum.f k data (p : Int) 2 = some (numN data p 2 : Int) := by rw [← numN_eq data p 2 (by omega)]; exact sum_tells data p 2 (by omega) (by omega) (by omega) k (by omega)
  generalize numN data p 2 = m at *
  rw [s2, Option.bind_some, w64 ((p : Int) + 2) (by omega) (by omega)]
  exact spelled_l0 data hD m k (p + 2) [] (by omega) (by omega) (by simp; omega)

theorem refReadRecord_tells (data : ByteArray) (hD : data.size ≤ 140737488351232) (at_ : Int) (k : Nat) (hk : 1000000 < k) : granaryref3_ReadRecord.f k data at_ = some (rrF data at_) := by
  obtain ⟨k, rfl⟩ : ∃ m, k = m + 1 := ⟨k - 1, by omega⟩
  unfold granaryref3_ReadRecord.f rrF
  by_cases c0 : at_ < 0
  · rw [if_pos c0, if_pos (show at_ < 0 ∨ (data.size : Int) < at_ from Or.inl c0)]
    rfl
  rw [if_neg c0]
  by_cases c1 : (data.size : Int) < at_
  · rw [if_pos (show at_ < 0 ∨ (data.size : Int) < at_ from Or.inr c1), show decide (at_ > (data.size : Int)) = true by simpa using c1]
    rfl
  rw [if_neg (show ¬ (at_ < 0 ∨ (data.size : Int) < at_) by omega), show decide (at_ > (data.size : Int)) = false by simpa using c1]
  obtain ⟨p, rfl⟩ : ∃ p : Nat, at_ = (p : Int) := ⟨at_.toNat, by omega⟩
  rw [Int.toNat_natCast, granaryref3_ReadRecord.j0, if_neg (show ¬ (false = true) by decide), spelled_tells data hD p (by omega) k (by omega), Option.bind_some]
  by_cases c2 : data.size < p + 2
  · rw [if_pos c2, if_pos c2]; rfl
  rw [if_neg c2, if_neg c2]
  have l2 := numN_lt2 data p (by omega)
  have hb := be_numN data p 2 (by omega) (by omega)
  cases hs : sp data (numN data p 2) (p + 2) with
  | none => rfl
  | some r =>
    obtain ⟨l, e⟩ := r
    have h1 := sp_some data _ (p + 2) l e (by omega) hs
    have h2 := sp_bytes data _ (p + 2) l e (by omega) hs
    have hsp : spl [] (some (l, e)) = (l, (e : Int)) := by simp [spl]
    generalize numN data p 2 = m at *
    rw [hsp, if_neg (show ¬ (e : Int) < 0 by omega), refRecord_tells l (by omega) k (by omega), Option.bind_some]
    unfold recF
    by_cases w : wrongF l = 0
    · rw [if_neg (show ¬ wrongF l ≠ 0 by simp [w]), fin_nil_good l e w]
      by_cases c : 65536 < 2 + sz l
      · rw [if_pos c, if_pos c]; rfl
      rw [if_neg c, if_neg c]
      have hbytes : (⟨(recBytes l).toArray⟩ : ByteArray).toList = (data.extract p e).toList := by
        rw [tl, tl, recBytes, h1.1, hb, h2, cut data _ _ _ (by omega) (by omega)]
      rw [if_pos (show ((⟨(recBytes l).toArray⟩ : ByteArray), (0 : Int)).2 = 0 from rfl), if_pos (show (0 : Int) ≤ p by omega), if_pos (show (p : Int) ≤ e by omega), if_pos (show (e : Int) ≤ data.size by omega), Int.toNat_natCast, Int.toNat_natCast]
      rw [if_pos hbytes]
    · rw [if_pos (show wrongF l ≠ 0 from w), fin_nil_bad l e w, if_neg (show ¬ ((⟨#[]⟩ : ByteArray), wrongF l).2 = 0 from w)]

theorem samePairs_l0 (l : List S94) (hl : l.length ≤ 1000000) : ∀ (d i k : Nat), i + d = l.length → d < k → granarylaw3_samePairs.l0 k l l (i : Int) = some true := by
  intro d
  induction d with
  | zero =>
    intro i k hi hk
    obtain ⟨k, rfl⟩ : ∃ m, k = m + 1 := ⟨k - 1, by omega⟩
    rw [granarylaw3_samePairs.l0, if_neg (by omega)]
  | succ d ih =>
    intro i k hi hk
    obtain ⟨k, rfl⟩ : ∃ m, k = m + 1 := ⟨k - 1, by omega⟩
    rw [granarylaw3_samePairs.l0, if_pos (by omega), if_pos (by omega), if_pos (by omega), if_pos rfl, if_pos rfl, w64 ((i : Int) + 1) (by omega) (by omega)]
    exact ih (i + 1) k (by omega) (by omega)

theorem samePairs_self (l : List S94) (hl : l.length ≤ 1000000) (k : Nat) (hk : l.length < k) : granarylaw3_samePairs.f k l l = some true := by
  unfold granarylaw3_samePairs.f
  rw [if_pos rfl]
  exact samePairs_l0 l hl l.length 0 k (by omega) hk

theorem fin_len (r : Option (List S94 × Nat)) : (fin [] r).1.length ≤ 512 := by
  cases r with
  | none => simp [fin]
  | some r =>
    obtain ⟨l, e⟩ := r
    by_cases w : wrongF l = 0
    · rw [fin_nil_good l e w]
      split
      · simp
      · exact (wrongF_zero l w).2.1
    · rw [fin_nil_bad l e w]; simp
theorem rrF_len (data : ByteArray) (at_ : Int) : (rrF data at_).1.length ≤ 512 := by
  unfold rrF
  split
  · simp
  split
  · simp
  exact fin_len _

theorem RecordReads : granarylaw3_RecordReads.Pure := by
  intro data at_ hD _
  refine ⟨1000001, ?_⟩
  unfold granarylaw3_RecordReads.f
  rw [readRecord_tells data hD at_ _ (by omega), Option.bind_some, refReadRecord_tells data hD at_ _ (by omega), Option.bind_some]
  have hl := rrF_len data at_
  rw [samePairs_self _ (by omega) _ (by omega), Option.bind_some, if_pos rfl, if_pos rfl]
  simp [granarylaw3_num.f]

end Go.Proofs.Ytkfhedppnlocpaa.Pure
