/- Plain laws: the pairs that bytes say, and that the program's loop and the document's loop both read those. Conditions: the lengths that a memory can hold. Plain laws: ReadRecord, the program's and the document's, answer alike. Conditions: the lengths that a memory can hold. -/
import Derived.Test.YtkfhedppnlocpaaPb
import Derived.Test.YtkfhedppnlocpaaER
set_option linter.unusedVariables false
set_option linter.unusedSimpArgs false
namespace Go.Proofs.Ytkfhedppnlocpaa.Q
open Go.RowKit Go.Proofs.YtkfhedppnlocpaaW.PrintWords Go.Proofs.YtkfhedppnlocpaaW.PrintLast

/-! ### Plain laws: reading a record -/
def numN (data : ByteArray) (p w : Nat) : Nat := (beNum (data.extract p (p + w)).data.toList).toNat
theorem numN_eq (data : ByteArray) (p w : Nat) (hw : w ≤ 4) : beNum (data.extract p (p + w)).data.toList = (numN data p w : Int) := by
  have h : (data.extract p (p + w)).data.toList.length ≤ 4 := by rw [ba_size, ByteArray.size_extract]; omega
  have := beNum_bd4 _ h
  unfold numN
  omega
theorem numN_lt (data : ByteArray) (p w : Nat) (hw : w ≤ 4) : numN data p w < 4294967296 := by
  have h : (data.extract p (p + w)).data.toList.length ≤ 4 := by rw [ba_size, ByteArray.size_extract]; omega
  have := beNum_bd4 _ h
  unfold numN
  omega

def pairAt (data : ByteArray) (pos : Nat) : S94 := ⟨data.extract (pos + 6) (pos + 6 + numN data pos 2), data.extract (pos + 6 + numN data pos 2) (pos + 6 + numN data pos 2 + numN data (pos + 2) 4)⟩
/-- The pairs that the bytes say from pos on, and the place behind them. -/
def sp (data : ByteArray) : Nat → Nat → Option (List S94 × Nat)
  | 0, pos => some ([], pos)
  | m + 1, pos => if data.size < pos + 6 then none else if data.size < pos + 6 + numN data pos 2 + numN data (pos + 2) 4 then none
    else (sp data m (pos + 6 + numN data pos 2 + numN data (pos + 2) 4)).map fun r => (pairAt data pos :: r.1, r.2)

theorem sp_some (data : ByteArray) : ∀ (m pos : Nat) (l : List S94) (e : Nat), pos ≤ data.size → sp data m pos = some (l, e) → l.length = m ∧ e = pos + sz l ∧ e ≤ data.size := by
  intro m
  induction m with
  | zero =>
    intro pos l e hp h
    simp only [sp, Option.some.injEq, Prod.mk.injEq] at h
    obtain ⟨rfl, rfl⟩ := h
    exact ⟨rfl, rfl, hp⟩
  | succ m ih =>
    intro pos l e hp h
    rw [sp] at h
    by_cases c : data.size < pos + 6
    · rw [if_pos c] at h; cases h
    rw [if_neg c] at h
    by_cases c1 : data.size < pos + 6 + numN data pos 2 + numN data (pos + 2) 4
    · rw [if_pos c1] at h; cases h
    rw [if_neg c1] at h
    obtain ⟨⟨l', e'⟩, hs, hr⟩ := Option.map_eq_some_iff.1 h
    simp only [Prod.mk.injEq] at hr
    obtain ⟨rfl, rfl⟩ := hr
    obtain ⟨h1, h2, h3⟩ := ih _ l' e' (by omega) hs
    refine ⟨by simp [h1], ?_, h3⟩
    rw [sz, h2]
    have z0 : (pairAt data pos).f0.size = numN data pos 2 := by unfold pairAt; rw [ByteArray.size_extract]; omega
    have z1 : (pairAt data pos).f1.size = numN data (pos + 2) 4 := by unfold pairAt; rw [ByteArray.size_extract]; omega
    rw [z0, z1]
    omega

theorem tl (s : ByteArray) : s.toList = s.data.toList := ByteArray.toList_eq s

theorem next_at (data : ByteArray) (p n : Nat) (hp : p ≤ data.size) : record_cursor_next.f (data.extract p data.size) false (n : Int) =
    if data.size < p + n then some ((⟨#[]⟩ : ByteArray), data.extract p data.size, true) else some (data.extract p (p + n), data.extract (p + n) data.size, false) := by
  unfold record_cursor_next.f
  have hs : (data.extract p data.size).size = data.size - p := by rw [ByteArray.size_extract]; omega
  rw [if_neg (by decide), hs]
  by_cases c : data.size < p + n
  · rw [if_pos (by omega), if_pos c]
  · rw [if_neg (by omega), if_neg c]
    rw [if_pos (by omega), if_pos (by omega)]
    rw [Int.toNat_natCast, ByteArray.extract_extract, ByteArray.extract_extract]
    have e1 : min (p + n) data.size = p + n := by omega
    have e2 : min (p + (data.size - p)) data.size = data.size := by omega
    simp [e1, e2]

theorem fits_eq (k a b : Nat) (hk : 0 < k) : record_fits.f k (a : Int) (b : Int) = some (if a < 1 ∨ 255 < a then 32 else if 4096 < b then 33 else 0) := by
  obtain ⟨k, rfl⟩ : ∃ m, k = m + 1 := ⟨k - 1, by omega⟩
  unfold record_fits.f
  simp only [record_fits.j0]
  by_cases c : a < 1
  · rw [if_pos (show (a : Int) < 1 by omega), if_pos (show a < 1 ∨ 255 < a from Or.inl c)]; rfl
  rw [if_neg (show ¬ (a : Int) < 1 by omega)]
  by_cases c1 : 255 < a
  · rw [if_pos (show decide ((a : Int) > 255) = true by simp; omega), if_pos (show a < 1 ∨ 255 < a from Or.inr c1)]
  rw [if_neg (show ¬ decide ((a : Int) > 255) = true by simp; omega), if_neg (show ¬ (b : Int) < 0 by omega), if_neg (show ¬ (a < 1 ∨ 255 < a) by omega)]
  by_cases c2 : 4096 < b
  · rw [if_pos (show (b : Int) > 4096 by omega), if_pos c2]
  · rw [if_neg (show ¬ (b : Int) > 4096 by omega), if_neg c2]

theorem getD_app_lt (a b : List S94) (j : Nat) (h : j < a.length) : (a ++ b).getD j z94 = a.getD j z94 := by
  rw [List.getD_eq_getElem?_getD, List.getD_eq_getElem?_getD, List.getElem?_append_left h]
theorem getD_app_at (a b : List S94) (q : S94) : (a ++ q :: b).getD a.length z94 = q := by
  rw [List.getD_eq_getElem?_getD, List.getElem?_append_right (Nat.le_refl _), Nat.sub_self]; rfl

theorem pairErr_app (a b : List S94) (j : Nat) (h : j < a.length) : pairErr (a ++ b) j = pairErr a j := by
  unfold pairErr key
  rw [getD_app_lt a b j h, getD_app_lt a b (j - 1) (by omega)]

theorem apiPair_eq (acc : List S94) (q : S94) (h0 : 1 ≤ q.f0.size) (h1 : q.f0.size ≤ 255) (h2 : q.f1.size ≤ 4096) : api_Pair.f (acc ++ [q]) (acc.length : Int) = some (pairErr (acc ++ [q]) acc.length) := by
  unfold api_Pair.f pairErr
  rw [getD_app_at, if_neg (show ¬ (q.f0.size < 1 ∨ 255 < q.f0.size) by omega), if_neg (show ¬ 4096 < q.f1.size by omega)]
  by_cases c : acc.length = 0
  · rw [if_pos (by omega), if_pos c]
  rw [if_neg (by omega), if_neg c]
  have hl : (acc ++ [q]).length = acc.length + 1 := by simp
  rw [if_pos ⟨by omega, by rw [hl]; omega⟩]
  have e1 : (acc.length : Int) - 1 = ((acc.length - 1 : Nat) : Int) := by omega
  rw [e1, rd_nat, rd_nat, tl, tl]
  unfold key
  by_cases c1 : ((acc ++ [q]).getD acc.length z94).f0.data.toList = ((acc ++ [q]).getD (acc.length - 1) z94).f0.data.toList
  · rw [if_pos c1, if_pos c1]
  rw [if_neg c1, if_neg c1]
  by_cases c2 : Op.bytesLess ((acc ++ [q]).getD acc.length z94).f0.data.toList ((acc ++ [q]).getD (acc.length - 1) z94).f0.data.toList = true
  · rw [if_pos c2, if_pos c2]
  · rw [if_neg c2, if_neg c2]

/-- What comes of the pairs read so far and of those behind them. -/
def fin (acc : List S94) : Option (List S94 × Nat) → List S94 × Int × Int
  | none => ([], 0, 39)
  | some (l, e) => if wrongF (acc ++ l) = 0 ∧ 2 + sz (acc ++ l) ≤ 65536 then (acc ++ l, (e : Int), 0) else ([], 0, 39)

theorem fin_bad (acc : List S94) (q : S94) (h : pairErr (acc ++ [q]) acc.length ≠ 0) (r : Option (List S94 × Nat)) : fin acc (r.map fun r => (q :: r.1, r.2)) = ([], 0, 39) := by
  cases r with
  | none => rfl
  | some r =>
    show (if wrongF (acc ++ q :: r.1) = 0 ∧ _ then _ else _) = _
    rw [if_neg]
    rintro ⟨hw, -⟩
    have := (wrongF_zero _ hw).2.2.1 acc.length (by simp)
    apply h
    rw [← this, show acc ++ q :: r.1 = (acc ++ [q]) ++ r.1 by simp]
    exact (pairErr_app _ _ _ (by simp)).symm

theorem fin_step (acc : List S94) (q : S94) (r : Option (List S94 × Nat)) : fin acc (r.map fun r => (q :: r.1, r.2)) = fin (acc ++ [q]) r := by
  cases r with
  | none => rfl
  | some r => simp [fin]

theorem fin_end (acc : List S94) (e : Nat) (h0 : 1 ≤ acc.length) (h1 : acc.length ≤ 512) (hz : ∀ j, j < acc.length → pairErr acc j = 0) : fin acc (some ([], e)) = if 65536 < 2 + sz acc then ([], 0, 39) else (acc, (e : Int), 0) := by
  show (if wrongF (acc ++ []) = 0 ∧ 2 + sz (acc ++ []) ≤ 65536 then (acc ++ [], (e : Int), (0 : Int)) else ([], 0, 39)) = _
  have hw : wrongF acc = 0 := by
    unfold wrongF
    rw [if_neg (by omega)]
    exact firstErr_of _ _ _ (fun j _ hj => hz j (by omega))
  rw [List.append_nil]
  by_cases c : 65536 < 2 + sz acc
  · rw [if_neg (by omega), if_pos c]
  · rw [if_pos ⟨hw, by omega⟩, if_neg c]

theorem read_l0 (data : ByteArray) (hD : data.size ≤ 140737488351232) (at_ : Nat) (m : Nat) (hm1 : 1 ≤ m) (hm : m ≤ 512) : ∀ (d k pos : Nat) (acc : List S94), acc.length + d = m → pos ≤ data.size → pos = at_ + 2 + sz acc → d + 10 < k →
    (∀ j, j < acc.length → pairErr acc j = 0) → record_ReadRecord.l0 k data (at_ : Int) acc (m : Int) (acc.length : Int) (data.extract pos data.size) false = some (fin acc (sp data d pos)) := by
  intro d
  induction d with
  | zero =>
    intro k pos acc ha hp hpos hk hz
    obtain ⟨k, rfl⟩ : ∃ m, k = m + 1 := ⟨k - 1, by omega⟩
    rw [record_ReadRecord.l0]
    have hs : (data.extract pos data.size).size = data.size - pos := by rw [ByteArray.size_extract]; omega
    rw [if_neg (by omega), hs, sp, fin_end acc pos (by omega) (by omega) hz]
    have e1 : wrap64 ((data.size : Int) - ((data.size - pos : Nat) : Int)) = (pos : Int) := by rw [w64 _ (by omega) (by omega)]; omega
    rw [e1, w64 ((pos : Int) - at_) (by omega) (by omega)]
    by_cases c : 65536 < 2 + sz acc
    · rw [if_pos (by omega), if_pos c]
    · rw [if_neg (by omega), if_neg c]
  | succ d ih =>
    intro k pos acc ha hp hpos hk hz
    obtain ⟨k, rfl⟩ : ∃ m, k = m + 1 := ⟨k - 1, by omega⟩
    have l2 := numN_lt data pos 2 (by omega)
    have l4 := numN_lt data (pos + 2) 4 (by omega)
    have s2 : pos + 6 ≤ data.size → record_take.f ((data.extract pos (pos + 6)).extract 0 2) = some (numN data pos 2 : Int) := fun h => by
      unfold record_take.f
      rw [← numN_eq data pos 2 (by omega), ByteArray.extract_extract, show min (pos + 2) (pos + 6) = pos + 2 by omega, Nat.add_zero]
      rw [if_pos (by rw [ByteArray.size_extract]; omega)]
    have s4 : pos + 6 ≤ data.size → record_take.f ((data.extract pos (pos + 6)).extract 2 (data.extract pos (pos + 6)).size) = some (numN data (pos + 2) 4 : Int) := fun h => by
      unfold record_take.f
      have hs : (data.extract pos (pos + 6)).size = 6 := by rw [ByteArray.size_extract]; omega
      rw [← numN_eq data (pos + 2) 4 (by omega), hs, ByteArray.extract_extract, show min (pos + 6) (pos + 6) = pos + 2 + 4 by omega]
      rw [if_pos (by rw [ByteArray.size_extract]; omega)]
    have hpa : pairAt data pos = ⟨data.extract (pos + 6) (pos + 6 + numN data pos 2), data.extract (pos + 6 + numN data pos 2) (pos + 6 + numN data pos 2 + numN data (pos + 2) 4)⟩ := rfl
    rw [sp, hpa]
    generalize numN data pos 2 = a at *
    generalize numN data (pos + 2) 4 = b at *
    generalize hr : fin acc _ = R
    rw [record_ReadRecord.l0]
    have n6 := next_at data pos 6 hp
    rw [if_pos (by omega)]
    by_cases c : data.size < pos + 6
    · rw [if_pos c] at hr n6
      rw [show ((6 : Nat) : Int) = 6 from rfl] at n6
      rw [n6, Option.bind_some, if_pos rfl, ← hr]; rfl
    rw [if_neg c] at hr n6
    rw [show ((6 : Nat) : Int) = 6 from rfl] at n6
    have hs6 : (data.extract pos (pos + 6)).size = 6 := by rw [ByteArray.size_extract]; omega
    rw [n6, Option.bind_some]
    dsimp only
    rw [if_neg (show ¬ (false = true) by decide), if_pos (show (0 : Nat) ≤ 2 by decide), if_pos (show (2 : Int) ≤ ((data.extract pos (pos + 6)).size : Int) by rw [hs6]; decide), s2 (by omega), Option.bind_some, s4 (by omega), Option.bind_some]
    rw [fits_eq k a b (by omega), Option.bind_some]
    by_cases c1 : data.size < pos + 6 + a + b
    · rw [if_pos c1] at hr
      by_cases cf : (if a < 1 ∨ 255 < a then (32 : Int) else if 4096 < b then 33 else 0) = 0
      · rw [if_pos cf, w64 ((a : Int) + b) (by omega) (by omega)]
        have nx := next_at data (pos + 6) (a + b) (by omega)
        rw [if_pos (by omega), show ((a + b : Nat) : Int) = (a : Int) + b by omega] at nx
        rw [nx, Option.bind_some, if_pos rfl, ← hr]; rfl
      · rw [if_neg cf, ← hr]; rfl
    rw [if_neg c1] at hr
    have z0 : (data.extract (pos + 6) (pos + 6 + a)).size = a := by rw [ByteArray.size_extract]; omega
    have z1 : (data.extract (pos + 6 + a) (pos + 6 + a + b)).size = b := by rw [ByteArray.size_extract]; omega
    by_cases cf : (if a < 1 ∨ 255 < a then (32 : Int) else if 4096 < b then 33 else 0) = 0
    · rw [if_pos cf, w64 ((a : Int) + b) (by omega) (by omega)]
      have cf1 : ¬ (a < 1 ∨ 255 < a) := fun h => by rw [if_pos h] at cf; exact absurd cf (by decide)
      rw [if_neg cf1] at cf
      have cf2 : ¬ 4096 < b := fun h => by rw [if_pos h] at cf; exact absurd cf (by decide)
      have nx := next_at data (pos + 6) (a + b) (by omega)
      rw [if_neg (by omega), show ((a + b : Nat) : Int) = (a : Int) + b by omega] at nx
      have hsx : (data.extract (pos + 6) (pos + 6 + (a + b))).size = a + b := by rw [ByteArray.size_extract]; omega
      rw [nx, Option.bind_some]
      dsimp only
      rw [if_neg (show ¬ (false = true) by decide), if_pos (show (0 : Int) ≤ a by omega), if_pos (show (a : Int) ≤ ((data.extract (pos + 6) (pos + 6 + (a + b))).size : Int) by rw [hsx]; omega), if_pos (by omega), Option.bind_some]
      rw [Int.toNat_natCast, hsx, ByteArray.extract_extract, ByteArray.extract_extract]
      rw [show min (pos + 6 + a) (pos + 6 + (a + b)) = pos + 6 + a by omega, show min (pos + 6 + (a + b)) (pos + 6 + (a + b)) = pos + 6 + a + b by omega, Nat.add_zero, show pos + 6 + (a + b) = pos + 6 + a + b by omega]
      rw [apiPair_eq acc _ (by rw [z0]; omega) (by rw [z0]; omega) (by rw [z1]; omega), Option.bind_some]
      generalize hq : (⟨data.extract (pos + 6) (pos + 6 + a), data.extract (pos + 6 + a) (pos + 6 + a + b)⟩ : S94) = q at *
      by_cases ce : pairErr (acc ++ [q]) acc.length = 0
      · rw [if_pos ce, ← hr, fin_step, w64 ((acc.length : Int) + 1) (by omega) (by omega)]
        have := ih k (pos + 6 + a + b) (acc ++ [q]) (by simp; omega) (by omega) (by rw [sz_app, sz, sz, ← hq]; show _ = at_ + 2 + (sz acc + (6 + (data.extract (pos + 6) (pos + 6 + a)).size + (data.extract (pos + 6 + a) (pos + 6 + a + b)).size + 0)); rw [z0, z1]; omega) (by omega) (by
          intro j hj
          by_cases cj : j = acc.length
          · rw [cj]; exact ce
          · have hj' : j < acc.length := by simp at hj; omega
            rw [pairErr_app _ _ _ hj']; exact hz j hj')
        rw [show ((acc ++ [q]).length : Int) = (acc.length : Int) + 1 by simp] at this
        exact this
      · rw [if_neg ce, ← hr, fin_bad acc q ce]
    · rw [if_neg cf, ← hr, fin_bad]
      unfold pairErr
      rw [getD_app_at, z0, z1]
      by_cases g1 : a < 1 ∨ 255 < a
      · rw [if_pos g1]; decide
      rw [if_neg g1]
      by_cases g2 : 4096 < b
      · rw [if_pos g2]; decide
      exact absurd (by rw [if_neg g1, if_neg g2]) cf

/-- What both ReadRecords answer. -/
def rrF (data : ByteArray) (at_ : Int) : List S94 × Int × Int :=
  if at_ < 0 ∨ (data.size : Int) < at_ then ([], 0, 1)
  else if data.size < at_.toNat + 2 then ([], 0, 39)
  else fin [] (sp data (numN data at_.toNat 2) (at_.toNat + 2))

end Go.Proofs.Ytkfhedppnlocpaa.Q
set_option linter.unusedVariables false
set_option linter.unusedSimpArgs false
namespace Go.Proofs.Ytkfhedppnlocpaa.Q
open Go.RowKit Go.Proofs.YtkfhedppnlocpaaW.PrintWords Go.Proofs.YtkfhedppnlocpaaW.PrintLast

/-! ### Plain laws: the two ReadRecords answer alike -/
theorem fin_nil_bad (l : List S94) (e : Nat) (h : wrongF l ≠ 0) : fin [] (some (l, e)) = ([], 0, 39) := by simp [fin, h]
theorem fin_nil_good (l : List S94) (e : Nat) (h : wrongF l = 0) : fin [] (some (l, e)) = if 65536 < 2 + sz l then ([], 0, 39) else (l, (e : Int), 0) := by
  simp only [fin, List.nil_append, h, true_and]
  by_cases c : 65536 < 2 + sz l
  · rw [if_neg (by omega), if_pos c]
  · rw [if_pos (by omega), if_neg c]

theorem readRecord_tells (data : ByteArray) (hD : data.size ≤ 140737488351232) (at_ : Int) (k : Nat) (hk : 600 < k) : record_ReadRecord.f k data at_ = some (rrF data at_) := by
  obtain ⟨k, rfl⟩ : ∃ m, k = m + 1 := ⟨k - 1, by omega⟩
  unfold record_ReadRecord.f rrF
  by_cases c0 : at_ < 0
  · rw [if_pos c0, if_pos (show at_ < 0 ∨ (data.size : Int) < at_ from Or.inl c0)]
    rfl
  rw [if_neg c0]
  by_cases c1 : (data.size : Int) < at_
  · rw [if_pos (show at_ < 0 ∨ (data.size : Int) < at_ from Or.inr c1), show decide (at_ > (data.size : Int)) = true by simpa using c1]
    rfl
  rw [if_neg (show ¬ (at_ < 0 ∨ (data.size : Int) < at_) by omega), show decide (at_ > (data.size : Int)) = false by simpa using c1]
  obtain ⟨p, rfl⟩ : ∃ p : Nat, at_ = (p : Int) := ⟨at_.toNat, by omega⟩
  rw [Int.toNat_natCast, record_ReadRecord.j0, if_neg (show ¬ (false = true) by decide), if_pos (show (0 : Int) ≤ p by omega), if_pos (show (p : Int) ≤ data.size by omega), Int.toNat_natCast]
  have n2 := next_at data p 2 (by omega)
  rw [show ((2 : Nat) : Int) = 2 from rfl] at n2
  have hm := numN_eq data p 2 (by omega)
  have hl : numN data p 2 < 65536 ∨ data.size < p + 2 := by
    by_cases c : data.size < p + 2
    · exact Or.inr c
    left
    have h : (data.extract p (p + 2)).data.toList.length = 2 := by rw [ba_size, ByteArray.size_extract]; omega
    revert h hm
    generalize (data.extract p (p + 2)).data.toList = L
    intro hm h
    match L, h with
    | [x, y], _ =>
      have := x.toNat_lt; have := y.toNat_lt
      simp [beNum] at hm
      omega
  have tk : record_take.f (data.extract p (p + 2)) = some (numN data p 2 : Int) := by
    unfold record_take.f
    rw [← hm, if_pos (by rw [ByteArray.size_extract]; omega)]
  generalize numN data p 2 = m at *
  by_cases c2 : data.size < p + 2
  · rw [if_pos c2] at n2 ⊢
    rw [n2, Option.bind_some]
    obtain ⟨k, rfl⟩ : ∃ m, k = m + 1 := ⟨k - 1, by omega⟩
    rfl
  rw [if_neg c2] at n2 ⊢
  rw [n2, Option.bind_some]
  dsimp only
  rw [tk, Option.bind_some, if_neg (show ¬ (false = true) by decide)]
  obtain ⟨k, rfl⟩ : ∃ m, k = m + 1 := ⟨k - 1, by omega⟩
  have bad : wrongF [] = 36 := rfl
  by_cases c3 : m = 0
  · rw [if_pos (show (m : Int) < 1 by omega), record_ReadRecord.j1, if_pos rfl, c3, sp]
    rw [fin_nil_bad [] _ (by decide)]
  rw [if_neg (show ¬ (m : Int) < 1 by omega)]
  by_cases c4 : 512 < m
  · rw [show decide ((m : Int) > 512) = true by simp; omega, record_ReadRecord.j1, if_pos rfl]
    cases hs : sp data m (p + 2) with
    | none => rfl
    | some r =>
      have := (sp_some data m (p + 2) r.1 r.2 (by omega) hs).1
      rw [show r = (r.1, r.2) from rfl, fin_nil_bad r.1 _ (fun h => by have := (wrongF_zero _ h).2.1; omega)]
  rw [show decide ((m : Int) > 512) = false by simp; omega, record_ReadRecord.j1, if_neg (show ¬ (false = true) by decide), if_pos (show (0 : Int) ≤ m by omega), if_pos (by omega)]
  exact read_l0 data hD p m (by omega) (by omega) m k (p + 2) [] (by simp) (by omega) (by simp [sz]) (by omega) (fun j hj => absurd hj (by simp))

theorem be_zero_num (x : UInt8) : UInt8.ofNat ((x.toNat : Int) % 256).toNat = x := by
  have := x.toNat_lt
  rw [show ((x.toNat : Int) % 256).toNat = x.toNat by omega]
  simp

theorem be_num (L : List UInt8) : be (beNum L) L.length = L := by
  have key : ∀ (n : Nat) (L : List UInt8), L.length = n → be (beNum L) n = L := by
    intro n
    induction n with
    | zero => intro L h; rw [List.length_eq_zero_iff] at h; subst h; rfl
    | succ n ih =>
      intro L h
      have hne : L ≠ [] := fun e => by subst e; simp at h
      obtain ⟨I, x, rfl⟩ : ∃ I x, L = I ++ [x] := ⟨L.dropLast, L.getLast hne, (List.dropLast_concat_getLast hne).symm⟩
      have hx := x.toNat_lt
      rw [beNum_snoc, be, show (beNum I * 256 + (x.toNat : Int)) / 256 = beNum I by omega, show (beNum I * 256 + (x.toNat : Int)) % 256 = (x.toNat : Int) % 256 by omega, be_zero_num, ih I (by simpa using h)]
  exact key _ L rfl

theorem be_numN (data : ByteArray) (p w : Nat) (hw : w ≤ 4) (h : p + w ≤ data.size) : be (numN data p w : Int) w = (data.extract p (p + w)).data.toList := by
  have hl : (data.extract p (p + w)).data.toList.length = w := by rw [ba_size, ByteArray.size_extract]; omega
  rw [← numN_eq data p w hw]
  conv => lhs; rw [← hl]
  rw [hl]
  have := be_num (data.extract p (p + w)).data.toList
  rw [hl] at this
  exact this

theorem cut (data : ByteArray) (i j k : Nat) (h1 : i ≤ j) (h2 : j ≤ k) : (data.extract i j).data.toList ++ (data.extract j k).data.toList = (data.extract i k).data.toList := by
  have := ByteArray.extract_append_extract (a := data) (i := i) (j := j) (k := k)
  rw [Nat.min_eq_left h1, Nat.max_eq_right h2] at this
  rw [← this, ByteArray.data_append, Array.toList_append]

theorem sp_bytes (data : ByteArray) : ∀ (m pos : Nat) (l : List S94) (e : Nat), pos ≤ data.size → sp data m pos = some (l, e) → l.flatMap pairBytes = (data.extract pos e).data.toList := by
  intro m
  induction m with
  | zero =>
    intro pos l e hp h
    simp only [sp, Option.some.injEq, Prod.mk.injEq] at h
    obtain ⟨rfl, rfl⟩ := h
    have : (data.extract pos pos).data.toList.length = 0 := by rw [ba_size, ByteArray.size_extract]; omega
    rw [List.length_eq_zero_iff.1 this]; rfl
  | succ m ih =>
    intro pos l e hp h
    rw [sp] at h
    by_cases c : data.size < pos + 6
    · rw [if_pos c] at h; cases h
    rw [if_neg c] at h
    by_cases c1 : data.size < pos + 6 + numN data pos 2 + numN data (pos + 2) 4
    · rw [if_pos c1] at h; cases h
    rw [if_neg c1] at h
    obtain ⟨⟨l', e'⟩, hs, hr⟩ := Option.map_eq_some_iff.1 h
    simp only [Prod.mk.injEq] at hr
    obtain ⟨rfl, rfl⟩ := hr
    have h1 := ih _ l' e' (by omega) hs
    have h3 := (sp_some data m _ l' e' (by omega) hs).2
    have z0 : (pairAt data pos).f0.size = numN data pos 2 := by unfold pairAt; rw [ByteArray.size_extract]; omega
    have z1 : (pairAt data pos).f1.size = numN data (pos + 2) 4 := by unfold pairAt; rw [ByteArray.size_extract]; omega
    rw [List.flatMap_cons, h1, pairBytes, z0, z1, be_numN data pos 2 (by omega) (by omega), be_numN data (pos + 2) 4 (by omega) (by omega)]
    unfold pairAt
    dsimp only
    rw [cut data _ _ _ (by omega) (by omega), ← List.append_assoc, cut data _ _ _ (by omega) (by omega), cut data _ _ _ (by omega) (by omega), cut data _ _ _ (by omega) (by omega)]

theorem samePairs_l0 (l : List S94) (hl : l.length ≤ 1000000) : ∀ (d i k : Nat), i + d = l.length → d < k → granarylaw3_samePairs.l0 k l l (i : Int) = some true := by
  intro d
  induction d with
  | zero =>
    intro i k hi hk
    obtain ⟨k, rfl⟩ : ∃ m, k = m + 1 := ⟨k - 1, by omega⟩
    rw [granarylaw3_samePairs.l0, if_neg (by omega)]
  | succ d ih =>
    intro i k hi hk
    obtain ⟨k, rfl⟩ : ∃ m, k = m + 1 := ⟨k - 1, by omega⟩
    rw [granarylaw3_samePairs.l0, if_pos (by omega), if_pos (by omega), if_pos (by omega), if_pos rfl, if_pos rfl, w64 ((i : Int) + 1) (by omega) (by omega)]
    exact ih (i + 1) k (by omega) (by omega)

theorem samePairs_self (l : List S94) (hl : l.length ≤ 1000000) (k : Nat) (hk : l.length < k) : granarylaw3_samePairs.f k l l = some true := by
  unfold granarylaw3_samePairs.f
  rw [if_pos rfl]
  exact samePairs_l0 l hl l.length 0 k (by omega) hk

end Go.Proofs.Ytkfhedppnlocpaa.Q
