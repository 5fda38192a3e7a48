/- Plain laws: one more pair, one more group, in their place. No condition. -/
import Derived.Test.YtkfhedppnlocpaaEV
import Derived.Test.YtkfhedppnlocpaaQx8
import Derived.Test.YtkfhedppnlocpaaQx9
set_option linter.unusedVariables false
set_option linter.unusedSimpArgs false
namespace Go.Proofs.Ytkfhedppnlocpaa.Q
open Go.RowKit Go.Proofs.YtkfhedppnlocpaaW.PrintWords Go.Proofs.YtkfhedppnlocpaaW.PrintLast

/-! ### Plain laws: one more in its place -/
section
variable {α : Type} (key : α → List UInt8)
/-- The list with one more, in its place; what had its key goes. -/
def putIn (l : List α) (p : α) (old : List α → α) : List α :=
  l.takeWhile (fun q => Op.bytesLess (key q) (key p)) ++ old (l.dropWhile (fun q => Op.bytesLess (key q) (key p))) :: (l.dropWhile (fun q => Op.bytesLess (key q) (key p))).filter (fun q => decide (key q ≠ key p))
def Up (l : List α) : Prop := l.Pairwise (fun a b => Op.bytesLess (key a) (key b) = true)
theorem up_tail_filter {l : List α} (p : α) : ∀ (q : α), Op.bytesLess (key q) (key p) = false → Up key (q :: l) → ∀ x ∈ (q :: l).filter (fun q => decide (key q ≠ key p)), Op.bytesLess (key p) (key x) = true := by
  intro q hq hu x hx
  obtain ⟨hm, hne⟩ := List.mem_filter.1 hx
  have hne' : key x ≠ key p := by simpa using hne
  rcases List.mem_cons.1 hm with rfl | hm
  · exact bl_up hq hne'
  · have h1 := (List.pairwise_cons.1 hu).1 x hm
    by_cases h2 : key q = key p
    · rw [← h2]; exact h1
    · exact bl_trans _ _ _ (bl_up hq h2) h1
theorem putIn_mem (l : List α) (p : α) (old : List α → α) : ∀ x ∈ putIn key l p old, x = old (l.dropWhile (fun q => Op.bytesLess (key q) (key p))) ∨ x ∈ l := by
  intro x hx
  unfold putIn at hx
  rcases List.mem_append.1 hx with h | h
  · exact .inr ((List.takeWhile_sublist _).subset h)
  · rcases List.mem_cons.1 h with rfl | h
    · exact .inl rfl
    · exact .inr ((List.dropWhile_sublist _).subset (List.mem_filter.1 h).1)
theorem putIn_cons_less (l : List α) (p q : α) (old : List α → α) (h : Op.bytesLess (key q) (key p) = true) : putIn key (q :: l) p old = q :: putIn key l p old := by
  unfold putIn
  rw [List.takeWhile_cons, List.dropWhile_cons, h]
  rfl
theorem putIn_cons_not (l : List α) (p q : α) (old : List α → α) (h : Op.bytesLess (key q) (key p) = false) : putIn key (q :: l) p old = old (q :: l) :: (q :: l).filter (fun q => decide (key q ≠ key p)) := by
  unfold putIn
  rw [List.takeWhile_cons, List.dropWhile_cons, h]
  rfl
theorem putIn_up (p : α) (old : List α → α) (hold : ∀ l, key (old l) = key p) : ∀ (l : List α), Up key l → Up key (putIn key l p old) := by
  intro l
  induction l with
  | nil => intro _; exact List.pairwise_singleton _ _
  | cons q l ih =>
    intro hu
    cases h : Op.bytesLess (key q) (key p) with
    | true =>
      rw [putIn_cons_less key l p q old h]
      refine List.pairwise_cons.2 ⟨fun x hx => ?_, ih (List.pairwise_cons.1 hu).2⟩
      rcases putIn_mem key l p old x hx with rfl | hx
      · rw [hold]; exact h
      · exact (List.pairwise_cons.1 hu).1 x hx
    | false =>
      rw [putIn_cons_not key l p q old h]
      refine List.pairwise_cons.2 ⟨fun x hx => ?_, hu.filter _⟩
      rw [hold]
      exact up_tail_filter key p q h hu x hx
theorem putIn_length (p : α) (old : List α → α) : ∀ (l : List α), (putIn key l p old).length ≤ l.length + 1 := by
  intro l
  induction l with
  | nil => simp [putIn]
  | cons q l ih =>
    cases h : Op.bytesLess (key q) (key p) with
    | true => rw [putIn_cons_less key l p q old h, List.length_cons, List.length_cons]; omega
    | false =>
      rw [putIn_cons_not key l p q old h, List.length_cons]
      have := List.length_filter_le (fun q => decide (key q ≠ key p)) (q :: l)
      omega
theorem sum_filter_le (wt : α → Nat) (p : α → Bool) (l : List α) : ((l.filter p).map wt).sum ≤ (l.map wt).sum := by
  induction l with
  | nil => simp
  | cons q l ih =>
    rw [List.filter_cons]
    split
    · simp only [List.map_cons, List.sum_cons]; omega
    · simp only [List.map_cons, List.sum_cons]; omega
/-- What it weighs. -/
theorem putIn_sum (wt : α → Nat) (c : Nat) (p : α) (old : List α → α) (h0 : wt (old []) ≤ c) (h1 : ∀ q l, key q ≠ key p → wt (old (q :: l)) ≤ c) (h2 : ∀ q l, key q = key p → wt (old (q :: l)) ≤ wt q + c) : ∀ (l : List α), ((putIn key l p old).map wt).sum ≤ (l.map wt).sum + c := by
  intro l
  induction l with
  | nil => simp [putIn]; exact h0
  | cons q l ih =>
    cases h : Op.bytesLess (key q) (key p) with
    | true => rw [putIn_cons_less key l p q old h]; simp only [List.map_cons, List.sum_cons]; omega
    | false =>
      rw [putIn_cons_not key l p q old h]
      by_cases he : key q = key p
      · have hf : (q :: l).filter (fun q => decide (key q ≠ key p)) = l.filter (fun q => decide (key q ≠ key p)) := by
          rw [List.filter_cons, if_neg (by simp [he])]
        rw [hf]
        have := sum_filter_le wt (fun q => decide (key q ≠ key p)) l
        have := h2 q l he
        simp only [List.map_cons, List.sum_cons]
        omega
      · have := sum_filter_le wt (fun q => decide (key q ≠ key p)) (q :: l)
        have := h1 q l he
        simp only [List.map_cons, List.sum_cons] at *
        omega
end
theorem up_asc {α : Type} (key : α → List UInt8) (z : α) (l : List α) (h : Up key l) : ∀ i, 0 < i → i < l.length → Op.bytesLess (key (l.getD (i - 1) z)) (key (l.getD i z)) = true := by
  intro i h0 hi
  have := List.pairwise_iff_getElem.1 h (i - 1) i (by omega) hi (by omega)
  rw [List.getD_eq_getElem?_getD, List.getD_eq_getElem?_getD, List.getElem?_eq_getElem (show i - 1 < l.length by omega), List.getElem?_eq_getElem hi]
  exact this
def k94' (q : S94) : List UInt8 := q.f0.toList
def k80' (g : S80) : List UInt8 := g.f0.toList
def putP (l : List S94) (p : S94) : List S94 := putIn k94' l p (fun _ => p)
/-- The group that takes the pair: of the group that was there, or a new one. -/
def newG (h : ByteArray) (p : S94) : List S80 → S80
  | [] => ⟨h, [p]⟩
  | g :: _ => ⟨h, if h.toList = g.f0.toList then putP g.f1 p else [p]⟩
def putG (L : List S80) (h : ByteArray) (p : S94) : List S80 := putIn k80' L ⟨h, []⟩ (newG h p)

theorem putPair_done (l : List S94) (p : S94) (hl : l.length ≤ 2000000000) : ∀ (d i k : Nat) (acc : List S94), i + d = l.length → 2 * d + 1 ≤ k → acc.length + d ≤ 4000000000 →
    granarylaw3_putPair.l0 k l acc true (i : Int) p.f0 p.f1 = some (acc ++ (l.drop i).filter (fun q => decide (k94' q ≠ k94' p))) := by
  intro d
  induction d with
  | zero =>
    intro i k acc hi hk ha
    obtain ⟨k, rfl⟩ : ∃ m, k = m + 1 := ⟨k - 1, by omega⟩
    rw [granarylaw3_putPair.l0, if_neg (by omega), if_pos rfl, List.drop_eq_nil_of_le (by omega)]
    simp
  | succ d ih =>
    intro i k acc hi hk ha
    obtain ⟨k, rfl⟩ : ∃ m, k = m + 2 := ⟨k - 2, by omega⟩
    have hr : rd_T94 l (i : Int) = l.getD i z94 := rfl
    rw [granarylaw3_putPair.l0, if_pos (by omega), if_pos rfl, granarylaw3_putPair.j1, if_neg (by decide), if_pos (by omega), if_pos (by omega), hr, w64 ((i : Int) + 1) (by omega) (by omega), drop_cons l i (by omega), List.filter_cons]
    by_cases c : (l.getD i z94).f0.toList = p.f0.toList
    · have hd : decide (k94' (l.getD i z94) ≠ k94' p) = false := decide_eq_false (fun h => h c)
      rw [if_pos c, hd]
      exact ih (i + 1) k acc (by omega) (by omega) (by omega)
    · have hd : decide (k94' (l.getD i z94) ≠ k94' p) = true := decide_eq_true c
      rw [if_neg c, hd, if_pos (by omega)]
      have := ih (i + 1) k (acc ++ [l.getD i z94]) (by omega) (by omega) (by rw [List.length_append]; simp; omega)
      rw [List.append_assoc] at this
      exact this
theorem putPair_to (l : List S94) (p : S94) (hl : l.length ≤ 2000000000) : ∀ (d i k : Nat) (acc : List S94), i + d = l.length → 2 * d + 1 ≤ k → acc.length + d ≤ 2000000000 →
    granarylaw3_putPair.l0 k l acc false (i : Int) p.f0 p.f1 = some (acc ++ putP (l.drop i) p) := by
  intro d
  induction d with
  | zero =>
    intro i k acc hi hk ha
    obtain ⟨k, rfl⟩ : ∃ m, k = m + 1 := ⟨k - 1, by omega⟩
    rw [granarylaw3_putPair.l0, if_neg (by omega), if_neg (by decide), if_pos (by omega), List.drop_eq_nil_of_le (by omega)]
    rfl
  | succ d ih =>
    intro i k acc hi hk ha
    obtain ⟨k, rfl⟩ : ∃ m, k = m + 2 := ⟨k - 2, by omega⟩
    have hr : rd_T94 l (i : Int) = l.getD i z94 := rfl
    rw [granarylaw3_putPair.l0, if_pos (by omega), if_neg (by decide), if_pos (by omega), hr, drop_cons l i (by omega)]
    unfold putP
    cases hb : Op.bytesLess (l.getD i z94).f0.toList p.f0.toList with
    | true =>
      rw [granarylaw3_putPair.j1, if_neg (by decide), if_pos (by omega), if_pos (by omega), hr, w64 ((i : Int) + 1) (by omega) (by omega), if_neg (bl_ne hb), if_pos (by omega), putIn_cons_less k94' _ p _ _ hb]
      have := ih (i + 1) k (acc ++ [l.getD i z94]) (by omega) (by omega) (by rw [List.length_append]; simp; omega)
      rw [List.append_assoc] at this
      exact this
    | false =>
      rw [granarylaw3_putPair.j1, if_pos (show (!false) = true from rfl), if_pos (by omega), Option.bind_some, if_pos (by omega), if_pos (by omega), hr, w64 ((i : Int) + 1) (by omega) (by omega), putIn_cons_not k94' _ p _ _ hb, List.filter_cons]
      by_cases c : (l.getD i z94).f0.toList = p.f0.toList
      · have hd : decide (k94' (l.getD i z94) ≠ k94' p) = false := decide_eq_false (fun h => h c)
        rw [if_pos c, hd]
        have := putPair_done l p hl d (i + 1) k (acc ++ [p]) (by omega) (by omega) (by rw [List.length_append]; simp; omega)
        rw [List.append_assoc] at this
        exact this
      · have hd : decide (k94' (l.getD i z94) ≠ k94' p) = true := decide_eq_true c
        rw [if_neg c, hd, if_pos (by rw [List.length_append]; simp; omega)]
        refine (putPair_done l p hl d (i + 1) k (acc ++ [p] ++ [l.getD i z94]) (by omega) (by omega) (by rw [List.length_append, List.length_append]; simp; omega)).trans ?_
        simp only [List.append_assoc]
        rfl
theorem putPair_tells (l : List S94) (p : S94) (hl : l.length ≤ 1000000000) (k : Nat) (hk : 2 * l.length + 1 ≤ k) : granarylaw3_putPair.f k l p.f0 p.f1 = some (putP l p) := by
  have := putPair_to l p (by omega) l.length 0 k [] (by omega) hk (by simp; omega)
  rw [List.drop_zero, List.nil_append] at this
  exact this
theorem drop_cons80 (l : List S80) (i : Nat) (h : i < l.length) : l.drop i = l.getD i z80 :: l.drop (i + 1) := by
  rw [List.drop_eq_getElem_cons h, List.getD_eq_getElem?_getD, List.getElem?_eq_getElem h]; rfl
theorem putGroup_done (L : List S80) (h : ByteArray) (p : S94) (hl : L.length ≤ 2000000000) : ∀ (d i k : Nat) (acc : List S80), i + d = L.length → 2 * d + 1 ≤ k → acc.length + d ≤ 3000000000 →
    granarylaw3_putGroup.l0 k L h acc true (i : Int) p.f0 p.f1 = some (acc ++ (L.drop i).filter (fun q => decide (k80' q ≠ k80' ⟨h, []⟩))) := by
  intro d
  induction d with
  | zero =>
    intro i k acc hi hk ha
    obtain ⟨k, rfl⟩ : ∃ m, k = m + 1 := ⟨k - 1, by omega⟩
    rw [granarylaw3_putGroup.l0, if_neg (by omega), if_pos rfl, List.drop_eq_nil_of_le (by omega)]
    simp
  | succ d ih =>
    intro i k acc hi hk ha
    obtain ⟨k, rfl⟩ : ∃ m, k = m + 2 := ⟨k - 2, by omega⟩
    have hr : rd_T80 L (i : Int) = L.getD i z80 := rfl
    rw [granarylaw3_putGroup.l0, if_pos (by omega), if_pos rfl, granarylaw3_putGroup.j1, if_neg (by decide), if_pos (by omega), if_pos (by omega), hr, w64 ((i : Int) + 1) (by omega) (by omega), drop_cons80 L i (by omega), List.filter_cons]
    by_cases c : (L.getD i z80).f0.toList = h.toList
    · have hd : decide (k80' (L.getD i z80) ≠ k80' ⟨h, []⟩) = false := decide_eq_false (fun h => h c)
      rw [if_pos c, hd]
      exact ih (i + 1) k acc (by omega) (by omega) (by omega)
    · have hd : decide (k80' (L.getD i z80) ≠ k80' ⟨h, []⟩) = true := decide_eq_true c
      rw [if_neg c, hd, if_pos (by omega)]
      have := ih (i + 1) k (acc ++ [L.getD i z80]) (by omega) (by omega) (by rw [List.length_append]; simp; omega)
      rw [List.append_assoc] at this
      exact this
theorem putGroup_to (L : List S80) (h : ByteArray) (p : S94) (hl : L.length ≤ 2000000000) (m : Nat) (hm : ∀ g ∈ L, g.f1.length ≤ m) (hm2 : m ≤ 1000000000) : ∀ (d i k : Nat) (acc : List S80), i + d = L.length → 2 * d + 2 * m + 2 ≤ k → acc.length + d ≤ 2000000000 →
    granarylaw3_putGroup.l0 k L h acc false (i : Int) p.f0 p.f1 = some (acc ++ putG (L.drop i) h p) := by
  intro d
  induction d with
  | zero =>
    intro i k acc hi hk ha
    obtain ⟨k, rfl⟩ : ∃ m, k = m + 1 := ⟨k - 1, by omega⟩
    rw [granarylaw3_putGroup.l0, if_neg (by omega), if_neg (by decide), if_pos (by omega), List.drop_eq_nil_of_le (by omega)]
    rfl
  | succ d ih =>
    intro i k acc hi hk ha
    obtain ⟨k, rfl⟩ : ∃ m, k = m + 2 := ⟨k - 2, by omega⟩
    have hr : rd_T80 L (i : Int) = L.getD i z80 := rfl
    have hgm : (L.getD i z80).f1.length ≤ m := by
      rw [List.getD_eq_getElem?_getD, List.getElem?_eq_getElem (by omega)]
      exact hm _ (List.getElem_mem _)
    rw [granarylaw3_putGroup.l0, if_pos (by omega), if_neg (by decide), if_pos (by omega), hr, drop_cons80 L i (by omega)]
    unfold putG
    cases hb : Op.bytesLess (L.getD i z80).f0.toList h.toList with
    | true =>
      rw [granarylaw3_putGroup.j1, if_neg (by decide), if_pos (by omega), if_pos (by omega), hr, w64 ((i : Int) + 1) (by omega) (by omega), if_neg (bl_ne hb), if_pos (by omega), putIn_cons_less k80' _ ⟨h, []⟩ _ _ hb]
      have := ih (i + 1) k (acc ++ [L.getD i z80]) (by omega) (by omega) (by rw [List.length_append]; simp; omega)
      rw [List.append_assoc] at this
      exact this
    | false =>
      rw [granarylaw3_putGroup.j1, if_pos (show (!false) = true from rfl), if_pos (by omega), if_pos (by omega), hr, w64 ((i : Int) + 1) (by omega) (by omega), putIn_cons_not k80' _ ⟨h, []⟩ _ _ hb, List.filter_cons]
      by_cases c : (L.getD i z80).f0.toList = h.toList
      · have hd : decide (k80' (L.getD i z80) ≠ k80' ⟨h, []⟩) = false := decide_eq_false (fun h => h c)
        rw [if_pos c.symm, putPair_tells _ p (by omega) k (by omega), Option.bind_some, if_pos (by omega), Option.bind_some, if_pos c, hd]
        have := putGroup_done L h p hl d (i + 1) k (acc ++ [newG h p (L.getD i z80 :: L.drop (i + 1))]) (by omega) (by omega) (by rw [List.length_append]; simp; omega)
        rw [List.append_assoc] at this
        rw [newG, if_pos c.symm] at this ⊢
        exact this
      · have hd : decide (k80' (L.getD i z80) ≠ k80' ⟨h, []⟩) = true := decide_eq_true c
        rw [if_neg (fun e => c e.symm), if_pos (by omega), Option.bind_some, if_neg c, hd, if_pos (by rw [List.length_append]; simp; omega)]
        rw [newG, if_neg (fun e => c e.symm)]
        refine (putGroup_done L h p hl d (i + 1) k (acc ++ [⟨h, [p]⟩] ++ [L.getD i z80]) (by omega) (by omega) (by rw [List.length_append, List.length_append]; simp; omega)).trans ?_
        simp only [List.append_assoc]
        rfl
theorem putGroup_tells (L : List S80) (h : ByteArray) (p : S94) (hl : L.length ≤ 1000000000) (m : Nat) (hm : ∀ g ∈ L, g.f1.length ≤ m) (hm2 : m ≤ 1000000000) (k : Nat) (hk : 2 * L.length + 2 * m + 2 ≤ k) : granarylaw3_putGroup.f k L h p.f0 p.f1 = some (putG L h p) := by
  have := putGroup_to L h p (by omega) m hm hm2 L.length 0 k [] (by omega) hk (by simp; omega)
  rw [List.drop_zero, List.nil_append] at this
  exact this

end Go.Proofs.Ytkfhedppnlocpaa.Q
