/- Plain laws: what Lookup answers; keys that rise; Among tells it. No condition. -/
import Derived.Test.YtkfhedppnlocpaaEO
import Derived.Test.YtkfhedppnlocpaaE9
import Derived.Test.YtkfhedppnlocpaaQx7
set_option linter.unusedVariables false
set_option linter.unusedSimpArgs false
namespace Go.Proofs.Ytkfhedppnlocpaa.Q
open Go.RowKit Go.Proofs.YtkfhedppnlocpaaW.PrintWords Go.Proofs.YtkfhedppnlocpaaW.PrintLast

/-! ### Plain laws: looking up -/
theorem bl_trans : ∀ (x y z : List UInt8), Op.bytesLess x y = true → Op.bytesLess y z = true → Op.bytesLess x z = true
  | [], [], _, h, _ => by cases h
  | [], _ :: _, [], _, h => by cases h
  | [], _ :: _, _ :: _, _, _ => rfl
  | _ :: _, [], _, h, _ => by cases h
  | _ :: _, _ :: _, [], _, h => by cases h
  | a :: x, b :: y, c :: z, h1, h2 => by
    simp only [Op.bytesLess, Bool.or_eq_true, Bool.and_eq_true, decide_eq_true_eq, beq_iff_eq] at h1 h2 ⊢
    rcases h1 with h1 | ⟨rfl, h1⟩ <;> rcases h2 with h2 | ⟨rfl, h2⟩
    · exact .inl (UInt8.lt_trans h1 h2)
    · exact .inl h1
    · exact .inl h2
    · exact .inr ⟨rfl, bl_trans x y z h1 h2⟩
theorem bl_ne {x y : List UInt8} (h : Op.bytesLess x y = true) : x ≠ y := by
  rintro rfl
  rw [bl_irrefl] at h
  cases h
theorem bl_up {x y : List UInt8} (h : Op.bytesLess x y = false) (hn : x ≠ y) : Op.bytesLess y x = true := by
  have := bl_total x y
  rw [h, Bool.false_or] at this
  have e : (x == y) = false := by simpa using hn
  rw [e] at this
  cases hb : Op.bytesLess y x with
  | true => rfl
  | false => rw [hb] at this; cases this
/-- Keys that rise from each to the next rise altogether. -/
theorem asc_all (K : Nat → List UInt8) (n : Nat) (h : ∀ i, 0 < i → i < n → Op.bytesLess (K (i - 1)) (K i) = true) : ∀ b a, a < b → b < n → Op.bytesLess (K a) (K b) = true := by
  intro b
  induction b with
  | zero => intro a ha; omega
  | succ b ih =>
    intro a ha hb
    have h1 := h (b + 1) (by omega) hb
    rw [Nat.add_sub_cancel] at h1
    rcases Nat.lt_or_ge a b with h2 | h2
    · exact bl_trans _ _ _ (ih a h2 (by omega)) h1
    · obtain rfl : a = b := by omega
      exact h1
theorem asc_mono (K : Nat → List UInt8) (n : Nat) (h : ∀ i, 0 < i → i < n → Op.bytesLess (K (i - 1)) (K i) = true) (s : List UInt8) (a b : Nat) (hab : a ≤ b) (hb : b < n) (hp : (!Op.bytesLess (K a) s) = true) : (!Op.bytesLess (K b) s) = true := by
  rcases Nat.lt_or_ge a b with h1 | h1
  · have h2 := asc_all K n h b a h1 hb
    cases h3 : Op.bytesLess (K b) s with
    | false => rfl
    | true => rw [bl_trans _ _ _ h2 h3] at hp; cases hp
  · obtain rfl : a = b := by omega
    exact hp
/-- What halving found: the place, or that the key is not there. -/
theorem asc_found (K : Nat → List UInt8) (n : Nat) (h : ∀ i, 0 < i → i < n → Op.bytesLess (K (i - 1)) (K i) = true) (s : List UInt8) (r : Nat) (h0 : ∀ t, t < r → (!Op.bytesLess (K t) s) = false) (h1 : ∀ t, r ≤ t → t < n → (!Op.bytesLess (K t) s) = true) :
    (r < n → K r = s → ∀ t, t < n → t ≠ r → K t ≠ s) ∧ (¬ (r < n ∧ K r = s) → ∀ t, t < n → K t ≠ s) := by
  have hl : ∀ t, t < r → K t ≠ s := fun t ht => bl_ne (by have := h0 t ht; simpa using this)
  refine ⟨fun hr he t ht hne => ?_, fun hn t ht => ?_⟩
  · rcases Nat.lt_or_ge t r with h2 | h2
    · exact hl t h2
    · have h3 := asc_all K n h t r (by omega) ht
      rw [he] at h3
      exact (bl_ne h3).symm
  · rcases Nat.lt_or_ge t r with h2 | h2
    · exact hl t h2
    · have hrn : r < n := by omega
      have hrs : K r ≠ s := fun he => hn ⟨hrn, he⟩
      have h3 : Op.bytesLess (K r) s = false := by have := h1 r (Nat.le_refl _) hrn; simpa using this
      have h4 := bl_up h3 hrs
      rcases Nat.lt_or_ge r t with h5 | h5
      · exact (bl_ne (bl_trans _ _ _ h4 (asc_all K n h t r h5 ht))).symm
      · obtain rfl : t = r := by omega
        exact hrs
def inPairs : List S94 → ByteArray → Option ByteArray
  | [], _ => none
  | p :: l, k => if p.f0.toList = k.toList then some p.f1 else inPairs l k
def amongF : List S80 → ByteArray → ByteArray → Option ByteArray
  | [], _, _ => none
  | g :: l, h, k => if g.f0.toList = h.toList then (inPairs g.f1 k).or (amongF l h k) else amongF l h k
def looked (o : Option ByteArray) : ByteArray × Bool := (o.getD ⟨#[]⟩, o.isSome)
def lookTail (wd : Int) (h k : ByteArray) : List S80 × Int → ByteArray × Bool × Int
  | (L, er) => if er ≠ 0 then (⟨#[]⟩, false, er) else if (h.size : Int) ≠ wd then (⟨#[]⟩, false, 34) else if k.size < 1 ∨ 255 < k.size then (⟨#[]⟩, false, 32) else ((looked (amongF L h k)).1, (looked (amongF L h k)).2, 0)
def lookF (wd : Int) (x d h k : ByteArray) : ByteArray × Bool × Int := lookTail wd h k (refF wd x d)
theorem inPairs_none (k : ByteArray) : ∀ (l : List S94), (∀ t, t < l.length → (l.getD t z94).f0.toList ≠ k.toList) → inPairs l k = none := by
  intro l
  induction l with
  | nil => intro _; rfl
  | cons p l ih =>
    intro h
    rw [inPairs, if_neg (show ¬ p.f0.toList = k.toList from h 0 (by simp))]
    exact ih fun t ht => h (t + 1) (by simpa using ht)
theorem inPairs_at (k : ByteArray) : ∀ (l : List S94) (r : Nat), r < l.length → (l.getD r z94).f0.toList = k.toList → (∀ t, t < l.length → t ≠ r → (l.getD t z94).f0.toList ≠ k.toList) → inPairs l k = some (l.getD r z94).f1 := by
  intro l
  induction l with
  | nil => intro r hr; exact absurd hr (Nat.not_lt_zero _)
  | cons p l ih =>
    intro r hr he hn
    cases r with
    | zero => rw [inPairs, if_pos (show p.f0.toList = k.toList from he)]; rfl
    | succ r =>
      rw [inPairs, if_neg (show ¬ p.f0.toList = k.toList from hn 0 (by simp) (by omega))]
      exact ih r (by simpa using hr) he fun t ht hne => hn (t + 1) (by simpa using ht) (by omega)
theorem amongF_none (h k : ByteArray) : ∀ (L : List S80), (∀ t, t < L.length → (L.getD t z80).f0.toList ≠ h.toList) → amongF L h k = none := by
  intro L
  induction L with
  | nil => intro _; rfl
  | cons g L ih =>
    intro hn
    rw [amongF, if_neg (show ¬ g.f0.toList = h.toList from hn 0 (by simp))]
    exact ih fun t ht => hn (t + 1) (by simpa using ht)
theorem amongF_at (h k : ByteArray) : ∀ (L : List S80) (r : Nat), r < L.length → (L.getD r z80).f0.toList = h.toList → (∀ t, t < L.length → t ≠ r → (L.getD t z80).f0.toList ≠ h.toList) → amongF L h k = inPairs (L.getD r z80).f1 k := by
  intro L
  induction L with
  | nil => intro r hr; exact absurd hr (Nat.not_lt_zero _)
  | cons g L ih =>
    intro r hr he hn
    cases r with
    | zero =>
      rw [amongF, if_pos (show g.f0.toList = h.toList from he), amongF_none h k L (fun t ht => hn (t + 1) (by simpa using ht) (by omega)), Option.or_none]
      rfl
    | succ r =>
      rw [amongF, if_neg (show ¬ g.f0.toList = h.toList from hn 0 (by simp) (by omega))]
      exact ih r (by simpa using hr) he fun t ht hne => hn (t + 1) (by simpa using ht) (by omega)
theorem rd2_good (d : ByteArray) (hd : d.size ≤ 140737488351232) : ∀ (n : Nat) (at_ : Int) (ps : List (List S94)) (f : Int), rd2 d n at_ = some (ps, f) → ∀ l ∈ ps, wrongF l = 0 := by
  intro n
  induction n with
  | zero => intro at_ ps f hr l hm; simp [rd2] at hr; rw [hr.1] at hm; cases hm
  | succ n ih =>
    intro at_ ps f hr l hm
    rw [rd2] at hr
    split at hr
    · cases hr
    · rename_i c
      replace c := Decidable.not_not.1 c
      obtain ⟨⟨ps', f'⟩, h1, h2⟩ := Option.map_eq_some_iff.1 hr
      simp only [Prod.mk.injEq] at h2
      rw [← h2.1, List.mem_cons] at hm
      rcases hm with rfl | hm
      · obtain ⟨⟨l, nx, er⟩, ht⟩ : ∃ t, rrF d at_ = t := ⟨_, rfl⟩
        rw [ht] at c ⊢
        dsimp only at c ⊢
        subst c
        obtain ⟨a, e, _, _, _, _, hrec⟩ := rrF_good d hd _ l nx ht
        unfold recF at hrec
        split at hrec
        · exact congrArg Prod.snd hrec
        · rename_i c; exact Decidable.not_not.1 c
      · exact ih _ _ _ h1 l hm
/-- What Decode takes: the hashes rise, each record's pairs may be. -/
theorem refF_good (wd : Int) (x d : ByteArray) (hd : d.size ≤ 140737488351232) (L : List S80) (h : refF wd x d = (L, 0)) :
    (∀ i, 0 < i → i < L.length → Op.bytesLess (L.getD (i - 1) z80).f0.toList (L.getD i z80).f0.toList = true) ∧ (∀ g ∈ L, wrongF g.f1 = 0) ∧ (∀ g ∈ L, (g.f0.size : Int) = wd) := by
  unfold refF at h
  by_cases c1 : wd < 1 ∨ 16 < wd
  · rw [if_pos c1] at h; exact absurd (congrArg Prod.snd h) (by simp)
  rw [if_neg c1] at h
  obtain ⟨wn, rfl⟩ : ∃ wn : Nat, wd = (wn : Int) := ⟨wd.toNat, by omega⟩
  rw [Int.toNat_natCast] at h
  by_cases c2 : x.size % (wn + 4) ≠ 0 ∨ upAll wn x (x.size / (wn + 4)) = false
  · rw [if_pos c2] at h; exact absurd (congrArg Prod.snd h) (by simp)
  rw [if_neg c2] at h
  by_cases c3 : 65536 < d.size
  · rw [if_pos c3] at h; exact absurd (congrArg Prod.snd h) (by simp)
  rw [if_neg c3] at h
  have hx : x.size = x.size / (wn + 4) * (wn + 4) := by
    have h1 := Nat.div_add_mod x.size (wn + 4)
    rw [Nat.mul_comm] at h1
    omega
  have hup : upAll wn x (x.size / (wn + 4)) = true := by
    cases hb : upAll wn x (x.size / (wn + 4)) with
    | true => rfl
    | false => exact absurd (.inr hb) c2
  generalize x.size / (wn + 4) = n at *
  cases hr : rd2 d n 0 with
  | none => rw [hr] at h; exact absurd (congrArg Prod.snd h) (by simp [refTail])
  | some r =>
    obtain ⟨ps, f⟩ := r
    rw [hr] at h
    unfold refTail at h
    dsimp only at h
    split at h
    · exact absurd (congrArg Prod.snd h) (by simp)
    have hl := rd2_len d n 0 ps f hr
    have hL : groupsOf wn x ps = L := by have := congrArg Prod.fst h; rwa [Int.toNat_natCast] at this
    subst hL
    have hgl : (groupsOf wn x ps).length = n := by unfold groupsOf; rw [List.length_map, List.length_zipIdx, hl]
    refine ⟨fun i hi0 hi => ?_, fun g hg => ?_, fun g hg => ?_⟩
    · rw [hgl] at hi
      have h1 := upAll_at hup i hi
      unfold upAt at h1
      rw [show (i == 0) = false by simp; omega, Bool.false_or] at h1
      rw [groupsOf_getD wn x ps i (by omega), groupsOf_getD wn x ps (i - 1) (by omega)]
      exact h1
    · unfold groupsOf at hg
      obtain ⟨p, hp, rfl⟩ := List.mem_map.1 hg
      exact rd2_good d hd n 0 ps f hr _ (List.fst_mem_of_mem_zipIdx hp)
    · unfold groupsOf at hg
      obtain ⟨p, hp, rfl⟩ := List.mem_map.1 hg
      show ((hashAt wn x p.2).size : Int) = _
      rw [hash_size wn x n p.2 hx (by have := List.snd_lt_of_mem_zipIdx hp; omega)]
theorem pairs_asc (l : List S94) (h : wrongF l = 0) : ∀ i, 0 < i → i < l.length → Op.bytesLess (l.getD (i - 1) z94).f0.toList (l.getD i z94).f0.toList = true := by
  intro i h0 hi
  have h1 := (wrongF_zero l h).2.2.1 i hi
  unfold pairErr at h1
  rw [tl, tl]
  split at h1
  · cases h1
  split at h1
  · cases h1
  rw [if_neg (by omega)] at h1
  split at h1
  · cases h1
  rename_i c
  split at h1
  · cases h1
  rename_i c2
  exact bl_up (by unfold key at c2; simpa using c2) c

/-! Among tells it -/
def cost : List S80 → Nat
  | [] => 1
  | g :: l => g.f1.length + 2 + cost l
theorem among_l (h k : ByteArray) (L : List S80) (hL : L.length ≤ 4194304) (hp : ∀ g ∈ L, g.f1.length ≤ 1000000) : ∀ (d i K : Nat), i + d = L.length → cost (L.drop i) ≤ K → granaryref3_Among.l0 K L h k (i : Int) = some (looked (amongF (L.drop i) h k)) := by
  intro d
  induction d with
  | zero =>
    intro i K hi hK
    have hn : L.drop i = [] := List.drop_eq_nil_of_le (by omega)
    rw [hn] at hK ⊢
    obtain ⟨K, rfl⟩ : ∃ m, K = m + 1 := ⟨K - 1, by simp [cost] at hK; omega⟩
    rw [granaryref3_Among.l0, if_neg (by omega)]
    rfl
  | succ d ih =>
    intro i K hi hK
    have hd : L.drop i = L.getD i z80 :: L.drop (i + 1) := by
      rw [List.drop_eq_getElem_cons (by omega), List.getD_eq_getElem?_getD, List.getElem?_eq_getElem (by omega)]
      rfl
    rw [hd] at hK ⊢
    rw [cost] at hK
    obtain ⟨K, rfl⟩ : ∃ m, K = m + 1 := ⟨K - 1, by omega⟩
    rw [granaryref3_Among.l0, if_pos (by omega)]
    have hg : rd_T80 L (i : Int) = L.getD i z80 := rfl
    have hb : (L.getD i z80).f1.length ≤ 1000000 := by
      rw [List.getD_eq_getElem?_getD, List.getElem?_eq_getElem (by omega)]
      exact hp _ (List.getElem_mem _)
    have inner : ∀ (e j K : Nat), j + e = (L.getD i z80).f1.length → e + 1 + cost (L.drop (i + 1)) ≤ K → granaryref3_Among.l1 K L h k (i : Int) (j : Int) = some (looked (if (L.getD i z80).f0.toList = h.toList then (inPairs ((L.getD i z80).f1.drop j) k).or (amongF (L.drop (i + 1)) h k) else amongF (L.drop (i + 1)) h k)) := by
      intro e
      induction e with
      | zero =>
        intro j K hj hK
        obtain ⟨K, rfl⟩ : ∃ m, K = m + 1 := ⟨K - 1, by omega⟩
        rw [granaryref3_Among.l1, if_pos (by omega), if_pos (by omega), hg, if_neg (by omega), w64 ((i : Int) + 1) (by omega) (by omega)]
        have := ih (i + 1) K (by omega) (by omega)
        rw [show ((i + 1 : Nat) : Int) = (i : Int) + 1 by omega] at this
        rw [this, List.drop_eq_nil_of_le (show (L.getD i z80).f1.length ≤ j by omega)]
        congr 2
        split
        · rfl
        · rfl
      | succ e ih2 =>
        intro j K hj hK
        obtain ⟨K, rfl⟩ : ∃ m, K = m + 1 := ⟨K - 1, by omega⟩
        have hdj : (L.getD i z80).f1.drop j = (L.getD i z80).f1.getD j z94 :: (L.getD i z80).f1.drop (j + 1) := drop_cons _ _ (by omega)
        have hrj : rd_T94 (L.getD i z80).f1 (j : Int) = (L.getD i z80).f1.getD j z94 := rfl
        have h2 := ih2 (j + 1) K (by omega) (by omega)
        rw [show ((j + 1 : Nat) : Int) = (j : Int) + 1 by omega] at h2
        rw [granaryref3_Among.l1, if_pos (by omega), if_pos (by omega), hg, if_pos (by omega), hrj, hdj, inPairs, w64 ((j : Int) + 1) (by omega) (by omega)]
        by_cases c1 : (L.getD i z80).f0.toList = h.toList
        · rw [if_pos c1, if_pos (by omega), if_pos c1]
          rw [if_pos c1] at h2
          by_cases c2 : ((L.getD i z80).f1.getD j z94).f0.toList = k.toList
          · rw [if_pos c2, if_pos c2]; rfl
          · rw [if_neg c2, if_neg c2]; exact h2
        · rw [if_neg c1, if_neg c1]
          rw [if_neg c1] at h2
          exact h2
    have := inner (L.getD i z80).f1.length 0 K (by omega) (by omega)
    rw [amongF]
    rw [List.drop_zero] at this
    exact this
theorem among_tells (L : List S80) (h k : ByteArray) (hL : L.length ≤ 4194304) (hp : ∀ g ∈ L, g.f1.length ≤ 1000000) : granaryref3_Among.f (cost L) L h k = some (looked (amongF L h k)) := by
  have := among_l h k L hL hp L.length 0 (cost L) (by omega) (Nat.le_refl _)
  rw [List.drop_zero] at this
  exact this

end Go.Proofs.Ytkfhedppnlocpaa.Q
