/- Plain laws: the groups that made makes may be. No condition. -/
import Derived.Test.YtkfhedppnlocpaaK0
import Derived.Test.YtkfhedppnlocpaaQx10
import Derived.Test.YtkfhedppnlocpaaQx11
set_option linter.unusedVariables false
set_option linter.unusedSimpArgs false
namespace Go.Proofs.Ytkfhedppnlocpaa.Q
open Go.RowKit Go.Proofs.YtkfhedppnlocpaaW.PrintWords Go.Proofs.YtkfhedppnlocpaaW.PrintLast

/-! ### Plain laws: groups that may be -/
def wG (g : S80) : Nat := 2 + sz g.f1
def total (L : List S80) : Nat := (L.map wG).sum
def fullF (f : Nat) : List S80 → Nat
  | [] => f
  | g :: l => fullF (max f g.f1.length) l
theorem fullF_le : ∀ (L : List S80) (f m : Nat), fullF f L ≤ m → f ≤ m ∧ ∀ g ∈ L, g.f1.length ≤ m := by
  intro L
  induction L with
  | nil => intro f m h; exact ⟨h, fun g hg => by cases hg⟩
  | cons g l ih =>
    intro f m h
    obtain ⟨h1, h2⟩ := ih _ _ h
    refine ⟨by omega, fun x hx => ?_⟩
    rcases List.mem_cons.1 hx with rfl | hx
    · omega
    · exact h2 x hx
def wcost : List S80 → Nat
  | [] => 1
  | g :: l => g.f1.length + 3 + wcost l
theorem sz_len (l : List S94) : 6 * l.length ≤ sz l := by
  induction l with
  | nil => simp [sz]
  | cons p l ih => simp only [sz, List.length_cons]; omega
theorem wcost_le : ∀ (L : List S80), wcost L ≤ 2 * total L + 1 := by
  intro L
  induction L with
  | nil => simp [wcost, total]
  | cons g l ih =>
    have := sz_len g.f1
    simp only [wcost, total, List.map_cons, List.sum_cons, wG] at *
    omega
theorem total_len : ∀ (L : List S80), 2 * L.length ≤ total L := by
  intro L
  induction L with
  | nil => simp [total]
  | cons g l ih => simp only [total, List.map_cons, List.sum_cons, wG, List.length_cons] at *; omega
theorem weight_l (L : List S80) (hL : L.length ≤ 4194304) (hp : ∀ g ∈ L, g.f1.length ≤ 4194304) : ∀ (d i K n f : Nat), i + d = L.length → wcost (L.drop i) ≤ K → n + total (L.drop i) ≤ 1000000000000 →
    granarylaw3_weight.l0 K L (n : Int) (f : Int) (i : Int) = some (((n + total (L.drop i) : Nat) : Int), ((fullF f (L.drop i) : Nat) : Int)) := by
  intro d
  induction d with
  | zero =>
    intro i K n f hi hK hn
    rw [List.drop_eq_nil_of_le (by omega)] at hK ⊢
    obtain ⟨K, rfl⟩ : ∃ m, K = m + 1 := ⟨K - 1, by simp [wcost] at hK; omega⟩
    rw [granarylaw3_weight.l0, if_neg (by omega)]
    simp [total, fullF]
  | succ d ih =>
    intro i K n f hi hK hn
    rw [drop_cons80 L i (by omega)] at hK hn ⊢
    rw [wcost] at hK
    have hg : rd_T80 L (i : Int) = L.getD i z80 := rfl
    have hgm : (L.getD i z80).f1.length ≤ 4194304 := by
      rw [List.getD_eq_getElem?_getD, List.getElem?_eq_getElem (by omega)]
      exact hp _ (List.getElem_mem _)
    generalize L.getD i z80 = G at *
    have ht : total (G :: L.drop (i + 1)) = 2 + sz G.f1 + total (L.drop (i + 1)) := by simp [total, wG]
    rw [ht] at hn ⊢
    have inner : ∀ (e j K n f : Nat), j + e = G.f1.length → e + 1 + wcost (L.drop (i + 1)) ≤ K → n + sz (G.f1.drop j) + total (L.drop (i + 1)) ≤ 1000000000000 →
        granarylaw3_weight.l1 K L (n : Int) (f : Int) (i : Int) (j : Int) = some (((n + sz (G.f1.drop j) + total (L.drop (i + 1)) : Nat) : Int), ((fullF f (L.drop (i + 1)) : Nat) : Int)) := by
      intro e
      induction e with
      | zero =>
        intro j K n f hj hK hn
        obtain ⟨K, rfl⟩ : ∃ m, K = m + 1 := ⟨K - 1, by omega⟩
        rw [granarylaw3_weight.l1, if_pos (by omega), if_pos (by omega), hg, if_neg (by omega), w64 ((i : Int) + 1) (by omega) (by omega)]
        rw [List.drop_eq_nil_of_le (show G.f1.length ≤ j by omega)] at hn ⊢
        have := ih (i + 1) K n f (by omega) (by omega) (by simp only [sz] at hn; omega)
        rw [show ((i + 1 : Nat) : Int) = (i : Int) + 1 by omega] at this
        rw [this]
        simp [sz]
      | succ e ih2 =>
        intro j K n f hj hK hn
        obtain ⟨K, rfl⟩ : ∃ m, K = m + 1 := ⟨K - 1, by omega⟩
        have hrj : rd_T94 G.f1 (j : Int) = G.f1.getD j z94 := rfl
        rw [drop_cons G.f1 j (by omega)] at hn ⊢
        rw [granarylaw3_weight.l1, if_pos (by omega), if_pos (by omega), hg, if_pos (by omega), if_pos (by omega), hrj]
        generalize G.f1.getD j z94 = q at *
        simp only [sz] at hn ⊢
        rw [w64 ((n : Int) + 6) (by omega) (by omega), w64 ((n : Int) + 6 + (q.f0.size : Int)) (by omega) (by omega), w64 ((n : Int) + 6 + (q.f0.size : Int) + (q.f1.size : Int)) (by omega) (by omega), w64 ((j : Int) + 1) (by omega) (by omega)]
        have := ih2 (j + 1) K (n + 6 + q.f0.size + q.f1.size) f (by omega) (by omega) (by omega)
        rw [show ((n + 6 + q.f0.size + q.f1.size : Nat) : Int) = (n : Int) + 6 + (q.f0.size : Int) + (q.f1.size : Int) by omega, show ((j + 1 : Nat) : Int) = (j : Int) + 1 by omega] at this
        rw [this]
        congr 3
        omega
    obtain ⟨K, rfl⟩ : ∃ m, K = m + 2 := ⟨K - 2, by omega⟩
    have hin := fun f' => inner G.f1.length 0 K (n + 2) f' (by omega) (by omega) (by rw [List.drop_zero]; omega)
    rw [show ((n + 2 : Nat) : Int) = (n : Int) + 2 by omega, List.drop_zero] at hin
    rw [granarylaw3_weight.l0, if_pos (by omega), if_pos (by omega), hg, w64 ((n : Int) + 2) (by omega) (by omega), fullF]
    by_cases c : (G.f1.length : Int) > (f : Int)
    · rw [if_pos c, granarylaw3_weight.j1]
      have := hin G.f1.length
      rw [show max f G.f1.length = G.f1.length by omega]
      refine this.trans ?_
      congr 3
      omega
    · rw [if_neg c, granarylaw3_weight.j1]
      have := hin f
      rw [show max f G.f1.length = f by omega]
      refine this.trans ?_
      congr 3
      omega
theorem weight_tells (L : List S80) (hL : L.length ≤ 4194304) (hp : ∀ g ∈ L, g.f1.length ≤ 4194304) (hn : total L ≤ 1000000000) (K : Nat) (hK : 2 * total L + 1 ≤ K) : granarylaw3_weight.f K L = some ((total L : Int), (fullF 0 L : Int)) := by
  have := weight_l L hL hp L.length 0 K 0 0 (by omega) (by rw [List.drop_zero]; have := wcost_le L; omega) (by rw [List.drop_zero]; omega)
  rw [List.drop_zero, Nat.zero_add] at this
  exact this

structure GoodG (wn : Nat) (L : List S80) : Prop where
  up : Up k80' L
  hs : ∀ g ∈ L, g.f0.size = wn
  pu : ∀ g ∈ L, Up k94' g.f1
  ne : ∀ g ∈ L, 1 ≤ g.f1.length
  le : ∀ g ∈ L, g.f1.length ≤ 512
  pk : ∀ g ∈ L, ∀ p ∈ g.f1, 1 ≤ p.f0.size ∧ p.f0.size ≤ 255 ∧ p.f1.size ≤ 4096
  wt : total L ≤ 65536
theorem GoodG.nil (wn : Nat) : GoodG wn [] := ⟨List.Pairwise.nil, fun g h => (by cases h), fun g h => (by cases h), fun g h => (by cases h), fun g h => (by cases h), fun g h => (by cases h), Nat.zero_le _⟩
theorem sz_sum (l : List S94) : sz l = (l.map fun p => 6 + p.f0.size + p.f1.size).sum := by
  induction l with
  | nil => rfl
  | cons p l ih => simp [sz, ih]
theorem putP_sz (l : List S94) (p : S94) : sz (putP l p) ≤ sz l + (6 + p.f0.size + p.f1.size) := by
  rw [sz_sum, sz_sum]
  exact putIn_sum k94' _ _ p (fun _ => p) (Nat.le_refl _) (fun _ _ _ => Nat.le_refl _) (fun _ _ _ => Nat.le_add_left _ _) l
theorem putG_total (L : List S80) (h : ByteArray) (p : S94) : total (putG L h p) ≤ total L + (8 + p.f0.size + p.f1.size) := by
  refine putIn_sum k80' wG _ ⟨h, []⟩ (newG h p) ?_ (fun q l hne => ?_) (fun q l he => ?_) L
  · simp only [newG, wG, sz]; omega
  · have : ¬ h.toList = q.f0.toList := fun e => hne e.symm
    simp only [newG, if_neg this, wG, sz]; omega
  · have : h.toList = q.f0.toList := he.symm
    have h2 := putP_sz q.f1 p
    simp only [newG, if_pos this, wG]; omega
theorem newG_or (h : ByteArray) (p : S94) (L l : List S80) (hl : ∀ x ∈ l, x ∈ L) : newG h p l = ⟨h, [p]⟩ ∨ ∃ g ∈ L, newG h p l = ⟨h, putP g.f1 p⟩ := by
  cases l with
  | nil => exact .inl rfl
  | cons g l =>
    by_cases c : h.toList = g.f0.toList
    · exact .inr ⟨g, hl g (by simp), by simp only [newG, if_pos c]⟩
    · exact .inl (by simp only [newG, if_neg c])
theorem putG_mem (L : List S80) (h : ByteArray) (p : S94) : ∀ x ∈ putG L h p, x = ⟨h, [p]⟩ ∨ (∃ g ∈ L, x = ⟨h, putP g.f1 p⟩) ∨ x ∈ L := by
  intro x hx
  rcases putIn_mem k80' L ⟨h, []⟩ (newG h p) x hx with rfl | hx
  · rcases newG_or h p L _ (fun x hx => (List.dropWhile_sublist _).subset hx) with e | ⟨g, hg, e⟩
    · exact .inl e
    · exact .inr (.inl ⟨g, hg, e⟩)
  · exact .inr (.inr hx)
theorem putP_mem (l : List S94) (p : S94) : ∀ x ∈ putP l p, x = p ∨ x ∈ l := putIn_mem k94' l p (fun _ => p)
theorem putP_pos (l : List S94) (p : S94) : 1 ≤ (putP l p).length := by
  unfold putP putIn
  simp only [List.length_append, List.length_cons]
  omega
theorem GoodG.put {wn : Nat} {L : List S80} (H : GoodG wn L) (h : ByteArray) (p : S94) (hh : h.size = wn) (hp : 1 ≤ p.f0.size ∧ p.f0.size ≤ 255 ∧ p.f1.size ≤ 4096) (ht : total (putG L h p) ≤ 65536) (hf : fullF 0 (putG L h p) ≤ 512) : GoodG wn (putG L h p) := by
  refine ⟨?_, fun x hx => ?_, fun x hx => ?_, fun x hx => ?_, (fullF_le _ _ _ hf).2, fun x hx q hq => ?_, ht⟩
  · refine putIn_up k80' ⟨h, []⟩ (newG h p) (fun l => ?_) L H.up
    cases l <;> rfl
  · rcases putG_mem L h p x hx with rfl | ⟨g, hg, rfl⟩ | hx
    · exact hh
    · exact hh
    · exact H.hs x hx
  · rcases putG_mem L h p x hx with rfl | ⟨g, hg, rfl⟩ | hx
    · exact List.pairwise_singleton _ _
    · exact putIn_up k94' p (fun _ => p) (fun _ => rfl) g.f1 (H.pu g hg)
    · exact H.pu x hx
  · rcases putG_mem L h p x hx with rfl | ⟨g, hg, rfl⟩ | hx
    · exact Nat.le_refl _
    · exact putP_pos _ _
    · exact H.ne x hx
  · rcases putG_mem L h p x hx with rfl | ⟨g, hg, rfl⟩ | hx
    · obtain rfl := List.mem_singleton.1 hq
      exact hp
    · rcases putP_mem g.f1 p q hq with rfl | hq
      · exact hp
      · exact H.pk g hg q hq
    · exact H.pk x hx q hq
theorem fit_l (w : Nat) : ∀ (d K : Nat) (s : ByteArray), w ≤ s.size + d → d + 1 ≤ K → w ≤ 16 → ∃ t, granarylaw3_fit.l0 K (w : Int) s = some t ∧ t.size = w := by
  intro d
  induction d with
  | zero =>
    intro K s hd hK hw
    obtain ⟨K, rfl⟩ : ∃ m, K = m + 1 := ⟨K - 1, by omega⟩
    refine ⟨s.extract 0 w, ?_, by rw [ByteArray.size_extract]; omega⟩
    rw [granarylaw3_fit.l0, if_neg (by omega), if_pos (by omega), if_pos (by omega), Int.toNat_natCast]
  | succ d ih =>
    intro K s hd hK hw
    obtain ⟨K, rfl⟩ : ∃ m, K = m + 1 := ⟨K - 1, by omega⟩
    by_cases c : s.size < w
    · obtain ⟨t, h1, h2⟩ := ih K (s ++ ⟨#[0]⟩) (by rw [ByteArray.size_append]; show w ≤ s.size + 1 + d; omega) (by omega) hw
      refine ⟨t, ?_, h2⟩
      rw [granarylaw3_fit.l0, if_pos (by omega), if_pos (by omega)]
      exact h1
    · refine ⟨s.extract 0 w, ?_, by rw [ByteArray.size_extract]; omega⟩
      rw [granarylaw3_fit.l0, if_neg (by omega), if_pos (by omega), if_pos (by omega), Int.toNat_natCast]
theorem fit_tells (s : ByteArray) (w : Nat) (hw : w ≤ 16) (K : Nat) (hK : 20 ≤ K) : ∃ t, granarylaw3_fit.f K s (w : Int) = some t ∧ t.size = w := fit_l w 16 K s (by omega) (by omega) hw
theorem keyed_tells (s : ByteArray) : ∃ t, granarylaw3_keyed.f s = some t ∧ 1 ≤ t.size ∧ t.size ≤ 255 := by
  unfold granarylaw3_keyed.f
  by_cases c : s.toList = []
  · rw [if_pos c]; exact ⟨_, rfl, by decide, by decide⟩
  rw [if_neg c]
  have h0 : 1 ≤ s.size := by
    have := mt (toList_nil_iff s).2 c
    omega
  by_cases c2 : (s.size : Int) > 255
  · rw [if_pos c2, if_pos (by decide), if_pos (by omega)]
    exact ⟨_, rfl, by rw [ByteArray.size_extract]; omega, by rw [ByteArray.size_extract]; omega⟩
  · rw [if_neg c2]
    exact ⟨_, rfl, h0, by omega⟩
theorem valued_tells (s : ByteArray) : ∃ t, granarylaw3_valued.f s = some t ∧ t.size ≤ 4096 := by
  unfold granarylaw3_valued.f
  by_cases c2 : (s.size : Int) > 4096
  · rw [if_pos c2, if_pos (by decide), if_pos (by omega)]
    exact ⟨_, rfl, by rw [ByteArray.size_extract]; omega⟩
  · rw [if_neg c2]
    exact ⟨_, rfl, by omega⟩
theorem made_l (wn : Nat) (hw : wn ≤ 16) (P : List S97) (hP : P.length ≤ 4194304) : ∀ (d i K : Nat) (L : List S80), i + d = P.length → d + 1000000 ≤ K → GoodG wn L → ∃ R, granarylaw3_made.l0 K (wn : Int) P L (i : Int) = some R ∧ GoodG wn R := by
  intro d
  induction d with
  | zero =>
    intro i K L hi hK H
    obtain ⟨K, rfl⟩ : ∃ m, K = m + 1 := ⟨K - 1, by omega⟩
    exact ⟨L, by rw [granarylaw3_made.l0, if_neg (by omega)], H⟩
  | succ d ih =>
    intro i K L hi hK H
    obtain ⟨K, rfl⟩ : ∃ m, K = m + 1 := ⟨K - 1, by omega⟩
    rw [granarylaw3_made.l0, if_pos (by omega), if_pos (by omega), w64 ((i : Int) + 1) (by omega) (by omega)]
    generalize rd_T97 P (i : Int) = q
    obtain ⟨h, e1, h1⟩ := fit_tells q.f0 wn hw K (by omega)
    obtain ⟨k, e2, h2⟩ := keyed_tells q.f1
    obtain ⟨v, e3, h3⟩ := valued_tells q.f2
    have hlen := total_len L
    have hwt := H.wt
    have e4 := putGroup_tells L h ⟨k, v⟩ (by omega) 512 H.le (by omega) K (by omega)
    have htot := putG_total L h ⟨k, v⟩
    dsimp only at htot e4
    have e5 := weight_tells (putG L h ⟨k, v⟩) (by have := putIn_length k80' ⟨h, []⟩ (newG h ⟨k, v⟩) L; show (putIn _ _ _ _).length ≤ _; omega) (fun x hx => by
      rcases putG_mem L h ⟨k, v⟩ x hx with rfl | ⟨g, hg, rfl⟩ | hx
      · show 1 ≤ _; omega
      · have h1 := putIn_length k94' ⟨k, v⟩ (fun _ => ⟨k, v⟩) g.f1
        have h2 := H.le g hg
        show (putP g.f1 ⟨k, v⟩).length ≤ _
        unfold putP
        omega
      · have := H.le x hx; omega) (by omega) K (by omega)
    rw [e1, Option.bind_some, e2, Option.bind_some, e3, Option.bind_some, e4, Option.bind_some, e5, Option.bind_some]
    dsimp only
    have hn : ((i + 1 : Nat) : Int) = (i : Int) + 1 := by omega
    by_cases c1 : (total (putG L h ⟨k, v⟩) : Int) ≤ 65536
    · by_cases c2 : (fullF 0 (putG L h ⟨k, v⟩) : Int) ≤ 512
      · rw [if_pos c1, if_pos c2, ← hn]
        exact ih (i + 1) K _ (by omega) (by omega) (H.put h ⟨k, v⟩ h1 ⟨h2.1, h2.2, h3⟩ (by omega) (by omega))
      · rw [if_pos c1, if_neg c2, ← hn]
        exact ih (i + 1) K _ (by omega) (by omega) H
    · rw [if_neg c1, ← hn]
      exact ih (i + 1) K _ (by omega) (by omega) H
theorem made_good (wn : Nat) (hw : wn ≤ 16) (P : List S97) (hP : P.length ≤ 4194304) : ∃ R, granarylaw3_made.f 6000000 (wn : Int) P = some R ∧ GoodG wn R := made_l wn hw P hP P.length 0 6000000 [] (by omega) (by omega) (GoodG.nil wn)

end Go.Proofs.Ytkfhedppnlocpaa.Q
