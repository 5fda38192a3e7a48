/- A region that draws its order and holds one writing call amid quiet operations: one walk serves every order. Condition: the Boolean check on the region. -/
import Derived.StillTailTactics
set_option linter.unusedVariables false
set_option linter.unusedSimpArgs false
namespace Go.Pivot
section
variable {P : Program} {ops : Array Oper} {md : Region.Mode}

/-- Everything behind n hangs on something between n and it. -/
def hangsB (md : Region.Mode) (ops : Array Oper) (n : Nat) : Bool :=
  (List.range ops.size).all fun t => decide (t ≤ n) || (List.range t).any fun s => decide (n ≤ s) && Region.waitsFor md ops t s

theorem quiet_behind {n : Nat} {listed : Array Bool} (hs : Region.sinkB md ops n = true) (hc : hangsB md ops n = true) (hn : n < ops.size) (inv : HeadInv md ops n listed) {i : Nat} (hi : i < n) (hu : listed.getD i true = false) :
    ∀ t, n ≤ t → t ∉ Region.ready md ops listed := by
  intro t ht hr
  obtain ⟨_, ot, hot, hall⟩ := mem_ready.1 hr
  have htlt : t < ops.size := (Array.getElem?_eq_some_iff.1 hot).1
  rcases Nat.eq_or_lt_of_le ht with rfl | hlt
  · -- the first op in the chain of waiters that n itself waits for
    have key : ∀ (d i : Nat), n - i ≤ d → i < n → listed.getD i true = false → False := by
      intro d
      induction d with
      | zero => intro i h1 h2; omega
      | succ d ih =>
        intro i h1 h2 h3
        obtain ⟨j, hj, hj2⟩ := List.any_eq_true.1 (List.all_eq_true.1 hs i (List.mem_range.2 h2))
        rw [Bool.and_eq_true, decide_eq_true_eq] at hj2
        obtain ⟨oj, hoj, e, he, hb, hon⟩ := Region.waitsFor_spec hj2.2
        have hjn := List.mem_range.1 hj
        rcases Nat.eq_or_lt_of_le (show j ≤ n by omega) with rfl | hjl
        · obtain rfl : oj = ot := Option.some.inj (hoj.symm.trans hot)
          have h4 := hall e he hb
          rw [hon, getD_both h3] at h4
          cases h4
        · cases hl : listed.getD j false with
          | true =>
            have h4 := inv.closed j oj hoj hl e he hb
            rw [hon, getD_both h3] at h4
            cases h4
          | false => exact ih j (by omega) hjl (getD_in (by rw [inv.size]; omega) hl)
    exact key (n - i) i (Nat.le_refl _) hi hu
  · have h1 := List.all_eq_true.1 hc t (List.mem_range.2 htlt)
    rw [Bool.or_eq_true, decide_eq_true_eq] at h1
    rcases h1 with h1 | h1
    · omega
    · obtain ⟨s, hsr, hs2⟩ := List.any_eq_true.1 h1
      rw [Bool.and_eq_true, decide_eq_true_eq] at hs2
      obtain ⟨o', ho', e, he, hb, hon⟩ := Region.waitsFor_spec hs2.2
      obtain rfl : o' = ot := Option.some.inj (ho'.symm.trans hot)
      have h4 := hall e he hb
      have hst := List.mem_range.1 hsr
      rw [hon, getD_both (inv.tail s hs2.1 (by omega))] at h4
      cases h4

variable {w : World}
theorem pull {n i : Nat} {oi : Oper} {v : Value} {L : Array Bool → Act → Prop} (hi : ops[i]? = some oi) (hsel : ∀ (j : Nat) (o : Oper) cs b, ops[j]? = some o → o.op ≠ .select cs b)
    (hs : Region.sinkB md ops n = true) (hc : hangsB md ops n = true) (hn : n < ops.size) (hin : i < n) (hdone : ∀ listed a, L listed a → ∀ j ∈ Region.ready md ops listed, n ≤ j) (f : Nat) :
    ∀ (listed : Array Bool) (a : Act), HeadInv md ops n listed →
      (∀ j oj, ops[j]? = some oj → j ≠ i → listed.getD j true = false → (∀ e ∈ oj.after, Region.binds md e = true → e.on ≠ i) → oi.apart ops oj = true) →
      i ∈ Region.ready md ops listed → YieldsAt P ops w oi v a → wpAnyL P md ops w n L f (listed.setIfInBounds i true) (a.put oi.dst v) → wpAnyL P md ops w n L (f + 1) listed a := by
  induction f with
  | zero =>
    intro listed a inv _ hr hy H
    have hun := (mem_ready.1 hr).1
    have ahead : ∀ j ∈ Region.ready md ops listed, j < n := fun j hj => Nat.lt_of_not_le fun h => quiet_behind hs hc hn inv hin hun j h hj
    refine ⟨List.ne_nil_of_mem hr, fun j hj => ⟨ahead j hj, ?_⟩⟩
    rcases Classical.em (j = i) with rfl | hji
    · exact hy.stOp hi H
    · have h1 := hdone _ _ H j (ready_mono hj hji)
      have h2 := ahead j hj
      omega
  | succ f ih =>
    intro listed a inv hfree hr hy H
    have hun := (mem_ready.1 hr).1
    have ahead : ∀ j ∈ Region.ready md ops listed, j < n := fun j hj => Nat.lt_of_not_le fun h => quiet_behind hs hc hn inv hin hun j h hj
    refine ⟨List.ne_nil_of_mem hr, fun j hj => ⟨ahead j hj, ?_⟩⟩
    rcases Classical.em (j = i) with rfl | hji
    · exact hy.stOp hi H
    obtain ⟨hjun, oj, hoj, hall⟩ := mem_ready.1 hj
    have hnot : ∀ e ∈ oj.after, Region.binds md e = true → e.on ≠ i := fun e he hb heq => by
      have h1 := hall e he hb
      rw [heq, getD_both hun] at h1
      cases h1
    have h2 := stOp_put hoj (hfree j oj hoj hji hjun hnot) (fun cs b => hsel i oi cs b hi) (fun cs b => hsel j oj cs b hoj) hy (H.2 j (ready_mono hj hji)).2
    refine stOp_mono (fun a' h3 => ih (listed.setIfInBounds j true) a' (inv.set hj (ahead j hj)) (fun k ok hk hki hu2 hno => hfree k ok hk hki ?_ hno) (ready_mono hr (Ne.symm hji)) h3.1 ?_) h2
    · rcases Classical.em (j = k) with rfl | hjk
      · exact hjun
      · rw [getD_set_ne true hjk] at hu2; exact hu2
    · rw [Array.setIfInBounds_comm _ _ hji]
      exact h3.2

/-- Ahead of n in whatever order, then n alone, then what is behind it in whatever order. -/
def walksB (md : Region.Mode) (ops : Array Oper) (g n : Nat) : Nat → Nat → Array Bool → Bool
  | 0, _, listed => decide (Region.ready md ops listed = [n]) && Region.lexFrom md ops g (n + 1) (listed.setIfInBounds n true)
  | f + 1, k, listed => (Region.ready md ops listed).contains k && Region.free md ops listed k && walksB md ops g n f (k + 1) (listed.setIfInBounds k true)

def pivotB (md : Region.Mode) (ops : Array Oper) (n : Nat) : Bool :=
  Region.noSelect ops && (decide (n < ops.size) && (Region.sinkB md ops n && (hangsB md ops n && walksB md ops (ops.size - n - 1) n n 0 (Array.replicate ops.size false))))

theorem head_lex {n g : Nat} {Lq : Act → Prop} (hsel : Region.noSelect ops = true) (hs : Region.sinkB md ops n = true) (hc : hangsB md ops n = true) (hn : n < ops.size) :
    ∀ (l : List Oper) (k : Nat) (listed : Array Bool) (a : Act), (∀ j, j < l.length → l[j]? = ops[k + j]?) → k + l.length = n → HeadInv md ops n listed → walksB md ops g n l.length k listed = true → wpStill P ops w Lq l a →
    wpAnyL P md ops w n (fun listed' a' => (Region.ready md ops listed' = [n] ∧ Region.lexFrom md ops g (n + 1) (listed'.setIfInBounds n true) = true) ∧ Lq a') l.length listed a := by
  intro l
  induction l with
  | nil =>
    intro k listed a _ hk _ hB h
    simp only [List.length_nil, walksB, Bool.and_eq_true, decide_eq_true_eq] at hB
    exact ⟨hB, h⟩
  | cons o l ih =>
    intro k listed a hl hk inv hB h
    have h0 : ops[k]? = some o := by simpa using (hl 0 (by simp)).symm
    simp only [List.length_cons, walksB, Bool.and_eq_true] at hB
    have hkn : k < n := by simp only [List.length_cons] at hk; omega
    have hr' : k ∈ Region.ready md ops listed := by simpa using hB.1.1
    have hst : stOp P ops w k (wpStill P ops w Lq l) a := by unfold stOp; simp only [h0]; exact h
    obtain ⟨v, hy, hK⟩ := yieldsAt_of_stOp h0 hst
    refine pull h0 (Region.noSelect_spec hsel) hs hc hn hkn (fun listed' a' hL j hj => ?_) l.length listed a inv (Region.free_spec h0 hB.1.2) hr' hy
      (ih (k + 1) _ _ (fun j hj => by have := hl (j + 1) (by simp; omega); simpa [Nat.add_assoc, Nat.add_comm 1 j] using this) (by simp only [List.length_cons] at hk; omega) (inv.set hr' hkn) hB.2 hK)
    rw [hL.1.1, List.mem_singleton] at hj
    omega

/-- What holds behind the one operation that writes: the rest, in the world that it left. -/
def Behind (P : Program) (ops : Array Oper) (Q : Exit → Act → World → Prop) (rest : List Oper) : Exit → Act → World → Prop
  | .normal, a, w => wpStill P ops w (fun a' => Q .normal a' w) rest a
  | e, a, w => Q e a w

theorem wp_region_pivot {id : Nat} {Q : Exit → Act → World → Prop} {a : Act} {l : List Oper} (n : Nat) (o : Oper) (rest : List Oper) (hd : l.drop n = o :: rest) (hm : P.follows .mixedOrders = true) (hB : pivotB .any l.toArray n = true)
    (h : wpStill P l.toArray { w with drawn := w.drawn + 1 } (fun a' => wpList P l.toArray (Behind P l.toArray Q rest) [o] a' { w with drawn := w.drawn + 1 }) (l.take n) a) : (Code.region id l.toArray true).wp P Q a w := by
  simp only [pivotB, Bool.and_eq_true, decide_eq_true_eq] at hB
  obtain ⟨hsel, hn, hs, hc, hlex⟩ := hB
  have hn' : n < l.length := by simpa using hn
  have htl : (l.take n).length = n := by simp; omega
  have ho : l.toArray[n]? = some o := by
    have : (l.drop n)[0]? = some o := by rw [hd]; rfl
    simpa [List.getElem?_drop] using this
  have hrl : rest.length = l.toArray.size - n - 1 := by
    have : (l.drop n).length = rest.length + 1 := by rw [hd]; rfl
    simp at this ⊢
    omega
  have hrest : ∀ j, rest[j]? = l.toArray[n + 1 + j]? := fun j => by
    have : (l.drop n)[j + 1]? = rest[j]? := by rw [hd]; rfl
    rw [← this, List.getElem?_drop]
    simp [Nat.add_assoc, Nat.add_comm 1 j]
  have inv0 : HeadInv .any l.toArray n (Array.replicate l.toArray.size false) :=
    ⟨by simp, fun j oj _ hl => (by rw [getD_replicate_false] at hl; cases hl), fun t _ ht => getD_in (by simpa using ht) (getD_replicate_false _ _)⟩
  have H := head_lex (md := .any) (g := l.toArray.size - n - 1) hsel hs hc hn (l.take n) 0 _ a (fun j hj => by
    have hj' : j < n := by rw [htl] at hj; exact hj
    simp [hj']) (by simpa using htl) inv0 (by rw [htl]; exact hlex) h
  refine wp_region_any hm ?_
  have := wpAny_of_head (Q' := Q) (g := rest.length + 1) (fun listed a' hL => by
    obtain ⟨⟨hr, hf⟩, hw⟩ := hL
    refine ⟨fun h0 => (by rw [hr] at h0; cases h0), fun i hi => ?_⟩
    rw [hr, List.mem_singleton] at hi
    subst hi
    have hstep : wpOp P l.toArray Q i (fun a2 w2 => wpStill P l.toArray w2 (fun a3 => Q .normal a3 w2) rest a2) a' { w with drawn := w.drawn + 1 } := by
      unfold wpOp
      simp only [ho]
      exact hw
    refine wpOp_mono (fun a2 w2 h2 => ?_) hstep
    exact wpAny_of_still (Q := fun a3 => Q .normal a3 w2) (fun _ h3 => h3) _ _ _ (wpAnyS_lex hsel rest (i + 1) _ a2 hrest (by rw [hrl]; exact hf) h2)) _ _ _ H
  rw [htl, hrl, show n + (l.toArray.size - n - 1 + 1) = l.toArray.size by omega] at this
  exact this
end
end Go.Pivot
