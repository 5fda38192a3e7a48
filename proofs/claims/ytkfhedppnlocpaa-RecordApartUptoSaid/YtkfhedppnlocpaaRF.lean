/- Regions that draw their order: one walk along a plan of quiet and writing operations serves every order. Condition: the Boolean check on the plan. Regions that draw their order: a plan with a fork where two may come next. Condition: the Boolean check on the plan. -/
import Derived.BigQuiet
import Derived.StillTailTactics
set_option linter.unusedVariables false
set_option linter.unusedSimpArgs false
namespace Go.Plan
section
variable {P : Program} {ops : Array Oper} {md : Region.Mode} {C : World → Prop} {Q : Exit → Act → World → Prop}

/-- No way out but the normal one. -/
def NoExit : Exit → Act → World → Prop := fun _ _ _ => False
/-- One value, in every world of the class; the world stays. -/
def Same (P : Program) (ops : Array Oper) (C : World → Prop) (o : Oper) (v : Value) (a : Act) : Prop := ∀ w, C w → YieldsAt P ops w o v a

theorem upon_free {o : Oper} {a : Act} {K : Act → World → Prop} : ∀ (r : Result Next), o.upon P a K NoExit r → o.upon P a K Q r := by
  intro r h
  cases r with
  | ok n w' =>
    cases n <;> simp only [Oper.upon] at h ⊢
    case enter f args =>
      refine h.mono fun e w'' he => ?_
      cases e with
      | returned v => exact he
      | panicked c => exact he.elim
      | outgrown => obtain ⟨_, _, hf⟩ := he; exact hf.elim
    all_goals exact h
  | halt x w' =>
    cases x <;> simp only [Oper.upon] at h ⊢
    all_goals exact h.elim

/-- Any of those that may come next may come next, and at its end the world is in the class. -/
def AnyC (P : Program) (md : Region.Mode) (ops : Array Oper) (C : World → Prop) (Q : Exit → Act → World → Prop) : Nat → Array Bool → Act → World → Prop
  | 0, listed, a, w => Region.ready md ops listed = [] ∧ Q .normal a w
  | f + 1, listed, a, w => Region.ready md ops listed ≠ [] ∧ ∀ i ∈ Region.ready md ops listed, ∃ o, ops[i]? = some o ∧
      if Region.wanted o (yielded ops a.tmps) then o.wp P a w (fun a' w' => C w' ∧ AnyC P md ops C Q f (listed.setIfInBounds i true) a' w') NoExit
      else C w ∧ AnyC P md ops C Q f (listed.setIfInBounds i true) (a.put o.dst undef) w

theorem any_of_anyC : ∀ (f : Nat) (listed : Array Bool) (a : Act) (w : World), AnyC P md ops C Q f listed a w → wpAny P md ops Q f listed a w := by
  intro f
  induction f with
  | zero => intro _ _ _ h; exact h
  | succ f ih =>
    intro listed a w h
    refine ⟨fun h0 => absurd h0 h.1, fun i hi => ?_⟩
    obtain ⟨o, ho, hw⟩ := h.2 i hi
    unfold wpOp
    simp only [ho]
    by_cases c : Region.wanted o (yielded ops a.tmps) = true
    · rw [if_pos c] at hw ⊢
      exact .inl (upon_free _ (Oper.wp_mono (fun a' w' h' => ih _ a' w' h'.2) hw))
    · rw [if_neg c] at hw ⊢
      exact ih _ _ _ hw.2

theorem Same.put {oi : Oper} {v : Value} {a : Act} (h : Same P ops C oi v a) (hs : ∀ cs b, oi.op ≠ .select cs b) (x : Option Tmp) (u : Value) (hx : ∀ d, x = some d → d ∉ oi.looksAt ops) : Same P ops C oi v (a.put x u) :=
  fun w hw => (h w hw).of_same (execOp_put oi hs a x u hx) (wanted_put oi a x u hx)

theorem upon_put {oi oj : Oper} {v : Value} {K : Act → World → Prop} {a : Act} (h2 : ∀ d, oi.dst = some d → oj.dst ≠ some d) : ∀ (r : Result Next),
    oj.upon P (a.put oi.dst v) K NoExit r → oj.upon P a (fun a' w' => (∃ (u : Value) (b : Act), b.tmps = a.tmps ∧ a' = b.put oj.dst u) ∧ K (a'.put oi.dst v) w') NoExit r := by
  intro r h
  have key : ∀ (b b' : Act) (u : Value) (w' : World), b.tmps = a.tmps → b' = b.put oi.dst v → K (b'.put oj.dst u) w' → (∃ (u2 : Value) (b2 : Act), b2.tmps = a.tmps ∧ b.put oj.dst u = b2.put oj.dst u2) ∧ K ((b.put oj.dst u).put oi.dst v) w' := by
    intro b b' u w' hb e hk
    subst e
    refine ⟨⟨u, b, hb, rfl⟩, ?_⟩
    rw [← Act.put_comm b v u h2]
    exact hk
  cases r with
  | ok n w' =>
    cases n <;> simp only [Oper.upon] at h ⊢
    case value u => exact key a _ u w' rfl rfl h
    case skip => exact key a _ _ w' rfl rfl h
    case defer d =>
      refine key { a with defers := d :: a.defers } _ _ w' rfl ?_ h
      cases oi.dst <;> rfl
    case enter f args =>
      refine h.mono fun e w'' he => ?_
      cases e with
      | returned u => exact key a _ u w'' rfl rfl he
      | panicked c => exact he.elim
      | outgrown => obtain ⟨_, _, hf⟩ := he; exact hf.elim
    case row row args => exact h.mono fun u w'' he => key a _ u w'' rfl rfl he
    all_goals exact h.elim
  | halt x w' =>
    cases x <;> simp only [Oper.upon] at h ⊢
    all_goals exact h.elim

theorem Same.tmps {oi : Oper} {v : Value} {a b : Act} (h : Same P ops C oi v a) (hs : ∀ cs b, oi.op ≠ .select cs b) (hb : b.tmps = a.tmps) : Same P ops C oi v b := by
  have e : b.eval = a.eval := by
    funext x
    cases x <;> simp [Act.eval, hb]
  intro w hw
  have := h w hw
  unfold YieldsAt at *
  rw [hb, e]
  exact this

/-- An operation that looks alike in every world of the class may be done first. -/
theorem pull (hsel : Region.noSelect ops = true) {i : Nat} {oi : Oper} {v : Value} (hi : ops[i]? = some oi) : ∀ (f : Nat) (listed : Array Bool) (a : Act) (w : World), C w →
    (∀ j oj, ops[j]? = some oj → j ≠ i → listed.getD j true = false → (∀ e ∈ oj.after, Region.binds md e = true → e.on ≠ i) → oi.apart ops oj = true) →
    i ∈ Region.ready md ops listed → Same P ops C oi v a → AnyC P md ops C Q f (listed.setIfInBounds i true) (a.put oi.dst v) w → AnyC P md ops C Q (f + 1) listed a w := by
  have hs : ∀ cs b, oi.op ≠ .select cs b := fun cs b => Region.noSelect_spec hsel i oi cs b hi
  have first : ∀ (f : Nat) (listed : Array Bool) (a : Act) (w : World), C w → Same P ops C oi v a → AnyC P md ops C Q f (listed.setIfInBounds i true) (a.put oi.dst v) w →
      ∃ o, ops[i]? = some o ∧ if Region.wanted o (yielded ops a.tmps) then o.wp P a w (fun a' w' => C w' ∧ AnyC P md ops C Q f (listed.setIfInBounds i true) a' w') NoExit
        else C w ∧ AnyC P md ops C Q f (listed.setIfInBounds i true) (a.put o.dst undef) w := by
    intro f listed a w hw hy H
    refine ⟨oi, hi, ?_⟩
    rcases hy w hw with ⟨hwd, hv | ⟨hv, rfl⟩ | ⟨g, args, hv, hc⟩⟩ | ⟨hwd, rfl⟩
    · rw [if_pos hwd]; unfold Oper.wp; rw [hv]; exact ⟨hw, H⟩
    · rw [if_pos hwd]; unfold Oper.wp; rw [hv]; exact ⟨hw, H⟩
    · rw [if_pos hwd]; unfold Oper.wp; rw [hv]
      refine hc.mono fun e w'' he => ?_
      obtain ⟨rfl, rfl⟩ := he
      exact ⟨hw, H⟩
    · rw [if_neg (by rw [hwd]; decide)]; exact ⟨hw, H⟩
  intro f
  induction f with
  | zero =>
    intro listed a w hw _ hr hy H
    refine ⟨List.ne_nil_of_mem hr, fun j hj => ?_⟩
    rcases Classical.em (j = i) with rfl | hji
    · exact first 0 listed a w hw hy H
    · have := ready_mono hj hji
      rw [H.1] at this
      cases this
  | succ f ih =>
    intro listed a w hw hfree hr hy H
    refine ⟨List.ne_nil_of_mem hr, fun j hj => ?_⟩
    rcases Classical.em (j = i) with rfl | hji
    · exact first (f + 1) listed a w hw hy H
    obtain ⟨hjun, oj, hoj, hall⟩ := mem_ready.1 hj
    have hnot : ∀ e ∈ oj.after, Region.binds md e = true → e.on ≠ i := fun e he hb heq => by
      have h1 := hall e he hb
      have h0 := (mem_ready.1 hr).1
      rw [heq] at h1
      rcases Nat.lt_or_ge i listed.size with h' | h'
      · simp [h'] at h0 h1; rw [h0] at h1; cases h1
      · simp [Array.getElem?_eq_none h'] at h1
    have hap := hfree j oj hoj hji hjun hnot
    obtain ⟨h1, h2, h3⟩ := Oper.apart_spec hap
    have hsj : ∀ cs b, oj.op ≠ .select cs b := fun cs b => Region.noSelect_spec hsel j oj cs b hoj
    have hfree' : ∀ k ok, ops[k]? = some ok → k ≠ i → (listed.setIfInBounds j true).getD k true = false → (∀ e ∈ ok.after, Region.binds md e = true → e.on ≠ i) → oi.apart ops ok = true := by
      intro k ok hk hki hu2 hno
      refine hfree k ok hk hki ?_ hno
      rcases Classical.em (j = k) with rfl | hjk
      · exact hjun
      · rw [getD_set_ne true hjk] at hu2; exact hu2
    have step : ∀ (a' : Act) (w' : World), (∃ (u : Value) (b : Act), b.tmps = a.tmps ∧ a' = b.put oj.dst u) → C w' → AnyC P md ops C Q f ((listed.setIfInBounds i true).setIfInBounds j true) (a'.put oi.dst v) w' →
        AnyC P md ops C Q (f + 1) (listed.setIfInBounds j true) a' w' := by
      intro a' w' hu hC hk
      obtain ⟨u, b, hb, rfl⟩ := hu
      refine ih (listed.setIfInBounds j true) _ w' hC hfree' (ready_mono hr (Ne.symm hji)) ((hy.tmps hs hb).put hs oj.dst u h3) ?_
      rw [Array.setIfInBounds_comm _ _ hji]
      exact hk
    obtain ⟨o', ho', hx⟩ := H.2 j (ready_mono hj hji)
    obtain rfl : o' = oj := Option.some.inj (ho'.symm.trans hoj)
    refine ⟨o', hoj, ?_⟩
    rw [wanted_put o' a oi.dst v h1] at hx
    by_cases c : Region.wanted o' (yielded ops a.tmps) = true
    · rw [if_pos c] at hx ⊢
      unfold Oper.wp at hx ⊢
      rw [execOp_put o' hsj a oi.dst v h1] at hx
      exact Oper.wp_mono (o := o') (fun a' w' h' => ⟨h'.2.1, step a' w' h'.1 h'.2.1 h'.2.2⟩) (upon_put (K := fun a' w' => C w' ∧ AnyC P md ops C Q f ((listed.setIfInBounds i true).setIfInBounds j true) a' w') h2 _ hx)
    · rw [if_neg c] at hx ⊢
      refine ⟨hw, step _ w ⟨undef, a, rfl, rfl⟩ hw ?_⟩
      rw [← Act.put_comm a v undef h2]
      exact hx.2

/-- An order of all operations: the quiet ones each as soon as it may come, a writing one where nothing else may. -/
def planB (md : Region.Mode) (ops : Array Oper) : List (Bool × Nat) → Array Bool → Bool
  | [], listed => (Region.ready md ops listed).isEmpty
  | (false, k) :: r, listed => (Region.ready md ops listed).contains k && (Region.free md ops listed k && planB md ops r (listed.setIfInBounds k true))
  | (true, k) :: r, listed => decide (Region.ready md ops listed = [k]) && planB md ops r (listed.setIfInBounds k true)

/-- The walk along such an order. -/
def Mix (P : Program) (ops : Array Oper) (C : World → Prop) (Q : Exit → Act → World → Prop) : List (Bool × Nat) → Act → World → Prop
  | [], a, w => Q .normal a w
  | (false, k) :: r, a, w => ∃ o, ops[k]? = some o ∧ ∃ v, Same P ops C o v a ∧ Mix P ops C Q r (a.put o.dst v) w
  | (true, k) :: r, a, w => ∃ o, ops[k]? = some o ∧ if Region.wanted o (yielded ops a.tmps) then o.wp P a w (fun a' w' => C w' ∧ Mix P ops C Q r a' w') NoExit else Mix P ops C Q r (a.put o.dst undef) w

theorem anyC_of_mix (hsel : Region.noSelect ops = true) : ∀ (p : List (Bool × Nat)) (listed : Array Bool) (a : Act) (w : World), C w → planB md ops p listed = true → Mix P ops C Q p a w → AnyC P md ops C Q p.length listed a w := by
  intro p
  induction p with
  | nil => intro listed a w _ hB h; exact ⟨by simpa [planB] using hB, h⟩
  | cons x p ih =>
    obtain ⟨b, k⟩ := x
    intro listed a w hw hB h
    cases b with
    | false =>
      simp only [planB, Bool.and_eq_true] at hB
      obtain ⟨o, ho, v, hy, hk⟩ := h
      exact pull hsel ho p.length listed a w hw (Region.free_spec ho hB.2.1) (by simpa using hB.1) hy (ih _ _ w hw hB.2.2 hk)
    | true =>
      simp only [planB, Bool.and_eq_true, decide_eq_true_eq] at hB
      obtain ⟨o, ho, hx⟩ := h
      refine ⟨by rw [hB.1]; simp, fun i hi => ?_⟩
      rw [hB.1, List.mem_singleton] at hi
      subst hi
      refine ⟨o, ho, ?_⟩
      by_cases c : Region.wanted o (yielded ops a.tmps) = true
      · rw [if_pos c] at hx ⊢
        exact Oper.wp_mono (fun a' w' h' => ⟨h'.1, ih _ a' w' h'.1 hB.2 h'.2⟩) hx
      · rw [if_neg c] at hx ⊢
        exact ⟨hw, ih _ _ w hw hB.2 hx⟩

theorem wp_region_plan {id : Nat} {a : Act} {w : World} {l : List Oper} (p : List (Bool × Nat)) (C : World → Prop) (hm : P.follows .mixedOrders = true) (hB : (Region.noSelect l.toArray && (decide (p.length = l.toArray.size) && planB .any l.toArray p (Array.replicate l.toArray.size false))) = true)
    (hC : C { w with drawn := w.drawn + 1 }) (h : Mix P l.toArray C Q p a { w with drawn := w.drawn + 1 }) : (Code.region id l.toArray true).wp P Q a w := by
  simp only [Bool.and_eq_true, decide_eq_true_eq] at hB
  refine wp_region_any hm (any_of_anyC (C := C) _ _ _ _ ?_)
  have := anyC_of_mix hB.1 p (Array.replicate l.toArray.size false) a _ hC hB.2.2 h
  rwa [hB.2.1] at this

/-! ### A stretch of quiet operations at once -/
def quiets (l : List Nat) : List (Bool × Nat) := l.map fun k => (false, k)
/-- Where a walk leaves the slots. -/
theorem still_slot {w : World} {A : Act} : ∀ (l : List Oper) (a : Act) (d : Tmp), (∀ o ∈ l, o.dst ≠ some d) → wpStill P ops w (fun x => x = A) l a → A.tmps[d]? = a.tmps[d]? := by
  intro l
  induction l with
  | nil => intro a d _ h; rw [show a = A from h]
  | cons o l ih =>
    intro a d hd h
    have hput : ∀ v, (a.put o.dst v).tmps[d]? = a.tmps[d]? := fun v => by
      have := hd o (by simp)
      cases hc : o.dst with
      | none => rfl
      | some x =>
        rw [hc] at this
        simp only [Act.put]
        rw [Array.getElem?_setIfInBounds_ne (fun e => this (by rw [e]))]
    have hst : ∃ v, wpStill P ops w (fun x => x = A) l (a.put o.dst v) := by
      unfold wpStill at h
      by_cases c : Region.wanted o (yielded ops a.tmps) = true
      · rw [if_pos c] at h
        unfold Oper.still at h
        generalize (execOp a.eval o).run P w = r at h
        cases r with
        | ok n w' =>
          cases n <;> simp only [Oper.stillUpon] at h
          case value u => exact ⟨u, h.2⟩
          case skip => exact ⟨_, h.2⟩
          case enter f args => obtain ⟨_, v, _, hn⟩ := h; exact ⟨v, hn⟩
        | halt x w' => simp only [Oper.stillUpon] at h
      · rw [if_neg c] at h
        exact ⟨_, h⟩
    obtain ⟨v, hv⟩ := hst
    rw [ih _ d (fun o' ho' => hd o' (by simp [ho'])) hv, hput]

/-- Quiet operations, one behind the other, walked in an arbitrary world of the class to one and the same end. -/
theorem mix_seg {A : Act} {w0 w : World} (hw0 : C w0) (rest : List (Bool × Nat)) : ∀ (ks : List Nat) (l : List Oper) (a : Act), (ks.length = l.length ∧ ∀ j, j < l.length → ∃ k, ks[j]? = some k ∧ ops[k]? = l[j]?) →
    (∀ o ∈ l, ∃ d, o.dst = some d ∧ d < a.tmps.size) → l.Pairwise (fun x y => x.dst ≠ y.dst) →
    (∀ W, C W → wpStill P ops W (fun x => x = A) l a) → Mix P ops C Q rest A w → Mix P ops C Q (quiets ks ++ rest) a w := by
  intro ks
  induction ks with
  | nil =>
    intro l a hl _ _ h hm
    cases l with
    | nil => rw [show a = A from h w0 hw0]; exact hm
    | cons o l => simp at hl
  | cons k ks ih =>
    intro l a hl hd hp h hm
    cases l with
    | nil => simp at hl
    | cons o l =>
      obtain ⟨k', hk', hok⟩ := hl.2 0 (by simp)
      simp only [List.getElem?_cons_zero, Option.some.injEq] at hk' hok
      subst hk'
      obtain ⟨d, hdst, hlt⟩ := hd o (by simp)
      rw [List.pairwise_cons] at hp
      have hone : ∀ W, C W → ∃ v, YieldsAt P ops W o v a ∧ wpStill P ops W (fun x => x = A) l (a.put o.dst v) := fun W hW => by
        have h1 := h W hW
        have hst : stOp P ops W k (wpStill P ops W (fun x => x = A) l) a := by unfold stOp; simp only [hok]; exact h1
        exact yieldsAt_of_stOp hok hst
      have hval : ∀ W v, wpStill P ops W (fun x => x = A) l (a.put o.dst v) → A.tmps[d]? = some v := fun W v hs => by
        rw [still_slot l _ d (fun o' ho' e => hp.1 o' ho' (by rw [hdst, e])) hs, hdst]
        simp [Act.put, hlt]
      obtain ⟨v, hy0, hs0⟩ := hone w0 hw0
      refine ⟨o, hok, v, fun W hW => ?_, ?_⟩
      · obtain ⟨v', hy, hs⟩ := hone W hW
        have e : v' = v := Option.some.inj ((hval W v' hs).symm.trans (hval w0 v hs0))
        rw [← e]
        exact hy
      · refine ih l _ ⟨by simpa using hl.1, fun j hj => ?_⟩ (fun o' ho' => ?_) hp.2 (fun W hW => ?_) hm
        · obtain ⟨k2, h2, h3⟩ := hl.2 (j + 1) (by simpa using hj)
          exact ⟨k2, by simpa using h2, by simpa using h3⟩
        · obtain ⟨d', h1, h2⟩ := hd o' (by simp [ho'])
          refine ⟨d', h1, ?_⟩
          rw [hdst]
          simpa [Act.put] using h2
        · obtain ⟨v', hy, hs⟩ := hone W hW
          have e : v' = v := Option.some.inj ((hval W v' hs).symm.trans (hval w0 v hs0))
          rw [← e]
          exact hs

/-- The operations at those places. -/
def segOps (ops : Array Oper) : List Nat → List Oper
  | [] => []
  | k :: r => (ops[k]?).toList ++ segOps ops r
/-- They are there, each with a slot of its own. -/
def segB (ops : Array Oper) (n : Nat) : List Nat → List Nat → Bool
  | [], _ => true
  | k :: r, seen => match ops[k]? with
    | some o => (match o.dst with | some d => decide (d < n) && (!seen.contains d) && segB ops n r (d :: seen) | none => false)
    | none => false

theorem segB_spec (n : Nat) : ∀ (ks seen : List Nat), segB ops n ks seen = true → (ks.length = (segOps ops ks).length ∧ ∀ j, j < (segOps ops ks).length → ∃ k, ks[j]? = some k ∧ ops[k]? = (segOps ops ks)[j]?) ∧
    (∀ o ∈ segOps ops ks, ∃ d, o.dst = some d ∧ d < n ∧ d ∉ seen) ∧ (segOps ops ks).Pairwise (fun x y => x.dst ≠ y.dst) := by
  intro ks
  induction ks with
  | nil => intro seen _; exact ⟨⟨rfl, fun j hj => absurd hj (by simp [segOps])⟩, fun o ho => by simp [segOps] at ho, by simp [segOps]⟩
  | cons k ks ih =>
    intro seen h
    simp only [segB] at h
    cases hk : ops[k]? with
    | none => rw [hk] at h; cases h
    | some o =>
      rw [hk] at h
      dsimp only at h
      cases hd : o.dst with
      | none => rw [hd] at h; cases h
      | some d =>
        rw [hd] at h
        simp only [Bool.and_eq_true, decide_eq_true_eq, Bool.not_eq_true', List.contains_eq_mem, decide_eq_false_iff_not] at h
        obtain ⟨⟨h1, h2⟩, h3⟩ := h
        obtain ⟨⟨i1, i2⟩, i3, i4⟩ := ih (d :: seen) h3
        have hs : segOps ops (k :: ks) = o :: segOps ops ks := by simp [segOps, hk]
        rw [hs]
        refine ⟨⟨by simp [i1], fun j hj => ?_⟩, fun o' ho' => ?_, List.pairwise_cons.2 ⟨fun o' ho' => ?_, i4⟩⟩
        · cases j with
          | zero => exact ⟨k, rfl, hk⟩
          | succ j =>
            obtain ⟨k2, a1, a2⟩ := i2 j (by simpa using hj)
            exact ⟨k2, by simpa using a1, by simpa using a2⟩
        · rcases List.mem_cons.1 ho' with rfl | ho'
          · exact ⟨d, hd, h1, h2⟩
          · obtain ⟨d', a1, a2, a3⟩ := i3 o' ho'
            exact ⟨d', a1, a2, fun e => a3 (List.mem_cons_of_mem _ e)⟩
        · obtain ⟨d', a1, a2, a3⟩ := i3 o' ho'
          rw [hd, a1]
          intro e
          exact a3 (by rw [Option.some.inj e]; simp)

theorem mix_quiets {A : Act} {a : Act} {w : World} (ks : List Nat) (rest : List (Bool × Nat)) (hB : segB ops a.tmps.size ks [] = true) (hw : C w)
    (h : ∀ W, C W → wpStill P ops W (fun x => x = A) (segOps ops ks) a) (hm : Mix P ops C Q rest A w) : Mix P ops C Q (quiets ks ++ rest) a w := by
  obtain ⟨h1, h2, h3⟩ := segB_spec _ _ _ hB
  exact mix_seg hw rest ks _ a h1 (fun o ho => by obtain ⟨d, a1, a2, _⟩ := h2 o ho; exact ⟨d, a1, a2⟩) h3 h hm

/-- What is to hold behind a writing operation. -/
def Wr (P : Program) (ops : Array Oper) (C : World → Prop) (Q : Exit → Act → World → Prop) (rest : List (Bool × Nat)) : Exit → Act → World → Prop
  | .normal, a, w => C w ∧ Mix P ops C Q rest a w
  | _, _, _ => False
theorem mix_writes {a : Act} {w : World} (k : Nat) (o : Oper) (ho : ops[k]? = some o) (rest : List (Bool × Nat)) (h : wpList P ops (Wr P ops C Q rest) [o] a w) : Mix P ops C Q ((true, k) :: rest) a w := by
  refine ⟨o, ho, ?_⟩
  have h' : if Region.wanted o (yielded ops a.tmps) then o.wp P a w (wpList P ops (Wr P ops C Q rest) []) (Wr P ops C Q rest) ∨ (o.asks P a w ∧ LetsOut (Wr P ops C Q rest)) else wpList P ops (Wr P ops C Q rest) [] (a.put o.dst undef) w := h
  by_cases c : Region.wanted o (yielded ops a.tmps) = true
  · rw [if_pos c] at h' ⊢
    rcases h' with h1 | ⟨_, _, _, hf⟩
    · exact h1
    · exact hf.elim
  · rw [if_neg c] at h' ⊢
    exact h'.2
theorem mix_done {a : Act} {w : World} (h : Q .normal a w) : Mix P ops C Q [] a w := h
end
end Go.Plan
set_option linter.unusedVariables false
set_option linter.unusedSimpArgs false
namespace Go.Plan
section
variable {P : Program} {ops : Array Oper} {md : Region.Mode} {C : World → Prop} {Q : Exit → Act → World → Prop}

/-- What is listed stands behind what it waits for. -/
def Closed (md : Region.Mode) (ops : Array Oper) (listed : Array Bool) : Prop := ∀ (m : Nat) (o : Oper), ops[m]? = some o → listed.getD m false = true → ∀ e ∈ o.after, Region.binds md e = true → listed.getD e.on false = true
theorem Closed.step {listed : Array Bool} (h : Closed md ops listed) {j : Nat} (hj : j ∈ Region.ready md ops listed) : Closed md ops (listed.setIfInBounds j true) := by
  intro m o ho hm e he hb
  by_cases hmj : j = m
  · subst hmj
    obtain ⟨_, o', ho', hall⟩ := mem_ready.1 hj
    obtain rfl : o' = o := Option.some.inj (ho'.symm.trans ho)
    exact getD_set_true (hall e he hb)
  · rw [getD_set_ne false hmj] at hm
    exact getD_set_true (h m o ho hm e he hb)
end
section
variable {P : Program} {ops : Array Oper}
/-- A quiet walk in one world is a still one. -/
theorem still_of_quiet {w0 : World} {Q : Act → Prop} : ∀ (l : List Oper) (a : Act), wpQuiet P ops (fun w' => w' = w0) Q l a → wpStill P ops w0 Q l a
  | [], _, h => h
  | o :: rest, a, h => by
    unfold wpStill
    unfold wpQuiet at h
    by_cases c : Region.wanted o (yielded ops a.tmps)
    · rw [if_pos c] at h ⊢
      obtain ⟨v, h1, h2⟩ := h
      have h3 := h1 w0 rfl
      unfold Oper.quietAt at h3
      unfold Oper.still
      generalize (execOp a.eval o).run P w0 = r at h3
      unfold Oper.quietUpon at h3
      unfold Oper.stillUpon
      split at h3
      · obtain ⟨rfl, rfl⟩ := h3
        exact ⟨rfl, still_of_quiet rest _ h2⟩
      · obtain ⟨rfl, rfl⟩ := h3
        exact ⟨rfl, still_of_quiet rest _ h2⟩
      · obtain ⟨rfl, h4⟩ := h3
        exact ⟨rfl, v, h4, still_of_quiet rest _ h2⟩
      · exact h3.elim
    · rw [if_neg c] at h ⊢
      exact still_of_quiet rest _ h
end

end Go.Plan
set_option linter.unusedVariables false
set_option linter.unusedSimpArgs false
namespace Go.Plan
section
variable {P : Program} {ops : Array Oper} {md : Region.Mode} {C : World → Prop} {Q : Exit → Act → World → Prop}

end
end Go.Plan
