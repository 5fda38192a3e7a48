/- A region that draws its order and ends in one operation that all others must come before: one walk along a plan serves every order. Condition: the Boolean check on the plan. -/
import Derived.Test.YthajekcjgkidhaaR1
set_option linter.unusedVariables false
set_option linter.unusedSimpArgs false
namespace Go.Plan
section
variable {P : Program} {ops : Array Oper} {md : Region.Mode} {C : World → Prop} {Q : Exit → Act → World → Prop}

/-- Any of those that may come next may come next; at its end the world is in the class, but behind the last one. -/
def AnyF (P : Program) (md : Region.Mode) (ops : Array Oper) (C : World → Prop) (Q : Exit → Act → World → Prop) : Nat → Array Bool → Act → World → Prop
  | 0, listed, a, w => (∀ j, j < ops.size → listed.getD j true = true) ∧ Region.ready md ops listed = [] ∧ Q .normal a w
  | f + 1, listed, a, w => Region.ready md ops listed ≠ [] ∧ ∀ i ∈ Region.ready md ops listed, ∃ o, ops[i]? = some o ∧
      if Region.wanted o (yielded ops a.tmps) then o.wp P a w (fun a' w' => (f ≠ 0 → C w') ∧ AnyF P md ops C Q f (listed.setIfInBounds i true) a' w') NoExit
      else (f ≠ 0 → C w) ∧ AnyF P md ops C Q f (listed.setIfInBounds i true) (a.put o.dst undef) w

theorem any_of_anyF : ∀ (f : Nat) (listed : Array Bool) (a : Act) (w : World), AnyF P md ops C Q f listed a w → wpAny P md ops Q f listed a w := by
  intro f
  induction f with
  | zero => intro _ _ _ h; exact h.2
  | succ f ih =>
    intro listed a w h
    refine ⟨fun h0 => absurd h0 h.1, fun i hi => ?_⟩
    obtain ⟨o, ho, hw⟩ := h.2 i hi
    unfold wpOp
    simp only [ho]
    by_cases c : Region.wanted o (yielded ops a.tmps) = true
    · rw [if_pos c] at hw ⊢
      exact .inl (upon_free _ (Oper.wp_mono (fun a' w' h' => ih _ a' w' h'.2) hw))
    · rw [if_neg c] at hw ⊢
      exact ih _ _ _ hw.2

/-- What is listed stands behind what it waits for. -/
def Closed (md : Region.Mode) (ops : Array Oper) (listed : Array Bool) : Prop := ∀ (m : Nat) (o : Oper), ops[m]? = some o → listed.getD m false = true → ∀ e ∈ o.after, Region.binds md e = true → listed.getD e.on false = true
theorem Closed.step {listed : Array Bool} (h : Closed md ops listed) {j : Nat} (hj : j ∈ Region.ready md ops listed) : Closed md ops (listed.setIfInBounds j true) := by
  intro m o ho hm e he hb
  by_cases hmj : j = m
  · subst hmj
    obtain ⟨_, o', ho', hall⟩ := mem_ready.1 hj
    obtain rfl : o' = o := Option.some.inj (ho'.symm.trans ho)
    exact getD_set_true (hall e he hb)
  · rw [getD_set_ne false hmj] at hm
    exact getD_set_true (h m o ho hm e he hb)
/-- Every other one is waited for by a later one. -/
def sinkB (md : Region.Mode) (ops : Array Oper) (k : Nat) : Bool :=
  (List.range ops.size).all fun i => i == k || (List.range ops.size).any fun m => decide (i < m) && match ops[m]? with
    | some o => o.after.any fun e => Region.binds md e && e.on == i
    | none => false
theorem unlisted_false {listed : Array Bool} {i : Nat} (h : listed.getD i true = false) : listed.getD i false = false := by
  rcases Nat.lt_or_ge i listed.size with h' | h'
  · simpa [h'] using h
  · simp [Array.getElem?_eq_none h']
theorem sink_last {k : Nat} (hs : sinkB md ops k = true) {listed : Array Bool} (hc : Closed md ops listed) (hk : k ∈ Region.ready md ops listed) : ∀ n i, ops.size - i ≤ n → i < ops.size → i ≠ k → listed.getD i false = true := by
  intro n
  induction n with
  | zero => intro i h1 h2; omega
  | succ n ih =>
    intro i h1 h2 h3
    have := List.all_eq_true.1 hs i (List.mem_range.2 h2)
    simp only [Bool.or_eq_true, beq_iff_eq, h3, false_or, List.any_eq_true, List.mem_range, Bool.and_eq_true, decide_eq_true_eq] at this
    obtain ⟨m, hm, him, hx⟩ := this
    cases hom : ops[m]? with
    | none => rw [hom] at hx; cases hx
    | some o =>
      rw [hom] at hx
      dsimp only at hx
      obtain ⟨e, he, hb⟩ := Array.any_eq_true'.1 hx
      simp only [Bool.and_eq_true, beq_iff_eq] at hb
      by_cases hmk : m = k
      · subst hmk
        obtain ⟨_, o', ho', hall⟩ := mem_ready.1 hk
        obtain rfl : o' = o := Option.some.inj (ho'.symm.trans hom)
        rw [← hb.2]
        exact hall e he hb.1
      · rw [← hb.2]
        exact hc m o hom (ih m (by omega) hm hmk) e he hb.1

theorem pullF {k : Nat} (hks : k < ops.size) (hsink : sinkB md ops k = true) (hsel : Region.noSelect ops = true) {i : Nat} {oi : Oper} {v : Value} (hi : ops[i]? = some oi) (hik : i ≠ k) : ∀ (f : Nat) (listed : Array Bool) (a : Act) (w : World), Closed md ops listed → listed.getD k true = false → C w →
    (∀ j oj, ops[j]? = some oj → j ≠ i → listed.getD j true = false → (∀ e ∈ oj.after, Region.binds md e = true → e.on ≠ i) → oi.apart ops oj = true) →
    i ∈ Region.ready md ops listed → Same P ops C oi v a → AnyF P md ops C Q f (listed.setIfInBounds i true) (a.put oi.dst v) w → AnyF P md ops C Q (f + 1) listed a w := by
  have hs : ∀ cs b, oi.op ≠ .select cs b := fun cs b => Region.noSelect_spec hsel i oi cs b hi
  have hisz : i < ops.size := (Array.getElem?_eq_some_iff.1 hi).1
  have notk : ∀ listed : Array Bool, Closed md ops listed → i ∈ Region.ready md ops listed → ∀ j, j ∈ Region.ready md ops listed → j ≠ k := by
    intro listed hc hr j hj e
    subst e
    have h1 := sink_last hsink hc hj _ i (Nat.le_refl _) hisz hik
    rw [unlisted_false (mem_ready.1 hr).1] at h1
    cases h1
  have first : ∀ (f : Nat) (listed : Array Bool) (a : Act) (w : World), C w → Same P ops C oi v a → AnyF P md ops C Q f (listed.setIfInBounds i true) (a.put oi.dst v) w →
      ∃ o, ops[i]? = some o ∧ if Region.wanted o (yielded ops a.tmps) then o.wp P a w (fun a' w' => (f ≠ 0 → C w') ∧ AnyF P md ops C Q f (listed.setIfInBounds i true) a' w') NoExit
        else (f ≠ 0 → C w) ∧ AnyF P md ops C Q f (listed.setIfInBounds i true) (a.put o.dst undef) w := by
    intro f listed a w hw hy H
    refine ⟨oi, hi, ?_⟩
    rcases hy w hw with ⟨hwd, hv | ⟨hv, rfl⟩ | ⟨g, args, hv, hc⟩⟩ | ⟨hwd, rfl⟩
    · rw [if_pos hwd]; unfold Oper.wp; rw [hv]; exact ⟨fun _ => hw, H⟩
    · rw [if_pos hwd]; unfold Oper.wp; rw [hv]; exact ⟨fun _ => hw, H⟩
    · rw [if_pos hwd]; unfold Oper.wp; rw [hv]
      refine hc.mono fun e w'' he => ?_
      obtain ⟨rfl, rfl⟩ := he
      exact ⟨fun _ => hw, H⟩
    · rw [if_neg (by rw [hwd]; decide)]; exact ⟨fun _ => hw, H⟩
  intro f
  induction f with
  | zero =>
    intro listed a w _ hk hw _ hr hy H
    exfalso
    have := H.1 k hks
    rw [getD_set_ne true hik, hk] at this
    cases this
  | succ f ih =>
    intro listed a w hcl hk hw hfree hr hy H
    refine ⟨List.ne_nil_of_mem hr, fun j hj => ?_⟩
    rcases Classical.em (j = i) with rfl | hji
    · exact first (f + 1) listed a w hw hy H
    have hjk := notk listed hcl hr j hj
    obtain ⟨hjun, oj, hoj, hall⟩ := mem_ready.1 hj
    have hnot : ∀ e ∈ oj.after, Region.binds md e = true → e.on ≠ i := fun e he hb heq => by
      have h1 := hall e he hb
      have h0 := (mem_ready.1 hr).1
      rw [heq, unlisted_false h0] at h1
      cases h1
    have hap := hfree j oj hoj hji hjun hnot
    obtain ⟨h1, h2, h3⟩ := Oper.apart_spec hap
    have hsj : ∀ cs b, oj.op ≠ .select cs b := fun cs b => Region.noSelect_spec hsel j oj cs b hoj
    have hfree' : ∀ k ok, ops[k]? = some ok → k ≠ i → (listed.setIfInBounds j true).getD k true = false → (∀ e ∈ ok.after, Region.binds md e = true → e.on ≠ i) → oi.apart ops ok = true := by
      intro k ok hk hki hu2 hno
      refine hfree k ok hk hki ?_ hno
      rcases Classical.em (j = k) with rfl | hjk
      · exact hjun
      · rw [getD_set_ne true hjk] at hu2; exact hu2
    have hk' : (listed.setIfInBounds j true).getD k true = false := by rw [getD_set_ne true hjk]; exact hk
    have step : ∀ (a' : Act) (w' : World), (∃ (u : Value) (b : Act), b.tmps = a.tmps ∧ a' = b.put oj.dst u) → (f ≠ 0 → C w') → AnyF P md ops C Q f ((listed.setIfInBounds i true).setIfInBounds j true) (a'.put oi.dst v) w' →
        C w' ∧ AnyF P md ops C Q (f + 1) (listed.setIfInBounds j true) a' w' := by
      intro a' w' hu hC hk2
      have hf0 : f ≠ 0 := by
        intro e
        subst e
        have := hk2.1 k hks
        rw [getD_set_ne true hjk, getD_set_ne true hik, hk] at this
        cases this
      obtain ⟨u, b, hb, rfl⟩ := hu
      refine ⟨hC hf0, ih (listed.setIfInBounds j true) _ w' (hcl.step hj) hk' (hC hf0) hfree' (ready_mono hr (Ne.symm hji)) ((hy.tmps hs hb).put hs oj.dst u h3) ?_⟩
      rw [Array.setIfInBounds_comm _ _ hji]
      exact hk2
    obtain ⟨o', ho', hx⟩ := H.2 j (ready_mono hj hji)
    obtain rfl : o' = oj := Option.some.inj (ho'.symm.trans hoj)
    refine ⟨o', hoj, ?_⟩
    rw [wanted_put o' a oi.dst v h1] at hx
    by_cases c : Region.wanted o' (yielded ops a.tmps) = true
    · rw [if_pos c] at hx ⊢
      unfold Oper.wp at hx ⊢
      rw [execOp_put o' hsj a oi.dst v h1] at hx
      exact Oper.wp_mono (o := o') (fun a' w' h' => by obtain ⟨q1, q2⟩ := step a' w' h'.1 h'.2.1 h'.2.2; exact ⟨fun _ => q1, q2⟩) (upon_put (K := fun a' w' => (f ≠ 0 → C w') ∧ AnyF P md ops C Q f ((listed.setIfInBounds i true).setIfInBounds j true) a' w') h2 _ hx)
    · rw [if_neg c] at hx ⊢
      have hx2 := hx.2
      rw [Act.put_comm a v undef h2] at hx2
      have := step _ w ⟨undef, a, rfl, rfl⟩ (fun _ => hw) hx2
      exact ⟨fun _ => this.1, this.2⟩

/-- The order of all operations but the last one, which all others must come before. -/
def planF (md : Region.Mode) (ops : Array Oper) (k : Nat) : List (Bool × Nat) → Array Bool → Bool
  | [], listed => decide (Region.ready md ops listed = [k]) && ((Region.ready md ops (listed.setIfInBounds k true)).isEmpty && (List.range ops.size).all fun j => (listed.setIfInBounds k true).getD j true)
  | (false, i) :: r, listed => decide (i ≠ k) && ((Region.ready md ops listed).contains i && (Region.free md ops listed i && planF md ops k r (listed.setIfInBounds i true)))
  | (true, i) :: r, listed => decide (i ≠ k) && (decide (Region.ready md ops listed = [i]) && planF md ops k r (listed.setIfInBounds i true))

/-- What the last one leaves. -/
def Fin (P : Program) (ops : Array Oper) (Q : Exit → Act → World → Prop) (k : Nat) : Exit → Act → World → Prop
  | .normal, a, w => ∃ o, ops[k]? = some o ∧ if Region.wanted o (yielded ops a.tmps) then o.wp P a w (fun a' w' => Q .normal a' w') NoExit else Q .normal (a.put o.dst undef) w
  | _, _, _ => False

theorem anyF_of_mix {k : Nat} (hks : k < ops.size) (hsink : sinkB md ops k = true) (hsel : Region.noSelect ops = true) : ∀ (p : List (Bool × Nat)) (listed : Array Bool) (a : Act) (w : World), Closed md ops listed → listed.getD k true = false → C w → planF md ops k p listed = true → Mix P ops C (Fin P ops Q k) p a w → AnyF P md ops C Q (p.length + 1) listed a w := by
  intro p
  induction p with
  | nil =>
    intro listed a w _ _ _ hB h
    simp only [planF, Bool.and_eq_true, decide_eq_true_eq, List.isEmpty_iff, List.all_eq_true, List.mem_range] at hB
    obtain ⟨h1, h2, h3⟩ := hB
    refine ⟨by rw [h1]; simp, fun i hi => ?_⟩
    rw [h1, List.mem_singleton] at hi
    subst hi
    obtain ⟨o, ho, hx⟩ := (show Fin P ops Q i .normal a w from h)
    refine ⟨o, ho, ?_⟩
    by_cases c : Region.wanted o (yielded ops a.tmps) = true
    · rw [if_pos c] at hx ⊢
      exact Oper.wp_mono (fun a' w' h' => ⟨fun h0 => absurd rfl h0, h3, h2, h'⟩) hx
    · rw [if_neg c] at hx ⊢
      exact ⟨fun h0 => absurd rfl h0, h3, h2, hx⟩
  | cons x p ih =>
    obtain ⟨b, i⟩ := x
    intro listed a w hcl hk hw hB h
    cases b with
    | false =>
      simp only [planF, Bool.and_eq_true, decide_eq_true_eq] at hB
      obtain ⟨h0, h1, h2, h3⟩ := hB
      obtain ⟨o, ho, v, hy, hm⟩ := h
      have hr : i ∈ Region.ready md ops listed := by simpa using h1
      exact pullF hks hsink hsel ho h0 (p.length + 1) listed a w hcl hk hw (Region.free_spec ho h2) hr hy (ih _ _ w (hcl.step hr) (by rw [getD_set_ne true h0]; exact hk) hw h3 hm)
    | true =>
      simp only [planF, Bool.and_eq_true, decide_eq_true_eq] at hB
      obtain ⟨h0, h1, h3⟩ := hB
      obtain ⟨o, ho, hx⟩ := h
      refine ⟨by rw [h1]; simp, fun i' hi => ?_⟩
      have hr : i' ∈ Region.ready md ops listed := hi
      rw [h1, List.mem_singleton] at hi
      subst hi
      refine ⟨o, ho, ?_⟩
      by_cases c : Region.wanted o (yielded ops a.tmps) = true
      · rw [if_pos c] at hx ⊢
        exact Oper.wp_mono (fun a' w' h' => ⟨fun _ => h'.1, ih _ a' w' (hcl.step hr) (by rw [getD_set_ne true h0]; exact hk) h'.1 h3 h'.2⟩) hx
      · rw [if_neg c] at hx ⊢
        exact ⟨fun _ => hw, ih _ _ w (hcl.step hr) (by rw [getD_set_ne true h0]; exact hk) hw h3 hx⟩

/-- A region that draws its order, walked along a plan; its last operation, behind which the class need not hold, is k. -/
theorem wp_region_planF {id : Nat} {a : Act} {w : World} {l : List Oper} (p : List (Bool × Nat)) (k : Nat) (C : World → Prop) (hm : P.follows .mixedOrders = true) (hB : (Region.noSelect l.toArray && (decide (k < l.toArray.size) && (sinkB .any l.toArray k && (decide (p.length + 1 = l.toArray.size) && planF .any l.toArray k p (Array.replicate l.toArray.size false))))) = true)
    (hC : C { w with drawn := w.drawn + 1 }) (h : Mix P l.toArray C (Fin P l.toArray Q k) p a { w with drawn := w.drawn + 1 }) : (Code.region id l.toArray true).wp P Q a w := by
  simp only [Bool.and_eq_true, decide_eq_true_eq] at hB
  obtain ⟨h1, h2, h3, h4, h5⟩ := hB
  refine wp_region_any hm (any_of_anyF (C := C) _ _ _ _ ?_)
  have := anyF_of_mix h2 h3 h1 p (Array.replicate l.toArray.size false) a _ (fun m o ho hl => by
    exfalso
    have hm' : m < l.toArray.size := (Array.getElem?_eq_some_iff.1 ho).1
    simp only [Array.getD_eq_getD_getElem?, Array.getElem?_replicate, hm', if_true, Option.getD_some] at hl
    cases hl) (by simp at h2; simp [h2]) hC h5 h
  rwa [h4] at this

/-- The last one's end. -/
def Nq (Q : Exit → Act → World → Prop) : Exit → Act → World → Prop
  | .normal, a, w => Q .normal a w
  | _, _, _ => False
theorem nq_out {a : Act} {w : World} (h : Q .normal a w) : Nq Q .normal a w := h
theorem fin_write {a : Act} {w : World} (k : Nat) (o : Oper) (ho : ops[k]? = some o) (h : wpList P ops (Nq Q) [o] a w) : Mix P ops C (Fin P ops Q k) [] a w := by
  refine ⟨o, ho, ?_⟩
  have h' : if Region.wanted o (yielded ops a.tmps) then o.wp P a w (wpList P ops (Nq Q) []) (Nq Q) ∨ (o.asks P a w ∧ LetsOut (Nq Q)) else wpList P ops (Nq Q) [] (a.put o.dst undef) w := h
  by_cases c : Region.wanted o (yielded ops a.tmps) = true
  · rw [if_pos c] at h' ⊢
    rcases h' with h1 | ⟨_, _, _, hf⟩
    · exact h1
    · exact hf.elim
  · rw [if_neg c] at h' ⊢
    exact h'
end
end Go.Plan
