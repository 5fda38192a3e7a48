/- Groups that were copied lie in rows of their own; contract of granarylaw3.anew. Condition: the groups are read, and may be. -/
import Derived.Test.YtkfhedppnlocpaaK4
import Derived.Test.YtkfhedppnlocpaaEQ
import Derived.Test.YtkfhedppnlocpaaRF
import Derived.Deep.DeepCutAuto
set_option linter.unusedVariables false
set_option linter.unusedSimpArgs false
namespace Go.Proofs.Ytkfhedppnlocpaa.Q
open Go.RowKit Go.Plan Go.Proofs.YtkfhedppnlocpaaW.PrintWords Go.Proofs.YtkfhedppnlocpaaW.PrintLast Go.Proofs.YtkfhedppnlocpaaW.PrintMore

/-! ### Groups that were copied lie in rows of their own -/
theorem seg_flat {α : Type} {c : α → List Value} : ∀ (E : List α) (xs : List Value), xs.length = E.length * 2 → (∀ j e, E[j]? = some e → (xs.drop (j * 2)).take 2 = c e) → xs = E.flatMap c := by
  intro E
  induction E with
  | nil => intro xs h _; exact List.eq_nil_of_length_eq_zero (by simpa using h)
  | cons e E ih =>
    intro xs h hj
    have h0 := hj 0 e rfl
    rw [Nat.zero_mul, List.drop_zero] at h0
    have h1 := ih (xs.drop 2) (by rw [List.length_drop, h, List.length_cons]; omega) (fun j e' he => by
      have := hj (j + 1) e' he
      rw [List.drop_drop, show 2 + j * 2 = (j + 1) * 2 by omega]
      exact this)
    rw [List.flatMap_cons, ← h1, ← h0, List.take_append_drop]
theorem GR.of_S {W : World} {B : Nat} {ok : Nat → Prop} {v : Value} {L : List S80} (h : Kd.S k80 80 W B ok v L) : ∃ A q E, v = .slice A E.length q ∧ E.map GE.g = L ∧ GR B W A q E := by
  obtain ⟨f, h0, inner, ho, hr⟩ := h
  rw [List.length_zipIdx] at ho
  obtain ⟨E, hE, hp⟩ := build_list (fun i (e : GE) => ∃ p, L[i]? = some p ∧ e.g = p ∧ (inner.drop (i * 2)).take 2 = gcell e ∧ OwnP W B e.A e.c e.l ∧ ∀ k, rowB e.A = some k → f k = i) L.length (fun i hi => by
    obtain ⟨p, hp⟩ : ∃ p, L[i]? = some p := ⟨_, List.getElem?_eq_getElem hi⟩
    have h1 := hr.2 i (p, i) (Kd.zip_at hp)
    obtain ⟨v1, hc, hR⟩ := k80_openM h1
    obtain ⟨A, c, hv, hO⟩ := OwnP.of_R hR
    subst hv
    refine ⟨⟨p.f0, A, c, p.f1⟩, p, hp, rfl, hc, hO, fun k hk => ?_⟩
    exact (hR.1 k ((rowB_own A _ c).trans hk)).2)
  obtain ⟨A, q, rfl⟩ := own_form ho
  have hin : inner = E.flatMap gcell := seg_flat E inner (by rw [hE]; exact ho.1) (fun j e he => by obtain ⟨p, _, _, h3, _⟩ := hp j e he; exact h3)
  refine ⟨A, q, E, by rw [hE], ?_, ⟨?_, fun e he => ?_, fun i j e e' hij h1 h2 k hk1 hk2 => ?_⟩⟩
  · apply List.ext_getElem?
    intro j
    rw [List.getElem?_map]
    cases hj : E[j]? with
    | none =>
      have : E.length ≤ j := List.getElem?_eq_none_iff.1 hj
      rw [List.getElem?_eq_none (by omega)]
      rfl
    | some e =>
      obtain ⟨p, h1, h2, _⟩ := hp j e hj
      rw [h1, ← h2]
      rfl
  · unfold OwnG
    rw [hE, ← hin]
    exact ho
  · obtain ⟨i, hi⟩ := List.mem_iff_getElem?.1 he
    obtain ⟨p, _, _, _, h4, _⟩ := hp i e hi
    exact h4
  · obtain ⟨_, _, _, _, _, h5⟩ := hp i e h1
    obtain ⟨_, _, _, _, _, h6⟩ := hp j e' h2
    exact hij ((h5 k hk1).symm.trans (h6 k hk2))
theorem copied_own (L : List S80) (hl : L.length ≤ 32768) (hp : ∀ g ∈ L, g.f1.length ≤ 4096) (A : Option Addr) (c : Nat) (w : World) (hK : Kd.C k80 w A L.length L) (hc : L.length ≤ c) :
    Calls Try.prog 42 #[.slice A L.length c] w fun e w' => ∃ A q E, e = .returned (.slice A L.length q) ∧ E.map GE.g = L ∧ GR w.heap.size w' A q E ∧ Below w.heap.size w w' := by
  refine (granarylaw3_copied.calls 5000000 A c L L w hK hc (copied_tells L (by omega) (fun g hg => by have := hp g hg; omega))).mono ?_
  rintro e w' ⟨v, rfl, hS, hb⟩
  obtain ⟨A1, q, E, rfl, he, hg⟩ := GR.of_S hS
  have hl : E.length = L.length := by rw [← he, List.length_map]
  exact ⟨A1, q, E, by rw [hl], he, hg, hb⟩
/-- A pair of the first group is written. -/
theorem GR.setFirst {B : Nat} {W : World} {A : Option Addr} {q g c : Nat} {s : ByteArray} {l : List S94} {E : List GE} (h : GR B W A q (⟨s, some ⟨g, 0, none⟩, c, l⟩ :: E)) (y : S94) (hl : 0 < l.length) (hy : (l.getD 0 z94).f0 = y.f0) :
    GR B (W.setCell ⟨g, 1, none⟩ (.string y.f1)) A q (⟨s, some ⟨g, 0, none⟩, c, l.set 0 y⟩ :: E) := by
  have hin := h.inn _ List.mem_cons_self
  have hne := h.ne List.mem_cons_self (i := g) rfl
  have hset : OwnP (W.setCell ⟨g, 1, none⟩ (.string y.f1)) B (some ⟨g, 0, none⟩) c (l.set 0 y) := by
    have h1 := (World.ownsRow.stored hin 1 (.string y.f1)).1
    unfold OwnP
    rw [List.length_set]
    refine Eq.mp ?_ h1
    congr 1
    match l, hl, hy with
    | p :: l, _, hy =>
      have : p.f0 = y.f0 := hy
      rw [List.set_cons_zero, List.flatMap_cons, List.flatMap_cons]
      show [Value.string p.f0, Value.string y.f1] ++ _ = [Value.string y.f0, Value.string y.f1] ++ _
      rw [this]
  have hk : ∀ i, i ≠ g → (W.setCell ⟨g, 1, none⟩ (.string y.f1)).heap[i]? = W.heap[i]? := fun i hi => Below.heap_setCell W ⟨g, 1, none⟩ _ i hi
  refine ⟨?_, fun e he => ?_, fun i j e e' hij h1 h2 k hk1 hk2 => ?_⟩
  · have h1 := ownsRow_keep h.row (W' := W.setCell ⟨g, 1, none⟩ (.string y.f1)) (fun i hi => hk i (fun e => hne (e ▸ hi)))
    unfold OwnG at h1 ⊢
    rw [List.flatMap_cons] at h1 ⊢
    have e : gcell ⟨s, some ⟨g, 0, none⟩, c, l.set 0 y⟩ = gcell ⟨s, some ⟨g, 0, none⟩, c, l⟩ := by simp only [gcell, List.length_set]
    rw [e]
    exact h1
  · rcases List.mem_cons.1 he with rfl | he
    · exact hset
    · obtain ⟨j, hj⟩ := List.mem_iff_getElem?.1 he
      exact ownsRow_keep (h.inn e (List.mem_cons_of_mem _ he)) fun i hi => hk i (fun e2 => h.pw 0 (j + 1) _ e (by omega) rfl hj g rfl (e2 ▸ hi))
  · have hsame : ∀ (i : Nat) (e : GE), (⟨s, some ⟨g, 0, none⟩, c, l.set 0 y⟩ :: E)[i]? = some e → ∃ e2, (⟨s, some ⟨g, 0, none⟩, c, l⟩ :: E : List GE)[i]? = some e2 ∧ e2.A = e.A := by
      intro i e he
      cases i with
      | zero =>
        simp only [List.getElem?_cons_zero, Option.some.injEq] at he
        subst he
        exact ⟨_, rfl, rfl⟩
      | succ i => exact ⟨e, he, rfl⟩
    obtain ⟨e1, g1, g2⟩ := hsame i e h1
    obtain ⟨e2, g3, g4⟩ := hsame j e' h2
    exact h.pw i j e1 e2 hij g1 g3 k (by rw [g2]; exact hk1) (by rw [g4]; exact hk2)
theorem num_any (a : Int) (w : World) : Calls Try.prog 17 #[.int .i64 a] w fun e w' => e = .returned (.int .i64 a) ∧ Drawn0 w w' := granarylaw3_num.calls a a w rfl
/-- A record with another value of its first pair is another one. -/
theorem rec_other {wn : Nat} {L : List S80} (H : GoodG wn L) {G : S80} (hG : G ∈ L) (y : S94) (hy : sz (G.f1.set 0 y) ≠ sz G.f1) : (recBytes G.f1 == (recF (G.f1.set 0 y)).1.toList) = false := by
  have hl := recBytes_length G.f1
  have key : (recF (G.f1.set 0 y)).1.toList ≠ recBytes G.f1 := by
    intro e
    rw [ByteArray.toList_eq] at e
    unfold recF at e
    split at e
    · have := congrArg List.length e; rw [hl] at this; simp at this; omega
    · split at e
      · have := congrArg List.length e; rw [hl] at this; simp at this; omega
      · have := congrArg List.length e
        rw [List.toList_toArray, recBytes_length, hl] at this
        omega
  simpa using fun e => key e.symm
theorem sz_set (l : List S94) (y : S94) (hl : 0 < l.length) (hy : (l.getD 0 z94).f0 = y.f0) (hn : (l.getD 0 z94).f1.size ≠ y.f1.size) : sz (l.set 0 y) ≠ sz l := by
  match l, hl, hy, hn with
  | p :: l, _, hy, hn =>
    have e1 : p.f0 = y.f0 := hy
    have e2 : p.f1.size ≠ y.f1.size := hn
    rw [List.set_cons_zero]
    simp only [sz, e1]
    omega

end Go.Proofs.Ytkfhedppnlocpaa.Q
