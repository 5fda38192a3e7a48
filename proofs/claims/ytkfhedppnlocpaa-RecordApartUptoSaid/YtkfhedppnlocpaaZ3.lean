/- Plain laws of RecordApart's loops: which rows lie apart. No condition. -/
import Derived.Test.YtkfhedppnlocpaaZ0
import Derived.Test.YtkfhedppnlocpaaZ1
import Derived.Test.YtkfhedppnlocpaaJ2
set_option linter.unusedVariables false
set_option linter.unusedSimpArgs false
namespace Go.Proofs.Ytkfhedppnlocpaa.Q
open Go.RowKit Go.Plan Go.Proofs.YtkfhedppnlocpaaW.PrintWords Go.Proofs.YtkfhedppnlocpaaW.PrintLast Go.Proofs.YtkfhedppnlocpaaW.PrintMore

/-! ### Rows of lists of pairs -/
def T94 (W : World) (A : Option Addr) : Prop := ∀ k, rowB A = some k → ∃ cur, W.heap[k]? = some (.cells cur 94 (0, 0))
theorem T94.keep {W W' : World} {A : Option Addr} (h : T94 W A) (k : ∀ q, rowB A = some q → W'.heap[q]? = W.heap[q]?) : T94 W' A := fun q hq => by
  obtain ⟨cur, hc⟩ := h q hq
  exact ⟨cur, (k q hq).trans hc⟩
structure PE where
  A : Option Addr
  c : Nat
  l : List S94
def scell (e : PE) : List Value := [.slice e.A e.l.length e.c]
theorem scell_length (e : PE) : (scell e).length = 1 := rfl
/-- An entry as it is read. -/
structure RE (W : World) (e : PE) : Prop where
  le : e.l.length ≤ e.c
  rd : RdP W e.A e.l
  ty : T94 W e.A
theorem RE.keep {W W' : World} {e : PE} (h : RE W e) (k : ∀ q, rowB e.A = some q → W'.heap[q]? = W.heap[q]?) (hs : W.heap.size ≤ W'.heap.size) : RE W' e := ⟨h.le, h.rd.keep k hs, h.ty.keep k⟩
theorem RE.below {W W' : World} {e : PE} (h : RE W e) (hb : Below W.heap.size W W') : RE W' e := h.keep (fun q hq => hb.block q (h.rd.lt q hq)) hb.size
theorem RE.of {W : World} {B : Nat} {A : Option Addr} {c : Nat} {l : List S94} (h : OwnP W B A c l) : RE W ⟨A, c, l⟩ := ⟨(ownsRow_cap h).1, RdP.of h, fun k hk => ownsRow_type h k hk⟩
structure SR (B : Nat) (W : World) (A : Option Addr) (q : Nat) (E : List PE) : Prop where
  row : W.ownsRow B 41 1 (.slice A E.length q) E.length (E.flatMap scell)
  inn : ∀ e ∈ E, RE W e
section
variable {B : Nat} {W W' W1 W2 : World} {A A2 : Option Addr} {q q2 : Nat} {E : List PE} {e : PE}
theorem SR.nil (B : Nat) (W : World) : SR B W none 0 [] := ⟨World.ownsRow_nil _ _ _ _, fun e he => by cases he⟩
theorem SR.keep (h : SR B W A q E) (k1 : ∀ k, rowB A = some k → W'.heap[k]? = W.heap[k]?) (k2 : ∀ e ∈ E, ∀ k, rowB e.A = some k → W'.heap[k]? = W.heap[k]?) (hs : W.heap.size ≤ W'.heap.size) : SR B W' A q E :=
  ⟨ownsRow_keep h.row k1, fun e he => (h.inn e he).keep (k2 e he) hs⟩
theorem SR.below (h : SR B W A q E) (hb : Below W.heap.size W W') : SR B W' A q E := h.keep (fun k hk => hb.block k (ownsRow_lt h.row k hk).2) (fun e he k hk => hb.block k ((h.inn e he).rd.lt k hk)) hb.size
/-- A row of pairs is not the row of lists. -/
theorem SR.ne (h : SR B W A q E) {A' : Option Addr} (ht : T94 W A') : ∀ k, rowB A' = some k → rowB A ≠ some k := by
  intro k hk hA
  obtain ⟨c1, h1⟩ := ht k hk
  obtain ⟨c2, h2⟩ := ownsRow_type h.row k hA
  rw [h1] at h2
  simp only [Option.some.injEq, Obj.cells.injEq] at h2
  exact absurd h2.2.1 (by decide)
/-- One entry more. -/
theorem SR.app (h : SR B W A q E) (he : RE W e) (ho : W2.ownsRow B 41 1 (.slice A2 (E.length + 1) q2) (E.length + 1) (E.flatMap scell ++ scell e)) (hg : W.grownBy W2 (rowB A)) : SR B W2 A2 q2 (E ++ [e]) := by
  refine ⟨?_, fun e' he' => ?_⟩
  · rw [List.length_append, List.length_singleton, List.flatMap_append, List.flatMap_cons, List.flatMap_nil, List.append_nil]
    exact ho
  · have key : ∀ e', RE W e' → RE W2 e' := fun e' h' => h'.keep (fun k hk => hg.block k (h'.rd.lt k hk) (fun e => h.ne h'.ty k hk e.symm)) hg.size
    rcases List.mem_append.1 he' with h1 | h1
    · exact key e' (h.inn e' h1)
    · rw [List.mem_singleton] at h1; subst h1; exact key _ he
/-- The last entry's pairs are written. -/
theorem SR.swap {l' : List S94} (h : SR B W A q (E ++ [e])) (hl : l'.length = e.l.length) {X : Nat → Prop} (hb : But W W' X) (hA : ∀ k, rowB A = some k → ¬ X k) (hE : ∀ e' ∈ E, ∀ k, rowB e'.A = some k → ¬ X k) (hn : RE W' ⟨e.A, e.c, l'⟩) : SR B W' A q (E ++ [⟨e.A, e.c, l'⟩]) := by
  refine ⟨?_, fun e' he' => ?_⟩
  · have h1 := ownsRow_keep h.row (W' := W') (fun k hk => hb.block k (ownsRow_lt h.row k hk).2 (hA k hk))
    rw [List.length_append, List.length_singleton, List.flatMap_append, List.flatMap_cons, List.flatMap_nil, List.append_nil] at h1 ⊢
    have : scell ⟨e.A, e.c, l'⟩ = scell e := by simp only [scell, hl]
    rw [this]
    exact h1
  · rcases List.mem_append.1 he' with h1 | h1
    · exact (h.inn e' (List.mem_append_left _ h1)).keep (fun k hk => hb.block k ((h.inn e' (List.mem_append_left _ h1)).rd.lt k hk) (hE e' h1 k hk)) hb.size
    · rw [List.mem_singleton] at h1; subst h1; exact hn
/-- What an index of such a row reads. -/
theorem SR.at_ (h : SR B W A q E) {i : Nat} (hi : E[i]? = some e) : ∃ g, A = some ⟨g, 0, none⟩ ∧ W.cell? ⟨g, i, none⟩ = some (.slice e.A e.l.length e.c) ∧ RE W e := by
  obtain ⟨g, hg, hc⟩ := own_at (c := scell) (by decide) scell_length h.row i e hi
  refine ⟨g, hg, ?_, h.inn e (List.mem_of_getElem? hi)⟩
  have := hc 0 _ rfl
  rwa [Nat.mul_one, Nat.add_zero] at this
end

/-! ### The first loop: what was answered first is marked -/
structure L1 (w0 W : World) (B9 : Nat) (A9 : Option Addr) (q9 : Nat) (E9 : List GE) (mk : Nat → S94) (d i s : Nat) (Ak : Option Addr) (qk : Nat) (Ek : List PE) (As : Option Addr) (qs : Nat) : Prop where
  fr : But w0 W (GS A9 E9)
  kept : SR w0.heap.size W Ak qk Ek
  klen : Ek.length = i
  kat : ∀ j e, Ek[j]? = some e → ∃ e9, E9[j]? = some e9 ∧ e.l = List.replicate (e9.l.length + 65) (mk j) ∧ ∀ g, rowB e.A = some g → rowB e9.A = some g ∨ w0.heap.size ≤ g
  sz : W.ownsRow w0.heap.size 3 1 (.slice As s qs) s ((E9.take s).map fun e => Value.int .i64 ((e.l.length + 65 : Nat) : Int))
  grp : ∃ F : List GE, F.length = E9.length ∧ W.ownsRow B9 80 2 (.slice A9 E9.length q9) E9.length (F.flatMap gcell) ∧ ∀ (j : Nat) e, F[j]? = some e → ∃ e9, E9[j]? = some e9 ∧ e.A = e9.A ∧ e.c = e9.c ∧ e.l.length = e9.l.length
  done : ∀ j e9, j < d → E9[j]? = some e9 → RdP W e9.A (List.replicate e9.l.length (mk j)) ∧ T94 W e9.A
  todo : ∀ (j : Nat) e9, d ≤ j → E9[j]? = some e9 → OwnP W B9 e9.A e9.c e9.l
section
variable {w0 W W' W1 W2 : World} {B9 : Nat} {A9 : Option Addr} {q9 : Nat} {E9 : List GE} {mk : Nat → S94} {d i s : Nat} {Ak : Option Addr} {qk : Nat} {Ek : List PE} {As : Option Addr} {qs : Nat}
theorem L1.start (h : GR B9 w0 A9 q9 E9) (mk : Nat → S94) : L1 w0 w0 B9 A9 q9 E9 mk 0 0 0 none 0 [] none 0 :=
  ⟨But.refl _ _, SR.nil _ _, rfl, fun j e he => by simp at he, World.ownsRow_nil _ _ _ _, ⟨E9, rfl, h.row, fun j e he => ⟨e, he, rfl, rfl, rfl⟩⟩, fun j e9 hj _ => absurd hj (Nat.not_lt_zero _), fun j e9 _ he => h.inn e9 (List.mem_of_getElem? he)⟩
/-- All blocks that it speaks of stay. -/
theorem L1.keep (h : L1 w0 W B9 A9 q9 E9 mk d i s Ak qk Ek As qs) (hg : GR B9 w0 A9 q9 E9) (hf : But w0 W' (GS A9 E9)) (hs : W.heap.size ≤ W'.heap.size)
    (k1 : ∀ k, rowB Ak = some k → W'.heap[k]? = W.heap[k]?) (k2 : ∀ e ∈ Ek, ∀ k, rowB e.A = some k → W'.heap[k]? = W.heap[k]?) (k3 : ∀ k, rowB As = some k → W'.heap[k]? = W.heap[k]?) (k4 : ∀ k, k < w0.heap.size → GS A9 E9 k → W'.heap[k]? = W.heap[k]?) : L1 w0 W' B9 A9 q9 E9 mk d i s Ak qk Ek As qs := by
  obtain ⟨F, f1, f2, f3⟩ := h.grp
  have gs : ∀ (j : Nat) e9, E9[j]? = some e9 → ∀ k, rowB e9.A = some k → W'.heap[k]? = W.heap[k]? := fun j e9 he k hk => k4 k (hg.lt k (.inr ⟨e9, List.mem_of_getElem? he, hk⟩)).2 (.inr ⟨e9, List.mem_of_getElem? he, hk⟩)
  exact ⟨hf, h.kept.keep k1 k2 hs, h.klen, h.kat, ownsRow_keep h.sz k3, ⟨F, f1, ownsRow_keep f2 (fun k hk => k4 k (hg.lt k (.inl hk)).2 (.inl hk)), f3⟩, fun j e9 hj he => ⟨(h.done j e9 hj he).1.keep (gs j e9 he) hs, (h.done j e9 hj he).2.keep (gs j e9 he)⟩, fun j e9 hj he => ownsRow_keep (h.todo j e9 hj he) (gs j e9 he)⟩
theorem L1.below (h : L1 w0 W B9 A9 q9 E9 mk d i s Ak qk Ek As qs) (hg : GR B9 w0 A9 q9 E9) (hb : Below W.heap.size W W') : L1 w0 W' B9 A9 q9 E9 mk d i s Ak qk Ek As qs :=
  h.keep hg (h.fr.below_ hb) hb.size (fun k hk => hb.block k (ownsRow_lt h.kept.row k hk).2) (fun e he k hk => hb.block k ((h.kept.inn e he).rd.lt k hk)) (fun k hk => hb.block k (ownsRow_lt h.sz k hk).2) (fun k hk _ => hb.block k (Nat.lt_of_lt_of_le hk h.fr.size))
/-- The next list is marked. -/
theorem L1.mark (h : L1 w0 W B9 A9 q9 E9 mk d i s Ak qk Ek As qs) (hg : GR B9 w0 A9 q9 E9) (hid : i ≤ d) {e9 : GE} (he : E9[d]? = some e9) {g g1 c1 : Nat} (hA : e9.A = some ⟨g, 0, none⟩) (hm : MkSt W W2 B9 g g1 c1 e9.l.length (e9.l.length + 65) (mk d)) : L1 w0 W2 B9 A9 q9 E9 mk (d + 1) i s Ak qk Ek As qs := by
  have hrow : rowB e9.A = some g := by rw [hA]; rfl
  have hGS : GS A9 E9 g := .inr ⟨e9, List.mem_of_getElem? he, hrow⟩
  have hlt := (hg.lt g hGS).2
  have hsz := hm.fr.size
  have hother : ∀ (j : Nat) e', j ≠ d → E9[j]? = some e' → ∀ k, rowB e'.A = some k → k ≠ g := fun j e' hj he' k hk e => hg.pw j d e' e9 hj he' he k hk (e ▸ hrow)
  obtain ⟨F, f1, f2, f3⟩ := h.grp
  refine ⟨⟨hm.fr.os.trans h.fr.os, hm.fr.tape.trans h.fr.tape, hm.fr.output.trans h.fr.output, Nat.le_trans h.fr.size hsz, fun k hk hn => (hm.fr.block k (Nat.lt_of_lt_of_le hk h.fr.size) (fun e => hn (e ▸ hGS))).trans (h.fr.block k hk hn)⟩, ?_, h.klen, h.kat, ?_, ⟨F, f1, ?_, f3⟩, fun j e' hj he' => ?_, fun j e' hj he' => ?_⟩
  · refine h.kept.keep (fun k hk => hm.fr.block k (ownsRow_lt h.kept.row k hk).2 (fun e => by have := (ownsRow_lt h.kept.row k hk).1; omega)) (fun e' he' k hk => hm.fr.block k ((h.kept.inn e' he').rd.lt k hk) (fun e => ?_)) hsz
    obtain ⟨j, hj⟩ := List.mem_iff_getElem?.1 he'
    have hjl := (List.getElem?_eq_some_iff.1 hj).1
    obtain ⟨e2, g1', _, g3⟩ := h.kat j e' hj
    rcases g3 k hk with h1 | h1
    · exact hother j e2 (by have := h.klen; omega) g1' k h1 e
    · omega
  · exact ownsRow_keep h.sz (fun k hk => hm.fr.block k (ownsRow_lt h.sz k hk).2 (fun e => by have := (ownsRow_lt h.sz k hk).1; omega))
  · exact ownsRow_keep f2 (fun k hk => hm.fr.block k (ownsRow_lt f2 k hk).2 (fun e => hg.ne (List.mem_of_getElem? he) g hrow (e ▸ hk)))
  · by_cases hj2 : j = d
    · subst hj2
      rw [he] at he'
      obtain rfl := Option.some.inj he'
      rw [hA]
      exact ⟨hm.l, fun k hk => by obtain rfl : g = k := Option.some.inj hk; exact hm.ty⟩
    · have := h.done j e' (by omega) he'
      have kk : ∀ k, rowB e'.A = some k → W2.heap[k]? = W.heap[k]? := fun k hk => hm.fr.block k (this.1.lt k hk) (hother j e' hj2 he' k hk)
      exact ⟨this.1.keep kk hsz, this.2.keep kk⟩
  · have := h.todo j e' (by omega) he'
    exact ownsRow_keep this (fun k hk => hm.fr.block k (ownsRow_lt this k hk).2 (hother j e' (by omega) he' k hk))
/-- What it grew to is kept. -/
theorem L1.keepOne (h : L1 w0 W B9 A9 q9 E9 mk d i s Ak qk Ek As qs) (hg : GR B9 w0 A9 q9 E9) {A2 : Option Addr} {q2 : Nat} {e : PE} {e9 : GE} (he : E9[i]? = some e9) (hl : e.l = List.replicate (e9.l.length + 65) (mk i)) (hr : ∀ g, rowB e.A = some g → rowB e9.A = some g ∨ w0.heap.size ≤ g) (hre : RE W e)
    (ho : W2.ownsRow w0.heap.size 41 1 (.slice A2 (Ek.length + 1) q2) (Ek.length + 1) (Ek.flatMap scell ++ scell e)) (hgr : W.grownBy W2 (rowB Ak)) : L1 w0 W2 B9 A9 q9 E9 mk d (i + 1) s A2 q2 (Ek ++ [e]) As qs := by
  have hold : ∀ k, k < w0.heap.size → W2.heap[k]? = W.heap[k]? := fun k hk => hgr.block k (Nat.lt_of_lt_of_le hk h.fr.size) (fun e => by have := (ownsRow_lt h.kept.row k e.symm).1; omega)
  obtain ⟨F, f1, f2, f3⟩ := h.grp
  have gs : ∀ (j : Nat) e9, E9[j]? = some e9 → ∀ k, rowB e9.A = some k → W2.heap[k]? = W.heap[k]? := fun j e9 he k hk => hold k (hg.lt k (.inr ⟨e9, List.mem_of_getElem? he, hk⟩)).2
  refine ⟨⟨hgr.os.trans h.fr.os, hgr.tape.trans h.fr.tape, hgr.output.trans h.fr.output, Nat.le_trans h.fr.size hgr.size, fun k hk hn => (hold k hk).trans (h.fr.block k hk hn)⟩, h.kept.app hre ho hgr, by rw [List.length_append, List.length_singleton, h.klen], fun j e' hj => ?_, ownsRow_keep h.sz (fun k hk => hgr.block k (ownsRow_lt h.sz k hk).2 (fun e => ?_)), ⟨F, f1, ownsRow_keep f2 (fun k hk => hold k (hg.lt k (.inl hk)).2), f3⟩, fun j e' hj he' => ⟨(h.done j e' hj he').1.keep (gs j e' he') hgr.size, (h.done j e' hj he').2.keep (gs j e' he')⟩, fun j e' hj he' => ownsRow_keep (h.todo j e' hj he') (gs j e' he')⟩
  · rw [List.getElem?_append] at hj
    by_cases c : j < Ek.length
    · rw [if_pos c] at hj; exact h.kat j e' hj
    · rw [if_neg c] at hj
      have hj0 : j - Ek.length = 0 := by
        rcases Nat.eq_zero_or_pos (j - Ek.length) with h0 | h0
        · exact h0
        · rw [List.getElem?_eq_none (by rw [List.length_singleton]; exact h0)] at hj; cases hj
      rw [hj0] at hj
      obtain rfl : e = e' := Option.some.inj hj
      have : j = i := by have := h.klen; omega
      subst this
      exact ⟨e9, he, hl, hr⟩
  · obtain ⟨c1, t1⟩ := ownsRow_type h.sz k hk
    obtain ⟨c2, t2⟩ := ownsRow_type h.kept.row k e.symm
    rw [t1] at t2
    simp only [Option.some.injEq, Obj.cells.injEq] at t2
    exact absurd t2.2.1 (by decide)
/-- Its size is kept. -/
theorem L1.sizeOne (h : L1 w0 W B9 A9 q9 E9 mk d i s Ak qk Ek As qs) (hg : GR B9 w0 A9 q9 E9) {A2 : Option Addr} {q2 : Nat} {e9 : GE} (he : E9[s]? = some e9)
    (ho : W2.ownsRow w0.heap.size 3 1 (.slice A2 (s + 1) q2) (s + 1) (((E9.take s).map fun e => Value.int .i64 ((e.l.length + 65 : Nat) : Int)) ++ [Value.int .i64 ((e9.l.length + 65 : Nat) : Int)])) (hgr : W.grownBy W2 (rowB As)) : L1 w0 W2 B9 A9 q9 E9 mk d i (s + 1) Ak qk Ek A2 q2 := by
  have hold : ∀ k, k < w0.heap.size → W2.heap[k]? = W.heap[k]? := fun k hk => hgr.block k (Nat.lt_of_lt_of_le hk h.fr.size) (fun e => by have := (ownsRow_lt h.sz k e.symm).1; omega)
  obtain ⟨F, f1, f2, f3⟩ := h.grp
  have gs : ∀ (j : Nat) e9, E9[j]? = some e9 → ∀ k, rowB e9.A = some k → W2.heap[k]? = W.heap[k]? := fun j e9 he k hk => hold k (hg.lt k (.inr ⟨e9, List.mem_of_getElem? he, hk⟩)).2
  refine ⟨⟨hgr.os.trans h.fr.os, hgr.tape.trans h.fr.tape, hgr.output.trans h.fr.output, Nat.le_trans h.fr.size hgr.size, fun k hk hn => (hold k hk).trans (h.fr.block k hk hn)⟩, h.kept.keep (fun k hk => hgr.block k (ownsRow_lt h.kept.row k hk).2 (fun e => ?_)) (fun e' he' k hk => hgr.block k ((h.kept.inn e' he').rd.lt k hk) (fun e => ?_)) hgr.size, h.klen, h.kat, ?_, ⟨F, f1, ownsRow_keep f2 (fun k hk => hold k (hg.lt k (.inl hk)).2), f3⟩, fun j e' hj he' => ⟨(h.done j e' hj he').1.keep (gs j e' he') hgr.size, (h.done j e' hj he').2.keep (gs j e' he')⟩, fun j e' hj he' => ownsRow_keep (h.todo j e' hj he') (gs j e' he')⟩
  · obtain ⟨c1, t1⟩ := ownsRow_type h.sz k e.symm
    obtain ⟨c2, t2⟩ := ownsRow_type h.kept.row k hk
    rw [t1] at t2
    simp only [Option.some.injEq, Obj.cells.injEq] at t2
    exact absurd t2.2.1 (by decide)
  · obtain ⟨c1, t1⟩ := ownsRow_type h.sz k e.symm
    obtain ⟨c2, t2⟩ := (h.kept.inn e' he').ty k hk
    rw [t1] at t2
    simp only [Option.some.injEq, Obj.cells.injEq] at t2
    exact absurd t2.2.1 (by decide)
  · have hs := (List.getElem?_eq_some_iff.1 he)
    rw [List.take_add_one, he, List.map_append]
    exact ho
/-- A hash is written. -/
theorem L1.hash (h : L1 w0 W B9 A9 q9 E9 mk d i s Ak qk Ek As qs) (hg : GR B9 w0 A9 q9 E9) {gA : Nat} (hA : A9 = some ⟨gA, 0, none⟩) (j : Nat) (hj : j < E9.length) (u : ByteArray) : L1 w0 (W.setCell ⟨gA, j * 2, none⟩ (.string u)) B9 A9 q9 E9 mk d i s Ak qk Ek As qs := by
  subst hA
  have hGS : GS (some ⟨gA, 0, none⟩) E9 gA := .inl rfl
  have hlt := (hg.lt gA hGS).2
  have hk : ∀ k, k ≠ gA → (W.setCell ⟨gA, j * 2, none⟩ (.string u)).heap[k]? = W.heap[k]? := fun k hk => Below.heap_setCell W ⟨gA, j * 2, none⟩ _ k hk
  have hsz : (W.setCell ⟨gA, j * 2, none⟩ (.string u)).heap.size = W.heap.size := World.size_setCell ..
  obtain ⟨F, f1, f2, f3⟩ := h.grp
  have hne : ∀ (j : Nat) e9, E9[j]? = some e9 → ∀ k, rowB e9.A = some k → k ≠ gA := fun j e9 he k hk e => hg.ne (List.mem_of_getElem? he) k hk (by rw [e]; rfl)
  refine ⟨h.fr.set hGS _ _, h.kept.keep (fun k hk2 => hk k (fun e => by have := (ownsRow_lt h.kept.row k hk2).1; omega)) (fun e' he' k hk2 => hk k (fun e => ?_)) (by rw [hsz]; exact Nat.le_refl _), h.klen, h.kat, ownsRow_keep h.sz (fun k hk2 => hk k (fun e => by have := (ownsRow_lt h.sz k hk2).1; omega)), ?_, fun j e' hj he' => ⟨(h.done j e' hj he').1.keep (fun k hk2 => hk k (hne j e' he' k hk2)) (by rw [hsz]; exact Nat.le_refl _), (h.done j e' hj he').2.keep (fun k hk2 => hk k (hne j e' he' k hk2))⟩, fun j e' hj he' => ownsRow_keep (h.todo j e' hj he') (fun k hk2 => hk k (hne j e' he' k hk2))⟩
  · obtain ⟨j2, hj2⟩ := List.mem_iff_getElem?.1 he'
    obtain ⟨e2, g1, _, g3⟩ := h.kat j2 e' hj2
    rcases g3 k hk2 with h1 | h1
    · exact hne j2 e2 g1 k h1 e
    · omega
  · obtain ⟨x, hx⟩ : ∃ x, F[j]? = some x := ⟨_, List.getElem?_eq_getElem (by omega)⟩
    refine ⟨F.set j { x with f0 := u }, by rw [List.length_set, f1], ?_, fun j2 e' he' => ?_⟩
    · rw [← gcells_set0 F j x u hx]
      exact (World.ownsRow.stored f2 (j * 2) (.string u)).1
    · rcases set_idx he' (by omega) with ⟨_, g1⟩ | ⟨rfl, rfl⟩
      · exact f3 j2 e' g1
      · exact f3 j2 x hx
/-- The group's cells, as they are read. -/
theorem L1.at_ (h : L1 w0 W B9 A9 q9 E9 mk d i s Ak qk Ek As qs) {j : Nat} {e9 : GE} (he : E9[j]? = some e9) : ∃ g u, A9 = some ⟨g, 0, none⟩ ∧ W.cell? ⟨g, j * 2, none⟩ = some (.string u) ∧ W.cell? ⟨g, j * 2 + 1, none⟩ = some (.slice e9.A e9.l.length e9.c) ∧ W.frozen? ⟨g, j * 2, none⟩ = false := by
  obtain ⟨F, f1, f2, f3⟩ := h.grp
  have hjl := (List.getElem?_eq_some_iff.1 he).1
  obtain ⟨x, hx⟩ : ∃ x, F[j]? = some x := ⟨_, List.getElem?_eq_getElem (by omega)⟩
  obtain ⟨e2, g1, g2, g3, g4⟩ := f3 j x hx
  rw [he] at g1
  obtain rfl := Option.some.inj g1
  obtain ⟨g, hg, hc⟩ := own_at (c := gcell) (by decide) gcell_length f2 j x hx
  refine ⟨g, x.f0, hg, hc 0 _ rfl, ?_, ?_⟩
  · have := hc 1 _ rfl
    rw [← g2, ← g3, ← g4]
    exact this
  · subst hg
    exact f2.frozenAt (j * 2)
theorem L1.cell {gA : Nat} (h : L1 w0 W B9 (some ⟨gA, 0, none⟩) q9 E9 mk d i s Ak qk Ek As qs) {j : Nat} {e9 : GE} (he : E9[j]? = some e9) : W.cell? ⟨gA, j * 2 + 1, none⟩ = some (.slice e9.A e9.l.length e9.c) := by
  obtain ⟨g, u, hg, _, h1, _⟩ := h.at_ he
  simp only [Option.some.injEq, Addr.mk.injEq, and_true] at hg
  subst hg
  exact h1
theorem L1.keptRow (h : L1 w0 W B9 A9 q9 E9 mk d i s Ak qk Ek As qs) : W.ownsRow w0.heap.size 41 1 (.slice Ak i qk) i (Ek.flatMap scell) := by
  have := h.kept.row
  rwa [h.klen] at this
end

/-! ### Appends, told apart -/
theorem grown_of_two {W W2 : World} {A A2 : Option Addr} (h : (A2 = A ∧ W.grownBy W2 (rowB A)) ∨ ((∀ k, rowB A2 = some k → W.heap.size ≤ k) ∧ W.grownBy W2 none)) : W.grownBy W2 (rowB A) := by
  rcases h with ⟨_, h⟩ | ⟨_, h⟩
  · exact h
  · exact ⟨h.os, h.tape, h.output, h.size, fun k hk _ => h.block k hk (fun e => by cases e)⟩
theorem two_app {B : Nat} {W W2 : World} {A A' A2 : Option Addr} {q q' q2 : Nat} {E E' : List PE} {e : PE} (hB : B ≤ W.heap.size) (h1 : SR B W A q E) (h2 : SR B W A' q' E') (hne : ∀ k, rowB A = some k → rowB A' ≠ some k) (he : RE W e)
    (ho : W2.ownsRow B 41 1 (.slice A2 (E.length + 1) q2) (E.length + 1) (E.flatMap scell ++ scell e)) (hc : (A2 = A ∧ W.grownBy W2 (rowB A)) ∨ ((∀ k, rowB A2 = some k → W.heap.size ≤ k) ∧ W.grownBy W2 none)) :
    SR B W2 A2 q2 (E ++ [e]) ∧ SR B W2 A' q' E' ∧ (∀ k, rowB A2 = some k → rowB A' ≠ some k) ∧ (∀ (k : Nat) (cur : Array Value), W.heap[k]? = some (Obj.cells cur 94 (0, 0)) → W2.heap[k]? = W.heap[k]?) ∧ Below B W W2 := by
  have hg := grown_of_two hc
  have hty : ∀ (k : Nat) (cur : Array Value), W.heap[k]? = some (Obj.cells cur 94 (0, 0)) → W2.heap[k]? = W.heap[k]? := fun k cur hk => hg.block k (blk_lt hk) (fun e => by
    obtain ⟨c2, t2⟩ := ownsRow_type h1.row k e.symm
    rw [hk] at t2
    simp only [Option.some.injEq, Obj.cells.injEq] at t2
    exact absurd t2.2.1 (by decide))
  refine ⟨h1.app he ho hg, h2.keep (fun k hk => hg.block k (ownsRow_lt h2.row k hk).2 (fun e => hne k e.symm hk)) (fun e' he' k hk => by
    obtain ⟨cur, hcur⟩ := (h2.inn e' he').ty k hk
    exact hty k cur hcur) hg.size, fun k hk => ?_, hty, ?_⟩
  · rcases hc with ⟨rfl, _⟩ | ⟨hf, _⟩
    · exact hne k hk
    · intro hk2
      have := hf k hk
      have := (ownsRow_lt h2.row k hk2).2
      omega
  · exact ⟨hg.os, hg.tape, hg.output, hg.size, fun k hk => hg.block k (Nat.lt_of_lt_of_le hk hB) (fun e => by have := (ownsRow_lt h1.row k e.symm).1; omega)⟩
theorem GoodG.take {wn : Nat} {L : List S80} (H : GoodG wn L) (k : Nat) : GoodG wn (L.take k) := by
  refine ⟨H.up.sublist (List.take_sublist _ _), fun g hg => H.hs g (List.mem_of_mem_take hg), fun g hg => H.pu g (List.mem_of_mem_take hg), fun g hg => H.ne g (List.mem_of_mem_take hg), fun g hg => H.le g (List.mem_of_mem_take hg), fun g hg => H.pk g (List.mem_of_mem_take hg), Nat.le_trans (total_take_le L k) H.wt⟩
theorem C_take {W : World} {A : Option Addr} {L : List S80} (h : Kd.C k80 W A L.length L) (k : Nat) (hk : k ≤ L.length) : Kd.C k80 W A k (L.take k) := by
  refine ⟨by rw [List.length_take]; omega, by have := h.2.1; omega, fun hn => ?_⟩
  obtain ⟨ad, hA, hc⟩ := h.2.2 (by omega)
  refine ⟨ad, hA, fun j p hj => ?_⟩
  rw [List.getElem?_take] at hj
  split at hj
  · exact hc j p hj
  · cases hj
theorem info41 : (Try.prog.info? 41).map (fun i => (i.zero, i.size, i.bytes)) = some (some (.slice none 0 0), 1, 24) := by kernel_rfl
theorem info3 : (Try.prog.info? 3).map (fun i => (i.zero, i.size, i.bytes)) = some (some (.int .i64 0), 1, 8) := by kernel_rfl

/-! ### The second loop: records that were read, and marked -/
structure L2 (w8 W : World) (L : List S80) (mk : Nat → S94) (r i : Nat) (Ar : Option Addr) (qr : Nat) (Er : List PE) (At : Option Addr) (qt : Nat) (Et : List PE) : Prop where
  fr : Below w8.heap.size w8 W
  rd : SR w8.heap.size W Ar qr Er
  tw : SR w8.heap.size W At qt Et
  ne : ∀ k, rowB Ar = some k → rowB At ≠ some k
  rlen : Er.length = r
  tlen : Et.length = i
  rat : ∀ (j : Nat) e, Er[j]? = some e → ∃ n, n ≤ 600 ∧ e.l = List.replicate n (mk (j / 2))
  tat : ∀ (j : Nat) e, Et[j]? = some e → e.l = (L.getD j z80).f1
/-- The same, with one list more that is not marked yet. -/
structure L2p (w8 W : World) (L : List S80) (mk : Nat → S94) (r i : Nat) (Ar : Option Addr) (qr : Nat) (Er : List PE) (pe : PE) (At : Option Addr) (qt : Nat) (Et : List PE) : Prop where
  fr : Below w8.heap.size w8 W
  rd : SR w8.heap.size W Ar qr (Er ++ [pe])
  tw : SR w8.heap.size W At qt Et
  ne : ∀ k, rowB Ar = some k → rowB At ≠ some k
  rlen : Er.length = r
  tlen : Et.length = i
  rat : ∀ (j : Nat) e, Er[j]? = some e → ∃ n, n ≤ 600 ∧ e.l = List.replicate n (mk (j / 2))
  tat : ∀ (j : Nat) e, Et[j]? = some e → e.l = (L.getD j z80).f1
theorem app_at {α : Type} {E : List α} {e e' : α} {j : Nat} (h : (E ++ [e])[j]? = some e') : E[j]? = some e' ∨ (j = E.length ∧ e' = e) := by
  rw [List.getElem?_append] at h
  by_cases c : j < E.length
  · rw [if_pos c] at h; exact .inl h
  · rw [if_neg c] at h
    have h0 : j - E.length = 0 := by
      rcases Nat.eq_zero_or_pos (j - E.length) with h0 | h0
      · exact h0
      · rw [List.getElem?_eq_none (by rw [List.length_singleton]; exact h0)] at h; cases h
    rw [h0] at h
    exact .inr ⟨by omega, (Option.some.inj h).symm⟩
section
variable {w8 W W' W2 : World} {L : List S80} {mk : Nat → S94} {r i : Nat} {Ar At A2 : Option Addr} {qr qt q2 : Nat} {Er Et : List PE} {e pe : PE}
theorem L2.start (w8 : World) (L : List S80) (mk : Nat → S94) : L2 w8 w8 L mk 0 0 none 0 [] none 0 [] :=
  ⟨Below.refl _ _, SR.nil _ _, SR.nil _ _, fun k hk => (by cases hk), rfl, rfl, fun j e he => by simp at he, fun j e he => by simp at he⟩
theorem L2.below (h : L2 w8 W L mk r i Ar qr Er At qt Et) (hb : Below W.heap.size W W') : L2 w8 W' L mk r i Ar qr Er At qt Et := ⟨below_step h.fr hb, h.rd.below hb, h.tw.below hb, h.ne, h.rlen, h.tlen, h.rat, h.tat⟩
theorem L2p.below (h : L2p w8 W L mk r i Ar qr Er pe At qt Et) (hb : Below W.heap.size W W') : L2p w8 W' L mk r i Ar qr Er pe At qt Et := ⟨below_step h.fr hb, h.rd.below hb, h.tw.below hb, h.ne, h.rlen, h.tlen, h.rat, h.tat⟩
theorem L2.rdRow (h : L2 w8 W L mk r i Ar qr Er At qt Et) : W.ownsRow w8.heap.size 41 1 (.slice Ar r qr) r (Er.flatMap scell) := by
  have := h.rd.row
  rwa [h.rlen] at this
theorem L2.twRow (h : L2 w8 W L mk r i Ar qr Er At qt Et) : W.ownsRow w8.heap.size 41 1 (.slice At i qt) i (Et.flatMap scell) := by
  have := h.tw.row
  rwa [h.tlen] at this
abbrev Apd (W W2 : World) (A A2 : Option Addr) : Prop := (A2 = A ∧ W.grownBy W2 (rowB A)) ∨ ((∀ k, rowB A2 = some k → W.heap.size ≤ k) ∧ W.grownBy W2 none)
def KT (W W2 : World) : Prop := ∀ (k : Nat) (cur : Array Value), W.heap[k]? = some (Obj.cells cur 94 (0, 0)) → W2.heap[k]? = W.heap[k]?
theorem OwnP.keepT {B : Nat} {A : Option Addr} {c : Nat} {l : List S94} (h : OwnP W B A c l) (hk : KT W W2) : OwnP W2 B A c l := ownsRow_keep h (fun k hk2 => by
  obtain ⟨cur, hc⟩ := ownsRow_type h k hk2
  exact hk k cur hc)
/-- A twin more. -/
theorem L2.twin (h : L2 w8 W L mk r i Ar qr Er At qt Et) (he : RE W e) (hel : e.l = (L.getD i z80).f1)
    (ho : W2.ownsRow w8.heap.size 41 1 (.slice A2 (i + 1) q2) (i + 1) (Et.flatMap scell ++ scell e)) (hc : Apd W W2 At A2) : L2 w8 W2 L mk r (i + 1) Ar qr Er A2 q2 (Et ++ [e]) ∧ KT W W2 := by
  obtain ⟨t1, t2, t3, t4, t5⟩ := two_app (A' := Ar) (q' := qr) (E' := Er) h.fr.size h.tw h.rd (fun k hk hk2 => h.ne k hk2 hk) he (by rw [h.tlen]; exact ho) hc
  refine ⟨⟨⟨t5.os.trans h.fr.os, t5.tape.trans h.fr.tape, t5.output.trans h.fr.output, Nat.le_trans h.fr.size t5.size, fun k hk => (t5.block k hk).trans (h.fr.block k hk)⟩, t2, t1, fun k hk hk2 => t3 k hk2 hk, h.rlen, by rw [List.length_append, List.length_singleton, h.tlen], h.rat, fun j e' hj => ?_⟩, t4⟩
  rcases app_at hj with h1 | ⟨h1, h2⟩
  · exact h.tat j e' h1
  · subst h2
    rw [h1, h.tlen]
    exact hel
/-- A list more that was read. -/
theorem L2.readP (h : L2 w8 W L mk r i Ar qr Er At qt Et) (he : RE W pe)
    (ho : W2.ownsRow w8.heap.size 41 1 (.slice A2 (r + 1) q2) (r + 1) (Er.flatMap scell ++ scell pe)) (hc : Apd W W2 Ar A2) : L2p w8 W2 L mk r i A2 q2 Er pe At qt Et ∧ KT W W2 := by
  obtain ⟨t1, t2, t3, t4, t5⟩ := two_app (A' := At) (q' := qt) (E' := Et) h.fr.size h.rd h.tw h.ne he (by rw [h.rlen]; exact ho) hc
  exact ⟨⟨⟨t5.os.trans h.fr.os, t5.tape.trans h.fr.tape, t5.output.trans h.fr.output, Nat.le_trans h.fr.size t5.size, fun k hk => (t5.block k hk).trans (h.fr.block k hk)⟩, t1, t2, t3, h.rlen, h.tlen, h.rat, h.tat⟩, t4⟩
/-- It is marked. -/
theorem L2p.mark {g g1 c1 B n : Nat} (h : L2p w8 W L mk r i Ar qr Er pe At qt Et) (hA : pe.A = some ⟨g, 0, none⟩) (hn : pe.l.length = n) (hn6 : n ≤ 512) (hB : w8.heap.size ≤ g) (hE : ∀ e ∈ Er, ∀ k, rowB e.A = some k → k ≠ g) (hT : ∀ e ∈ Et, ∀ k, rowB e.A = some k → k ≠ g)
    (hm : MkSt W W2 B g g1 c1 n (n + 65) (mk (r / 2))) : L2 w8 W2 L mk (r + 1) i Ar qr (Er ++ [⟨pe.A, pe.c, List.replicate n (mk (r / 2))⟩]) At qt Et := by
  have hpe := h.rd.inn pe (List.mem_append_right _ (List.mem_singleton.2 rfl))
  have hrow : rowB pe.A = some g := by rw [hA]; rfl
  have hrn : ∀ k, rowB Ar = some k → ¬ k = g := fun k hk e => h.rd.ne hpe.ty g hrow (e ▸ hk)
  have htn : ∀ k, rowB At = some k → ¬ k = g := fun k hk e => h.tw.ne hpe.ty g hrow (e ▸ hk)
  refine ⟨⟨hm.fr.os.trans h.fr.os, hm.fr.tape.trans h.fr.tape, hm.fr.output.trans h.fr.output, Nat.le_trans h.fr.size hm.fr.size, fun k hk => (hm.fr.block k (Nat.lt_of_lt_of_le hk h.fr.size) (fun e => by omega)).trans (h.fr.block k hk)⟩, ?_, ?_, h.ne, by rw [List.length_append, List.length_singleton, h.rlen], h.tlen, fun j e' hj => ?_, h.tat⟩
  · refine h.rd.swap (by rw [List.length_replicate, hn]) hm.fr hrn (fun e' he' k hk => hE e' he' k hk) ⟨by rw [List.length_replicate, ← hn]; exact hpe.le, by rw [hA]; exact hm.l, fun k hk => ?_⟩
    rw [hA] at hk
    obtain rfl : g = k := Option.some.inj hk
    exact hm.ty
  · exact h.tw.keep (fun k hk => hm.fr.block k (ownsRow_lt h.tw.row k hk).2 (htn k hk)) (fun e' he' k hk => hm.fr.block k ((h.tw.inn e' he').rd.lt k hk) (hT e' he' k hk)) hm.fr.size
  · rcases app_at hj with h1 | ⟨h1, h2⟩
    · exact h.rat j e' h1
    · subst h2
      exact ⟨n, by omega, by rw [h1, h.rlen]⟩
/-- What it grew to is kept too. -/
theorem L2.readM (h : L2 w8 W L mk r i Ar qr Er At qt Et) (he : RE W e) (hel : ∃ n, n ≤ 600 ∧ e.l = List.replicate n (mk (r / 2)))
    (ho : W2.ownsRow w8.heap.size 41 1 (.slice A2 (r + 1) q2) (r + 1) (Er.flatMap scell ++ scell e)) (hc : Apd W W2 Ar A2) : L2 w8 W2 L mk (r + 1) i A2 q2 (Er ++ [e]) At qt Et := by
  obtain ⟨t, _⟩ := h.readP he ho hc
  refine ⟨t.fr, t.rd, t.tw, t.ne, by rw [List.length_append, List.length_singleton, h.rlen], t.tlen, fun j e' hj => ?_, t.tat⟩
  rcases app_at hj with h1 | ⟨h1, h2⟩
  · exact h.rat j e' h1
  · subst h2
    rw [h1, h.rlen]
    exact hel
end
/-- One record, read into a row of its own. -/
theorem read_any {wn : Nat} {L : List S80} (H : GoodG wn L) {i : Nat} (hi : i < L.length) (W : World) :
    Calls Try.prog 24 #[.string (dataB L), .int .i64 ((total (L.take i) : Nat) : Int)] W fun e w' => ∃ A c, e = .returned (.tuple #[.slice A (L.getD i z80).f1.length c, .int .i64 ((total (L.take (i + 1)) : Nat) : Int), .int .i64 0]) ∧ OwnP w' W.heap.size A c (L.getD i z80).f1 ∧ Below W.heap.size W w' := by
  refine (record_ReadRecord.calls 601 (dataB L) _ (L.getD i z80).f1 _ 0 W (by rw [readRecord_tells (dataB L) (by have := dataB_small H; omega) _ 601 (by omega), rrF_good2 H hi])).mono ?_
  rintro e w' ⟨v, rfl, hk, hb⟩
  obtain ⟨A, c, rfl, ho⟩ := OwnP.of_R hk
  exact ⟨A, c, rfl, ho, hb⟩

end Go.Proofs.Ytkfhedppnlocpaa.Q
