/- Groups that are handed in, in plain words and in memory. No condition. -/
import Derived.Test.YtkfhedppnlocpaaEU
import Derived.Test.YtkfhedppnlocpaaEA
import Derived.Test.YtkfhedppnlocpaaR
import Derived.BigQuiet
set_option linter.unusedVariables false
set_option linter.unusedSimpArgs false
namespace Go.Proofs.Ytkfhedppnlocpaa.Q
open Go.RowKit Go.Plan Go.Proofs.YtkfhedppnlocpaaW.PrintWords Go.Proofs.YtkfhedppnlocpaaW.PrintLast Go.Proofs.YtkfhedppnlocpaaW.PrintMore

section
variable {P : Program} {ops : Array Oper}
/-- A quiet walk in one world is a still one. -/
theorem still_of_quiet {w0 : World} {Q : Act → Prop} : ∀ (l : List Oper) (a : Act), wpQuiet P ops (fun w' => w' = w0) Q l a → wpStill P ops w0 Q l a
  | [], _, h => h
  | o :: rest, a, h => by
    unfold wpStill
    unfold wpQuiet at h
    by_cases c : Region.wanted o (yielded ops a.tmps)
    · rw [if_pos c] at h ⊢
      obtain ⟨v, h1, h2⟩ := h
      have h3 := h1 w0 rfl
      unfold Oper.quietAt at h3
      unfold Oper.still
      generalize (execOp a.eval o).run P w0 = r at h3
      unfold Oper.quietUpon at h3
      unfold Oper.stillUpon
      split at h3
      · obtain ⟨rfl, rfl⟩ := h3
        exact ⟨rfl, still_of_quiet rest _ h2⟩
      · obtain ⟨rfl, rfl⟩ := h3
        exact ⟨rfl, still_of_quiet rest _ h2⟩
      · obtain ⟨rfl, h4⟩ := h3
        exact ⟨rfl, v, h4, still_of_quiet rest _ h2⟩
      · exact h3.elim
    · rw [if_neg c] at h ⊢
      exact still_of_quiet rest _ h
end

/-! ### Groups that are handed in -/
def behind : ByteArray := ⟨#[98, 101, 104, 105, 110, 100]⟩
def marks : List S94 := [⟨⟨#[98, 101, 104, 105, 110, 100]⟩, ⟨#[49]⟩⟩, ⟨⟨#[98, 101, 104, 105, 110, 100]⟩, ⟨#[50]⟩⟩]
theorem roomy_tells (l : List S94) (h : l.length ≤ 4398046510976) : granarylaw3_roomy.f l = some (l ++ marks) := by
  unfold granarylaw3_roomy.f marks
  rw [if_pos (by simp; omega)]
  simp only [Option.bind_some, List.nil_append]
  rw [if_pos (by simp; omega)]
/-- The pairs of a group that is handed in, with the marks behind it. -/
def hpc (e : GE) : List Value := [.slice e.A (e.l.length + 2) e.c]
theorem hpc_length (e : GE) : (hpc e).length = 1 := rfl
theorem hpc_one (e : GE) : ∀ u ∈ hpc e, u.oneCell' = true := by
  intro u hu
  simp [hpc] at hu
  subst hu
  rfl
theorem block_ne {W : World} {i j : Nat} {c1 c2 : Array Value} {t1 t2 : TypeId} {z1 z2 : Nat × Nat} (h1 : W.heap[i]? = some (.cells c1 t1 z1)) (h2 : W.heap[j]? = some (.cells c2 t2 z2)) (ht : t1 ≠ t2) : i ≠ j := by
  rintro rfl
  rw [h1] at h2
  simp only [Option.some.injEq, Obj.cells.injEq] at h2
  exact ht h2.2.1
abbrev OwnH (W : World) (B : Nat) (A : Option Addr) (q : Nat) (E : List GE) : Prop := W.ownsRow B 41 1 (.slice A E.length q) E.length (E.flatMap hpc)
structure HD (B : Nat) (W : World) (g : Nat) (gA : Option Addr) (gq : Nat) (pA : Option Addr) (pq : Nat) (G E : List GE) : Prop where
  bx : W.heap[g]? = some (.cells #[.slice gA G.length gq, .slice pA E.length pq] 130 (0, 0))
  hB : B ≤ g
  gr : OwnG W B gA gq G
  pr : OwnH W B pA pq E
  inn : ∀ e ∈ E, OwnP W B e.A e.c (e.l ++ marks)
section
variable {B g : Nat} {W W' : World} {gA gA' pA pA' : Option Addr} {gq gq' pq pq' : Nat} {G E : List GE}
theorem HD.below (h : HD B W g gA gq pA pq G E) (hb : Below W.heap.size W W') : HD B W' g gA gq pA pq G E :=
  ⟨(hb.block _ (Array.getElem?_eq_some_iff.1 h.bx).1).trans h.bx, h.hB, ownsRow_keep h.gr fun k hk => hb.block k (ownsRow_lt h.gr k hk).2, ownsRow_keep h.pr fun k hk => hb.block k (ownsRow_lt h.pr k hk).2, fun e he => ownsRow_keep (h.inn e he) fun k hk => hb.block k (ownsRow_lt (h.inn e he) k hk).2⟩
theorem HD.gne (h : HD B W g gA gq pA pq G E) : ∀ k, rowB gA = some k → k ≠ g := by
  intro k hk
  obtain ⟨c, hc⟩ := ownsRow_type h.gr k hk
  exact block_ne hc h.bx (by decide)
theorem HD.pne (h : HD B W g gA gq pA pq G E) : ∀ k, rowB pA = some k → k ≠ g := by
  intro k hk
  obtain ⟨c, hc⟩ := ownsRow_type h.pr k hk
  exact block_ne hc h.bx (by decide)
theorem HD.gpne (h : HD B W g gA gq pA pq G E) : ∀ k, rowB gA = some k → rowB pA ≠ some k := by
  intro k hk hp
  obtain ⟨c, hc⟩ := ownsRow_type h.gr k hk
  obtain ⟨c2, hc2⟩ := ownsRow_type h.pr k hp
  exact block_ne hc hc2 (by decide) rfl
theorem HD.ine (h : HD B W g gA gq pA pq G E) {e : GE} {l : List S94} (he : OwnP W B e.A e.c l) : ∀ k, rowB e.A = some k → k ≠ g ∧ rowB gA ≠ some k ∧ rowB pA ≠ some k := by
  intro k hk
  obtain ⟨c, hc⟩ := ownsRow_type he k hk
  refine ⟨block_ne hc h.bx (by decide), fun hg => ?_, fun hp => ?_⟩
  · obtain ⟨c2, hc2⟩ := ownsRow_type h.gr k hg
    exact block_ne hc hc2 (by decide) rfl
  · obtain ⟨c2, hc2⟩ := ownsRow_type h.pr k hp
    exact block_ne hc hc2 (by decide) rfl
theorem new_ne (hb : W'.heap[g]? = some (.cells #[.slice gA G.length gq, .slice pA E.length pq] 130 (0, 0))) {t : TypeId} {sz n : Nat} {A : Option Addr} {q : Nat} {xs : List Value} (h : W'.ownsRow B t sz (.slice A n q) n xs) (ht : t ≠ 130) : ∀ k, rowB A = some k → k ≠ g := by
  intro k hk
  obtain ⟨c, hc⟩ := ownsRow_type h k hk
  exact block_ne hc hb ht
theorem cells_flat {α : Type} (c : α → List Value) (E : List α) (e : α) : (E ++ [e]).flatMap c = E.flatMap c ++ c e := by
  rw [List.flatMap_append, List.flatMap_cons, List.flatMap_nil, List.append_nil]
/-- One more list of pairs. -/
theorem HD.putP {e : GE} {n : Nat} (h : HD B W g gA gq pA pq G E) (hn : E.length + 1 = n) (hr : W'.ownsRow B 41 1 (.slice pA' n pq') n (E.flatMap hpc ++ hpc e)) (hg : W.grownBy W' (rowB pA)) (hin : OwnP W B e.A e.c (e.l ++ marks)) :
    HD B (W'.setCell ⟨g, 1, none⟩ (.slice pA' n pq')) g gA gq pA' pq' G (E ++ [e]) := by
  have hl : (E ++ [e]).length = n := by simp; omega
  have hk : ∀ k, k < W.heap.size → rowB pA ≠ some k → k ≠ g → (W'.setCell ⟨g, 1, none⟩ (.slice pA' n pq')).heap[k]? = W.heap[k]? := fun k h1 h2 h3 => (Below.heap_setCell W' ⟨g, 1, none⟩ _ k h3).trans (hg.block k h1 (fun e => h2 e.symm))
  have hgl := (Array.getElem?_eq_some_iff.1 h.bx).1
  have hb' : W'.heap[g]? = _ := (hg.block g hgl (fun e => h.pne g e.symm rfl)).trans h.bx
  have hne := new_ne hb' hr (by decide)
  refine ⟨?_, h.hB, ownsRow_keep h.gr fun k hk1 => hk k (ownsRow_lt h.gr k hk1).2 (h.gpne k hk1) (h.gne k hk1), ?_, fun e' he' => ?_⟩
  · rw [hl]
    simp [World.setCell, Array.getElem?_modify, hb']
  · unfold OwnH
    rw [hl, cells_flat]
    exact ownsRow_keep hr fun k hk1 => Below.heap_setCell W' ⟨g, 1, none⟩ _ k (hne k hk1)
  · have hin' : OwnP W B e'.A e'.c (e'.l ++ marks) := by
      rcases List.mem_append.1 he' with h1 | h1
      · exact h.inn e' h1
      · obtain rfl := List.mem_singleton.1 h1; exact hin
    exact ownsRow_keep hin' fun k hk1 => by
      obtain ⟨h1, h2, h3⟩ := h.ine hin' k hk1
      exact hk k (ownsRow_lt hin' k hk1).2 h3 h1
/-- One more group. -/
theorem HD.putG {e : GE} {n : Nat} (h : HD B W g gA gq pA pq G E) (hn : G.length + 1 = n) (hr : W'.ownsRow B 80 2 (.slice gA' n gq') n (G.flatMap gcell ++ gcell e)) (hg : W.grownBy W' (rowB gA)) :
    HD B (W'.setCell ⟨g, 0, none⟩ (.slice gA' n gq')) g gA' gq' pA pq (G ++ [e]) E := by
  have hl : (G ++ [e]).length = n := by simp; omega
  have hk : ∀ k, k < W.heap.size → rowB gA ≠ some k → k ≠ g → (W'.setCell ⟨g, 0, none⟩ (.slice gA' n gq')).heap[k]? = W.heap[k]? := fun k h1 h2 h3 => (Below.heap_setCell W' ⟨g, 0, none⟩ _ k h3).trans (hg.block k h1 (fun e => h2 e.symm))
  have hgl := (Array.getElem?_eq_some_iff.1 h.bx).1
  have hb' : W'.heap[g]? = _ := (hg.block g hgl (fun e => h.gne g e.symm rfl)).trans h.bx
  have hne := new_ne hb' hr (by decide)
  refine ⟨?_, h.hB, ?_, ownsRow_keep h.pr fun k hk1 => hk k (ownsRow_lt h.pr k hk1).2 (fun e => h.gpne k e hk1) (h.pne k hk1), fun e' he' => ?_⟩
  · rw [hl]
    simp [World.setCell, Array.getElem?_modify, hb']
  · unfold OwnG
    rw [hl, cells_flat]
    exact ownsRow_keep hr fun k hk1 => Below.heap_setCell W' ⟨g, 0, none⟩ _ k (hne k hk1)
  · have hin' := h.inn e' he'
    exact ownsRow_keep hin' fun k hk1 => by
      obtain ⟨h1, h2, h3⟩ := h.ine hin' k hk1
      exact hk k (ownsRow_lt hin' k hk1).2 h2 h1
end
theorem bel_put {B g j : Nat} {w W W' : World} {A : Option Addr} {v : Value} (h : Below B w W) (hB : B ≤ w.heap.size) (hg : W.grownBy W' (rowB A)) (hA : ∀ k, rowB A = some k → B ≤ k) (hgB : B ≤ g) : Below B w (W'.setCell ⟨g, j, none⟩ v) :=
  (h.grown hg (Nat.le_trans hB h.size) hA).setCell (p := ⟨g, j, none⟩) hgB _

end Go.Proofs.Ytkfhedppnlocpaa.Q
