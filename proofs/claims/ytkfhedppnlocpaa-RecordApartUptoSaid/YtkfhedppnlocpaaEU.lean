/- Rows of a call's own; pairs and groups in such rows. No condition. -/
import Derived.Test.YtkfhedppnlocpaaEG
set_option linter.unusedVariables false
set_option linter.unusedSimpArgs false
namespace Go.Proofs.Ytkfhedppnlocpaa.Q
open Go.RowKit Go.Proofs.YtkfhedppnlocpaaW.PrintWords Go.Proofs.YtkfhedppnlocpaaW.PrintLast Go.Proofs.YtkfhedppnlocpaaW.PrintMore

/-! ### Rows of a call's own -/
section
variable {α : Type} {c : α → List Value} {sz : Nat}
theorem rc_length (hsz : ∀ x, (c x).length = sz) (L : List α) : (L.flatMap c).length = L.length * sz := by
  induction L with
  | nil => simp
  | cons x l ih => simp [hsz, ih, Nat.add_mul]; omega
theorem rc_at (hsz : ∀ x, (c x).length = sz) : ∀ (L : List α) (i : Nat) (x : α), L[i]? = some x → ∀ k, k < sz → (L.flatMap c)[i * sz + k]? = (c x)[k]? := by
  intro L
  induction L with
  | nil => intro i x h; simp at h
  | cons y l ih =>
    intro i x h k hk
    rw [List.flatMap_cons]
    cases i with
    | zero =>
      simp only [List.getElem?_cons_zero, Option.some.injEq] at h
      subst h
      rw [Nat.zero_mul, Nat.zero_add, List.getElem?_append_left (by rw [hsz]; exact hk)]
    | succ i =>
      rw [List.getElem?_cons_succ] at h
      rw [List.getElem?_append_right (by rw [hsz, Nat.add_mul]; omega), hsz]
      rw [show (i + 1) * sz + k - sz = i * sz + k by rw [Nat.add_mul]; omega]
      exact ih i x h k hk
end

def rowB (A : Option Addr) : Option Nat := A.map (·.block)
theorem rowB_own (A : Option Addr) (n cap : Nat) : (Value.slice A n cap).ownBlock = rowB A := by cases A <;> rfl
section
variable {W W' : World} {B : Nat} {e : TypeId} {size : Nat} {A : Option Addr} {n cap : Nat} {xs : List Value}
theorem ownsRow_keep (h : W.ownsRow B e size (.slice A n cap) n xs) (hk : ∀ g, rowB A = some g → W'.heap[g]? = W.heap[g]?) : W'.ownsRow B e size (.slice A n cap) n xs := by
  refine ⟨h.1, ?_⟩
  rcases h.2 with hn | ⟨g, c, cur, hv, hb, hgg, rest⟩
  · exact .inl hn
  · refine .inr ⟨g, c, cur, hv, hb, ?_, rest⟩
    cases hv
    exact (hk g rfl).trans hgg
theorem ownsRow_lt (h : W.ownsRow B e size (.slice A n cap) n xs) : ∀ g, rowB A = some g → B ≤ g ∧ g < W.heap.size := by
  intro g hg
  exact h.lt g ((rowB_own A n cap).trans hg)
theorem ownsRow_type (h : W.ownsRow B e size (.slice A n cap) n xs) : ∀ g, rowB A = some g → ∃ cur, W.heap[g]? = some (.cells cur e (0, 0)) := by
  intro g hg
  rcases h.2 with ⟨hv, _⟩ | ⟨g', c, cur, hv, hb, hgg, rest⟩
  · cases hv; cases hg
  · cases hv
    obtain rfl := Option.some.inj hg
    exact ⟨cur, hgg⟩
theorem ownsRow_addr (h : W.ownsRow B e size (.slice A n cap) n xs) (hn : 0 < n) : ∃ g, A = some ⟨g, 0, none⟩ := by
  rcases h.2 with ⟨hv, h0⟩ | ⟨g', c, cur, hv, hb, hgg, rest⟩
  · omega
  · cases hv; exact ⟨g', rfl⟩
theorem ownsRow_cap (h : W.ownsRow B e size (.slice A n cap) n xs) : n ≤ cap ∧ cap ≤ maxLen := by
  rcases h.2 with ⟨hv, h0⟩ | ⟨g', c, cur, hv, hb, hgg, h1, h2, rest⟩
  · cases hv; exact ⟨Nat.le_refl _, Nat.zero_le _⟩
  · cases hv; exact ⟨h1, h2⟩
theorem own_form {v : Value} (h : W.ownsRow B e size v n xs) : ∃ A cap, v = .slice A n cap := by
  rcases h.2 with ⟨rfl, rfl⟩ | ⟨g, c, cur, rfl, _⟩
  · exact ⟨none, 0, rfl⟩
  · exact ⟨_, _, rfl⟩
end
/-- The k-th cell of the i-th element of an owned row. -/
theorem own_at {α : Type} {c : α → List Value} {W : World} {B : Nat} {e : TypeId} {sz : Nat} {A : Option Addr} {n cap : Nat} {L : List α} (hs0 : 0 < sz) (hsz : ∀ x, (c x).length = sz) (h : W.ownsRow B e sz (.slice A n cap) n (L.flatMap c)) (i : Nat) (x : α) (hi : L[i]? = some x) :
    ∃ g, A = some ⟨g, 0, none⟩ ∧ ∀ k u, (c x)[k]? = some u → W.cell? ⟨g, i * sz + k, none⟩ = some u := by
  have hil : i < L.length := (List.getElem?_eq_some_iff.1 hi).1
  have hll : (L.flatMap c).length = n * sz := h.1
  rw [rc_length hsz] at hll
  rcases h.2 with ⟨hv, h0⟩ | ⟨g, c', cur, hv, _⟩
  · rw [h0, Nat.zero_mul] at hll
    have := Nat.mul_pos (show 0 < L.length by omega) hs0
    omega
  · cases hv
    refine ⟨g, rfl, fun k u hk => ?_⟩
    have hkl : k < sz := by
      have := (List.getElem?_eq_some_iff.1 hk).1
      rwa [hsz] at this
    have := h.cells (g := g) rfl (i * sz + k) u (by rw [rc_at hsz L i x hi k hkl, hk])
    rwa [add_plain] at this

/-- Blocks outside S are as they were; new ones are there. -/
structure But (w w' : World) (S : Nat → Prop) : Prop where
  os : w'.os = w.os
  tape : w'.tape = w.tape
  output : w'.output = w.output
  size : w.heap.size ≤ w'.heap.size
  block : ∀ i, i < w.heap.size → ¬ S i → w'.heap[i]? = w.heap[i]?
theorem But.refl (w : World) (S : Nat → Prop) : But w w S := ⟨rfl, rfl, rfl, Nat.le_refl _, fun _ _ _ => rfl⟩
theorem But.trans {w W W' : World} {S : Nat → Prop} (h : But w W S) (k : But W W' S) : But w W' S :=
  ⟨k.os.trans h.os, k.tape.trans h.tape, k.output.trans h.output, Nat.le_trans h.size k.size, fun i hi hs => (k.block i (Nat.lt_of_lt_of_le hi h.size) hs).trans (h.block i hi hs)⟩
theorem But.mono {w W : World} {S T : Nat → Prop} (h : But w W S) (hs : ∀ i, S i → T i) : But w W T := ⟨h.os, h.tape, h.output, h.size, fun i hi k => h.block i hi (fun s => k (hs i s))⟩
theorem But.of_below {w w' : World} {S : Nat → Prop} (h : Below w.heap.size w w') : But w w' S := ⟨h.os, h.tape, h.output, h.size, fun i hi _ => h.block i hi⟩
theorem But.grown {w W W' : World} {S : Nat → Prop} {A : Option Nat} (h : But w W S) (hg : W.grownBy W' A) (hA : ∀ g, A = some g → S g) : But w W' S :=
  ⟨hg.os.trans h.os, hg.tape.trans h.tape, hg.output.trans h.output, Nat.le_trans h.size hg.size, fun i hi hs => (hg.block i (Nat.lt_of_lt_of_le hi h.size) (fun e => hs (hA i e.symm))).trans (h.block i hi hs)⟩
theorem But.set {w W : World} {S : Nat → Prop} (h : But w W S) {g : Nat} (hg : S g) (j : Nat) (u : Value) : But w (W.setCell ⟨g, j, none⟩ u) S :=
  ⟨h.os, h.tape, h.output, by rw [World.size_setCell]; exact h.size, fun i hi hs => (Below.heap_setCell W ⟨g, j, none⟩ u i (fun e => hs (e ▸ hg))).trans (h.block i hi hs)⟩
theorem But.below_ {w W W' : World} {S : Nat → Prop} (h : But w W S) (hb : Below W.heap.size W W') : But w W' S := h.trans (But.of_below hb)
theorem But.drew {w W : World} {S : Nat → Prop} (h : But w W S) : But w W.drew S := ⟨h.os, h.tape, h.output, h.size, h.block⟩
theorem But.drewN {w W : World} {S : Nat → Prop} (h : But w W S) (n : Nat) : But w (W.drewN n) S := ⟨h.os, h.tape, h.output, h.size, h.block⟩
theorem But.below {B : Nat} {w W W' : World} {S : Nat → Prop} (h : Below B w W) (hb : But W W' S) (hS : ∀ i, S i → B ≤ i) (hB : B ≤ W.heap.size) : Below B w W' :=
  ⟨hb.os.trans h.os, hb.tape.trans h.tape, hb.output.trans h.output, Nat.le_trans h.size hb.size, fun i hi => (hb.block i (by omega) (fun s => by have := hS i s; omega)).trans (h.block i hi)⟩


/-! ### Pairs and groups in rows of a call's own -/
def pcell (p : S94) : List Value := [.string p.f0, .string p.f1]
theorem pcell_length (p : S94) : (pcell p).length = 2 := rfl
abbrev OwnP (W : World) (B : Nat) (A : Option Addr) (c : Nat) (l : List S94) : Prop := W.ownsRow B 94 2 (.slice A l.length c) l.length (l.flatMap pcell)
theorem OwnP.reads {W : World} {B : Nat} {A : Option Addr} {c : Nat} {l : List S94} (h : OwnP W B A c l) : Kd.C k94 W A l.length l := by
  refine ⟨rfl, ?_, fun hl => ?_⟩
  · have := (ownsRow_cap h).1
    have := (ownsRow_cap h).2
    unfold maxLen at *
    omega
  · obtain ⟨g, hg⟩ := ownsRow_addr h hl
    refine ⟨⟨g, 0, none⟩, hg, fun j p hj => ?_⟩
    obtain ⟨g', hg', hc⟩ := own_at (c := pcell) (by decide) pcell_length h j p hj
    rw [hg] at hg'
    simp only [Option.some.injEq, Addr.mk.injEq, and_true] at hg'
    subst hg'
    exact ⟨pcell p, rfl, k94_mk W p, fun i u hu => by rw [add_plain]; exact hc i u hu⟩
/-- A row of pairs by the printed texts' word is one by ours. -/
theorem OwnP.of_R {W : World} {B : Nat} {ok : Nat → Prop} {v : Value} {l : List S94} (h : Kd.R k94 94 W B ok v l) : ∃ A c, v = .slice A l.length c ∧ OwnP W B A c l := by
  obtain ⟨inner, ho⟩ := Kd.R_own h
  obtain ⟨A, c, rfl, hc, hr⟩ := Kd.R_reads h
  refine ⟨A, c, rfl, ?_⟩
  have hl : inner.length = l.length * 2 := ho.1
  have hl2 : (l.flatMap pcell).length = l.length * 2 := rc_length pcell_length l
  have e : inner = l.flatMap pcell := by
    apply List.ext_getElem?
    intro j
    rcases Nat.lt_or_ge j (l.length * 2) with hj | hj
    · have hjl : j / 2 < l.length := by omega
      obtain ⟨p, hp⟩ : ∃ p, l[j / 2]? = some p := ⟨_, List.getElem?_eq_getElem hjl⟩
      obtain ⟨g, hg⟩ := ownsRow_addr ho (by omega)
      obtain ⟨ad, had, hcell⟩ := hr.2.2 (by omega)
      rw [hg] at had
      obtain rfl := Option.some.inj had
      obtain ⟨cs, hcs, hK, hcc⟩ := hcell (j / 2) p hp
      obtain rfl := k94_open hK
      have h1 := rc_at pcell_length l (j / 2) p hp (j % 2) (by omega)
      rw [show j / 2 * 2 + j % 2 = j by omega] at h1
      rw [h1]
      obtain ⟨u, hu⟩ : ∃ u, (pcell p)[j % 2]? = some u := ⟨_, List.getElem?_eq_getElem (show j % 2 < (pcell p).length by rw [pcell_length]; omega)⟩
      have h2 : W.cell? ((⟨g, 0, none⟩ : Addr).add (j / 2 * 2 + j % 2)) = some u := hcc (j % 2) u hu
      rw [show j / 2 * 2 + j % 2 = j by omega] at h2
      rw [hu]
      obtain ⟨u', hu'⟩ : ∃ u', inner[j]? = some u' := ⟨_, List.getElem?_eq_getElem (by omega)⟩
      have ho' := ho
      rw [hg] at ho'
      have h3 := ho'.cells (g := g) rfl j u' hu'
      rw [h3] at h2
      rw [hu', h2]
    · rw [List.getElem?_eq_none (by omega), List.getElem?_eq_none (by omega)]
  subst e
  exact ho
structure GE where
  f0 : ByteArray
  A : Option Addr
  c : Nat
  l : List S94
def GE.g (e : GE) : S80 := ⟨e.f0, e.l⟩
def gcell (e : GE) : List Value := [.string e.f0, .slice e.A e.l.length e.c]
theorem gcell_length (e : GE) : (gcell e).length = 2 := rfl
abbrev OwnG (W : World) (B : Nat) (A : Option Addr) (q : Nat) (E : List GE) : Prop := W.ownsRow B 80 2 (.slice A E.length q) E.length (E.flatMap gcell)
/-- Groups in a row of their own, each one's pairs in a row of their own. -/
structure GR (B : Nat) (W : World) (A : Option Addr) (q : Nat) (E : List GE) : Prop where
  row : OwnG W B A q E
  inn : ∀ e ∈ E, OwnP W B e.A e.c e.l
  pw : ∀ (i j : Nat) e e', i ≠ j → E[i]? = some e → E[j]? = some e' → ∀ k, rowB e.A = some k → rowB e'.A ≠ some k
def GS (A : Option Addr) (E : List GE) (i : Nat) : Prop := rowB A = some i ∨ ∃ e ∈ E, rowB e.A = some i
section
variable {B : Nat} {W W' : World} {A : Option Addr} {q : Nat} {E : List GE}
theorem GR.lt (h : GR B W A q E) : ∀ i, GS A E i → B ≤ i ∧ i < W.heap.size := by
  intro i hi
  rcases hi with hi | ⟨e, he, hi⟩
  · exact ownsRow_lt h.row i hi
  · exact ownsRow_lt (h.inn e he) i hi
theorem GR.keep (h : GR B W A q E) (k : ∀ i, GS A E i → W'.heap[i]? = W.heap[i]?) : GR B W' A q E :=
  ⟨ownsRow_keep h.row fun g hg => k g (.inl hg), fun e he => ownsRow_keep (h.inn e he) fun g hg => k g (.inr ⟨e, he, hg⟩), h.pw⟩
theorem GR.below (h : GR B W A q E) (hb : Below W.heap.size W W') : GR B W' A q E := h.keep fun i hi => hb.block i (h.lt i hi).2
/-- The groups' row is none of the pairs' rows: their types part. -/
theorem GR.ne (h : GR B W A q E) {e : GE} (he : e ∈ E) : ∀ i, rowB e.A = some i → rowB A ≠ some i := by
  intro i hi hA
  obtain ⟨c1, h1⟩ := ownsRow_type (h.inn e he) i hi
  obtain ⟨c2, h2⟩ := ownsRow_type h.row i hA
  rw [h1] at h2
  simp only [Option.some.injEq, Obj.cells.injEq] at h2
  exact absurd h2.2.1 (by decide)
theorem GR.nil (B : Nat) (W : World) : GR B W none 0 [] := ⟨World.ownsRow_nil _ _ _ _, fun e he => (by cases he), fun i j e e' _ he => (by simp at he)⟩
theorem GR.reads (h : GR B W A q E) : (E.map GE.g).length ≤ q ∧ Kd.C k80 W A (E.map GE.g).length (E.map GE.g) := by
  have hcap := ownsRow_cap h.row
  refine ⟨by rw [List.length_map]; exact hcap.1, rfl, ?_, fun hl => ?_⟩
  · rw [List.length_map]
    unfold maxLen at hcap
    omega
  · rw [List.length_map] at hl
    obtain ⟨g, hg⟩ := ownsRow_addr h.row hl
    refine ⟨⟨g, 0, none⟩, hg, fun j p hj => ?_⟩
    rw [List.getElem?_map] at hj
    obtain ⟨e, he, rfl⟩ := Option.map_eq_some_iff.1 hj
    obtain ⟨g', hg', hc⟩ := own_at (c := gcell) (by decide) gcell_length h.row j e he
    rw [hg] at hg'
    simp only [Option.some.injEq, Addr.mk.injEq, and_true] at hg'
    subst hg'
    have hin := h.inn e (List.mem_of_getElem? he)
    exact ⟨gcell e, rfl, k80_mk W e.g (ownsRow_cap hin).1 hin.reads, fun i u hu => by rw [add_plain]; exact hc i u hu⟩
/-- A group more, at the end. -/
theorem GR.app (h : GR B W A q E) {e : GE} {A' : Option Addr} {q' : Nat} (hr : OwnG W' B A' q' (E ++ [e])) (hg : W.grownBy W' (rowB A)) (hin : OwnP W B e.A e.c e.l) (hn : ∀ k, rowB e.A = some k → ¬ GS A E k) : GR B W' A' q' (E ++ [e]) := by
  have hk : ∀ i, i < W.heap.size → ¬ rowB A = some i → W'.heap[i]? = W.heap[i]? := fun i hi hne => hg.block i hi (fun hh => hne hh.symm)
  have hlt : ∀ (i : Nat) e', (E ++ [e])[i]? = some e' → (i < E.length ∧ E[i]? = some e') ∨ (i = E.length ∧ e' = e) := by
    intro i e' hi
    rw [List.getElem?_append] at hi
    by_cases c : i < E.length
    · rw [if_pos c] at hi; exact .inl ⟨c, hi⟩
    · rw [if_neg c] at hi
      have hj : i = E.length := by
        rcases Nat.lt_or_ge (i - E.length) 1 with h1 | h1
        · omega
        · rw [List.getElem?_eq_none (by simpa using h1)] at hi; cases hi
      subst hj
      rw [Nat.sub_self] at hi
      exact .inr ⟨rfl, (Option.some.inj hi).symm⟩
  refine ⟨hr, fun e' he' => ?_, fun i j e1 e2 hij h1 h2 k hk1 hk2 => ?_⟩
  · rcases List.mem_append.1 he' with h1 | h1
    · exact ownsRow_keep (h.inn e' h1) fun g hg' => hk g (ownsRow_lt (h.inn e' h1) g hg').2 (h.ne h1 g hg')
    · rw [List.mem_singleton] at h1; subst h1
      exact ownsRow_keep hin fun g hg' => hk g (ownsRow_lt hin g hg').2 (fun hh => hn g hg' (.inl hh))
  · rcases hlt i e1 h1 with ⟨_, g1⟩ | ⟨rfl, rfl⟩
    · rcases hlt j e2 h2 with ⟨_, g2⟩ | ⟨rfl, rfl⟩
      · exact h.pw i j e1 e2 hij g1 g2 k hk1 hk2
      · exact hn k hk2 (.inr ⟨e1, List.mem_of_getElem? g1, hk1⟩)
    · rcases hlt j e2 h2 with ⟨_, g2⟩ | ⟨rfl, rfl⟩
      · exact hn k hk1 (.inr ⟨e2, List.mem_of_getElem? g2, hk2⟩)
      · exact hij rfl
end
theorem gcells_set0 (E : List GE) (i : Nat) (e : GE) (s : ByteArray) (hi : E[i]? = some e) : (E.flatMap gcell).set (i * 2) (.string s) = (E.set i { e with f0 := s }).flatMap gcell := by
  induction E generalizing i with
  | nil => simp at hi
  | cons x l ih =>
    cases i with
    | zero =>
      simp only [List.getElem?_cons_zero, Option.some.injEq] at hi
      subst hi
      rfl
    | succ i =>
      rw [List.getElem?_cons_succ] at hi
      rw [List.set_cons_succ, List.flatMap_cons, List.flatMap_cons, ← ih i hi, List.set_append_right _ _ (by rw [gcell_length]; omega), gcell_length, show (i + 1) * 2 - 2 = i * 2 by omega]
theorem gcells_set1 (E : List GE) (i : Nat) (e : GE) (A : Option Addr) (c : Nat) (l : List S94) (hi : E[i]? = some e) : (E.flatMap gcell).set (i * 2 + 1) (.slice A l.length c) = (E.set i ⟨e.f0, A, c, l⟩).flatMap gcell := by
  induction E generalizing i with
  | nil => simp at hi
  | cons x m ih =>
    cases i with
    | zero =>
      simp only [List.getElem?_cons_zero, Option.some.injEq] at hi
      subst hi
      rfl
    | succ i =>
      rw [List.getElem?_cons_succ] at hi
      rw [List.set_cons_succ, List.flatMap_cons, List.flatMap_cons, ← ih i hi, List.set_append_right _ _ (by rw [gcell_length]; omega), gcell_length, show (i + 1) * 2 + 1 - 2 = i * 2 + 1 by omega]
section
variable {B : Nat} {W : World} {g : Nat} {q : Nat} {E : List GE}
theorem set_idx {i j : Nat} {e1 e' : GE} (h : (E.set i e1)[j]? = some e') (hi : i < E.length) : (j ≠ i ∧ E[j]? = some e') ∨ (j = i ∧ e' = e1) := by
  rw [List.getElem?_set] at h
  by_cases c : i = j
  · rw [if_pos c, if_pos hi] at h
    exact .inr ⟨c.symm, (Option.some.inj h).symm⟩
  · rw [if_neg c] at h
    exact .inl ⟨fun hh => c hh.symm, h⟩
/-- A hash is stored. -/
theorem GR.setHash (h : GR B W (some ⟨g, 0, none⟩) q E) (i : Nat) (e : GE) (he : E[i]? = some e) (s : ByteArray) : GR B (W.setCell ⟨g, i * 2, none⟩ (.string s)) (some ⟨g, 0, none⟩) q (E.set i { e with f0 := s }) := by
  have hi := (List.getElem?_eq_some_iff.1 he).1
  refine ⟨?_, fun e' he' => ?_, fun a b e1 e2 hab h1 h2 k hk1 hk2 => ?_⟩
  · unfold OwnG
    rw [List.length_set, ← gcells_set0 E i e s he]
    exact (World.ownsRow.stored h.row (i * 2) (.string s)).1
  · obtain ⟨j, hj, hjj⟩ := List.mem_iff_getElem.1 he'
    have hjj' : (E.set i { e with f0 := s })[j]? = some e' := by rw [List.getElem?_eq_getElem hj, hjj]
    rcases set_idx hjj' hi with ⟨_, g1⟩ | ⟨rfl, rfl⟩
    · exact ownsRow_keep (h.inn e' (List.mem_of_getElem? g1)) fun p hp => Below.heap_setCell W ⟨g, i * 2, none⟩ _ p (fun hh => h.ne (List.mem_of_getElem? g1) p hp (by rw [hh]; rfl))
    · exact ownsRow_keep (h.inn e (List.mem_of_getElem? he)) fun p hp => Below.heap_setCell W ⟨g, j * 2, none⟩ _ p (fun hh => h.ne (List.mem_of_getElem? he) p hp (by rw [hh]; rfl))
  · rcases set_idx h1 hi with ⟨_, g1⟩ | ⟨rfl, rfl⟩
    · rcases set_idx h2 hi with ⟨_, g2⟩ | ⟨rfl, rfl⟩
      · exact h.pw a b e1 e2 hab g1 g2 k hk1 hk2
      · exact h.pw a _ e1 e hab g1 he k hk1 hk2
    · rcases set_idx h2 hi with ⟨_, g2⟩ | ⟨rfl, rfl⟩
      · exact h.pw _ b e e2 hab he g2 k hk1 hk2
      · exact hab rfl
/-- The pairs of a group are stored. -/
theorem GR.setPairs (h : GR B W (some ⟨g, 0, none⟩) q E) (i : Nat) (e : GE) (he : E[i]? = some e) {A : Option Addr} {c : Nat} {l : List S94} (hin : OwnP W B A c l) (hn : ∀ k, rowB A = some k → ¬ GS (some ⟨g, 0, none⟩) E k) : GR B (W.setCell ⟨g, i * 2 + 1, none⟩ (.slice A l.length c)) (some ⟨g, 0, none⟩) q (E.set i ⟨e.f0, A, c, l⟩) := by
  have hi := (List.getElem?_eq_some_iff.1 he).1
  refine ⟨?_, fun e' he' => ?_, fun a b e1 e2 hab h1 h2 k hk1 hk2 => ?_⟩
  · unfold OwnG
    rw [List.length_set, ← gcells_set1 E i e A c l he]
    exact (World.ownsRow.stored h.row (i * 2 + 1) (.slice A l.length c)).1
  · obtain ⟨j, hj, hjj⟩ := List.mem_iff_getElem.1 he'
    have hjj' : (E.set i ⟨e.f0, A, c, l⟩)[j]? = some e' := by rw [List.getElem?_eq_getElem hj, hjj]
    rcases set_idx hjj' hi with ⟨_, g1⟩ | ⟨rfl, rfl⟩
    · exact ownsRow_keep (h.inn e' (List.mem_of_getElem? g1)) fun p hp => Below.heap_setCell W ⟨g, i * 2 + 1, none⟩ _ p (fun hh => h.ne (List.mem_of_getElem? g1) p hp (by rw [hh]; rfl))
    · exact ownsRow_keep hin fun p hp => Below.heap_setCell W ⟨g, j * 2 + 1, none⟩ _ p (fun hh => hn p hp (.inl (by rw [hh]; rfl)))
  · rcases set_idx h1 hi with ⟨_, g1⟩ | ⟨rfl, rfl⟩
    · rcases set_idx h2 hi with ⟨_, g2⟩ | ⟨rfl, rfl⟩
      · exact h.pw a b e1 e2 hab g1 g2 k hk1 hk2
      · exact hn k hk2 (.inr ⟨e1, List.mem_of_getElem? g1, hk1⟩)
    · rcases set_idx h2 hi with ⟨_, g2⟩ | ⟨rfl, rfl⟩
      · exact hn k hk1 (.inr ⟨e2, List.mem_of_getElem? g2, hk2⟩)
      · exact hab rfl
end

theorem new_cells (w : World) (xs : List Value) (t : TypeId) : ∀ j u, xs[j]? = some u → (w.alloc (.cells xs.toArray t)).cell? ((⟨w.heap.size, 0, none⟩ : Addr).add j) = some u := by
  intro j u hj
  rw [add_plain, blk_cell (blk_new w (.cells xs.toArray t)) j]
  simpa using hj
theorem rd_getD (l : List S80) (i : Nat) (h : i < l.length) : ∃ g, rd_T80 l (i : Int) = g ∧ g ∈ l := ⟨_, rfl, by
  rw [rd80_nat, List.getD_eq_getElem?_getD, List.getElem?_eq_getElem h]
  exact List.getElem_mem h⟩

end Go.Proofs.Ytkfhedppnlocpaa.Q
