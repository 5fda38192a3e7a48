/- Maps keyed by structs, read as functions: look-up, store, delete. Condition: the keys read as keys. -/
import Derived.Maps.OwnSet
import Derived.DeepKeys4
namespace Go.FM
open Go.Maps
open Go.ChangeMaps (setBlock heap_setBlock_other heap_setBlock_same)

section
variable {α β : Type} (P : Program) (ek : α → Value) (ev : β → Value) (ok : α → Prop)

/-- Block b is a map that says F. -/
def FMap (w : World) (b : Nat) (F : α → Option β) : Prop :=
  ∃ es clock, w.heap[b]? = some (.map es clock) ∧ (∀ e ∈ es.toList, ∃ a v, e.key = ek a ∧ e.val = ev v ∧ F a = some v ∧ ok a) ∧ (∀ a v, F a = some v → ∃ e ∈ es.toList, e.key = ek a) ∧ es.toList.Pairwise (fun x y => x.key ≠ y.key)

/-- Nothing has turned but block b, and nothing new is there. -/
structure OnlyB (w w' : World) (b : Nat) : Prop where
  os : w'.os = w.os
  tape : w'.tape = w.tape
  output : w'.output = w.output
  size : w'.heap.size = w.heap.size
  block : ∀ i, i ≠ b → w'.heap[i]? = w.heap[i]?

theorem OnlyB.refl (w : World) (b : Nat) : OnlyB w w b := ⟨rfl, rfl, rfl, rfl, fun _ _ => rfl⟩
theorem onlyB_set {w : World} {b clock : Nat} {es : Array MapEntry} {o' : Obj} (h : w.heap[b]? = some (.map es clock)) : OnlyB w (setBlock w b o') b :=
  ⟨rfl, rfl, rfl, by simp [setBlock], fun i hi => heap_setBlock_other h _ hi⟩

/-- What the keys must be. -/
structure Keys (k : TypeId) : Prop where
  K : Keyed P k
  inj : ∀ a b, ek a = ek b → a = b
  key : ∀ a, ok a → ∃ l, keyOf P k (ek a) = some l

variable {P ek ev ok} {w : World} {b : Nat} {F : α → Option β} {k e t : TypeId}

theorem FMap.lookup (M : Keys P ek ok k) (ht : P.underlying t = some (.map k e)) (h : FMap ek ev ok w b F) (z : β) (hz : (zeroValue e).run P w = .ok (ev z) w) (a : α) (ha : ok a) (c : Bool) :
    (Instr.lookup t (.map (some b)) (ek a) c).run P w = .ok (if c then .tuple #[ev ((F a).getD z), .bool (F a).isSome] else ev ((F a).getD z)) w := by
  obtain ⟨es, clock, hb, h1, h2, h3⟩ := h
  obtain ⟨kl, hkey⟩ := M.key a ha
  have hkeys : ∀ x ∈ es.toList, ∃ l, keyOf P k x.key = some l := fun x hx => by
    obtain ⟨a', v, e1, _, _, ho⟩ := h1 x hx
    rw [e1]
    exact M.key a' ho
  rcases M.K.find w hkey es.toList hkeys with ⟨f1, f2⟩ | ⟨j, e0, f1, f2, f3⟩
  · have hF : F a = none := by
      cases hc : F a with
      | none => rfl
      | some v =>
        obtain ⟨x, hx, e1⟩ := h2 a v hc
        exact absurd e1 (f2 x hx)
    rw [hF]
    simp [Instr.lookup, run_underlying ht, MapKept.run_getObj_map hb, M.K.check w _ hkey, f1, hz, Result.andThen]
  · have hm : e0 ∈ es.toList := List.mem_of_getElem? f2
    obtain ⟨a', v, e1, e2, e3, _⟩ := h1 e0 hm
    obtain rfl : a' = a := M.inj _ _ (e1.symm.trans f3)
    rw [e3]
    simp [Instr.lookup, run_underlying ht, MapKept.run_getObj_map hb, M.K.check w _ hkey, f1, e2, Result.andThen]

theorem FMap.update [DecidableEq α] (M : Keys P ek ok k) (ht : P.underlying t = some (.map k e)) (h : FMap ek ev ok w b F) (a : α) (ha : ok a) (v : β) :
    ∃ w', (Instr.mapUpdate t (.map (some b)) (ek a) (ev v)).run P w = .ok () w' ∧ FMap ek ev ok w' b (fun x => if x = a then some v else F x) ∧ OnlyB w w' b := by
  obtain ⟨es, clock, hb, h1, h2, h3⟩ := h
  obtain ⟨kl, hkey⟩ := M.key a ha
  have hkeys : ∀ x ∈ es.toList, ∃ l, keyOf P k x.key = some l := fun x hx => by
    obtain ⟨a', v, e1, _, _, ho⟩ := h1 x hx
    rw [e1]
    exact M.key a' ho
  rcases M.K.find w hkey es.toList hkeys with ⟨f1, f2⟩ | ⟨j, e0, f1, f2, f3⟩
  · refine ⟨setBlock w b (.map (es.push ⟨ek a, ev v, clock⟩) (clock + 1)), ?_, ⟨_, _, heap_setBlock_same hb _, ?_, ?_, ?_⟩, onlyB_set hb⟩
    · simp [Instr.mapUpdate, run_underlying ht, MapKept.run_getObj_map hb, M.K.check w false hkey, f1, MapKept.run_setObj_map _ hb, Result.andThen, setBlock]
    · intro x hx
      simp only [Array.toList_push, List.mem_append, List.mem_singleton] at hx
      rcases hx with hx | rfl
      · obtain ⟨a', v', e1, e2, e3, e4⟩ := h1 x hx
        refine ⟨a', v', e1, e2, ?_, e4⟩
        dsimp only
        rw [if_neg (fun e => f2 x hx (by rw [e1, e])), e3]
      · exact ⟨a, v, rfl, rfl, if_pos rfl, ha⟩
    · intro a' v' hv
      dsimp only at hv
      simp only [Array.toList_push, List.mem_append, List.mem_singleton]
      by_cases c : a' = a
      · subst c
        exact ⟨_, Or.inr rfl, rfl⟩
      · rw [if_neg c] at hv
        obtain ⟨x, hx, e1⟩ := h2 a' v' hv
        exact ⟨x, Or.inl hx, e1⟩
    · rw [Array.toList_push, List.pairwise_append]
      refine ⟨h3, List.pairwise_singleton _ _, fun x hx y hy => ?_⟩
      rw [List.mem_singleton] at hy
      subst hy
      exact f2 x hx
  · have hj : es[j]? = some e0 := by simpa using f2
    have hjl : j < es.toList.length := (List.getElem?_eq_some_iff.1 f2).1
    have hlist : (es.modify j (fun e' => { e' with key := ek a, val := ev v })).toList = es.toList.set j { e0 with key := ek a, val := ev v } := by rw [Array.toList_modify, ChangeMaps.modify_eq_set _ _ _ _ f2]
    have hother : ∀ (i : Nat) (x : MapEntry), i ≠ j → es.toList[i]? = some x → x.key ≠ ek a := by
      intro i x hne hx
      rw [← f3]
      rw [List.pairwise_iff_getElem] at h3
      obtain ⟨hi, rfl⟩ := List.getElem?_eq_some_iff.1 hx
      obtain ⟨hj', ej⟩ := List.getElem?_eq_some_iff.1 f2
      rw [← ej]
      rcases Nat.lt_or_gt_of_ne hne with h | h
      · exact h3 i j hi hj' h
      · exact fun e => h3 j i hj' hi h e.symm
    have who : ∀ x ∈ es.toList.set j { e0 with key := ek a, val := ev v }, x = { e0 with key := ek a, val := ev v } ∨ (x ∈ es.toList ∧ x.key ≠ ek a) := by
      intro x hx
      obtain ⟨i, hi, ex⟩ := List.getElem_of_mem hx
      rw [List.getElem_set] at ex
      split at ex
      · exact Or.inl ex.symm
      · rename_i hne
        have hi' : i < es.toList.length := by simpa using hi
        exact Or.inr ⟨ex ▸ List.getElem_mem hi', hother i x (fun e => hne e.symm) (by rw [List.getElem?_eq_getElem hi', ex])⟩
    refine ⟨setBlock w b (.map (es.modify j (fun e' => { e' with key := ek a, val := ev v })) clock), ?_, ⟨_, _, heap_setBlock_same hb _, ?_, ?_, ?_⟩, onlyB_set hb⟩
    · simp [Instr.mapUpdate, run_underlying ht, MapKept.run_getObj_map hb, M.K.check w false hkey, f1, hj, f3, M.K.stays w hkey, MapKept.run_setObj_map _ hb, Result.andThen, setBlock]
    · intro x hx
      rw [hlist] at hx
      rcases who x hx with rfl | ⟨hx', hne⟩
      · exact ⟨a, v, rfl, rfl, if_pos rfl, ha⟩
      · obtain ⟨a', v', e1, e2, e3, e4⟩ := h1 x hx'
        refine ⟨a', v', e1, e2, ?_, e4⟩
        dsimp only
        rw [if_neg (fun e => hne (by rw [e1, e])), e3]
    · intro a' v' hv
      dsimp only at hv
      rw [hlist]
      by_cases c : a' = a
      · subst c
        exact ⟨{ e0 with key := ek a', val := ev v }, List.mem_iff_getElem.2 ⟨j, by simpa using hjl, by simp⟩, rfl⟩
      · rw [if_neg c] at hv
        obtain ⟨x, hx, e1⟩ := h2 a' v' hv
        obtain ⟨i, hi, ex⟩ := List.getElem_of_mem hx
        have hij : i ≠ j := by
          rintro rfl
          have : x = e0 := by
            have := List.getElem?_eq_getElem hi
            rw [f2, ex] at this
            exact (Option.some.inj this).symm
          subst this
          exact c (M.inj _ _ (e1.symm.trans f3))
        refine ⟨x, List.mem_iff_getElem.2 ⟨i, by simpa using hi, ?_⟩, e1⟩
        rw [List.getElem_set, if_neg (fun e => hij e.symm), ex]
    · rw [hlist, List.pairwise_iff_getElem]
      intro p q hp hq hpq
      have hp' : p < es.toList.length := by simpa using hp
      have hq' : q < es.toList.length := by simpa using hq
      rw [List.getElem_set, List.getElem_set]
      split
      · rename_i e1
        subst e1
        rw [if_neg (by omega)]
        exact fun e => hother q _ (by omega) (List.getElem?_eq_getElem hq') e.symm
      · split
        · rename_i e1 e2
          subst e2
          exact hother p _ (by omega) (List.getElem?_eq_getElem hp')
        · exact List.pairwise_iff_getElem.1 h3 p q hp' hq' hpq

theorem FMap.drop [DecidableEq α] (M : Keys P ek ok k) (ht : P.underlying t = some (.map k e)) (h : FMap ek ev ok w b F) (a : α) (ha : ok a) (ty : TypeId) :
    ∃ w', (Builtin.delete_ #[t, k] ty #[.map (some b), ek a]).run P w = .ok (.tuple #[]) w' ∧ FMap ek ev ok w' b (fun x => if x = a then none else F x) ∧ OnlyB w w' b := by
  obtain ⟨es, clock, hb, h1, h2, h3⟩ := h
  obtain ⟨kl, hkey⟩ := M.key a ha
  have hkeys : ∀ x ∈ es.toList, ∃ l, keyOf P k x.key = some l := fun x hx => by
    obtain ⟨a', v, e1, _, _, ho⟩ := h1 x hx
    rw [e1]
    exact M.key a' ho
  rcases M.K.find w hkey es.toList hkeys with ⟨f1, f2⟩ | ⟨j, e0, f1, f2, f3⟩
  · refine ⟨setBlock w b (.map es clock), ?_, ⟨_, _, heap_setBlock_same hb _, ?_, ?_, h3⟩, onlyB_set hb⟩
    · simp [Builtin.delete_, run_underlying ht, MapKept.run_getObj_map hb, M.K.check w _ hkey, f1, MapKept.run_setObj_map _ hb, Result.andThen, setBlock]
    · intro x hx
      obtain ⟨a', v', e1, e2, e3, e4⟩ := h1 x hx
      refine ⟨a', v', e1, e2, ?_, e4⟩
      dsimp only
      rw [if_neg (fun e => f2 x hx (by rw [e1, e])), e3]
    · intro a' v' hv
      dsimp only at hv
      by_cases c : a' = a
      · rw [if_pos c] at hv; cases hv
      · rw [if_neg c] at hv
        exact h2 a' v' hv
  · have hjl : j < es.toList.length := (List.getElem?_eq_some_iff.1 f2).1
    have hjs : j < es.size := by simpa using hjl
    have hsub : (es.eraseIdxIfInBounds j).toList = es.toList.eraseIdx j := by
      unfold Array.eraseIdxIfInBounds
      rw [dif_pos hjs]
      simp
    have hother : ∀ (i : Nat) (x : MapEntry), i ≠ j → es.toList[i]? = some x → x.key ≠ ek a := by
      intro i x hne hx
      rw [← f3]
      rw [List.pairwise_iff_getElem] at h3
      obtain ⟨hi, rfl⟩ := List.getElem?_eq_some_iff.1 hx
      obtain ⟨hj', ej⟩ := List.getElem?_eq_some_iff.1 f2
      rw [← ej]
      rcases Nat.lt_or_gt_of_ne hne with h | h
      · exact h3 i j hi hj' h
      · exact fun e => h3 j i hj' hi h e.symm
    refine ⟨setBlock w b (.map (es.eraseIdxIfInBounds j) clock), ?_, ⟨_, _, heap_setBlock_same hb _, ?_, ?_, ?_⟩, onlyB_set hb⟩
    · simp [Builtin.delete_, run_underlying ht, MapKept.run_getObj_map hb, M.K.check w _ hkey, f1, MapKept.run_setObj_map _ hb, Result.andThen, setBlock]
    · intro x hx
      rw [hsub] at hx
      obtain ⟨i, hne, hi⟩ := List.mem_eraseIdx_iff_getElem?.1 hx
      obtain ⟨a', v', e1, e2, e3, e4⟩ := h1 x (List.mem_of_getElem? hi)
      refine ⟨a', v', e1, e2, ?_, e4⟩
      dsimp only
      rw [if_neg (fun e => hother i x hne hi (by rw [e1, e])), e3]
    · intro a' v' hv
      dsimp only at hv
      rw [hsub]
      by_cases c : a' = a
      · rw [if_pos c] at hv; cases hv
      · rw [if_neg c] at hv
        obtain ⟨x, hx, e1⟩ := h2 a' v' hv
        obtain ⟨i, hi, ex⟩ := List.getElem_of_mem hx
        have hx' : es.toList[i]? = some x := by rw [List.getElem?_eq_getElem hi, ex]
        refine ⟨x, List.mem_eraseIdx_iff_getElem?.2 ⟨i, ?_, hx'⟩, e1⟩
        rintro rfl
        have : x = e0 := by rw [f2] at hx'; exact (Option.some.inj hx').symm
        subst this
        exact c (M.inj _ _ (e1.symm.trans f3))
    · rw [hsub]
      exact h3.sublist (List.eraseIdx_sublist _ _)

end
section
variable {α β : Type} {P : Program} {ek : α → Value} {ev : β → Value} {ok : α → Prop} (w : World) {ops : Array Oper} {rest : List Oper} {o : Oper} {a : Act} {Q : Exit → Act → World → Prop}

theorem wpList_fm_ok (hg : o.guard = none) (m x : Operand) (t : TypeId) (hop : o.op = Op.lookup t m x true) (k e : TypeId) (M : Keys P ek ok k) (ht : P.underlying t = some (.map k e)) (b : Nat) (F : α → Option β)
    (hm : a.eval m = .map (some b)) (h : FMap ek ev ok w b F) (z : β) (hz : (zeroValue e).run P w = .ok (ev z) w) (i : α) (hx : a.eval x = ek i) (hi : ok i)
    (hK : wpList P ops Q rest (a.put o.dst (.tuple #[ev ((F i).getD z), .bool (F i).isSome])) w) : wpList P ops Q (o :: rest) a w := by
  refine wpList_plain hg fun K' hK' => ?_
  have hrun := h.lookup M ht z hz i hi true
  rw [if_pos rfl] at hrun
  unfold Oper.wp
  simp [execOp, hop, hm, hx, hrun, Result.andThen]
  exact hK' _ _ hK

theorem wpList_fm_get (hg : o.guard = none) (m x : Operand) (t : TypeId) (hop : o.op = Op.lookup t m x false) (k e : TypeId) (M : Keys P ek ok k) (ht : P.underlying t = some (.map k e)) (b : Nat) (F : α → Option β)
    (hm : a.eval m = .map (some b)) (h : FMap ek ev ok w b F) (z : β) (hz : (zeroValue e).run P w = .ok (ev z) w) (i : α) (hx : a.eval x = ek i) (hi : ok i)
    (hK : wpList P ops Q rest (a.put o.dst (ev ((F i).getD z))) w) : wpList P ops Q (o :: rest) a w := by
  refine wpList_plain hg fun K' hK' => ?_
  have hrun := h.lookup M ht z hz i hi false
  rw [if_neg (by decide)] at hrun
  unfold Oper.wp
  simp [execOp, hop, hm, hx, hrun, Result.andThen]
  exact hK' _ _ hK

theorem wpList_fm_put [DecidableEq α] (hg : o.guard = none) (m x v : Operand) (t : TypeId) (hop : o.op = Op.mapUpdate t m x v) (k e : TypeId) (M : Keys P ek ok k) (ht : P.underlying t = some (.map k e)) (b : Nat) (F : α → Option β)
    (hm : a.eval m = .map (some b)) (h : FMap ek ev ok w b F) (i : α) (hx : a.eval x = ek i) (hi : ok i) (y : β) (hv : a.eval v = ev y)
    (hK : ∀ w', FMap ek ev ok w' b (fun x => if x = i then some y else F x) → OnlyB w w' b → wpList P ops Q rest (a.put o.dst undef) w') : wpList P ops Q (o :: rest) a w := by
  refine wpList_plain hg fun K' hK' => ?_
  obtain ⟨w', hrun, r1, r2⟩ := h.update M ht i hi y
  unfold Oper.wp
  simp [execOp, hop, hm, hx, hv, hrun, Result.andThen]
  exact hK' _ _ (hK w' r1 r2)

theorem wpList_fm_drop [DecidableEq α] (hg : o.guard = none) (m x : Operand) (t k : TypeId) (hop : o.op = Op.call { callee := Callee.builtin Builtin.delete, args := #[m, x], argTypes := #[t, k] })
    (e : TypeId) (M : Keys P ek ok k) (ht : P.underlying t = some (.map k e)) (b : Nat) (F : α → Option β) (hm : a.eval m = .map (some b)) (h : FMap ek ev ok w b F) (i : α) (hx : a.eval x = ek i) (hi : ok i)
    (hK : ∀ w', FMap ek ev ok w' b (fun x => if x = i then none else F x) → OnlyB w w' b → wpList P ops Q rest (a.put o.dst (.tuple #[])) w') : wpList P ops Q (o :: rest) a w := by
  refine wpList_plain hg fun K' hK' => ?_
  obtain ⟨w', hrun, r1, r2⟩ := h.drop M ht i hi o.type
  unfold Oper.wp
  simp [execOp, hop, resolve, invoke, builtin, hm, hx, hrun, Result.andThen]
  exact hK' _ _ (hK w' r1 r2)
end

end Go.FM
