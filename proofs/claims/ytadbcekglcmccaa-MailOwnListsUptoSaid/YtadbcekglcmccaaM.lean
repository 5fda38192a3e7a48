/- Maps keyed by structs, read as functions: look-up, store, delete, and the entry of an assignment with an operation. Condition: the keys read as keys. -/
import Derived.WideKeyEntry
import Derived.Maps.OwnSet
import Derived.DeepKeys4
set_option linter.unusedVariables false
set_option linter.unusedSimpArgs false
namespace Go.FM
open Go.Maps
open Go.ChangeMaps (setBlock heap_setBlock_other heap_setBlock_same)

section
variable {α β : Type} (P : Program) (ek : α → Value) (ev : β → Value) (ok : α → Prop)

/-- Block b is a map that says F. -/
def FMap (w : World) (b : Nat) (F : α → Option β) : Prop :=
  ∃ es clock, w.heap[b]? = some (.map es clock) ∧ (∀ e ∈ es.toList, ∃ a v, e.key = ek a ∧ e.val = ev v ∧ F a = some v ∧ ok a) ∧ (∀ a v, F a = some v → ∃ e ∈ es.toList, e.key = ek a) ∧ MapKept.Stamped es clock

/-- Nothing has turned but block b, and nothing new is there. -/
structure OnlyB (w w' : World) (b : Nat) : Prop where
  os : w'.os = w.os
  tape : w'.tape = w.tape
  output : w'.output = w.output
  size : w'.heap.size = w.heap.size
  block : ∀ i, i ≠ b → w'.heap[i]? = w.heap[i]?

theorem OnlyB.refl (w : World) (b : Nat) : OnlyB w w b := ⟨rfl, rfl, rfl, rfl, fun _ _ => rfl⟩
theorem onlyB_set {w : World} {b clock : Nat} {es : Array MapEntry} {o' : Obj} (h : w.heap[b]? = some (.map es clock)) : OnlyB w (setBlock w b o') b :=
  ⟨rfl, rfl, rfl, by simp [setBlock], fun i hi => heap_setBlock_other h _ hi⟩

/-- What the keys must be. -/
structure Keys (k : TypeId) : Prop where
  K : Keyed P k
  inj : ∀ a b, ek a = ek b → a = b
  key : ∀ a, ok a → ∃ l, keyOf P k (ek a) = some l

variable {P ek ev ok} {w : World} {b : Nat} {F : α → Option β} {k e t : TypeId}

theorem FMap.lookup (M : Keys P ek ok k) (ht : P.underlying t = some (.map k e)) (h : FMap ek ev ok w b F) (z : β) (hz : (zeroValue e).run P w = .ok (ev z) w) (a : α) (ha : ok a) (c : Bool) :
    (Instr.lookup t (.map (some b)) (ek a) c).run P w = .ok (if c then .tuple #[ev ((F a).getD z), .bool (F a).isSome] else ev ((F a).getD z)) w := by
  obtain ⟨es, clock, hb, h1, h2, h3⟩ := h
  obtain ⟨kl, hkey⟩ := M.key a ha
  have hkeys : ∀ x ∈ es.toList, ∃ l, keyOf P k x.key = some l := fun x hx => by
    obtain ⟨a', v, e1, _, _, ho⟩ := h1 x hx
    rw [e1]
    exact M.key a' ho
  rcases M.K.find w hkey es.toList hkeys with ⟨f1, f2⟩ | ⟨j, e0, f1, f2, f3⟩
  · have hF : F a = none := by
      cases hc : F a with
      | none => rfl
      | some v =>
        obtain ⟨x, hx, e1⟩ := h2 a v hc
        exact absurd e1 (f2 x hx)
    rw [hF]
    simp [Instr.lookup, run_underlying ht, MapKept.run_getObj_map hb, M.K.check w _ hkey, f1, hz, Result.andThen]
  · have hm : e0 ∈ es.toList := List.mem_of_getElem? f2
    obtain ⟨a', v, e1, e2, e3, _⟩ := h1 e0 hm
    obtain rfl : a' = a := M.inj _ _ (e1.symm.trans f3)
    rw [e3]
    simp [Instr.lookup, run_underlying ht, MapKept.run_getObj_map hb, M.K.check w _ hkey, f1, e2, Result.andThen]

end
/-- What the entries of a map that says F are. -/
def FData {α β : Type} (ek : α → Value) (ev : β → Value) (ok : α → Prop) (es : Array MapEntry) (clock : Nat) (F : α → Option β) : Prop :=
  (∀ e ∈ es.toList, ∃ a v, e.key = ek a ∧ e.val = ev v ∧ F a = some v ∧ ok a) ∧ (∀ a v, F a = some v → ∃ e ∈ es.toList, e.key = ek a) ∧ MapKept.Stamped es clock
section
variable {α β : Type} {P : Program} {ek : α → Value} {ev : β → Value} {ok : α → Prop} {w : World} {b : Nat} {F : α → Option β} {k e t : TypeId}
theorem FMap.data (h : FMap ek ev ok w b F) : ∃ es clock, w.heap[b]? = some (.map es clock) ∧ FData ek ev ok es clock F := h
theorem FData.at {es : Array MapEntry} {clock : Nat} (h : FData ek ev ok es clock F) (hb : w.heap[b]? = some (.map es clock)) : FMap ek ev ok w b F := ⟨es, clock, hb, h⟩
theorem FData.keys {es : Array MapEntry} {clock : Nat} (M : Keys P ek ok k) (h : FData ek ev ok es clock F) : ∀ x ∈ es.toList, ∃ l, keyOf P k x.key = some l := fun x hx => by
  obtain ⟨a', v, e1, _, _, ho⟩ := h.1 x hx
  rw [e1]
  exact M.key a' ho
theorem FData.push [DecidableEq α] {es : Array MapEntry} {clock : Nat} (h : FData ek ev ok es clock F) (a : α) (ha : ok a) (v : β) (hnew : ∀ x ∈ es.toList, x.key ≠ ek a) :
    FData ek ev ok (es.push ⟨ek a, ev v, clock⟩) (clock + 1) (fun x => if x = a then some v else F x) := by
  obtain ⟨h1, h2, h3⟩ := h
  refine ⟨?_, ?_, MapKept.stamped_push h3 hnew⟩
  · intro x hx
    simp only [Array.toList_push, List.mem_append, List.mem_singleton] at hx
    rcases hx with hx | rfl
    · obtain ⟨a', v', e1, e2, e3, e4⟩ := h1 x hx
      refine ⟨a', v', e1, e2, ?_, e4⟩
      dsimp only
      rw [if_neg (fun e => hnew x hx (by rw [e1, e])), e3]
    · exact ⟨a, v, rfl, rfl, if_pos rfl, ha⟩
  · intro a' v' hv
    dsimp only at hv
    simp only [Array.toList_push, List.mem_append, List.mem_singleton]
    by_cases c : a' = a
    · subst c
      exact ⟨_, Or.inr rfl, rfl⟩
    · rw [if_neg c] at hv
      obtain ⟨x, hx, e1⟩ := h2 a' v' hv
      exact ⟨x, Or.inl hx, e1⟩
theorem FData.modify [DecidableEq α] {es : Array MapEntry} {clock : Nat} (M : Keys P ek ok k) (h : FData ek ev ok es clock F) (a : α) (ha : ok a) (v : β) {j : Nat} {e0 : MapEntry} (f2 : es.toList[j]? = some e0) (f3 : e0.key = ek a) :
    FData ek ev ok (es.modify j (fun e' => { e' with key := ek a, val := ev v })) clock (fun x => if x = a then some v else F x) := by
  obtain ⟨h1, h2, h3⟩ := h
  have hj : es[j]? = some e0 := by simpa using f2
  have hjl : j < es.toList.length := (List.getElem?_eq_some_iff.1 f2).1
  have hlist : (es.modify j (fun e' => { e' with key := ek a, val := ev v })).toList = es.toList.set j { e0 with key := ek a, val := ev v } := by rw [Array.toList_modify, ChangeMaps.modify_eq_set _ _ _ _ f2]
  have hother : ∀ (i : Nat) (x : MapEntry), i ≠ j → es.toList[i]? = some x → x.key ≠ ek a := by
    intro i x hne hx
    rw [← f3]
    have h3 := ((MapKept.stamped_iff _ _).1 h3).2.2
    rw [List.pairwise_iff_getElem] at h3
    obtain ⟨hi, rfl⟩ := List.getElem?_eq_some_iff.1 hx
    obtain ⟨hj', ej⟩ := List.getElem?_eq_some_iff.1 f2
    rw [← ej]
    rcases Nat.lt_or_gt_of_ne hne with h | h
    · exact h3 i j hi hj' h
    · exact fun e => h3 j i hj' hi h e.symm
  have who : ∀ x ∈ es.toList.set j { e0 with key := ek a, val := ev v }, x = { e0 with key := ek a, val := ev v } ∨ (x ∈ es.toList ∧ x.key ≠ ek a) := by
    intro x hx
    obtain ⟨i, hi, ex⟩ := List.getElem_of_mem hx
    rw [List.getElem_set] at ex
    split at ex
    · exact Or.inl ex.symm
    · rename_i hne
      have hi' : i < es.toList.length := by simpa using hi
      exact Or.inr ⟨ex ▸ List.getElem_mem hi', hother i x (fun e => hne e.symm) (by rw [List.getElem?_eq_getElem hi', ex])⟩
  refine ⟨?_, ?_, ?_⟩
  · intro x hx
    rw [hlist] at hx
    rcases who x hx with rfl | ⟨hx', hne⟩
    · exact ⟨a, v, rfl, rfl, if_pos rfl, ha⟩
    · obtain ⟨a', v', e1, e2, e3, e4⟩ := h1 x hx'
      refine ⟨a', v', e1, e2, ?_, e4⟩
      dsimp only
      rw [if_neg (fun e => hne (by rw [e1, e])), e3]
  · intro a' v' hv
    dsimp only at hv
    rw [hlist]
    by_cases c : a' = a
    · subst c
      exact ⟨{ e0 with key := ek a', val := ev v }, List.mem_iff_getElem.2 ⟨j, by simpa using hjl, by simp⟩, rfl⟩
    · rw [if_neg c] at hv
      obtain ⟨x, hx, e1⟩ := h2 a' v' hv
      obtain ⟨i, hi, ex⟩ := List.getElem_of_mem hx
      have hij : i ≠ j := by
        rintro rfl
        have : x = e0 := by
          have := List.getElem?_eq_getElem hi
          rw [f2, ex] at this
          exact (Option.some.inj this).symm
        subst this
        exact c (M.inj _ _ (e1.symm.trans f3))
      refine ⟨x, List.mem_iff_getElem.2 ⟨i, by simpa using hi, ?_⟩, e1⟩
      rw [List.getElem_set, if_neg (fun e => hij e.symm), ex]
  · refine MapKept.stamped_modify h3 j _ (fun _ _ => rfl) (fun e' _ he => ?_)
    rw [hj] at he
    obtain rfl := Option.some.inj he
    exact f3.symm

theorem FMap.update [DecidableEq α] (M : Keys P ek ok k) (ht : P.underlying t = some (.map k e)) (h : FMap ek ev ok w b F) (a : α) (ha : ok a) (v : β) :
    ∃ w', (Instr.mapUpdate t (.map (some b)) (ek a) (ev v)).run P w = .ok () w' ∧ FMap ek ev ok w' b (fun x => if x = a then some v else F x) ∧ OnlyB w w' b := by
  obtain ⟨es, clock, hb, hd⟩ := h.data
  obtain ⟨kl, hkey⟩ := M.key a ha
  rcases M.K.find w hkey es.toList (hd.keys M) with ⟨f1, f2⟩ | ⟨j, e0, f1, f2, f3⟩
  · refine ⟨setBlock w b (.map (es.push ⟨ek a, ev v, clock⟩) (clock + 1)), ?_, (hd.push a ha v f2).at (heap_setBlock_same hb _), onlyB_set hb⟩
    simp [Instr.mapUpdate, run_underlying ht, MapKept.run_getObj_map hb, M.K.check w false hkey, f1, MapKept.run_setObj_map _ hb, Result.andThen, setBlock]
  · have hj : es[j]? = some e0 := by simpa using f2
    refine ⟨setBlock w b (.map (es.modify j (fun e' => { e' with key := ek a, val := ev v })) clock), ?_, (hd.modify M a ha v f2 f3).at (heap_setBlock_same hb _), onlyB_set hb⟩
    simp [Instr.mapUpdate, run_underlying ht, MapKept.run_getObj_map hb, M.K.check w false hkey, f1, hj, f3, M.K.stays w hkey, MapKept.run_setObj_map _ hb, Result.andThen, setBlock]

/-- The entry that is there, or comes: its stamp. -/
structure Stamp (w : World) (b : Nat) (ek : α → Value) (ev : β → Value) (ok : α → Prop) (F : α → Option β) (a : α) (st : Nat) : Prop where
  ex : ∃ (es : Array MapEntry) (clock i : Nat) (e0 : MapEntry), w.heap[b]? = some (.map es clock) ∧ FData ek ev ok es clock F ∧ es.toList[i]? = some e0 ∧ e0.key = ek a ∧ e0.born = st
theorem Stamp.keep {w w' : World} {a : α} {st : Nat} (h : Stamp w b ek ev ok F a st) (hb : w'.heap[b]? = w.heap[b]?) : Stamp w' b ek ev ok F a st := by
  obtain ⟨es, clock, i, e0, h0, h1⟩ := h.ex
  exact ⟨es, clock, i, e0, hb.trans h0, h1⟩
theorem Stamp.map {w : World} {a : α} {st : Nat} (h : Stamp w b ek ev ok F a st) : FMap ek ev ok w b F := by
  obtain ⟨es, clock, i, e0, h0, h1, _⟩ := h.ex
  exact h1.at h0

theorem FMap.entry [DecidableEq α] (M : Keys P ek ok k) (ht : P.underlying t = some (.map k e)) (h : FMap ek ev ok w b F) (z : β) (hz : (zeroValue e).run P w = .ok (ev z) w) (a : α) (ha : ok a) :
    ∃ (st : Nat) (w1 : World), (Instr.mapEntry t (.map (some b)) (ek a)).run P w = .ok (.tuple #[ev ((F a).getD z), goInt st]) w1 ∧ Stamp w1 b ek ev ok (fun x => if x = a then some ((F a).getD z) else F x) a st ∧ OnlyB w w1 b := by
  obtain ⟨es, clock, hb, hd⟩ := h.data
  obtain ⟨kl, hkey⟩ := M.key a ha
  rcases M.K.find w hkey es.toList (hd.keys M) with ⟨f1, f2⟩ | ⟨j, e0, f1, f2, f3⟩
  · have hF : F a = none := by
      cases hc : F a with
      | none => rfl
      | some v =>
        obtain ⟨x, hx, e1⟩ := hd.2.1 a v hc
        exact absurd e1 (f2 x hx)
    rw [hF]
    refine ⟨clock, setBlock w b (.map (es.push ⟨ek a, ev z, clock⟩) (clock + 1)), ?_, ⟨_, _, es.size, ⟨ek a, ev z, clock⟩, heap_setBlock_same hb _, hd.push a ha z f2, ?_, rfl, rfl⟩, onlyB_set hb⟩
    · simp [Instr.mapEntry, run_underlying ht, MapKept.run_getObj_map hb, M.K.check w false hkey, f1, hz, MapKept.run_setObj_map _ hb, Result.andThen, setBlock]
    · rw [Array.toList_push, ← Array.length_toList, List.getElem?_append_right (Nat.le_refl _)]
      simp
  · have hj : es[j]? = some e0 := by simpa using f2
    obtain ⟨a', v, e1, e2, e3, _⟩ := hd.1 e0 (List.mem_of_getElem? f2)
    obtain rfl : a' = a := M.inj _ _ (e1.symm.trans f3)
    rw [e3]
    have hsame : es.modify j (fun e => { e with key := ek a' }) = es := by
      apply Array.ext'
      rw [Array.toList_modify, ChangeMaps.modify_eq_set _ _ _ _ f2]
      have : ({ e0 with key := ek a' } : MapEntry) = e0 := by rw [← f3]
      rw [this]
      exact WideElems.set_self _ _ _ f2
    have hFF : (fun x => if x = a' then some ((some v).getD z) else F x) = F := by
      funext x
      by_cases c : x = a'
      · subst c; rw [if_pos rfl, e3]; rfl
      · rw [if_neg c]
    refine ⟨e0.born, setBlock w b (.map es clock), ?_, ⟨es, clock, j, e0, heap_setBlock_same hb _, by rw [hFF]; exact hd, f2, f3, rfl⟩, onlyB_set hb⟩
    simp [Instr.mapEntry, run_underlying ht, MapKept.run_getObj_map hb, M.K.check w false hkey, f1, hj, f3, M.K.stays w hkey, hsame, e2, MapKept.run_setObj_map _ hb, Result.andThen, setBlock]

theorem Stamp.store [DecidableEq α] (M : Keys P ek ok k) {a : α} {st : Nat} (h : Stamp w b ek ev ok F a st) (ha : ok a) (v : β) :
    ∃ w', (Instr.entryStore t (.map (some b)) (goInt st) (ev v)).run P w = .ok () w' ∧ FMap ek ev ok w' b (fun x => if x = a then some v else F x) ∧ OnlyB w w' b := by
  obtain ⟨es, clock, j, e0, hb, hd, f2, f3, rfl⟩ := h.ex
  have hidx : es.findIdx? (fun e => ((e.born : Nat) : Int) == ((e0.born : Nat) : Int)) = some j := by
    rw [WideElems.findIdx_arr]
    exact WideElems.findIdx_born hd.2.2.2.1 f2
  have hmod : es.modify j (fun e => { e with val := ev v }) = es.modify j (fun e' => { e' with key := ek a, val := ev v }) := by
    apply Array.ext'
    rw [Array.toList_modify, Array.toList_modify, ChangeMaps.modify_eq_set _ _ _ _ f2, ChangeMaps.modify_eq_set _ _ _ _ f2, ← f3]
  refine ⟨setBlock w b (.map (es.modify j (fun e' => { e' with key := ek a, val := ev v })) clock), ?_, (hd.modify M a ha v f2 f3).at (heap_setBlock_same hb _), onlyB_set hb⟩
  simp [Instr.entryStore, MapKept.run_getObj_map hb, asInt, asIntOf, goInt, hidx, hmod, MapKept.run_setObj_map _ hb, Result.andThen, setBlock]

theorem FMap.drop [DecidableEq α] (M : Keys P ek ok k) (ht : P.underlying t = some (.map k e)) (h : FMap ek ev ok w b F) (a : α) (ha : ok a) (ty : TypeId) :
    ∃ w', (Builtin.delete_ #[t, k] ty #[.map (some b), ek a]).run P w = .ok (.tuple #[]) w' ∧ FMap ek ev ok w' b (fun x => if x = a then none else F x) ∧ OnlyB w w' b := by
  obtain ⟨es, clock, hb, h1, h2, h3⟩ := h
  obtain ⟨kl, hkey⟩ := M.key a ha
  have hkeys : ∀ x ∈ es.toList, ∃ l, keyOf P k x.key = some l := fun x hx => by
    obtain ⟨a', v, e1, _, _, ho⟩ := h1 x hx
    rw [e1]
    exact M.key a' ho
  rcases M.K.find w hkey es.toList hkeys with ⟨f1, f2⟩ | ⟨j, e0, f1, f2, f3⟩
  · refine ⟨setBlock w b (.map es clock), ?_, ⟨_, _, heap_setBlock_same hb _, ?_, ?_, h3⟩, onlyB_set hb⟩
    · simp [Builtin.delete_, run_underlying ht, MapKept.run_getObj_map hb, M.K.check w _ hkey, f1, MapKept.run_setObj_map _ hb, Result.andThen, setBlock]
    · intro x hx
      obtain ⟨a', v', e1, e2, e3, e4⟩ := h1 x hx
      refine ⟨a', v', e1, e2, ?_, e4⟩
      dsimp only
      rw [if_neg (fun e => f2 x hx (by rw [e1, e])), e3]
    · intro a' v' hv
      dsimp only at hv
      by_cases c : a' = a
      · rw [if_pos c] at hv; cases hv
      · rw [if_neg c] at hv
        exact h2 a' v' hv
  · have hjl : j < es.toList.length := (List.getElem?_eq_some_iff.1 f2).1
    have hjs : j < es.size := by simpa using hjl
    have hsub : (es.eraseIdxIfInBounds j).toList = es.toList.eraseIdx j := by
      unfold Array.eraseIdxIfInBounds
      rw [dif_pos hjs]
      simp
    have hother : ∀ (i : Nat) (x : MapEntry), i ≠ j → es.toList[i]? = some x → x.key ≠ ek a := by
      intro i x hne hx
      rw [← f3]
      have h3 := ((MapKept.stamped_iff _ _).1 h3).2.2
      rw [List.pairwise_iff_getElem] at h3
      obtain ⟨hi, rfl⟩ := List.getElem?_eq_some_iff.1 hx
      obtain ⟨hj', ej⟩ := List.getElem?_eq_some_iff.1 f2
      rw [← ej]
      rcases Nat.lt_or_gt_of_ne hne with h | h
      · exact h3 i j hi hj' h
      · exact fun e => h3 j i hj' hi h e.symm
    refine ⟨setBlock w b (.map (es.eraseIdxIfInBounds j) clock), ?_, ⟨_, _, heap_setBlock_same hb _, ?_, ?_, ?_⟩, onlyB_set hb⟩
    · simp [Builtin.delete_, run_underlying ht, MapKept.run_getObj_map hb, M.K.check w _ hkey, f1, MapKept.run_setObj_map _ hb, Result.andThen, setBlock]
    · intro x hx
      rw [hsub] at hx
      obtain ⟨i, hne, hi⟩ := List.mem_eraseIdx_iff_getElem?.1 hx
      obtain ⟨a', v', e1, e2, e3, e4⟩ := h1 x (List.mem_of_getElem? hi)
      refine ⟨a', v', e1, e2, ?_, e4⟩
      dsimp only
      rw [if_neg (fun e => hother i x hne hi (by rw [e1, e])), e3]
    · intro a' v' hv
      dsimp only at hv
      rw [hsub]
      by_cases c : a' = a
      · rw [if_pos c] at hv; cases hv
      · rw [if_neg c] at hv
        obtain ⟨x, hx, e1⟩ := h2 a' v' hv
        obtain ⟨i, hi, ex⟩ := List.getElem_of_mem hx
        have hx' : es.toList[i]? = some x := by rw [List.getElem?_eq_getElem hi, ex]
        refine ⟨x, List.mem_eraseIdx_iff_getElem?.2 ⟨i, ?_, hx'⟩, e1⟩
        rintro rfl
        have : x = e0 := by rw [f2] at hx'; exact (Option.some.inj hx').symm
        subst this
        exact c (M.inj _ _ (e1.symm.trans f3))
    · exact MapKept.stamped_erase h3 j

end
section
variable {α β : Type} {P : Program} {ek : α → Value} {ev : β → Value} {ok : α → Prop} (w : World) {ops : Array Oper} {rest : List Oper} {o : Oper} {a : Act} {Q : Exit → Act → World → Prop}

theorem wpList_fm_ok (hg : o.guard = none) (m x : Operand) (t : TypeId) (hop : o.op = Op.lookup t m x true) (k e : TypeId) (M : Keys P ek ok k) (ht : P.underlying t = some (.map k e)) (b : Nat) (F : α → Option β)
    (hm : a.eval m = .map (some b)) (h : FMap ek ev ok w b F) (z : β) (hz : (zeroValue e).run P w = .ok (ev z) w) (i : α) (hx : a.eval x = ek i) (hi : ok i)
    (hK : wpList P ops Q rest (a.put o.dst (.tuple #[ev ((F i).getD z), .bool (F i).isSome])) w) : wpList P ops Q (o :: rest) a w := by
  refine wpList_plain hg fun K' hK' => ?_
  have hrun := h.lookup M ht z hz i hi true
  rw [if_pos rfl] at hrun
  unfold Oper.wp
  simp [execOp, hop, hm, hx, hrun, Result.andThen]
  exact hK' _ _ hK

theorem wpList_fm_get (hg : o.guard = none) (m x : Operand) (t : TypeId) (hop : o.op = Op.lookup t m x false) (k e : TypeId) (M : Keys P ek ok k) (ht : P.underlying t = some (.map k e)) (b : Nat) (F : α → Option β)
    (hm : a.eval m = .map (some b)) (h : FMap ek ev ok w b F) (z : β) (hz : (zeroValue e).run P w = .ok (ev z) w) (i : α) (hx : a.eval x = ek i) (hi : ok i)
    (hK : wpList P ops Q rest (a.put o.dst (ev ((F i).getD z))) w) : wpList P ops Q (o :: rest) a w := by
  refine wpList_plain hg fun K' hK' => ?_
  have hrun := h.lookup M ht z hz i hi false
  rw [if_neg (by decide)] at hrun
  unfold Oper.wp
  simp [execOp, hop, hm, hx, hrun, Result.andThen]
  exact hK' _ _ hK

theorem wpList_fm_put [DecidableEq α] (hg : o.guard = none) (m x v : Operand) (t : TypeId) (hop : o.op = Op.mapUpdate t m x v) (k e : TypeId) (M : Keys P ek ok k) (ht : P.underlying t = some (.map k e)) (b : Nat) (F : α → Option β)
    (hm : a.eval m = .map (some b)) (h : FMap ek ev ok w b F) (i : α) (hx : a.eval x = ek i) (hi : ok i) (y : β) (hv : a.eval v = ev y)
    (hK : ∀ w', FMap ek ev ok w' b (fun x => if x = i then some y else F x) → OnlyB w w' b → wpList P ops Q rest (a.put o.dst undef) w') : wpList P ops Q (o :: rest) a w := by
  refine wpList_plain hg fun K' hK' => ?_
  obtain ⟨w', hrun, r1, r2⟩ := h.update M ht i hi y
  unfold Oper.wp
  simp [execOp, hop, hm, hx, hv, hrun, Result.andThen]
  exact hK' _ _ (hK w' r1 r2)

theorem wpList_fm_drop [DecidableEq α] (hg : o.guard = none) (m x : Operand) (t k : TypeId) (hop : o.op = Op.call { callee := Callee.builtin Builtin.delete, args := #[m, x], argTypes := #[t, k] })
    (e : TypeId) (M : Keys P ek ok k) (ht : P.underlying t = some (.map k e)) (b : Nat) (F : α → Option β) (hm : a.eval m = .map (some b)) (h : FMap ek ev ok w b F) (i : α) (hx : a.eval x = ek i) (hi : ok i)
    (hK : ∀ w', FMap ek ev ok w' b (fun x => if x = i then none else F x) → OnlyB w w' b → wpList P ops Q rest (a.put o.dst (.tuple #[])) w') : wpList P ops Q (o :: rest) a w := by
  refine wpList_plain hg fun K' hK' => ?_
  obtain ⟨w', hrun, r1, r2⟩ := h.drop M ht i hi o.type
  unfold Oper.wp
  simp [execOp, hop, resolve, invoke, builtin, hm, hx, hrun, Result.andThen]
  exact hK' _ _ (hK w' r1 r2)
/-- m[k]++: the entry. -/
theorem wpList_fm_entry [DecidableEq α] (hg : o.guard = none) (m x : Operand) (t : TypeId) (hop : o.op = Op.mapEntry t m x) (k e : TypeId) (M : Keys P ek ok k) (ht : P.underlying t = some (.map k e)) (b : Nat) (F : α → Option β)
    (hm : a.eval m = .map (some b)) (h : FMap ek ev ok w b F) (z : β) (hz : (zeroValue e).run P w = .ok (ev z) w) (i : α) (hx : a.eval x = ek i) (hi : ok i)
    (hK : ∀ (st : Nat) (w' : World), Stamp w' b ek ev ok (fun x => if x = i then some ((F i).getD z) else F x) i st → OnlyB w w' b → wpList P ops Q rest (a.put o.dst (.tuple #[ev ((F i).getD z), goInt st])) w') : wpList P ops Q (o :: rest) a w := by
  refine wpList_plain hg fun K' hK' => ?_
  obtain ⟨st, w', hrun, r1, r2⟩ := h.entry M ht z hz i hi
  unfold Oper.wp
  simp [execOp, hop, hm, hx, hrun, Result.andThen]
  exact hK' _ _ (hK st w' r1 r2)
theorem wpList_fm_store [DecidableEq α] (hg : o.guard = none) (m s v : Operand) (t : TypeId) (hop : o.op = Op.entryStore t m s v) (k : TypeId) (M : Keys P ek ok k) (b : Nat) (F : α → Option β)
    (hm : a.eval m = .map (some b)) (i : α) (st : Nat) (h : Stamp w b ek ev ok F i st) (hs : a.eval s = goInt st) (hi : ok i) (y : β) (hv : a.eval v = ev y)
    (hK : ∀ w', FMap ek ev ok w' b (fun x => if x = i then some y else F x) → OnlyB w w' b → wpList P ops Q rest (a.put o.dst undef) w') : wpList P ops Q (o :: rest) a w := by
  refine wpList_plain hg fun K' hK' => ?_
  obtain ⟨w', hrun, r1, r2⟩ := Stamp.store (t := t) M h hi y
  unfold Oper.wp
  simp [execOp, hop, hm, hs, hv, hrun, Result.andThen]
  exact hK' _ _ (hK w' r1 r2)
end

end Go.FM
