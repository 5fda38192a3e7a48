/- How slices of structs that came in are read as lists. No condition. What the bound of an 'upto' statement gives: how many places a slice has at the most. No condition. Chunks and groups that came in. No condition. -/
import Derived.Test.YtkfhedppnlocpaaQx0
import Derived.Deep.Slices
import Derived.ChangeSlices
import Derived.SizedLaws
import Derived.Test.YtkfhedppnlocpaaRows
import Derived.Test.YtkfhedppnlocpaaEU
set_option linter.unusedVariables false
set_option linter.unusedSimpArgs false
namespace Go.Proofs.Ytkfhedppnlocpaa.Q
open Go.RowKit Go.ChangeShapes Go.Proofs.YtkfhedppnlocpaaW.PrintWords

theorem build_list {α : Type} (p : Nat → α → Prop) : ∀ (n : Nat), (∀ i, i < n → ∃ x, p i x) → ∃ l : List α, l.length = n ∧ ∀ i x, l[i]? = some x → p i x := by
  intro n
  induction n with
  | zero => intro _; exact ⟨[], rfl, fun i x h => by simp at h⟩
  | succ n ih =>
    intro h
    obtain ⟨l, hl, hp⟩ := ih fun i hi => h i (by omega)
    obtain ⟨x, hx⟩ := h n (by omega)
    refine ⟨l ++ [x], by simp [hl], fun i y hy => ?_⟩
    rw [List.getElem?_append] at hy
    by_cases c : i < l.length
    · rw [if_pos c] at hy; exact hp i y hy
    · rw [if_neg c] at hy
      have hi : i = n := by
        rcases Nat.lt_or_ge (i - l.length) 1 with h1 | h1
        · omega
        · rw [List.getElem?_eq_none (by simpa using h1)] at hy; cases hy
      subst hi
      rw [hl, Nat.sub_self] at hy
      obtain rfl := Option.some.inj hy
      exact hx

section
variable {H : Type} {enc : TypeId × Value → H} {W : World} {held : Bool}

/-- A slice that came in, as a list. -/
theorem open_rows {α : Type} (d : Kd α) {t e : TypeId} (ht : Try.prog.underlying t = some (.slice e)) (hc : Try.prog.cellsOf e = d.sz)
    (one : ∀ (n : Nat) (cs : List Value) (y : DataW H × List MemPlace), cs.length = d.sz → DataW.trod enc Try.prog W 0 (fun _ => true) held n e cs = some y → ∃ x : α, d.K W x cs)
    {a : Option Addr} {len cap m : Nat} {x : DataW H × List MemPlace} (hf : DataW.trod enc Try.prog W 0 (fun _ => true) held m t [.slice a len cap] = some x) :
    ∃ l : List α, Kd.C d W a l.length l ∧ l.length ≤ cap ∧ len = l.length ∧ (cap = 0 ∨ ∃ E F : List (DataW H), x.1 = .slice E F ∧ E.length + F.length = cap) := by
  rcases Go.Deep.open_slice ht hf with ⟨hcs, _⟩ | ⟨y, ln, c, m, n, D, Pl, hcs, _, hl, hm, hmm, hx, hi⟩
  · simp at hcs
    obtain ⟨rfl, rfl, rfl⟩ := hcs
    exact ⟨[], ⟨rfl, by simp, fun h => absurd h (by simp)⟩, Nat.le_refl _, rfl, .inl rfl⟩
  · simp at hcs
    obtain ⟨rfl, rfl, rfl⟩ := hcs
    have hm' : m = cap := by simpa using hmm
    obtain ⟨l, hll, hp⟩ := build_list (α := α) (fun i z => ∃ cs, d.K W z cs ∧ cs.length = d.sz ∧ ∀ k u, cs[k]? = some u → W.cell? (y.add (i * d.sz + k)) = some u) len (fun i hil => by
      obtain ⟨cs, h1, h2⟩ := hi i (by omega)
      rw [hc] at h1
      obtain ⟨_, hlen, hat⟩ := World.cells?_some h1
      obtain ⟨z, hz⟩ := one n cs _ hlen h2
      refine ⟨z, cs, hz, hlen, fun k u hu => ?_⟩
      have hk : k < d.sz := by
        have := (List.getElem?_eq_some_iff.1 hu).1
        omega
      have ea : y.add (i * d.sz + k) = (y.add (i * d.sz)).add k := (Addr.add_add _ _ _).symm
      rw [ea, hat k hk, hu])
    refine ⟨l, ⟨rfl, by unfold maxLen at hm; omega, fun _ => ⟨y, rfl, fun j p hj => ?_⟩⟩, by omega, hll.symm, .inr ⟨_, _, by rw [hx], by simp; omega⟩⟩
    obtain ⟨cs, h1, h2, h3⟩ := hp j p hj
    exact ⟨cs, h2, h1, h3⟩

theorem one_string {m : Nat} {v : Value} {o : Option (DataW H × List MemPlace)} (h : DataW.trod enc Try.prog W 0 (fun _ => true) held m 9 [v] = o) (ho : o.isSome = true) : ∃ s : ByteArray, v = .string s := by
  obtain ⟨y, rfl⟩ := Option.isSome_iff_exists.1 ho
  obtain ⟨s, e, -⟩ := DataW.trod_string Try.underlying9 h
  exact ⟨s, by simpa using e⟩

end
end Go.Proofs.Ytkfhedppnlocpaa.Q
namespace Go.Proofs.Ytkfhedppnlocpaa.bulks

theorem pos {H : Type} (d : DataW H) : 0 < Rows.uptoBulk d := by
  cases d with
  | lit l => cases l <;> simp [Rows.uptoBulk]
  | _ => simp [Rows.uptoBulk]
theorem count {H : Type} (l : List (DataW H)) : l.length ≤ Rows.uptoBulkAll l := by
  induction l with
  | nil => exact Nat.zero_le _
  | cons d r ih =>
    have := pos d
    rw [Rows.uptoBulkAll, List.length_cons]
    omega
theorem places {H : Type} (E F : List (DataW H)) : E.length + F.length ≤ Rows.uptoBulk (.slice E F) := by
  have := count E
  have := count F
  rw [Rows.uptoBulk]
  omega
theorem small {H : Type} {l : List (DataW H)} (h : Rows.uptoSmall H l = true) : Rows.uptoBulkAll l ≤ 1048576 := of_decide_eq_true h

end Go.Proofs.Ytkfhedppnlocpaa.bulks
set_option linter.unusedVariables false
set_option linter.unusedSimpArgs false
namespace Go.Proofs.Ytkfhedppnlocpaa.Q
open Go.RowKit Go.ChangeShapes Go.WideShapes Go.Proofs.YtkfhedppnlocpaaW.PrintWords

section
variable {H : Type} {enc : TypeId × Value → H} {W : World} {held : Bool}

set_option maxRecDepth 100000 in
theorem one_put (n : Nat) (cs : List Value) (y : DataW H × List MemPlace) (hl : cs.length = 3) (h : DataW.trod enc Try.prog W 0 (fun _ => true) held n 97 cs = some y) : ∃ x : S97, k97.K W x cs := by
  have c9 : Try.prog.cellsOf 9 = 1 := by kernel_rfl
  obtain ⟨xs, m1, -, -, -, hxl, hf⟩ := DataW.trod_struct Try.underlying97 h
  match cs, hl with
  | [v0, v1, v2], _ =>
  have hx : ∀ i, i < 3 → (xs[i]?).isSome = true := fun i hi => by
    have : xs.length = 3 := hxl
    simp [List.getElem?_eq_getElem (show i < xs.length by omega)]
  have g0 : DataW.trod enc Try.prog W 0 (fun _ => true) held m1 9 (([v0, v1, v2].drop 0).take (Try.prog.cellsOf 9)) = xs[0]? := hf 0 _ rfl
  rw [c9] at g0
  have g1 : DataW.trod enc Try.prog W 0 (fun _ => true) held m1 9 (([v0, v1, v2].drop 1).take (Try.prog.cellsOf 9)) = xs[1]? := hf 1 _ rfl
  rw [c9] at g1
  have g2 : DataW.trod enc Try.prog W 0 (fun _ => true) held m1 9 (([v0, v1, v2].drop 2).take (Try.prog.cellsOf 9)) = xs[2]? := hf 2 _ rfl
  rw [c9] at g2
  obtain ⟨s0, rfl⟩ := one_string g0 (hx 0 (by omega))
  obtain ⟨s1, rfl⟩ := one_string g1 (hx 1 (by omega))
  obtain ⟨s2, rfl⟩ := one_string g2 (hx 2 (by omega))
  exact ⟨⟨s0, s1, s2⟩, k97_mk W ⟨s0, s1, s2⟩⟩
/-- Puts that came in. -/
theorem open_puts {a : Option Addr} {len cap m : Nat} {x : DataW H × List MemPlace} (hf : DataW.trod enc Try.prog W 0 (fun _ => true) held m 75 [.slice a len cap] = some x) :
    ∃ l : List S97, Kd.C k97 W a l.length l ∧ l.length ≤ cap ∧ len = l.length ∧ cap ≤ Rows.uptoBulk x.1 := by
  obtain ⟨l, h1, h2, h3, h4⟩ := open_rows k97 Try.underlying75 (by kernel_rfl) one_put hf
  refine ⟨l, h1, h2, h3, ?_⟩
  rcases h4 with h | ⟨E, F, h5, h6⟩
  · omega
  · have := bulks.places E F
    rw [h5]
    omega

end
end Go.Proofs.Ytkfhedppnlocpaa.Q
