/- Plain words for a record's pairs and their first error; contracts of strings.Builder's Grow and of record.fits. Condition: the builder has not been written. -/
import Derived.Test.YtkfhedppnlocpaaE5
import Derived.Test.YtkfhedppnlocpaaE2
import Derived.Lib.MakeNoZero
set_option linter.unusedVariables false
set_option linter.unusedSimpArgs false
namespace Go.Proofs.Ytkfhedppnlocpaa.Q
open Go.RowKit Go.Proofs.YtkfhedppnlocpaaW.PrintWords Go.Proofs.YtkfhedppnlocpaaW.PrintLast Go.Proofs.YtkfhedppnlocpaaW.PrintMore

/-! ### Plain words: a record's pairs -/
def key (l : List S94) (i : Nat) : List UInt8 := (l.getD i z94).f0.data.toList
/-- The error of the i-th pair of a list, by itself and against the one ahead of it. -/
def pairErr (l : List S94) (i : Nat) : Int :=
  if (l.getD i z94).f0.size < 1 ∨ 255 < (l.getD i z94).f0.size then 32 else if 4096 < (l.getD i z94).f1.size then 33
  else if i = 0 then 0 else if key l i = key l (i - 1) then 35 else if Op.bytesLess (key l i) (key l (i - 1)) = true then 37 else 0
def firstErr (l : List S94) : Nat → Nat → Int
  | 0, _ => 0
  | d + 1, i => if pairErr l i ≠ 0 then pairErr l i else firstErr l d (i + 1)
def wrongF (l : List S94) : Int := if l.length = 0 ∨ 512 < l.length then 36 else firstErr l l.length 0
def sz : List S94 → Nat
  | [] => 0
  | p :: l => 6 + p.f0.size + p.f1.size + sz l
def pairBytes (p : S94) : List UInt8 := be p.f0.size 2 ++ (be p.f1.size 4 ++ (p.f0.data.toList ++ p.f1.data.toList))
def recBytes (l : List S94) : List UInt8 := be l.length 2 ++ l.flatMap pairBytes
def recF (l : List S94) : ByteArray × Int := if wrongF l ≠ 0 then (⟨#[]⟩, wrongF l) else if 65536 < 2 + sz l then (⟨#[]⟩, 3) else (⟨(recBytes l).toArray⟩, 0)

theorem sz_app (a b : List S94) : sz (a ++ b) = sz a + sz b := by
  induction a with
  | nil => simp [sz]
  | cons p a ih => simp [sz, ih]; omega
theorem ba_size (s : ByteArray) : s.data.toList.length = s.size := by rw [Array.length_toList]; rfl
theorem pairBytes_length (p : S94) : (pairBytes p).length = 6 + p.f0.size + p.f1.size := by
  simp only [pairBytes, List.length_append, be_length, ba_size]; omega
theorem flat_length (l : List S94) : (l.flatMap pairBytes).length = sz l := by
  induction l with
  | nil => rfl
  | cons p l ih => rw [List.flatMap_cons, List.length_append, ih, pairBytes_length, sz]
theorem rd_nat (l : List S94) (i : Nat) : rd_T94 l (i : Int) = l.getD i z94 := rfl
theorem drop_cons (l : List S94) (i : Nat) (h : i < l.length) : l.drop i = l.getD i z94 :: l.drop (i + 1) := by
  rw [List.drop_eq_getElem_cons h, List.getD_eq_getElem?_getD, List.getElem?_eq_getElem h]; rfl
theorem take_snoc (l : List S94) (i : Nat) (h : i < l.length) : l.take (i + 1) = l.take i ++ [l.getD i z94] := by
  rw [List.take_succ_eq_append_getElem h, List.getD_eq_getElem?_getD, List.getElem?_eq_getElem h]; rfl

theorem firstErr_zero (l : List S94) : ∀ (d i : Nat), firstErr l d i = 0 → ∀ j, i ≤ j → j < i + d → pairErr l j = 0 := by
  intro d
  induction d with
  | zero => intro i _ j h1 h2; omega
  | succ d ih =>
    intro i h j h1 h2
    rw [firstErr] at h
    by_cases c : pairErr l i ≠ 0
    · rw [if_pos c] at h; exact absurd h c
    · rw [if_neg c] at h
      by_cases e : j = i
      · subst e; exact Classical.byContradiction c
      · exact ih (i + 1) h j (by omega) (by omega)
theorem firstErr_of (l : List S94) : ∀ (d i : Nat), (∀ j, i ≤ j → j < i + d → pairErr l j = 0) → firstErr l d i = 0 := by
  intro d
  induction d with
  | zero => intro i _; rfl
  | succ d ih =>
    intro i h
    rw [firstErr, if_neg (fun e => e (h i (by omega) (by omega)))]
    exact ih (i + 1) fun j h1 h2 => h j (by omega) (by omega)
theorem firstErr_hit (l : List S94) (i : Nat) (hi : pairErr l i ≠ 0) : ∀ (d s : Nat), s ≤ i → i < s + d → (∀ j, s ≤ j → j < i → pairErr l j = 0) → firstErr l d s = pairErr l i := by
  intro d
  induction d with
  | zero => intro s h1 h2; omega
  | succ d ih =>
    intro s h1 h2 h
    rw [firstErr]
    by_cases e : s = i
    · subst e; rw [if_pos hi]
    · rw [if_neg (fun c => c (h s (by omega) (by omega)))]
      exact ih (s + 1) (by omega) (by omega) fun j a b => h j (by omega) b
theorem pairErr_sizes (l : List S94) (i : Nat) (h : pairErr l i = 0) : 1 ≤ (l.getD i z94).f0.size ∧ (l.getD i z94).f0.size ≤ 255 ∧ (l.getD i z94).f1.size ≤ 4096 := by
  unfold pairErr at h
  by_cases c : (l.getD i z94).f0.size < 1 ∨ 255 < (l.getD i z94).f0.size
  · rw [if_pos c] at h; exact absurd h (by decide)
  rw [if_neg c] at h
  by_cases c1 : 4096 < (l.getD i z94).f1.size
  · rw [if_pos c1] at h; exact absurd h (by decide)
  omega
theorem sz_bound (l : List S94) : ∀ (d i : Nat), i + d = l.length → (∀ j, j < l.length → pairErr l j = 0) → sz (l.drop i) ≤ 4357 * d := by
  intro d
  induction d with
  | zero => intro i hi _; rw [List.drop_of_length_le (by omega)]; simp [sz]
  | succ d ih =>
    intro i hi h
    have := ih (i + 1) (by omega) h
    have hp := pairErr_sizes l i (h i (by omega))
    rw [drop_cons l i (by omega), sz]
    omega
theorem sz_take_bound (l : List S94) : ∀ (i : Nat), i ≤ l.length → (∀ j, j < i → pairErr l j = 0) → sz (l.take i) ≤ 4357 * i := by
  intro i
  induction i with
  | zero => intro _ _; simp [sz]
  | succ i ih =>
    intro hi h
    have := ih (by omega) fun j hj => h j (by omega)
    have hp := pairErr_sizes l i (h i (by omega))
    rw [take_snoc l i (by omega), sz_app, sz, sz]
    omega
theorem wrongF_zero (l : List S94) (h : wrongF l = 0) : 1 ≤ l.length ∧ l.length ≤ 512 ∧ (∀ j, j < l.length → pairErr l j = 0) ∧ sz l ≤ 2230784 := by
  unfold wrongF at h
  by_cases c : l.length = 0 ∨ 512 < l.length
  · rw [if_pos c] at h; exact absurd h (by decide)
  rw [if_neg c] at h
  have hz : ∀ j, j < l.length → pairErr l j = 0 := fun j hj => firstErr_zero l _ 0 h j (by omega) (by omega)
  have := sz_bound l l.length 0 (by omega) hz
  rw [List.drop_zero] at this
  exact ⟨by omega, by omega, hz, by omega⟩

/-! ### The builder's Grow: functions 80, 64 -/
theorem Bld.alloc {base b : Nat} {v : Value} {bs : List UInt8} {w : World} (h : Bld base b v bs w) (o : Obj) : Bld base b v bs (w.alloc o) := by
  obtain ⟨hB, p, hp, hbk, hown⟩ := h
  have hlt : b < w.heap.size := by
    rcases Nat.lt_or_ge b w.heap.size with h' | h'
    · exact h'
    · simp [Array.getElem?_eq_none h'] at hbk
  exact ⟨hB, p, hp, (Lib.alloc_old w o b hlt).trans hbk, hown.alloc o⟩

set_option maxHeartbeats 2000000 in
set_option maxRecDepth 1000000 in
theorem grow_fresh (B b n : Nat) (w : World) (hB : B ≤ b) (hbk : w.heap[b]? = some (.cells #[.pointer (some ⟨b, 0, none⟩), .slice none 0 0] 104 (0, 0))) (hBw : B ≤ w.heap.size) (hn : n ≤ 281474976710656) :
    Calls Try.prog 80 #[.pointer (some ⟨b, 0, none⟩), .int .i64 n] w fun e w' => e = .returned (.tuple #[]) ∧ (Lib.BuilderAt 104 5 B b (.pointer (some ⟨b, 0, none⟩)) [] w' ∧ Below B w w') := by
  obtain ⟨i0, hi, hz0, hz1, hz2⟩ := info_parts infoByte
  obtain ⟨cs, hrun, hle, hmax⟩ := Lib.run_makeNoZero (P := Try.prog) w.drew #[3] 90 5 Try.underlying90 n hn
  have hw : IntKind.i64.wrap (IntKind.i64.wrap 0 + (n : Int)) = n := by
    rw [IntKind.wrap_i64, IntKind.wrap_i64]
    omega
  have hcall : (callFunc 83 #[.int .i64 (IntKind.i64.wrap (IntKind.i64.wrap 0 + (n : Int)))]).run Try.prog w.drew = .ok (.value (.slice (some ⟨w.drew.heap.size, 0, none⟩) n cs.size)) (w.drew.drew.drew.alloc (.cells cs 5)) := by
    rw [hw, run_callFunc_extern Try.func83 (by kernel_rfl) (by kernel_rfl) (by kernel_rfl) (e := Extern.BytealgMakeNoZero.makeNoZero #[3] #[90]) (by kernel_rfl), hrun]
    rfl
  have c1 : w.drew.cell? ⟨b, 1, none⟩ = some (.slice none 0 0) := by
    have : w.drew.heap[b]? = _ := hbk
    rw [Lib.cell_of_heap this]; rfl
  have c2 : (w.alloc (.cells cs 5)).cell? ⟨b, 1, none⟩ = some (.slice none 0 0) := by
    have hlt : b < w.heap.size := by
      rcases Nat.lt_or_ge b w.heap.size with h' | h'
      · exact h'
      · simp [Array.getElem?_eq_none h'] at hbk
    have : (w.alloc (.cells cs 5)).heap[b]? = _ := (Lib.alloc_old w _ b hlt).trans hbk
    rw [Lib.cell_of_heap this]; rfl
  have f2 : (w.alloc (.cells cs 5)).frozen? ⟨b, 1, none⟩ = false := by
    have hlt : b < w.heap.size := by
      rcases Nat.lt_or_ge b w.heap.size with h' | h'
      · exact h'
      · simp [Array.getElem?_eq_none h'] at hbk
    exact Lib.frozen_of_heap ((Lib.alloc_old w _ b hlt).trans hbk) 1
  have hcopy : ∀ W : World, (Builtin.copy_ #[90, 90] 3 #[.slice (some ⟨w.heap.size, 0, none⟩) 0 cs.size, .slice none 0 0]).run Try.prog W = .ok (goInt 0) W :=
    fun W => run_copy_none W 90 90 3 5 _ _ 0 cs.size 0 0 Try.underlying90 (by rw [hi]; simp [hz1]) rfl
  clear hw
  go_enter Try.func80, Try.ntmps80
  go_wp2
  have hfin := Lib.grown_fresh (T := 104) (e := 5) (cs := cs) hB hbk hBw (hmax (by unfold maxLen; omega)) (by decide)
  go_region
  all_goals (go_wp2; go_end0; exact ⟨rfl, hfin⟩)

set_option maxHeartbeats 2000000 in
set_option maxRecDepth 1000000 in
theorem Grow_fresh (B b n : Nat) (w : World) (hB : B ≤ b) (hbk : w.heap[b]? = some (.cells #[.pointer none, .slice none 0 0] 104 (0, 0))) (hBw : B ≤ w.heap.size) (hn : n ≤ 281474976710656) :
    Calls Try.prog 64 #[.pointer (some ⟨b, 0, none⟩), .int .i64 n] w fun e w' => e = .returned (.tuple #[]) ∧ (∃ v, Bld B b v [] w') ∧ Below B w w' := by
  have hbk1 : (w.setCell ⟨b, 0, none⟩ (.pointer (some ⟨b, 0, none⟩))).heap[b]? = some (.cells #[.pointer (some ⟨b, 0, none⟩), .slice none 0 0] 104 (0, 0)) := by
    simp [World.setCell, Array.getElem?_modify, hbk]
  have c1 : (w.setCell ⟨b, 0, none⟩ (.pointer (some ⟨b, 0, none⟩))).cell? ⟨b, 1, none⟩ = some (.slice none 0 0) := by rw [Lib.cell_of_heap hbk1]; rfl
  have hb1 : Below B w (w.setCell ⟨b, 0, none⟩ (.pointer (some ⟨b, 0, none⟩))) := (Below.refl B w).setCell (p := ⟨b, 0, none⟩) hB _
  go_enter Try.func64, Try.ntmps64
  have hU : Lib.BuilderAt 104 5 B b (.pointer (some ⟨b, 0, none⟩)) [] (w.setCell ⟨b, 0, none⟩ (.pointer (some ⟨b, 0, none⟩))) := ⟨hB, .slice none 0 0, hbk1, World.ownsRow_nil _ _ _ _, by simp [Value.ownBlock]⟩
  have c1' : (w.setCell ⟨b, 0, none⟩ (.pointer (some ⟨b, 0, none⟩))).drew.cell? ⟨b, 1, none⟩ = some (.slice none 0 0) := c1
  have hto : ∀ W, Lib.BuilderAt 104 5 B b (.pointer (some ⟨b, 0, none⟩)) [] W → ∃ v, Bld B b v [] W := fun W h => by
    obtain ⟨h1, v, h2, h3, _⟩ := h
    exact ⟨v, h1, _, .inr rfl, h2, h3⟩
  go_wp2_with (go_at_call 79; refine (copyCheck_fresh b w (by rw [Lib.cell_of_heap hbk]; rfl) (by simp [World.shape?, hbk]) (Lib.frozen_of_heap hbk 0)).mono ?_; rintro e w' ⟨rfl, rfl⟩)
  go_region
  all_goals go_wp2_with (go_at_call 80; refine (grow_fresh B b n (w.setCell ⟨b, 0, none⟩ (.pointer (some ⟨b, 0, none⟩))).drew hB hbk1 (by simpa [World.setCell, World.drew, -World.drew_eq] using hBw) hn).mono ?_; rintro e w' ⟨rfl, h1, h2⟩)
  all_goals first
    | (go_end0; exact ⟨rfl, hto _ h1, hb1.drew.trans h2⟩)
    | (go_end0; exact ⟨rfl, hto _ hU.drew, hb1.drew⟩)

/-! ### record.fits: function 60 -/
def fitsF (a b : Int) : Int := if a < 1 ∨ 255 < a then 32 else if b < 0 ∨ 4096 < b then 33 else 0
theorem fits_any (a b : Int) (w : World) : Calls Try.prog 60 #[.int .i64 a, .int .i64 b] w fun e w' => e = .returned (.int .i64 (fitsF a b)) ∧ w = w' := by
  unfold fitsF
  by_cases h1 : a < 1
  · rw [if_pos (.inl h1)]
    have k1 : decide (a < 1) = true := by simpa using h1
    clear h1
    go_enter Try.func60, Try.ntmps60
    go_wp2
    go_ret
    exact ⟨rfl, rfl⟩
  have k1 : decide (a < 1) = false := by simpa using h1
  by_cases h2 : 255 < a
  · rw [if_pos (.inr h2)]
    have k2 : decide (255 < a) = true := by simpa using h2
    clear h1 h2
    go_enter Try.func60, Try.ntmps60
    go_wp2
    go_ret
    exact ⟨rfl, rfl⟩
  have k2 : decide (255 < a) = false := by simpa using h2
  rw [if_neg (by omega)]
  clear h1 h2
  by_cases h3 : b < 0
  · rw [if_pos (.inl h3)]
    have k3 : decide (b < 0) = true := by simpa using h3
    clear h3
    go_enter Try.func60, Try.ntmps60
    go_wp2
    go_ret
    exact ⟨rfl, rfl⟩
  have k3 : decide (b < 0) = false := by simpa using h3
  by_cases h4 : 4096 < b
  · rw [if_pos (.inr h4)]
    have k4 : decide (4096 < b) = true := by simpa using h4
    clear h3 h4
    go_enter Try.func60, Try.ntmps60
    go_wp2
    go_ret
    exact ⟨rfl, rfl⟩
  have k4 : decide (4096 < b) = false := by simpa using h4
  rw [if_neg (by omega)]
  clear h3 h4
  go_enter Try.func60, Try.ntmps60
  go_wp2
  go_ret
  exact ⟨rfl, rfl⟩

end Go.Proofs.Ytkfhedppnlocpaa.Q
