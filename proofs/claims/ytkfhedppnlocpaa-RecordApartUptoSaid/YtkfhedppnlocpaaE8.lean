/- Contracts of record.ordered at Pair and at Group: the error that it answers. Condition: the list is read, the place lies in it. A law for make([]T, 0, n): no element, a new row of n places. Condition: n is what a make takes. Plain words for a record's pairs and their first error; contracts of strings.Builder's Grow and of record.fits. Condition: the builder has not been written. Contract of record.Record: the bytes or the error, at every list of pairs. Condition: the list is read. -/
import Derived.Test.YtkfhedppnlocpaaQx0
import Derived.Test.YtkfhedppnlocpaaProg
import Derived.Below
import Derived.Deep.Draws
import Derived.Deep.AppendLies
import Derived.Maps.AppendAt
import Derived.OwnWalk
import Derived.Laws.BytesArg
import Derived.Laws.MakeOwn
import Derived.Laws.OwnMore
import Derived.Deep.OwnRows
import Derived.Tactics
import Derived.Lib.ConvBytes
import Derived.Laws.Slices
import Derived.WalkKit
import Derived.KernelRfl
import Derived.RowKit3
import Derived.Deep.LoopGhost
import Derived.Deep.QuietTactic
import Derived.BigQuiet
import Derived.WideLaws
import Derived.Deep.DeepCutAuto
import Derived.Deep.CutBlock
import Derived.Deep.RegionHeld3
import Derived.Laws.Rows
import Derived.Lib.AppendStr
import Derived.ArgAppend
import Derived.Laws.IdiomCopy
import Derived.OrdersHeld
import Derived.Laws.BitsLemmas
import Derived.RowKit
import Derived.Test.YtkfhedppnlocpaaWWords
import Derived.Test.YtkfhedppnlocpaaWLast
import Derived.Test.YtkfhedppnlocpaaWTab
import Derived.Test.YtkfhedppnlocpaaWQPut
import Derived.Test.YtkfhedppnlocpaaWApart
import Derived.Test.YtkfhedppnlocpaaWArr
import Derived.Test.YtkfhedppnlocpaaWZeros
import Derived.Test.YtkfhedppnlocpaaWFoot
import Derived.Test.YtkfhedppnlocpaaWKept
import Derived.Test.YtkfhedppnlocpaaWShare
import Derived.Test.YtkfhedppnlocpaaWN
import Derived.Test.YtkfhedppnlocpaaWRepsOne
import Derived.Test.YtkfhedppnlocpaaWGuard
import Derived.Test.YtkfhedppnlocpaaWNEv
import Derived.Test.YtkfhedppnlocpaaWMore
import Derived.Test.YtkfhedppnlocpaaE3
import Derived.Lib.MakeNoZero
set_option linter.unusedVariables false
set_option linter.unusedSimpArgs false
namespace Go.Proofs.Ytkfhedppnlocpaa.Q
open Go.RowKit Go.Proofs.YtkfhedppnlocpaaW.PrintWords Go.Proofs.YtkfhedppnlocpaaW.PrintLast Go.Proofs.YtkfhedppnlocpaaW.PrintMore

theorem keyOf_any (a b : ByteArray) (w : World) : Calls Try.prog 62 #[.agg #[.string a, .string b]] w fun e w' => e = .returned (.string a) ∧ Below w.heap.size w w' := by
  go_enter Try.func62, Try.ntmps62
  go_wp2
  go_ret
  exact ⟨rfl, (Below.refl _ _).alloc (Nat.le_refl _) _⟩

/-! ### record.ordered[Pair]: function 61 -/
def api_Pair.f (l : List S94) (i : Int) : Option Int :=
  if i = 0 then some 0 else if 0 < i ∧ i < (l.length : Int) then
    (if (rd_T94 l i).f0.toList = (rd_T94 l (i - 1)).f0.toList then some 35 else if Op.bytesLess (rd_T94 l i).f0.toList (rd_T94 l (i - 1)).f0.toList = true then some 37 else some 0)
  else none

set_option maxHeartbeats 2000000 in
set_option maxRecDepth 100000 in
theorem api_Pair.calls (A0 : Option Addr) (c0 : Nat) (l0 : List S94) (a1 : Int) (r : Int) (w : World) (hr0 : Kd.C k94 w A0 l0.length l0) (hc0 : l0.length ≤ c0) (h : api_Pair.f l0 a1 = some r) :
    Calls Try.prog 61 #[.slice A0 l0.length c0, .int .i64 a1, .func (.func 62) #[] #[]] w fun e w' => e = .returned (.int .i64 r) ∧ Below w.heap.size w w' := by
  unfold api_Pair.f at h
  by_cases c1 : a1 = 0
  · rw [if_pos c1] at h
    obtain rfl := Option.some.inj h
    subst c1
    go_enter Try.func61, Try.ntmps61
    go_wp2
    go_ret
    exact ⟨rfl, Below.refl _ _⟩
  rw [if_neg c1] at h
  by_cases c2 : 0 < a1 ∧ a1 < (l0.length : Int)
  · rw [if_pos c2] at h
    have hl := hr0.2.1
    obtain ⟨j, hj⟩ : ∃ j, a1 - 1 = j := ⟨_, rfl⟩
    rw [hj] at h
    have hwr : IntKind.i64.wrap (a1 - 1) = j := by rw [hj]; exact (i64_w _).trans (Go.IntWalk.wrap64_in _ (by omega))
    obtain ⟨ad, rfl, h1, h2⟩ := at_T94 hr0 a1 (by omega) c2.2
    obtain ⟨ad', e', h3, h4⟩ := at_T94 hr0 j (by omega) (by omega)
    obtain rfl := Option.some.inj e'
    have c1b : (a1 == 0) = false := by simpa using c1
    have p1 : 0 ≤ a1 := by omega
    have p2 : a1 < (l0.length : Int) := c2.2
    have p3 : 0 ≤ j := by omega
    have p4 : j < (l0.length : Int) := by omega
    have HH := Aside0.mk h
    clear h c1 c2 hr0 hj hl
    generalize (rd_T94 l0 a1) = x at *
    generalize (rd_T94 l0 j) = y at *
    go_enter Try.func61, Try.ntmps61
    go_wp2_with fail
    have hB0 : Below w.heap.size w w := Below.refl _ _
    go_region_held3 (fun w' => w'.cell? (ad.add (a1.toNat * 2)) = some (.string x.f0) ∧ w'.cell? ⟨(ad.add (a1.toNat * 2)).block, (ad.add (a1.toNat * 2)).off + 1, none⟩ = some (.string x.f1) ∧ w'.cell? (ad.add (j.toNat * 2)) = some (.string y.f0) ∧ w'.cell? ⟨(ad.add (j.toNat * 2)).block, (ad.add (j.toNat * 2)).off + 1, none⟩ = some (.string y.f1) ∧ Below w.heap.size w w')
      (first | exact ⟨h1, h2, h3, h4, Below.drew hB0⟩ | (go_split_ands; refine ⟨pw_cell_below hb ‹_›, pw_cell_below hb ‹_›, pw_cell_below hb ‹_›, pw_cell_below hb ‹_›, below_step ‹_› hb⟩))
      (first | (go_at_call 62; refine (keyOf_any _ _ _).mono ?_; rintro e w' ⟨rfl, hb⟩))
    obtain ⟨_, _, _, _, hB⟩ := ‹_ ∧ _ ∧ _ ∧ _ ∧ _›
    have HB := Aside0.mk hB
    clear hB
    have h := HH.out
    clear HH
    by_cases q1 : x.f0.toList = y.f0.toList
    · rw [if_pos q1] at h
      obtain rfl := Option.some.inj h
      have q1b : (x.f0.toList == y.f0.toList) = true := by simpa using q1
      clear q1 h
      go_wp2
      go_ret
      exact ⟨rfl, HB.out⟩
    rw [if_neg q1] at h
    have q1b : (x.f0.toList == y.f0.toList) = false := by simpa using q1
    clear q1
    by_cases q2 : Op.bytesLess x.f0.toList y.f0.toList = true
    · rw [if_pos q2] at h
      obtain rfl := Option.some.inj h
      clear h
      go_wp2
      go_ret
      exact ⟨rfl, HB.out⟩
    · rw [if_neg q2] at h
      obtain rfl := Option.some.inj h
      have q2b : Op.bytesLess x.f0.toList y.f0.toList = false := by simpa using q2
      clear h q2
      go_wp2
      go_ret
      exact ⟨rfl, HB.out⟩
  · rw [if_neg c2] at h
    cases h

theorem hashOf_any (a : ByteArray) (A : Option Addr) (n c : Nat) (w : World) : Calls Try.prog 68 #[.agg #[.string a, .slice A n c]] w fun e w' => e = .returned (.string a) ∧ Below w.heap.size w w' := by
  go_enter Try.func68, Try.ntmps68
  go_wp2
  go_ret
  exact ⟨rfl, (Below.refl _ _).alloc (Nat.le_refl _) _⟩

/-! ### record.ordered[Group]: function 67 -/
def api_Group.f (l : List S80) (i : Int) : Option Int :=
  if i = 0 then some 0 else if 0 < i ∧ i < (l.length : Int) then
    (if (rd_T80 l i).f0.toList = (rd_T80 l (i - 1)).f0.toList then some 35 else if Op.bytesLess (rd_T80 l i).f0.toList (rd_T80 l (i - 1)).f0.toList = true then some 37 else some 0)
  else none

set_option maxHeartbeats 2000000 in
set_option maxRecDepth 100000 in
theorem api_Group.calls (A0 : Option Addr) (c0 : Nat) (l0 : List S80) (a1 : Int) (r : Int) (w : World) (hr0 : Kd.C k80 w A0 l0.length l0) (hc0 : l0.length ≤ c0) (h : api_Group.f l0 a1 = some r) :
    Calls Try.prog 67 #[.slice A0 l0.length c0, .int .i64 a1, .func (.func 68) #[] #[]] w fun e w' => e = .returned (.int .i64 r) ∧ Below w.heap.size w w' := by
  unfold api_Group.f at h
  by_cases c1 : a1 = 0
  · rw [if_pos c1] at h
    obtain rfl := Option.some.inj h
    subst c1
    go_enter Try.func67, Try.ntmps67
    go_wp2
    go_ret
    exact ⟨rfl, Below.refl _ _⟩
  rw [if_neg c1] at h
  by_cases c2 : 0 < a1 ∧ a1 < (l0.length : Int)
  · rw [if_pos c2] at h
    have hl := hr0.2.1
    obtain ⟨j, hj⟩ : ∃ j, a1 - 1 = j := ⟨_, rfl⟩
    rw [hj] at h
    have hwr : IntKind.i64.wrap (a1 - 1) = j := by rw [hj]; exact (i64_w _).trans (Go.IntWalk.wrap64_in _ (by omega))
    obtain ⟨ad, A1, c1', rfl, h1, h2, _, _⟩ := at_T80 hr0 a1 (by omega) c2.2
    obtain ⟨ad', A2, c2', e', h3, h4, _, _⟩ := at_T80 hr0 j (by omega) (by omega)
    obtain rfl := Option.some.inj e'
    have c1b : (a1 == 0) = false := by simpa using c1
    have p1 : 0 ≤ a1 := by omega
    have p2 : a1 < (l0.length : Int) := c2.2
    have p3 : 0 ≤ j := by omega
    have p4 : j < (l0.length : Int) := by omega
    have HH := Aside0.mk h
    clear h c1 c2 hr0 hj hl
    generalize (rd_T80 l0 a1) = x at *
    generalize (rd_T80 l0 j) = y at *
    go_enter Try.func67, Try.ntmps67
    go_wp2_with fail
    have hB0 : Below w.heap.size w w := Below.refl _ _
    go_region_held3 (fun w' => w'.cell? (ad.add (a1.toNat * 2)) = some (.string x.f0) ∧ w'.cell? ⟨(ad.add (a1.toNat * 2)).block, (ad.add (a1.toNat * 2)).off + 1, none⟩ = some (.slice A1 x.f1.length c1') ∧ w'.cell? (ad.add (j.toNat * 2)) = some (.string y.f0) ∧ w'.cell? ⟨(ad.add (j.toNat * 2)).block, (ad.add (j.toNat * 2)).off + 1, none⟩ = some (.slice A2 y.f1.length c2') ∧ Below w.heap.size w w')
      (first | exact ⟨h1, h2, h3, h4, Below.drew hB0⟩ | (go_split_ands; refine ⟨pw_cell_below hb ‹_›, pw_cell_below hb ‹_›, pw_cell_below hb ‹_›, pw_cell_below hb ‹_›, below_step ‹_› hb⟩))
      (first | (go_at_call 68; refine (hashOf_any _ _ _ _ _).mono ?_; rintro e w' ⟨rfl, hb⟩))
    obtain ⟨_, _, _, _, hB⟩ := ‹_ ∧ _ ∧ _ ∧ _ ∧ _›
    have HB := Aside0.mk hB
    clear hB
    have h := HH.out
    clear HH
    by_cases q1 : x.f0.toList = y.f0.toList
    · rw [if_pos q1] at h
      obtain rfl := Option.some.inj h
      have q1b : (x.f0.toList == y.f0.toList) = true := by simpa using q1
      clear q1 h
      go_wp2
      go_ret
      exact ⟨rfl, HB.out⟩
    rw [if_neg q1] at h
    have q1b : (x.f0.toList == y.f0.toList) = false := by simpa using q1
    clear q1
    by_cases q2 : Op.bytesLess x.f0.toList y.f0.toList = true
    · rw [if_pos q2] at h
      obtain rfl := Option.some.inj h
      clear h
      go_wp2
      go_ret
      exact ⟨rfl, HB.out⟩
    · rw [if_neg q2] at h
      obtain rfl := Option.some.inj h
      have q2b : Op.bytesLess x.f0.toList y.f0.toList = false := by simpa using q2
      clear h q2
      go_wp2
      go_ret
      exact ⟨rfl, HB.out⟩
  · rw [if_neg c2] at h
    cases h

end Go.Proofs.Ytkfhedppnlocpaa.Q
set_option linter.unusedVariables false
set_option linter.unusedSimpArgs false
namespace Go.Proofs.Ytkfhedppnlocpaa.Q
open Go.RowKit Go.Proofs.YtkfhedppnlocpaaW.PrintWords Go.Proofs.YtkfhedppnlocpaaW.PrintLast Go.Proofs.YtkfhedppnlocpaaW.PrintMore

section
variable {P : Program} {α : Type} {ops : Array Oper} {rest : List Oper} {o : Oper} {a : Act} {Q : Exit → Act → World → Prop}
/-- make([]T, 0, n): no element, a new row of n places. -/
theorem R_make_room (d : Kd α) {w0 W : World} (base e : Nat) (hgd : o.guard = none) {N : Tmp} (hd : o.dst = some N) (t : TypeId) (x y : Operand) (ho : o.op = .makeSlice t x y) (n : Int) (hx : a.eval x = .int .i64 0) (hy : a.eval y = .int .i64 n)
    (ht : P.underlying t = some (.slice e)) (z : Value) (bytes : Nat) (hinfo : (P.info? e).map (fun i => (i.zero, i.size, i.bytes)) = some (some z, d.sz, bytes)) (hz : z.cells.size = d.sz) (hs0 : 0 < d.sz) (hb0 : 0 < bytes)
    {ok : Nat → Prop} (hfresh : ok W.heap.size) (h0 : 0 ≤ n) (hl : n.toNat * bytes ≤ 281474976710656) (HB : Below base w0 W) (hbase : base ≤ W.heap.size)
    (h : ∀ v1 w1, d.R e w1 base ok v1 ([] : List α) → Below base w0 w1 → W.grownBy w1 none → (∃ b, v1.ownBlock = some b ∧ W.heap.size ≤ b) → wpList P ops Q rest (a.put o.dst v1) w1) : wpList P ops Q (o :: rest) a W := by
  obtain ⟨m, rfl⟩ := Int.eq_ofNat_of_zero_le h0
  simp only [Int.toNat_natCast] at hl h
  obtain ⟨i0, hi, hzz⟩ := Option.map_eq_some_iff.1 hinfo
  simp only [Prod.mk.injEq] at hzz
  obtain ⟨hz0, hz1, hz2⟩ := hzz
  have hm : m ≤ 281474976710656 := Nat.le_trans (Nat.le_mul_of_pos_right _ hb0) hl
  have hr := run_make (P := P) W t e i0 z ht hi hz0 .i64 .i64 0 (m : Int) (by omega) (by omega)
    (by
      have h3 : ((i0.bytes * m : Nat) : Int) ≤ 281474976710656 := by rw [hz2, Nat.mul_comm]; omega
      rwa [Int.natCast_mul] at h3) (by omega)
  simp only [Int.toNat_natCast] at hr
  rw [hz1] at hr
  refine wpList_plain hgd fun K hK => ?_
  unfold Oper.wp execOp
  simp only [ho, hx, hy, hr, Sem.run_bind, Sem.run_pure, Result.andThen_ok]
  refine hK _ _ (h _ _ ⟨?_, [], ?_, Reps.none _ _⟩ (HB.alloc hbase _) ⟨rfl, rfl, rfl, by simp, fun k hk _ => Below.heap_alloc W _ k hk⟩ ⟨W.heap.size, rfl, Nat.le_refl _⟩)
  · intro k hk
    simp only [Value.ownBlock, Option.some.injEq] at hk
    subst hk
    exact hfresh
  · exact World.ownsRow_made W _ m hbase (by unfold maxLen; omega) (by simp [size_madeCells])
end

end Go.Proofs.Ytkfhedppnlocpaa.Q
set_option linter.unusedVariables false
set_option linter.unusedSimpArgs false
namespace Go.Proofs.Ytkfhedppnlocpaa.Q
open Go.RowKit Go.Proofs.YtkfhedppnlocpaaW.PrintWords Go.Proofs.YtkfhedppnlocpaaW.PrintLast Go.Proofs.YtkfhedppnlocpaaW.PrintMore

/-! ### Plain words: a record's pairs -/
def key (l : List S94) (i : Nat) : List UInt8 := (l.getD i z94).f0.data.toList
/-- The error of the i-th pair of a list, by itself and against the one ahead of it. -/
def pairErr (l : List S94) (i : Nat) : Int :=
  if (l.getD i z94).f0.size < 1 ∨ 255 < (l.getD i z94).f0.size then 32 else if 4096 < (l.getD i z94).f1.size then 33
  else if i = 0 then 0 else if key l i = key l (i - 1) then 35 else if Op.bytesLess (key l i) (key l (i - 1)) = true then 37 else 0
def firstErr (l : List S94) : Nat → Nat → Int
  | 0, _ => 0
  | d + 1, i => if pairErr l i ≠ 0 then pairErr l i else firstErr l d (i + 1)
def wrongF (l : List S94) : Int := if l.length = 0 ∨ 512 < l.length then 36 else firstErr l l.length 0
def sz : List S94 → Nat
  | [] => 0
  | p :: l => 6 + p.f0.size + p.f1.size + sz l
def pairBytes (p : S94) : List UInt8 := be p.f0.size 2 ++ (be p.f1.size 4 ++ (p.f0.data.toList ++ p.f1.data.toList))
def recBytes (l : List S94) : List UInt8 := be l.length 2 ++ l.flatMap pairBytes
def recF (l : List S94) : ByteArray × Int := if wrongF l ≠ 0 then (⟨#[]⟩, wrongF l) else if 65536 < 2 + sz l then (⟨#[]⟩, 3) else (⟨(recBytes l).toArray⟩, 0)

theorem sz_app (a b : List S94) : sz (a ++ b) = sz a + sz b := by
  induction a with
  | nil => simp [sz]
  | cons p a ih => simp [sz, ih]; omega
theorem ba_size (s : ByteArray) : s.data.toList.length = s.size := by rw [Array.length_toList]; rfl
theorem pairBytes_length (p : S94) : (pairBytes p).length = 6 + p.f0.size + p.f1.size := by
  simp only [pairBytes, List.length_append, be_length, ba_size]; omega
theorem flat_length (l : List S94) : (l.flatMap pairBytes).length = sz l := by
  induction l with
  | nil => rfl
  | cons p l ih => rw [List.flatMap_cons, List.length_append, ih, pairBytes_length, sz]
theorem rd_nat (l : List S94) (i : Nat) : rd_T94 l (i : Int) = l.getD i z94 := rfl
theorem drop_cons (l : List S94) (i : Nat) (h : i < l.length) : l.drop i = l.getD i z94 :: l.drop (i + 1) := by
  rw [List.drop_eq_getElem_cons h, List.getD_eq_getElem?_getD, List.getElem?_eq_getElem h]; rfl
theorem take_snoc (l : List S94) (i : Nat) (h : i < l.length) : l.take (i + 1) = l.take i ++ [l.getD i z94] := by
  rw [List.take_succ_eq_append_getElem h, List.getD_eq_getElem?_getD, List.getElem?_eq_getElem h]; rfl

theorem firstErr_zero (l : List S94) : ∀ (d i : Nat), firstErr l d i = 0 → ∀ j, i ≤ j → j < i + d → pairErr l j = 0 := by
  intro d
  induction d with
  | zero => intro i _ j h1 h2; omega
  | succ d ih =>
    intro i h j h1 h2
    rw [firstErr] at h
    by_cases c : pairErr l i ≠ 0
    · rw [if_pos c] at h; exact absurd h c
    · rw [if_neg c] at h
      by_cases e : j = i
      · subst e; exact Classical.byContradiction c
      · exact ih (i + 1) h j (by omega) (by omega)
theorem firstErr_of (l : List S94) : ∀ (d i : Nat), (∀ j, i ≤ j → j < i + d → pairErr l j = 0) → firstErr l d i = 0 := by
  intro d
  induction d with
  | zero => intro i _; rfl
  | succ d ih =>
    intro i h
    rw [firstErr, if_neg (fun e => e (h i (by omega) (by omega)))]
    exact ih (i + 1) fun j h1 h2 => h j (by omega) (by omega)
theorem firstErr_hit (l : List S94) (i : Nat) (hi : pairErr l i ≠ 0) : ∀ (d s : Nat), s ≤ i → i < s + d → (∀ j, s ≤ j → j < i → pairErr l j = 0) → firstErr l d s = pairErr l i := by
  intro d
  induction d with
  | zero => intro s h1 h2; omega
  | succ d ih =>
    intro s h1 h2 h
    rw [firstErr]
    by_cases e : s = i
    · subst e; rw [if_pos hi]
    · rw [if_neg (fun c => c (h s (by omega) (by omega)))]
      exact ih (s + 1) (by omega) (by omega) fun j a b => h j (by omega) b
theorem pairErr_sizes (l : List S94) (i : Nat) (h : pairErr l i = 0) : 1 ≤ (l.getD i z94).f0.size ∧ (l.getD i z94).f0.size ≤ 255 ∧ (l.getD i z94).f1.size ≤ 4096 := by
  unfold pairErr at h
  by_cases c : (l.getD i z94).f0.size < 1 ∨ 255 < (l.getD i z94).f0.size
  · rw [if_pos c] at h; exact absurd h (by decide)
  rw [if_neg c] at h
  by_cases c1 : 4096 < (l.getD i z94).f1.size
  · rw [if_pos c1] at h; exact absurd h (by decide)
  omega
theorem sz_bound (l : List S94) : ∀ (d i : Nat), i + d = l.length → (∀ j, j < l.length → pairErr l j = 0) → sz (l.drop i) ≤ 4357 * d := by
  intro d
  induction d with
  | zero => intro i hi _; rw [List.drop_of_length_le (by omega)]; simp [sz]
  | succ d ih =>
    intro i hi h
    have := ih (i + 1) (by omega) h
    have hp := pairErr_sizes l i (h i (by omega))
    rw [drop_cons l i (by omega), sz]
    omega
theorem sz_take_bound (l : List S94) : ∀ (i : Nat), i ≤ l.length → (∀ j, j < i → pairErr l j = 0) → sz (l.take i) ≤ 4357 * i := by
  intro i
  induction i with
  | zero => intro _ _; simp [sz]
  | succ i ih =>
    intro hi h
    have := ih (by omega) fun j hj => h j (by omega)
    have hp := pairErr_sizes l i (h i (by omega))
    rw [take_snoc l i (by omega), sz_app, sz, sz]
    omega
theorem wrongF_zero (l : List S94) (h : wrongF l = 0) : 1 ≤ l.length ∧ l.length ≤ 512 ∧ (∀ j, j < l.length → pairErr l j = 0) ∧ sz l ≤ 2230784 := by
  unfold wrongF at h
  by_cases c : l.length = 0 ∨ 512 < l.length
  · rw [if_pos c] at h; exact absurd h (by decide)
  rw [if_neg c] at h
  have hz : ∀ j, j < l.length → pairErr l j = 0 := fun j hj => firstErr_zero l _ 0 h j (by omega) (by omega)
  have := sz_bound l l.length 0 (by omega) hz
  rw [List.drop_zero] at this
  exact ⟨by omega, by omega, hz, by omega⟩

/-! ### The builder's Grow: functions 80, 64 -/
theorem Bld.alloc {base b : Nat} {v : Value} {bs : List UInt8} {w : World} (h : Bld base b v bs w) (o : Obj) : Bld base b v bs (w.alloc o) := by
  obtain ⟨hB, p, hp, hbk, hown⟩ := h
  have hlt : b < w.heap.size := by
    rcases Nat.lt_or_ge b w.heap.size with h' | h'
    · exact h'
    · simp [Array.getElem?_eq_none h'] at hbk
  exact ⟨hB, p, hp, (Lib.alloc_old w o b hlt).trans hbk, hown.alloc o⟩

set_option maxHeartbeats 2000000 in
set_option maxRecDepth 1000000 in
theorem grow_fresh (B b n : Nat) (w : World) (hB : B ≤ b) (hbk : w.heap[b]? = some (.cells #[.pointer (some ⟨b, 0, none⟩), .slice none 0 0] 104 (0, 0))) (hBw : B ≤ w.heap.size) (hn : n ≤ 281474976710656) :
    Calls Try.prog 80 #[.pointer (some ⟨b, 0, none⟩), .int .i64 n] w fun e w' => e = .returned (.tuple #[]) ∧ (Lib.BuilderAt 104 5 B b (.pointer (some ⟨b, 0, none⟩)) [] w' ∧ Below B w w') := by
  obtain ⟨i0, hi, hz0, hz1, hz2⟩ := info_parts infoByte
  obtain ⟨cs, hrun, hle, hmax⟩ := Lib.run_makeNoZero (P := Try.prog) w.drew #[3] 90 5 Try.underlying90 n hn
  have hw : IntKind.i64.wrap (IntKind.i64.wrap 0 + (n : Int)) = n := by
    rw [IntKind.wrap_i64, IntKind.wrap_i64]
    omega
  have hcall : (callFunc 83 #[.int .i64 (IntKind.i64.wrap (IntKind.i64.wrap 0 + (n : Int)))]).run Try.prog w.drew = .ok (.value (.slice (some ⟨w.drew.heap.size, 0, none⟩) n cs.size)) (w.drew.drew.drew.alloc (.cells cs 5)) := by
    rw [hw, run_callFunc_extern Try.func83 (by kernel_rfl) (by kernel_rfl) (by kernel_rfl) (e := Extern.BytealgMakeNoZero.makeNoZero #[3] #[90]) (by kernel_rfl), hrun]
    rfl
  have c1 : w.drew.cell? ⟨b, 1, none⟩ = some (.slice none 0 0) := by
    have : w.drew.heap[b]? = _ := hbk
    rw [Lib.cell_of_heap this]; rfl
  have c2 : (w.alloc (.cells cs 5)).cell? ⟨b, 1, none⟩ = some (.slice none 0 0) := by
    have hlt : b < w.heap.size := by
      rcases Nat.lt_or_ge b w.heap.size with h' | h'
      · exact h'
      · simp [Array.getElem?_eq_none h'] at hbk
    have : (w.alloc (.cells cs 5)).heap[b]? = _ := (Lib.alloc_old w _ b hlt).trans hbk
    rw [Lib.cell_of_heap this]; rfl
  have f2 : (w.alloc (.cells cs 5)).frozen? ⟨b, 1, none⟩ = false := by
    have hlt : b < w.heap.size := by
      rcases Nat.lt_or_ge b w.heap.size with h' | h'
      · exact h'
      · simp [Array.getElem?_eq_none h'] at hbk
    exact Lib.frozen_of_heap ((Lib.alloc_old w _ b hlt).trans hbk) 1
  have hcopy : ∀ W : World, (Builtin.copy_ #[90, 90] 3 #[.slice (some ⟨w.heap.size, 0, none⟩) 0 cs.size, .slice none 0 0]).run Try.prog W = .ok (goInt 0) W :=
    fun W => run_copy_none W 90 90 3 5 _ _ 0 cs.size 0 0 Try.underlying90 (by rw [hi]; simp [hz1]) rfl
  clear hw
  go_enter Try.func80, Try.ntmps80
  go_wp2
  have hfin := Lib.grown_fresh (T := 104) (e := 5) (cs := cs) hB hbk hBw (hmax (by unfold maxLen; omega)) (by decide)
  go_region
  all_goals (go_wp2; go_end0; exact ⟨rfl, hfin⟩)

set_option maxHeartbeats 2000000 in
set_option maxRecDepth 1000000 in
theorem Grow_fresh (B b n : Nat) (w : World) (hB : B ≤ b) (hbk : w.heap[b]? = some (.cells #[.pointer none, .slice none 0 0] 104 (0, 0))) (hBw : B ≤ w.heap.size) (hn : n ≤ 281474976710656) :
    Calls Try.prog 64 #[.pointer (some ⟨b, 0, none⟩), .int .i64 n] w fun e w' => e = .returned (.tuple #[]) ∧ (∃ v, Bld B b v [] w') ∧ Below B w w' := by
  have hbk1 : (w.setCell ⟨b, 0, none⟩ (.pointer (some ⟨b, 0, none⟩))).heap[b]? = some (.cells #[.pointer (some ⟨b, 0, none⟩), .slice none 0 0] 104 (0, 0)) := by
    simp [World.setCell, Array.getElem?_modify, hbk]
  have c1 : (w.setCell ⟨b, 0, none⟩ (.pointer (some ⟨b, 0, none⟩))).cell? ⟨b, 1, none⟩ = some (.slice none 0 0) := by rw [Lib.cell_of_heap hbk1]; rfl
  have hb1 : Below B w (w.setCell ⟨b, 0, none⟩ (.pointer (some ⟨b, 0, none⟩))) := (Below.refl B w).setCell (p := ⟨b, 0, none⟩) hB _
  go_enter Try.func64, Try.ntmps64
  have hU : Lib.BuilderAt 104 5 B b (.pointer (some ⟨b, 0, none⟩)) [] (w.setCell ⟨b, 0, none⟩ (.pointer (some ⟨b, 0, none⟩))) := ⟨hB, .slice none 0 0, hbk1, World.ownsRow_nil _ _ _ _, by simp [Value.ownBlock]⟩
  have c1' : (w.setCell ⟨b, 0, none⟩ (.pointer (some ⟨b, 0, none⟩))).drew.cell? ⟨b, 1, none⟩ = some (.slice none 0 0) := c1
  have hto : ∀ W, Lib.BuilderAt 104 5 B b (.pointer (some ⟨b, 0, none⟩)) [] W → ∃ v, Bld B b v [] W := fun W h => by
    obtain ⟨h1, v, h2, h3, _⟩ := h
    exact ⟨v, h1, _, .inr rfl, h2, h3⟩
  go_wp2_with (go_at_call 79; refine (copyCheck_fresh b w (by rw [Lib.cell_of_heap hbk]; rfl) (by simp [World.shape?, hbk]) (Lib.frozen_of_heap hbk 0)).mono ?_; rintro e w' ⟨rfl, rfl⟩)
  go_region
  all_goals go_wp2_with (go_at_call 80; refine (grow_fresh B b n (w.setCell ⟨b, 0, none⟩ (.pointer (some ⟨b, 0, none⟩))).drew hB hbk1 (by simpa [World.setCell, World.drew, -World.drew_eq] using hBw) hn).mono ?_; rintro e w' ⟨rfl, h1, h2⟩)
  all_goals first
    | (go_end0; exact ⟨rfl, hto _ h1, hb1.drew.trans h2⟩)
    | (go_end0; exact ⟨rfl, hto _ hU.drew, hb1.drew⟩)

/-! ### record.fits: function 60 -/
def fitsF (a b : Int) : Int := if a < 1 ∨ 255 < a then 32 else if b < 0 ∨ 4096 < b then 33 else 0
theorem fits_any (a b : Int) (w : World) : Calls Try.prog 60 #[.int .i64 a, .int .i64 b] w fun e w' => e = .returned (.int .i64 (fitsF a b)) ∧ w = w' := by
  unfold fitsF
  by_cases h1 : a < 1
  · rw [if_pos (.inl h1)]
    have k1 : decide (a < 1) = true := by simpa using h1
    clear h1
    go_enter Try.func60, Try.ntmps60
    go_wp2
    go_ret
    exact ⟨rfl, rfl⟩
  have k1 : decide (a < 1) = false := by simpa using h1
  by_cases h2 : 255 < a
  · rw [if_pos (.inr h2)]
    have k2 : decide (255 < a) = true := by simpa using h2
    clear h1 h2
    go_enter Try.func60, Try.ntmps60
    go_wp2
    go_ret
    exact ⟨rfl, rfl⟩
  have k2 : decide (255 < a) = false := by simpa using h2
  rw [if_neg (by omega)]
  clear h1 h2
  by_cases h3 : b < 0
  · rw [if_pos (.inl h3)]
    have k3 : decide (b < 0) = true := by simpa using h3
    clear h3
    go_enter Try.func60, Try.ntmps60
    go_wp2
    go_ret
    exact ⟨rfl, rfl⟩
  have k3 : decide (b < 0) = false := by simpa using h3
  by_cases h4 : 4096 < b
  · rw [if_pos (.inr h4)]
    have k4 : decide (4096 < b) = true := by simpa using h4
    clear h3 h4
    go_enter Try.func60, Try.ntmps60
    go_wp2
    go_ret
    exact ⟨rfl, rfl⟩
  have k4 : decide (4096 < b) = false := by simpa using h4
  rw [if_neg (by omega)]
  clear h3 h4
  go_enter Try.func60, Try.ntmps60
  go_wp2
  go_ret
  exact ⟨rfl, rfl⟩

end Go.Proofs.Ytkfhedppnlocpaa.Q
set_option linter.unusedVariables false
set_option linter.unusedSimpArgs false
namespace Go.Proofs.Ytkfhedppnlocpaa.Q
open Go.RowKit Go.Proofs.YtkfhedppnlocpaaW.PrintWords Go.Proofs.YtkfhedppnlocpaaW.PrintLast Go.Proofs.YtkfhedppnlocpaaW.PrintMore

/-! ### record.Record: function 28 -/
def record_Record.f (l : List S94) : Option (ByteArray × Int) := some (recF l)

/-- What 'fits' and 'ordered' say of the i-th pair, taken together. -/
theorem pairErr_fits (l : List S94) (i : Nat) (h : fitsF (l.getD i z94).f0.size (l.getD i z94).f1.size ≠ 0) : pairErr l i = fitsF (l.getD i z94).f0.size (l.getD i z94).f1.size := by
  unfold fitsF at *
  unfold pairErr
  generalize (l.getD i z94).f0.size = a at *
  generalize (l.getD i z94).f1.size = b at *
  by_cases c : a < 1 ∨ 255 < a
  · rw [if_pos c, if_pos (by omega)]
  · rw [if_neg c, if_neg (show ¬ ((a : Int) < 1 ∨ 255 < (a : Int)) by omega)]
    by_cases c2 : 4096 < b
    · rw [if_pos c2, if_pos (by omega)]
    · rw [if_neg (show ¬ ((a : Int) < 1 ∨ 255 < (a : Int)) by omega), if_neg (by omega)] at h
      exact absurd rfl h

theorem pairErr_ordered (l : List S94) (i : Nat) (hi : i < l.length) (h : fitsF (l.getD i z94).f0.size (l.getD i z94).f1.size = 0) : api_Pair.f l (i : Int) = some (pairErr l i) := by
  unfold fitsF at h
  unfold pairErr api_Pair.f
  have a1 : ¬ ((l.getD i z94).f0.size < 1 ∨ 255 < (l.getD i z94).f0.size) := by
    intro c
    rw [if_pos (by omega)] at h
    exact absurd h (by decide)
  rw [if_neg (by omega)] at h
  have a2 : ¬ 4096 < (l.getD i z94).f1.size := by
    intro c
    rw [if_pos (by omega)] at h
    exact absurd h (by decide)
  rw [if_neg a1, if_neg a2]
  by_cases c : i = 0
  · rw [if_pos c, if_pos (by omega)]
  · rw [if_neg c, if_neg (by omega), if_pos (by omega), show ((i : Int) - 1) = ((i - 1 : Nat) : Int) by omega, rd_nat, rd_nat]
    rw [show (l.getD i z94).f0.toList = key l i by rw [key, ByteArray.toList_eq], show (l.getD (i - 1) z94).f0.toList = key l (i - 1) by rw [key, ByteArray.toList_eq]]
    by_cases d1 : key l i = key l (i - 1)
    · rw [if_pos d1, if_pos d1]
    · rw [if_neg d1, if_neg d1]
      by_cases d2 : Op.bytesLess (key l i) (key l (i - 1)) = true
      · rw [if_pos d2, if_pos d2]
      · rw [if_neg d2, if_neg d2]

theorem Upd.keep {base b : Nat} {v v' : Value} {bs : List UInt8} {w w' : World} {o : Obj} {c : Nat} (hu : Upd b v v' w w') (hc : w.heap[c]? = some o) (hcb : c ≠ b) (hcv : v.ownBlock ≠ some c) : w'.heap[c]? = some o ∧ v'.ownBlock ≠ some c := by
  have hlt : c < w.heap.size := by
    rcases Nat.lt_or_ge c w.heap.size with h' | h'
    · exact h'
    · simp [Array.getElem?_eq_none h'] at hc
  refine ⟨(hu.block c hlt hcb hcv).trans hc, fun e => ?_⟩
  rcases hu.fresh c e with h | h
  · exact hcv h
  · omega
theorem Bld.own_lt {base b : Nat} {v : Value} {bs : List UInt8} {w : World} (h : Bld base b v bs w) : v.ownBlock ≠ some w.heap.size := by
  obtain ⟨_, p, _, _, hown⟩ := h
  intro e
  have := (hown.lt _ e).2
  omega
theorem Bld.lt {base b : Nat} {v : Value} {bs : List UInt8} {w : World} (h : Bld base b v bs w) : b < w.heap.size := by
  obtain ⟨_, p, _, hbk, _⟩ := h
  rcases Nat.lt_or_ge b w.heap.size with h' | h'
  · exact h'
  · simp [Array.getElem?_eq_none h'] at hbk

set_option maxHeartbeats 4000000 in
set_option maxRecDepth 100000 in
theorem record_Record.calls (A0 : Option Addr) (c0 : Nat) (l0 : List S94) (r1 : ByteArray) (r2 : Int) (w : World) (hr0 : Kd.C k94 w A0 l0.length l0) (hc0 : l0.length ≤ c0) (h : record_Record.f l0 = some (r1, r2)) :
    Calls Try.prog 28 #[.slice A0 l0.length c0] w fun e w' => e = .returned (.tuple #[.string r1, .int .i64 r2]) ∧ Below w.heap.size w w' := by
  have hlen := hr0.2.1
  obtain ⟨rfl, rfl⟩ : (recF l0).1 = r1 ∧ (recF l0).2 = r2 := by
    have := Option.some.inj h
    rw [this]
    exact ⟨rfl, rfl⟩
  clear h
  by_cases b0 : l0.length = 0 ∨ 512 < l0.length
  · have hw : wrongF l0 = 36 := by unfold wrongF; rw [if_pos b0]
    have e1 : (recF l0).1 = ⟨#[]⟩ := by unfold recF; rw [hw, if_pos (by decide)]
    have e2 : (recF l0).2 = 36 := by unfold recF; rw [hw, if_pos (by decide)]
    rw [e1, e2]
    by_cases k1 : l0.length = 0
    · have k1b : decide ((l0.length : Int) < 1) = true := by simp; omega
      clear b0 hw e1 e2 k1
      go_enter Try.func28, Try.ntmps28
      go_wp2
      go_ret2
      exact ⟨rfl, Below.refl _ _⟩
    · have k1b : decide ((l0.length : Int) < 1) = false := by simp; omega
      have k2b : decide (512 < (l0.length : Int)) = true := by simp; omega
      clear b0 hw e1 e2 k1
      go_enter Try.func28, Try.ntmps28
      go_wp2
      go_ret2
      exact ⟨rfl, Below.refl _ _⟩
  have k1b : decide ((l0.length : Int) < 1) = false := by simp; omega
  have k2b : decide (512 < (l0.length : Int)) = false := by simp; omega
  have hwf : wrongF l0 = firstErr l0 l0.length 0 := by unfold wrongF; rw [if_neg b0]
  have HLEN := Aside0.mk (show 1 ≤ l0.length ∧ l0.length ≤ 512 by omega)
  have HR := Aside0.mk hr0
  have HC := Aside0.mk hc0
  have HWF := Aside0.mk hwf
  clear b0 hwf hlen hr0 hc0
  go_enter Try.func28, Try.ntmps28
  go_wp2_with fail
  go_loopg [4, 22] l0.length (fun kq v4 v22 w' => ∃ (i : Nat), v4 = .int .i64 ((2 + sz (l0.take i) : Nat) : Int) ∧ v22 = .int .i64 (i : Int) ∧ Aside0 (i + kq = l0.length) ∧ Aside0 (∀ j, j < i → pairErr l0 j = 0) ∧ Aside0 (Below w.heap.size w w'))
  case atStart => exact ⟨0, by simp [sz], rfl, ⟨by omega⟩, ⟨fun j hj => absurd hj (by omega)⟩, ⟨Below.refl _ _⟩⟩
  case round =>
    obtain ⟨i, rfl, rfl, HK, HZ, HB⟩ := hrel
    by_cases c : (i : Int) < (l0.length : Int)
    · cases gk with
      | zero => exact absurd HK.out (by omega)
      | succ k1 =>
      have hil : i < l0.length := by omega
      obtain ⟨ad, rfl, hx0, hx1⟩ := at_T94 (Kd.C_below HR.out HB.out) (i : Int) (by omega) c
      rw [Int.toNat_natCast] at hx0 hx1
      have hf1 := pairErr_fits l0 i
      have hf2 := pairErr_ordered l0 i hil
      have hwi : wrap64 ((i : Int) + 1) = ((i + 1 : Nat) : Int) := Go.IntWalk.wrap64_in _ (by have := HLEN.out; omega)
      have hs0 := sz_take_bound l0 i (by omega) HZ.out
      have hs1 : sz (l0.take (i + 1)) = sz (l0.take i) + (6 + (l0.getD i z94).f0.size + (l0.getD i z94).f1.size) := by
        rw [take_snoc l0 i hil, sz_app, sz, sz, Nat.add_zero]
      have hz2 := pairErr_sizes l0 i
      have cb : decide ((i : Int) < (l0.length : Int)) = true := by simpa using c
      have p1 : (0 ≤ (i : Int)) = True := eq_true (by omega)
      have p2 : ((i : Int) < (l0.length : Int)) = True := eq_true c
      rw [rd_nat] at hx0 hx1
      obtain ⟨sp, hsp⟩ : ∃ s, 2 + sz (l0.take i) = s := ⟨_, rfl⟩
      rw [hsp]
      by_cases q0 : fitsF (l0.getD i z94).f0.size (l0.getD i z94).f1.size = 0
      · have hf3 := hf2 q0
        by_cases q1 : pairErr l0 i = 0
        · have hz3 := hz2 q1
          rw [q1] at hf3
          have a1 : IntKind.i64.wrap (6 + ((l0.getD i z94).f0.size : Int)) = 6 + ((l0.getD i z94).f0.size : Int) := (i64_w _).trans (Go.IntWalk.wrap64_in _ (by omega))
          have a2 : IntKind.i64.wrap (6 + ((l0.getD i z94).f0.size : Int) + ((l0.getD i z94).f1.size : Int)) = 6 + ((l0.getD i z94).f0.size : Int) + ((l0.getD i z94).f1.size : Int) := (i64_w _).trans (Go.IntWalk.wrap64_in _ (by omega))
          have a3 : IntKind.i64.wrap ((sp : Int) + (6 + ((l0.getD i z94).f0.size : Int) + ((l0.getD i z94).f1.size : Int))) = ((2 + sz (l0.take (i + 1)) : Nat) : Int) := by
            rw [i64_w, Go.IntWalk.wrap64_in _ (by have := HLEN.out; omega), hs1]
            omega
          have HZ1 := Aside0.mk (show ∀ j, j < i + 1 → pairErr l0 j = 0 from fun j hj => by
            by_cases e : j = i
            · rw [e]; exact q1
            · exact HZ.out j (by omega))
          have HF3 := Aside0.mk hf3
          clear hf1 hf2 hf3 hs0 hs1 hz2 hz3 hsp hil c q1
          obtain ⟨sp1, hsp1⟩ : ∃ s, 2 + sz (l0.take (i + 1)) = s := ⟨_, rfl⟩
          rw [hsp1] at a3
          have HSP := Aside0.mk hsp1
          clear hsp1
          generalize l0.getD i z94 = p at *
          go_wp2_with (first
            | (go_at_call 60; refine (fits_any _ _ _).mono ?_; rintro e w' ⟨rfl, rfl⟩; rw [q0])
            | (go_at_call 61; refine (api_Pair.calls _ c0 l0 (i : Int) 0 _ (Kd.C_below HR.out (below_step HB.out ((Below.refl _ _).alloc (Nat.le_refl _) _))) HC.out HF3.out).mono ?_; rintro e w2 ⟨rfl, hb2⟩; have HB2 := Aside0.mk (below_step (below_step HB.out ((Below.refl _ _).alloc (Nat.le_refl _) _)) hb2); have bx := blk_below (blk_new wr (.cells #[.string p.f0, .string p.f1] 94)) hb2; have g0 := blk_cell bx 0; have g1 := blk_cell bx 1; clear hb2 bx))
          go_roundg k1
          case measure => have := HK.out; omega
          case rel => exact ⟨i + 1, by rw [HSP.out], by rw [hwi], ⟨by have := HK.out; omega⟩, HZ1, HB2⟩
        · have hw : wrongF l0 = pairErr l0 i := HWF.out.trans (firstErr_hit l0 i q1 l0.length 0 (by omega) (by omega) fun j _ hj => HZ.out j hj)
          have e1 : (recF l0).1 = ⟨#[]⟩ := by unfold recF; rw [hw, if_pos q1]
          have e2 : (recF l0).2 = pairErr l0 i := by unfold recF; rw [hw, if_pos q1]
          have HE1 := Aside0.mk e1
          have HE2 := Aside0.mk e2
          have HF3 := Aside0.mk hf3
          have q1b : (pairErr l0 i != 0) = true := by simpa using q1
          clear hf1 hf2 hf3 hs0 hs1 hz2 hsp hil c q1 hw e1 e2
          generalize pairErr l0 i = pe at *
          generalize l0.getD i z94 = p at *
          go_wp2_with (first
            | (go_at_call 60; refine (fits_any _ _ _).mono ?_; rintro e w' ⟨rfl, rfl⟩; rw [q0])
            | (go_at_call 61; refine (api_Pair.calls _ c0 l0 (i : Int) pe _ (Kd.C_below HR.out (below_step HB.out ((Below.refl _ _).alloc (Nat.le_refl _) _))) HC.out HF3.out).mono ?_; rintro e w2 ⟨rfl, hb2⟩; have HB2 := Aside0.mk (below_step (below_step HB.out ((Below.refl _ _).alloc (Nat.le_refl _) _)) hb2); clear hb2))
          go_ret2
          exact ⟨by rw [HE1.out, HE2.out]; rfl, HB2.out⟩
      · have hpe := hf1 q0
        have q1 : pairErr l0 i ≠ 0 := by rw [hpe]; exact q0
        have hw : wrongF l0 = pairErr l0 i := HWF.out.trans (firstErr_hit l0 i q1 l0.length 0 (by omega) (by omega) fun j _ hj => HZ.out j hj)
        have e1 : (recF l0).1 = ⟨#[]⟩ := by unfold recF; rw [hw, if_pos q1]
        have e2 : (recF l0).2 = pairErr l0 i := by unfold recF; rw [hw, if_pos q1]
        rw [hpe] at e2
        have HE1 := Aside0.mk e1
        have HE2 := Aside0.mk e2
        have q0b : (fitsF (l0.getD i z94).f0.size (l0.getD i z94).f1.size != 0) = true := by simpa using q0
        clear hf1 hf2 hs0 hs1 hz2 hsp hil c q0 q1 hw e1 e2 hpe
        generalize l0.getD i z94 = p at *
        generalize hfe : fitsF p.f0.size p.f1.size = fe at *
        go_wp2_with (first
          | (go_at_call 60; refine (fits_any _ _ _).mono ?_; rintro e w' ⟨rfl, rfl⟩; rw [hfe]))
        go_ret2
        exact ⟨by rw [HE1.out, HE2.out]; rfl, below_step HB.out ((Below.refl _ _).alloc (Nat.le_refl _) _)⟩
    · have hil : i = l0.length := by have := HK.out; omega
      have cb : decide ((i : Int) < (l0.length : Int)) = false := by simpa using c
      have cb2 : decide (i < l0.length) = false := by simp; omega
      have cb3 : ((i : Int) < (l0.length : Int)) = False := eq_false c
      have hw : wrongF l0 = 0 := HWF.out.trans (firstErr_of l0 l0.length 0 fun j _ hj => HZ.out j (by omega))
      subst hil
      rw [List.take_length] at *
      by_cases q2 : 65536 < 2 + sz l0
      · have e1 : (recF l0).1 = ⟨#[]⟩ := by unfold recF; rw [if_neg (by rw [hw]; decide), if_pos q2]
        have e2 : (recF l0).2 = 3 := by unfold recF; rw [if_neg (by rw [hw]; decide), if_pos q2]
        have q2b : decide ((65536 : Int) < ((2 + sz l0 : Nat) : Int)) = true := by simp; omega
        have q2c : decide (65536 < 2 + sz l0) = true := by simpa using q2
        have HE1 := Aside0.mk e1
        have HE2 := Aside0.mk e2
        clear e1 e2 hw c
        generalize (2 + sz l0 : Nat) = sp at *
        go_wp2_with fail
        go_ret2
        exact ⟨by rw [HE1.out, HE2.out]; rfl, HB.out⟩
      · have e1 : (recF l0).1 = ⟨(recBytes l0).toArray⟩ := by unfold recF; rw [if_neg (by rw [hw]; decide), if_neg q2]
        have e2 : (recF l0).2 = 0 := by unfold recF; rw [if_neg (by rw [hw]; decide), if_neg q2]
        have q2b : decide ((65536 : Int) < ((2 + sz l0 : Nat) : Int)) = false := by simp; omega
        have q2c : decide (65536 < 2 + sz l0) = false := by simpa using q2
        have HE1 := Aside0.mk e1
        have HE2 := Aside0.mk e2
        have hz0 : w.heap.size ≤ wr.heap.size := HB.out.size
        have hsp : 2 + sz l0 ≤ 65536 := by omega
        clear e1 e2 hw c q2
        generalize (2 + sz l0 : Nat) = sp at *
        go_wp2_with fail
        refine (Grow_fresh w.heap.size wr.heap.size sp _ hz0 (heap_alloc_new wr _) (by simp; omega) (by omega)).mono ?_
        rintro e w2 ⟨rfl, ⟨v2, hb2⟩, hl2⟩
        have HL2 := Aside0.mk hb2
        have HB2 := Aside0.mk ((HB.out.alloc hz0 (.cells #[.pointer none, .slice none 0 0] 104)).trans hl2)
        have hz2 : w.heap.size ≤ w2.heap.size := HB2.out.size
        clear hb2 hl2 HB hz0
        generalize wr.heap.size = b at *
        go_wp2_with fail
        refine (put_any w.heap.size b v2 [] (l0.length : Int) 2 (by omega) (by omega) _ HL2.out (by simp) hz2).mono ?_
        rintro e w3 ⟨rfl, v3, hb3, hu3⟩
        have HB3 := Aside0.mk (HB2.out.trans (hu3.below HL2.out))
        have HL3 := Aside0.mk hb3
        clear hb3 hu3 HB2 HL2 hz2 HK
        go_wp2_with fail
        go_loopg [63] l0.length (fun kq v63 w' => ∃ (i : Nat) (v : Value), v63 = .int .i64 (i : Int) ∧ Aside0 (i + kq = l0.length) ∧ Aside0 (Bld w.heap.size b v (be l0.length 2 ++ (l0.take i).flatMap pairBytes) w') ∧ Aside0 (Below w.heap.size w w'))
        case atStart => exact ⟨0, v3, rfl, ⟨by omega⟩, ⟨by simpa using HL3.out⟩, HB3⟩
        case round =>
          obtain ⟨i, v, rfl, HK, HL, HB⟩ := hrel
          clear HL3 HB3
          by_cases c : (i : Int) < (l0.length : Int)
          · cases gk with
            | zero => exact absurd HK.out (by omega)
            | succ k1 =>
            have hil : i < l0.length := by omega
            obtain ⟨ad, rfl, hx0, hx1⟩ := at_T94 (Kd.C_below HR.out HB.out) (i : Int) (by omega) c
            rw [Int.toNat_natCast, rd_nat] at hx0 hx1
            have hwi : wrap64 ((i : Int) + 1) = ((i + 1 : Nat) : Int) := Go.IntWalk.wrap64_in _ (by have := HLEN.out; omega)
            have hs0 := sz_take_bound l0 i (by omega) (fun j hj => HZ.out j (by omega))
            have hz2 := pairErr_sizes l0 i (HZ.out i hil)
            have hn0 : (be (l0.length : Int) 2 ++ (l0.take i).flatMap pairBytes).length = 2 + sz (l0.take i) := by rw [List.length_append, be_length, flat_length]
            have hap : (be (l0.length : Int) 2 ++ (l0.take i).flatMap pairBytes) ++ pairBytes (l0.getD i z94) = be (l0.length : Int) 2 ++ (l0.take (i + 1)).flatMap pairBytes := by
              rw [take_snoc l0 i hil, List.flatMap_append, List.append_assoc]; simp
            have hbnd := HLEN.out
            have cb : decide ((i : Int) < (l0.length : Int)) = true := by simpa using c
            have p1 : (0 ≤ (i : Int)) = True := eq_true (by omega)
            have p2 : ((i : Int) < (l0.length : Int)) = True := eq_true c
            have HAP := Aside0.mk hap
            have hL := HL.out
            generalize hbs : be (l0.length : Int) 2 ++ (l0.take i).flatMap pairBytes = bs at *
            generalize l0.getD i z94 = p at *
            have hl0 : w.heap.size ≤ wr.heap.size := HB.out.size
            have hn1 : bs.length ≤ 2300000 := by omega
            have HS := Aside0.mk hz2
            have k0 := blk_new wr (.cells #[.string p.f0, .string p.f1] 94)
            have kv := hL.own_lt
            have kb : wr.heap.size ≠ b := by have := hL.lt; omega
            have HL1 := Aside0.mk (hL.alloc (.cells #[.string p.f0, .string p.f1] 94))
            have HB1 := Aside0.mk (HB.out.alloc hl0 (.cells #[.string p.f0, .string p.f1] 94))
            have K0 := Aside0.mk k0
            clear hap hbs c hs0 hz2 hL HL HB hn0 hbnd hil k0
            go_wp2_with fail
            refine (put_any w.heap.size b v bs (p.f0.size : Int) 2 (by omega) (by omega) _ HL1.out (by omega) HB1.out.size).mono ?_
            rintro e w4 ⟨rfl, v4, hb4, hu4⟩
            obtain ⟨j1, kv1⟩ := hu4.keep (base := w.heap.size) (bs := bs) K0.out kb kv
            have HB4 := Aside0.mk (HB1.out.trans (hu4.below HL1.out))
            have HL4 := Aside0.mk hb4
            have d0 := blk_cell j1 0
            have d1 := blk_cell j1 1
            have J1 := Aside0.mk j1
            clear hb4 hu4 HL1 HB1 K0 kv j1
            go_wp2_with fail
            refine (put_any w.heap.size b v4 _ (p.f1.size : Int) 4 (by omega) (by omega) _ HL4.out (by rw [List.length_append, be_length]; omega) HB4.out.size).mono ?_
            rintro e w5 ⟨rfl, v5, hb5, hu5⟩
            obtain ⟨j2, kv2⟩ := hu5.keep (base := w.heap.size) (bs := bs) J1.out kb kv1
            have HB5 := Aside0.mk (HB4.out.trans (hu5.below HL4.out))
            have HL5 := Aside0.mk hb5
            clear d0 d1
            have d0 := blk_cell j2 0
            have d1 := blk_cell j2 1
            have J2 := Aside0.mk j2
            clear hb5 hu5 HL4 HB4 J1 kv1 j2
            go_wp2_with fail
            refine (WriteString_any w.heap.size b v5 _ p.f0 _ HL5.out (by rw [List.length_append, List.length_append, be_length, be_length]; have := HS.out; omega) HB5.out.size).mono ?_
            rintro e w6 ⟨rfl, v6, hb6, hu6⟩
            obtain ⟨j3, kv3⟩ := hu6.keep (base := w.heap.size) (bs := bs) J2.out kb kv2
            have HB6 := Aside0.mk (HB5.out.trans (hu6.below HL5.out))
            have HL6 := Aside0.mk hb6
            clear d0 d1
            have d0 := blk_cell j3 0
            have d1 := blk_cell j3 1
            clear hb6 hu6 HL5 HB5 J2 kv2 j3
            go_wp2_with fail
            refine (WriteString_any w.heap.size b v6 _ p.f1 _ HL6.out (by rw [List.length_append, List.length_append, List.length_append, be_length, be_length, ba_size]; have := HS.out; omega) HB6.out.size).mono ?_
            rintro e w7 ⟨rfl, v7, hb7, hu7⟩
            have HB7 := Aside0.mk (HB6.out.trans (hu7.below HL6.out))
            have HL7 := Aside0.mk hb7
            clear hb7 hu7 HL6 HB6 d0 d1 kv3
            go_wp2_with fail
            go_roundg k1
            case measure => have := HK.out; omega
            case rel =>
              refine ⟨i + 1, v7, by rw [hwi], ⟨by have := HK.out; omega⟩, ⟨?_⟩, HB7⟩
              rw [← HAP.out]
              have := HL7.out
              simp only [List.append_assoc] at this
              rw [pairBytes]
              simpa only [List.append_assoc] using this
          · have hil : i = l0.length := by have := HK.out; omega
            have cb : decide ((i : Int) < (l0.length : Int)) = false := by simpa using c
            have cb2 : decide (i < l0.length) = false := by simp; omega
            have cb3 : ((i : Int) < (l0.length : Int)) = False := eq_false c
            subst hil
            rw [List.take_length] at HL
            go_wp2_with fail
            refine (String_any w.heap.size b v _ _ HL.out).mono ?_
            rintro e w4 ⟨rfl, hs⟩
            have HB4 := Aside0.mk (HB.out.trans (hs.below HL.out HB.out.size))
            clear hs
            go_wp2_with fail
            go_ret2
            exact ⟨by rw [HE1.out, HE2.out]; rfl, HB4.out⟩

end Go.Proofs.Ytkfhedppnlocpaa.Q
