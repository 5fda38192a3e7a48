/- Contracts of record.ordered at Pair and at Group: the error that it answers. Condition: the list is read, the place lies in it. -/
import Derived.Test.YtkfhedppnlocpaaQx0
import Derived.Test.YtkfhedppnlocpaaProg
import Derived.Below
import Derived.Deep.Draws
import Derived.Deep.AppendLies
import Derived.Maps.AppendAt
import Derived.OwnWalk
import Derived.Laws.BytesArg
import Derived.Laws.MakeOwn
import Derived.Laws.OwnMore
import Derived.Deep.OwnRows
import Derived.Tactics
import Derived.Lib.ConvBytes
import Derived.Laws.Slices
import Derived.WalkKit
import Derived.KernelRfl
import Derived.RowKit3
import Derived.Deep.LoopGhost
import Derived.Deep.QuietTactic
import Derived.BigQuiet
import Derived.WideLaws
import Derived.Deep.DeepCutAuto
import Derived.Deep.CutBlock
import Derived.Deep.RegionHeld3
import Derived.Laws.Rows
import Derived.Lib.AppendStr
import Derived.ArgAppend
import Derived.Laws.IdiomCopy
import Derived.OrdersHeld
import Derived.Laws.BitsLemmas
import Derived.RowKit
import Derived.Test.YtkfhedppnlocpaaWWords
import Derived.Test.YtkfhedppnlocpaaWLast
import Derived.Test.YtkfhedppnlocpaaWTab
import Derived.Test.YtkfhedppnlocpaaWFour
import Derived.Test.YtkfhedppnlocpaaWQPut
import Derived.Test.YtkfhedppnlocpaaWApart
import Derived.Test.YtkfhedppnlocpaaWArr
import Derived.Test.YtkfhedppnlocpaaWZeros
import Derived.Test.YtkfhedppnlocpaaWFoot
import Derived.Test.YtkfhedppnlocpaaWKept
import Derived.Test.YtkfhedppnlocpaaWShare
import Derived.Test.YtkfhedppnlocpaaWN
import Derived.Test.YtkfhedppnlocpaaWFootNe
import Derived.Test.YtkfhedppnlocpaaWAt
import Derived.Test.YtkfhedppnlocpaaWEqStruct
import Derived.Test.YtkfhedppnlocpaaWRepsOne
import Derived.Test.YtkfhedppnlocpaaWInv
import Derived.Test.YtkfhedppnlocpaaWInvWords
import Derived.Test.YtkfhedppnlocpaaWGuard
import Derived.Test.YtkfhedppnlocpaaWNEv
import Derived.Test.YtkfhedppnlocpaaWMore
import Derived.Deep.RegionHeld3
set_option linter.unusedVariables false
set_option linter.unusedSimpArgs false
namespace Go.Proofs.Ytkfhedppnlocpaa.Q
open Go.RowKit Go.Proofs.YtkfhedppnlocpaaW.PrintWords Go.Proofs.YtkfhedppnlocpaaW.PrintLast Go.Proofs.YtkfhedppnlocpaaW.PrintMore

theorem keyOf_any (a b : ByteArray) (w : World) : Calls Try.prog 62 #[.agg #[.string a, .string b]] w fun e w' => e = .returned (.string a) ∧ Below w.heap.size w w' := by
  go_enter Try.func62, Try.ntmps62
  go_wp2
  go_ret
  exact ⟨rfl, (Below.refl _ _).alloc (Nat.le_refl _) _⟩

/-! ### record.ordered[Pair]: function 61 -/
def api_Pair.f (l : List S94) (i : Int) : Option Int :=
  if i = 0 then some 0 else if 0 < i ∧ i < (l.length : Int) then
    (if (rd_T94 l i).f0.toList = (rd_T94 l (i - 1)).f0.toList then some 35 else if Op.bytesLess (rd_T94 l i).f0.toList (rd_T94 l (i - 1)).f0.toList = true then some 37 else some 0)
  else none

set_option maxHeartbeats 2000000 in
set_option maxRecDepth 100000 in
theorem api_Pair.calls (A0 : Option Addr) (c0 : Nat) (l0 : List S94) (a1 : Int) (r : Int) (w : World) (hr0 : Kd.C k94 w A0 l0.length l0) (hc0 : l0.length ≤ c0) (h : api_Pair.f l0 a1 = some r) :
    Calls Try.prog 61 #[.slice A0 l0.length c0, .int .i64 a1, .func (.func 62) #[] #[]] w fun e w' => e = .returned (.int .i64 r) ∧ Below w.heap.size w w' := by
  unfold api_Pair.f at h
  by_cases c1 : a1 = 0
  · rw [if_pos c1] at h
    obtain rfl := Option.some.inj h
    subst c1
    go_enter Try.func61, Try.ntmps61
    go_wp2
    go_ret
    exact ⟨rfl, Below.refl _ _⟩
  rw [if_neg c1] at h
  by_cases c2 : 0 < a1 ∧ a1 < (l0.length : Int)
  · rw [if_pos c2] at h
    have hl := hr0.2.1
    obtain ⟨j, hj⟩ : ∃ j, a1 - 1 = j := ⟨_, rfl⟩
    rw [hj] at h
    have hwr : IntKind.i64.wrap (a1 - 1) = j := by rw [hj]; exact (i64_w _).trans (Go.IntWalk.wrap64_in _ (by omega))
    obtain ⟨ad, rfl, h1, h2⟩ := at_T94 hr0 a1 (by omega) c2.2
    obtain ⟨ad', e', h3, h4⟩ := at_T94 hr0 j (by omega) (by omega)
    obtain rfl := Option.some.inj e'
    have c1b : (a1 == 0) = false := by simpa using c1
    have p1 : 0 ≤ a1 := by omega
    have p2 : a1 < (l0.length : Int) := c2.2
    have p3 : 0 ≤ j := by omega
    have p4 : j < (l0.length : Int) := by omega
    have HH := Aside0.mk h
    clear h c1 c2 hr0 hj hl
    generalize (rd_T94 l0 a1) = x at *
    generalize (rd_T94 l0 j) = y at *
    go_enter Try.func61, Try.ntmps61
    go_wp2_with fail
    have hB0 : Below w.heap.size w w := Below.refl _ _
    go_region_held3 (fun w' => w'.cell? (ad.add (a1.toNat * 2)) = some (.string x.f0) ∧ w'.cell? ⟨(ad.add (a1.toNat * 2)).block, (ad.add (a1.toNat * 2)).off + 1, none⟩ = some (.string x.f1) ∧ w'.cell? (ad.add (j.toNat * 2)) = some (.string y.f0) ∧ w'.cell? ⟨(ad.add (j.toNat * 2)).block, (ad.add (j.toNat * 2)).off + 1, none⟩ = some (.string y.f1) ∧ Below w.heap.size w w')
      (first | exact ⟨h1, h2, h3, h4, Below.drew hB0⟩ | (go_split_ands; refine ⟨pw_cell_below hb ‹_›, pw_cell_below hb ‹_›, pw_cell_below hb ‹_›, pw_cell_below hb ‹_›, below_step ‹_› hb⟩))
      (first | (go_at_call 62; refine (keyOf_any _ _ _).mono ?_; rintro e w' ⟨rfl, hb⟩))
    obtain ⟨_, _, _, _, hB⟩ := ‹_ ∧ _ ∧ _ ∧ _ ∧ _›
    have HB := Aside0.mk hB
    clear hB
    have h := HH.out
    clear HH
    by_cases q1 : x.f0.toList = y.f0.toList
    · rw [if_pos q1] at h
      obtain rfl := Option.some.inj h
      have q1b : (x.f0.toList == y.f0.toList) = true := by simpa using q1
      clear q1 h
      go_wp2
      go_ret
      exact ⟨rfl, HB.out⟩
    rw [if_neg q1] at h
    have q1b : (x.f0.toList == y.f0.toList) = false := by simpa using q1
    clear q1
    by_cases q2 : Op.bytesLess x.f0.toList y.f0.toList = true
    · rw [if_pos q2] at h
      obtain rfl := Option.some.inj h
      clear h
      go_wp2
      go_ret
      exact ⟨rfl, HB.out⟩
    · rw [if_neg q2] at h
      obtain rfl := Option.some.inj h
      have q2b : Op.bytesLess x.f0.toList y.f0.toList = false := by simpa using q2
      clear h q2
      go_wp2
      go_ret
      exact ⟨rfl, HB.out⟩
  · rw [if_neg c2] at h
    cases h

theorem hashOf_any (a : ByteArray) (A : Option Addr) (n c : Nat) (w : World) : Calls Try.prog 68 #[.agg #[.string a, .slice A n c]] w fun e w' => e = .returned (.string a) ∧ Below w.heap.size w w' := by
  go_enter Try.func68, Try.ntmps68
  go_wp2
  go_ret
  exact ⟨rfl, (Below.refl _ _).alloc (Nat.le_refl _) _⟩

/-! ### record.ordered[Group]: function 67 -/
def api_Group.f (l : List S80) (i : Int) : Option Int :=
  if i = 0 then some 0 else if 0 < i ∧ i < (l.length : Int) then
    (if (rd_T80 l i).f0.toList = (rd_T80 l (i - 1)).f0.toList then some 35 else if Op.bytesLess (rd_T80 l i).f0.toList (rd_T80 l (i - 1)).f0.toList = true then some 37 else some 0)
  else none

set_option maxHeartbeats 2000000 in
set_option maxRecDepth 100000 in
theorem api_Group.calls (A0 : Option Addr) (c0 : Nat) (l0 : List S80) (a1 : Int) (r : Int) (w : World) (hr0 : Kd.C k80 w A0 l0.length l0) (hc0 : l0.length ≤ c0) (h : api_Group.f l0 a1 = some r) :
    Calls Try.prog 67 #[.slice A0 l0.length c0, .int .i64 a1, .func (.func 68) #[] #[]] w fun e w' => e = .returned (.int .i64 r) ∧ Below w.heap.size w w' := by
  unfold api_Group.f at h
  by_cases c1 : a1 = 0
  · rw [if_pos c1] at h
    obtain rfl := Option.some.inj h
    subst c1
    go_enter Try.func67, Try.ntmps67
    go_wp2
    go_ret
    exact ⟨rfl, Below.refl _ _⟩
  rw [if_neg c1] at h
  by_cases c2 : 0 < a1 ∧ a1 < (l0.length : Int)
  · rw [if_pos c2] at h
    have hl := hr0.2.1
    obtain ⟨j, hj⟩ : ∃ j, a1 - 1 = j := ⟨_, rfl⟩
    rw [hj] at h
    have hwr : IntKind.i64.wrap (a1 - 1) = j := by rw [hj]; exact (i64_w _).trans (Go.IntWalk.wrap64_in _ (by omega))
    obtain ⟨ad, A1, c1', rfl, h1, h2, _, _⟩ := at_T80 hr0 a1 (by omega) c2.2
    obtain ⟨ad', A2, c2', e', h3, h4, _, _⟩ := at_T80 hr0 j (by omega) (by omega)
    obtain rfl := Option.some.inj e'
    have c1b : (a1 == 0) = false := by simpa using c1
    have p1 : 0 ≤ a1 := by omega
    have p2 : a1 < (l0.length : Int) := c2.2
    have p3 : 0 ≤ j := by omega
    have p4 : j < (l0.length : Int) := by omega
    have HH := Aside0.mk h
    clear h c1 c2 hr0 hj hl
    generalize (rd_T80 l0 a1) = x at *
    generalize (rd_T80 l0 j) = y at *
    go_enter Try.func67, Try.ntmps67
    go_wp2_with fail
    have hB0 : Below w.heap.size w w := Below.refl _ _
    go_region_held3 (fun w' => w'.cell? (ad.add (a1.toNat * 2)) = some (.string x.f0) ∧ w'.cell? ⟨(ad.add (a1.toNat * 2)).block, (ad.add (a1.toNat * 2)).off + 1, none⟩ = some (.slice A1 x.f1.length c1') ∧ w'.cell? (ad.add (j.toNat * 2)) = some (.string y.f0) ∧ w'.cell? ⟨(ad.add (j.toNat * 2)).block, (ad.add (j.toNat * 2)).off + 1, none⟩ = some (.slice A2 y.f1.length c2') ∧ Below w.heap.size w w')
      (first | exact ⟨h1, h2, h3, h4, Below.drew hB0⟩ | (go_split_ands; refine ⟨pw_cell_below hb ‹_›, pw_cell_below hb ‹_›, pw_cell_below hb ‹_›, pw_cell_below hb ‹_›, below_step ‹_› hb⟩))
      (first | (go_at_call 68; refine (hashOf_any _ _ _ _ _).mono ?_; rintro e w' ⟨rfl, hb⟩))
    obtain ⟨_, _, _, _, hB⟩ := ‹_ ∧ _ ∧ _ ∧ _ ∧ _›
    have HB := Aside0.mk hB
    clear hB
    have h := HH.out
    clear HH
    by_cases q1 : x.f0.toList = y.f0.toList
    · rw [if_pos q1] at h
      obtain rfl := Option.some.inj h
      have q1b : (x.f0.toList == y.f0.toList) = true := by simpa using q1
      clear q1 h
      go_wp2
      go_ret
      exact ⟨rfl, HB.out⟩
    rw [if_neg q1] at h
    have q1b : (x.f0.toList == y.f0.toList) = false := by simpa using q1
    clear q1
    by_cases q2 : Op.bytesLess x.f0.toList y.f0.toList = true
    · rw [if_pos q2] at h
      obtain rfl := Option.some.inj h
      clear h
      go_wp2
      go_ret
      exact ⟨rfl, HB.out⟩
    · rw [if_neg q2] at h
      obtain rfl := Option.some.inj h
      have q2b : Op.bytesLess x.f0.toList y.f0.toList = false := by simpa using q2
      clear h q2
      go_wp2
      go_ret
      exact ⟨rfl, HB.out⟩
  · rw [if_neg c2] at h
    cases h

end Go.Proofs.Ytkfhedppnlocpaa.Q
