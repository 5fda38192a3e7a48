/- Contracts of record.Number and record.Entry: what they answer, at every argument (Entry: of a text that the memory holds). No condition. -/
import Derived.Test.YtkfhedppnlocpaaE2
import Derived.Test.YtkfhedppnlocpaaProg
import Derived.Below
import Derived.Deep.Draws
import Derived.Deep.AppendLies
import Derived.Maps.AppendAt
import Derived.OwnWalk
import Derived.Laws.BytesArg
import Derived.Laws.MakeOwn
import Derived.Laws.OwnMore
import Derived.Deep.OwnRows
import Derived.Tactics
import Derived.Lib.ConvBytes
import Derived.Laws.Slices
import Derived.WalkKit
import Derived.KernelRfl
import Derived.RowKit3
import Derived.Deep.LoopGhost
import Derived.Deep.QuietTactic
import Derived.BigQuiet
import Derived.WideLaws
import Derived.Deep.DeepCutAuto
import Derived.Deep.CutBlock
import Derived.Deep.RegionHeld3
import Derived.Laws.Rows
import Derived.Lib.AppendStr
import Derived.ArgAppend
import Derived.Laws.IdiomCopy
import Derived.OrdersHeld
import Derived.Laws.BitsLemmas
import Derived.RowKit
import Derived.Test.YtkfhedppnlocpaaWWords
import Derived.Test.YtkfhedppnlocpaaWLast
import Derived.Test.YtkfhedppnlocpaaWTab
import Derived.Test.YtkfhedppnlocpaaWFour
import Derived.Test.YtkfhedppnlocpaaWQPut
import Derived.Test.YtkfhedppnlocpaaWApart
import Derived.Test.YtkfhedppnlocpaaWArr
import Derived.Test.YtkfhedppnlocpaaWZeros
import Derived.Test.YtkfhedppnlocpaaWFoot
import Derived.Test.YtkfhedppnlocpaaWKept
import Derived.Test.YtkfhedppnlocpaaWShare
import Derived.Test.YtkfhedppnlocpaaWN
import Derived.Test.YtkfhedppnlocpaaWFootNe
import Derived.Test.YtkfhedppnlocpaaWAt
import Derived.Test.YtkfhedppnlocpaaWEqStruct
import Derived.Test.YtkfhedppnlocpaaWRepsOne
import Derived.Test.YtkfhedppnlocpaaWInv
import Derived.Test.YtkfhedppnlocpaaWInvWords
import Derived.Test.YtkfhedppnlocpaaWGuard
import Derived.Test.YtkfhedppnlocpaaWNEv
import Derived.Test.YtkfhedppnlocpaaWMore
namespace Go.Proofs.Ytkfhedppnlocpaa.Q
open Go.RowKit Go.Proofs.YtkfhedppnlocpaaW.PrintWords Go.Proofs.YtkfhedppnlocpaaW.PrintLast Go.Proofs.YtkfhedppnlocpaaW.PrintMore

theorem Bld.new (w : World) : Bld w.heap.size w.heap.size (.slice none 0 0) [] (w.alloc (.cells #[.pointer none, .slice none 0 0] 104)) :=
  ⟨Nat.le_refl _, _, .inl rfl, heap_alloc_new w _, World.ownsRow_nil _ _ _ _⟩

/-! ### record.Number: function 15 -/
def record_Number.f (a0 : Int) (a1 : Int) : Option (ByteArray × Int) :=
  if a1 < 1 ∨ 4 < a1 then some (⟨#[]⟩, 30) else if a0 < 0 ∨ 256 ^ a1.toNat ≤ a0 then some (⟨#[]⟩, 31) else some (⟨(be a0 a1.toNat).toArray⟩, 0)

theorem pow_shift (m : Nat) : (2 : Int) ^ (8 * m) = 256 ^ m := by rw [Int.pow_mul]; rfl

theorem pow4 (m : Nat) (h1 : 1 ≤ m) (h4 : m ≤ 4) : (256 : Int) ^ m ≤ 4294967296 := by
  match m, h1, h4 with
  | 1, _, _ => decide
  | 2, _, _ => decide
  | 3, _, _ => decide
  | 4, _, _ => decide

set_option maxHeartbeats 2000000 in
set_option maxRecDepth 100000 in
theorem record_Number.calls (a0 : Int) (a1 : Int) (r1 : ByteArray) (r2 : Int) (w : World) (h : record_Number.f a0 a1 = some (r1, r2)) :
    Calls Try.prog 15 #[.int .i64 a0, .int .i64 a1] w fun e w' => e = .returned (.tuple #[.string r1, .int .i64 r2]) ∧ Below w.heap.size w w' := by
  unfold record_Number.f at h
  by_cases c1 : a1 < 1
  · rw [if_pos (.inl c1)] at h
    simp only [Option.some.injEq, Prod.mk.injEq] at h
    obtain ⟨rfl, rfl⟩ := h
    go_enter Try.func15, Try.ntmps15
    go_wp2
    go_ret2
    exact ⟨rfl, Below.refl _ _⟩
  by_cases c2 : 4 < a1
  · rw [if_pos (.inr c2)] at h
    simp only [Option.some.injEq, Prod.mk.injEq] at h
    obtain ⟨rfl, rfl⟩ := h
    go_enter Try.func15, Try.ntmps15
    go_wp2
    go_ret2
    exact ⟨rfl, Below.refl _ _⟩
  rw [if_neg (by omega)] at h
  obtain ⟨m, rfl⟩ := Int.eq_ofNat_of_zero_le (show 0 ≤ a1 by omega)
  rw [Int.toNat_natCast] at h
  have hp := pow4 m (by omega) (by omega)
  by_cases c3 : a0 < 0
  · rw [if_pos (.inl c3)] at h
    simp only [Option.some.injEq, Prod.mk.injEq] at h
    obtain ⟨rfl, rfl⟩ := h
    clear hp
    go_enter Try.func15, Try.ntmps15
    go_wp2
    go_ret2
    exact ⟨rfl, Below.refl _ _⟩
  by_cases c4 : 256 ^ m ≤ a0
  · rw [if_pos (.inr c4)] at h
    simp only [Option.some.injEq, Prod.mk.injEq] at h
    obtain ⟨rfl, rfl⟩ := h
    have hne : (a0 / 2 ^ (8 * m) != 0) = true := by
      rw [pow_shift, bne_iff_ne]
      have hpos : (0 : Int) < 256 ^ m := Int.pow_pos (by decide)
      have := (Int.le_ediv_iff_mul_le hpos).2 (show 1 * 256 ^ m ≤ a0 by omega)
      omega
    clear hp c4
    go_enter Try.func15, Try.ntmps15
    go_wp2
    go_ret2
    exact ⟨rfl, Below.refl _ _⟩
  rw [if_neg (by omega)] at h
  simp only [Option.some.injEq, Prod.mk.injEq] at h
  obtain ⟨rfl, rfl⟩ := h
  have hne : (a0 / 2 ^ (8 * m) != 0) = false := by
    rw [pow_shift, bne_eq_false_iff_eq]
    exact Int.ediv_eq_zero_of_lt (by omega) (by omega)
  have hb : a0 < 4294967296 := by omega
  clear hp c4
  go_enter Try.func15, Try.ntmps15
  go_wp2_with fail
  refine (put_any w.heap.size w.heap.size _ [] a0 m (by omega) (by omega) _ (Bld.new w) (by simp) (by simp)).mono ?_
  rintro e w1 ⟨rfl, v1, hb1, hu1⟩
  have HB := Aside0.mk ((Below.refl w.heap.size w).alloc (Nat.le_refl _) (.cells #[.pointer none, .slice none 0 0] 104) |>.trans (hu1.below (Bld.new w)))
  have HL := Aside0.mk hb1
  have hz : w.heap.size ≤ w1.heap.size := HB.out.size
  clear hb1 hu1
  go_wp2_with fail
  refine (String_any w.heap.size w.heap.size v1 ([] ++ be a0 m) w1 HL.out).mono ?_
  rintro e w2 ⟨rfl, hs⟩
  have HB2 := Aside0.mk (HB.out.trans (hs.below HL.out hz))
  clear hs
  go_wp2
  go_ret2
  exact ⟨rfl, HB2.out⟩

theorem widthOK_yes (a0 : Int) (w : World) (h1 : 1 ≤ a0) (h2 : decide (a0 ≤ 16) = true) : Calls Try.prog 57 #[.int .i64 a0] w fun e w' => e = .returned (.bool true) ∧ w = w' := by
  go_enter Try.func57, Try.ntmps57
  go_wp2
  go_ret
  exact ⟨rfl, rfl⟩

/-! ### record.Entry: function 20 -/
def record_Entry.f (a0 : Int) (a1 : ByteArray) (a2 : Int) : Option (ByteArray × Int) :=
  if a0 < 1 ∨ 16 < a0 then some (⟨#[]⟩, 30) else if (a1.size : Int) ≠ a0 then some (⟨#[]⟩, 34) else if a2 < 0 ∨ 4294967295 < a2 then some (⟨#[]⟩, 31) else some (⟨(a1.data.toList ++ be a2 4).toArray⟩, 0)

set_option maxHeartbeats 2000000 in
set_option maxRecDepth 100000 in
theorem record_Entry.calls (a0 : Int) (a1 : ByteArray) (a2 : Int) (r1 : ByteArray) (r2 : Int) (w : World) (h : record_Entry.f a0 a1 a2 = some (r1, r2)) :
    Calls Try.prog 20 #[.int .i64 a0, .string a1, .int .i64 a2] w fun e w' => e = .returned (.tuple #[.string r1, .int .i64 r2]) ∧ Below w.heap.size w w' := by
  unfold record_Entry.f at h
  by_cases c1 : a0 < 1 ∨ 16 < a0
  · rw [if_pos c1] at h
    simp only [Option.some.injEq, Prod.mk.injEq] at h
    obtain ⟨rfl, rfl⟩ := h
    rcases c1 with c1 | c1
    · go_enter Try.func20, Try.ntmps20
      go_wp2
      go_ret2
      exact ⟨rfl, Below.refl _ _⟩
    · have c16 : decide (a0 ≤ 16) = false := by simp; omega
      go_enter Try.func20, Try.ntmps20
      go_wp2
      go_ret2
      exact ⟨rfl, Below.refl _ _⟩
  rw [if_neg c1] at h
  have c16 : decide (a0 ≤ 16) = true := by simp; omega
  by_cases c2 : (a1.size : Int) ≠ a0
  · rw [if_pos c2] at h
    simp only [Option.some.injEq, Prod.mk.injEq] at h
    obtain ⟨rfl, rfl⟩ := h
    have c2b : ((a1.size : Int) != a0) = true := by simpa using c2
    have h1 : 1 ≤ a0 := by omega
    have h2 : a0 ≤ 16 := by omega
    clear c1 c2
    go_enter Try.func20, Try.ntmps20
    go_wp2
    go_ret2
    exact ⟨rfl, Below.refl _ _⟩
  rw [if_neg c2] at h
  have c2' : (a1.size : Int) = a0 := Classical.byContradiction c2
  have c2b : ((a1.size : Int) != a0) = false := by simpa using c2'
  have h1 : 1 ≤ a0 := by omega
  have h2 : a1.size ≤ 16 := by omega
  clear c1 c2 c2'
  by_cases c3 : a2 < 0 ∨ 4294967295 < a2
  · rw [if_pos c3] at h
    simp only [Option.some.injEq, Prod.mk.injEq] at h
    obtain ⟨rfl, rfl⟩ := h
    rcases c3 with c3 | c3
    all_goals
      go_enter Try.func20, Try.ntmps20
      go_wp2
      go_ret2
      exact ⟨rfl, Below.refl _ _⟩
  rw [if_neg c3] at h
  simp only [Option.some.injEq, Prod.mk.injEq] at h
  obtain ⟨rfl, rfl⟩ := h
  have h3 : 0 ≤ a2 := by omega
  have h4 : a2 ≤ 4294967295 := by omega
  clear c3
  go_enter Try.func20, Try.ntmps20
  go_wp2_with (go_at_call 57; refine (widthOK_yes a0 w h1 c16).mono ?_; rintro e w' ⟨rfl, rfl⟩)
  refine (WriteString_any w.heap.size w.heap.size _ [] a1 _ (Bld.new w) (by simp; omega) (by simp)).mono ?_
  rintro e w1 ⟨rfl, v1, hb1, hu1⟩
  have HB := Aside0.mk ((Below.refl w.heap.size w).alloc (Nat.le_refl _) (.cells #[.pointer none, .slice none 0 0] 104) |>.trans (hu1.below (Bld.new w)))
  have HL := Aside0.mk hb1
  have hz : w.heap.size ≤ w1.heap.size := HB.out.size
  clear hb1 hu1
  go_wp2_with fail
  refine (put_any w.heap.size w.heap.size _ _ a2 4 (by omega) (by omega) _ HL.out (by simp; omega) hz).mono ?_
  rintro e w2 ⟨rfl, v2, hb2, hu2⟩
  have HB2 := Aside0.mk (HB.out.trans (hu2.below HL.out))
  have HL2 := Aside0.mk hb2
  have hz2 : w.heap.size ≤ w2.heap.size := HB2.out.size
  clear hb2 hu2 HB HL
  go_wp2_with fail
  refine (String_any w.heap.size w.heap.size v2 _ w2 HL2.out).mono ?_
  rintro e w3 ⟨rfl, hs⟩
  have HB3 := Aside0.mk (HB2.out.trans (hs.below HL2.out hz2))
  clear hs
  go_wp2
  go_ret2
  exact ⟨rfl, HB3.out⟩

end Go.Proofs.Ytkfhedppnlocpaa.Q
