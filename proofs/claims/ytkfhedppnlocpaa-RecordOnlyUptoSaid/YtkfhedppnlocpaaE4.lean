/- Contract of record.ReadEntry: what it answers, at every index that the memory holds. No other condition. -/
import Derived.Test.YtkfhedppnlocpaaE3
import Derived.Test.YtkfhedppnlocpaaProg
import Derived.Below
import Derived.Deep.Draws
import Derived.Deep.AppendLies
import Derived.Maps.AppendAt
import Derived.OwnWalk
import Derived.Laws.BytesArg
import Derived.Laws.MakeOwn
import Derived.Laws.OwnMore
import Derived.Deep.OwnRows
import Derived.Tactics
import Derived.Lib.ConvBytes
import Derived.Laws.Slices
import Derived.WalkKit
import Derived.KernelRfl
import Derived.RowKit3
import Derived.Deep.LoopGhost
import Derived.Deep.QuietTactic
import Derived.BigQuiet
import Derived.WideLaws
import Derived.Deep.DeepCutAuto
import Derived.Deep.CutBlock
import Derived.Deep.RegionHeld3
import Derived.Laws.Rows
import Derived.Lib.AppendStr
import Derived.ArgAppend
import Derived.Laws.IdiomCopy
import Derived.OrdersHeld
import Derived.Laws.BitsLemmas
import Derived.RowKit
import Derived.Test.YtkfhedppnlocpaaWWords
import Derived.Test.YtkfhedppnlocpaaWLast
import Derived.Test.YtkfhedppnlocpaaWTab
import Derived.Test.YtkfhedppnlocpaaWQPut
import Derived.Test.YtkfhedppnlocpaaWApart
import Derived.Test.YtkfhedppnlocpaaWArr
import Derived.Test.YtkfhedppnlocpaaWZeros
import Derived.Test.YtkfhedppnlocpaaWFoot
import Derived.Test.YtkfhedppnlocpaaWKept
import Derived.Test.YtkfhedppnlocpaaWShare
import Derived.Test.YtkfhedppnlocpaaWN
import Derived.Test.YtkfhedppnlocpaaWRepsOne
import Derived.Test.YtkfhedppnlocpaaWGuard
import Derived.Test.YtkfhedppnlocpaaWNEv
import Derived.Test.YtkfhedppnlocpaaWMore
import Derived.Deep.RegionWith
set_option linter.unusedVariables false
set_option linter.unusedSimpArgs false
namespace Go.Proofs.Ytkfhedppnlocpaa.Q
open Go.RowKit Go.Proofs.YtkfhedppnlocpaaW.PrintWords Go.Proofs.YtkfhedppnlocpaaW.PrintLast Go.Proofs.YtkfhedppnlocpaaW.PrintMore

theorem widthOK_no (a0 : Int) (w : World) (h : a0 < 1 ∨ 16 < a0) : Calls Try.prog 57 #[.int .i64 a0] w fun e w' => e = .returned (.bool false) ∧ w = w' := by
  rcases h with h | h
  · go_enter Try.func57, Try.ntmps57
    go_wp2
    go_ret
    exact ⟨rfl, rfl⟩
  · have c16 : decide (a0 ≤ 16) = false := by simp; omega
    go_enter Try.func57, Try.ntmps57
    go_wp2
    go_ret
    exact ⟨rfl, rfl⟩

/-! ### record.ReadEntry: function 22 -/
def record_ReadEntry.f (a0 : Int) (a1 : ByteArray) (a2 : Int) : Option (ByteArray × Int × Int) :=
  if 140737488351232 < a1.size then none else if a0 < 1 ∨ 16 < a0 then some (⟨#[]⟩, 0, 30) else if a1.size % (a0.toNat + 4) ≠ 0 then some (⟨#[]⟩, 0, 38)
  else if a2 < 0 ∨ ((a1.size / (a0.toNat + 4) : Nat) : Int) ≤ a2 then some (⟨#[]⟩, 0, 1)
  else some (a1.extract (a2.toNat * (a0.toNat + 4)) (a2.toNat * (a0.toNat + 4) + a0.toNat), beNum (a1.extract (a2.toNat * (a0.toNat + 4) + a0.toNat) ((a2.toNat + 1) * (a0.toNat + 4))).data.toList, 0)

set_option maxHeartbeats 2000000 in
set_option maxRecDepth 100000 in
theorem record_ReadEntry.calls (a0 : Int) (a1 : ByteArray) (a2 : Int) (r1 : ByteArray) (r2 r3 : Int) (w : World) (h : record_ReadEntry.f a0 a1 a2 = some (r1, r2, r3)) :
    Calls Try.prog 22 #[.int .i64 a0, .string a1, .int .i64 a2] w fun e w' => e = .returned (.tuple #[.string r1, .int .i64 r2, .int .i64 r3]) ∧ Below w.heap.size w w' := by
  unfold record_ReadEntry.f at h
  by_cases hs : 140737488351232 < a1.size
  · rw [if_pos hs] at h
    cases h
  rw [if_neg hs] at h
  replace hs : a1.size ≤ 140737488351232 := Nat.not_lt.1 hs
  by_cases c1 : a0 < 1 ∨ 16 < a0
  · rw [if_pos c1] at h
    simp only [Option.some.injEq, Prod.mk.injEq] at h
    obtain ⟨rfl, rfl, rfl⟩ := h
    go_enter Try.func22, Try.ntmps22
    go_wp2_with (go_at_call 57; refine (widthOK_no a0 w c1).mono ?_; rintro e w' ⟨rfl, rfl⟩)
    go_ret3
    exact ⟨rfl, Below.refl _ _⟩
  rw [if_neg c1] at h
  have c16 : decide (a0 ≤ 16) = true := by simp; omega
  have h1 : 1 ≤ a0 := by omega
  have h16 : a0 ≤ 16 := by omega
  clear c1
  obtain ⟨wd, rfl⟩ := Int.eq_ofNat_of_zero_le (show 0 ≤ a0 by omega)
  rw [Int.toNat_natCast] at h
  by_cases c2 : a1.size % (wd + 4) ≠ 0
  · rw [if_pos c2] at h
    simp only [Option.some.injEq, Prod.mk.injEq] at h
    obtain ⟨rfl, rfl, rfl⟩ := h
    have hm : ((a1.size : Int) % ((wd : Int) + 4) != 0) = true := by
      rw [bne_iff_ne]
      intro e
      exact c2 (by have : ((a1.size % (wd + 4) : Nat) : Int) = 0 := by rw [Int.natCast_emod]; simpa using e
                   omega)
    clear c2
    go_enter Try.func22, Try.ntmps22
    go_wp2_with (go_at_call 57; refine (widthOK_yes wd w h1 c16).mono ?_; rintro e w' ⟨rfl, rfl⟩)
    go_ret3
    exact ⟨rfl, Below.refl _ _⟩
  rw [if_neg c2] at h
  have c2' : a1.size % (wd + 4) = 0 := Classical.byContradiction c2
  have hm : ((a1.size : Int) % ((wd : Int) + 4) != 0) = false := by
    rw [bne_eq_false_iff_eq]
    have : ((a1.size % (wd + 4) : Nat) : Int) = 0 := by omega
    rw [Int.natCast_emod] at this
    simpa using this
  obtain ⟨q, hq⟩ : ∃ q, q = a1.size / (wd + 4) := ⟨_, rfl⟩
  rw [← hq] at h
  have hqs : q * (wd + 4) = a1.size := by rw [hq]; exact Nat.div_mul_cancel (Nat.dvd_of_mod_eq_zero c2')
  have hqle : q ≤ a1.size := by rw [← hqs]; exact Nat.le_mul_of_pos_right _ (by omega)
  have hdiv : wrap64 ((a1.size : Int) / ((wd : Int) + 4)) = (q : Int) := by
    have : ((a1.size : Int) / ((wd : Int) + 4)) = (q : Int) := by rw [hq, Int.natCast_ediv]; simp
    rw [this]
    exact Go.IntWalk.wrap64_in _ (by omega)
  clear c2 c2' hq
  by_cases c3 : a2 < 0 ∨ (q : Int) ≤ a2
  · rw [if_pos c3] at h
    simp only [Option.some.injEq, Prod.mk.injEq] at h
    obtain ⟨rfl, rfl, rfl⟩ := h
    have hqs' := Aside0.mk hqs
    clear hqs
    rcases c3 with c3 | c3
    all_goals
      go_enter Try.func22, Try.ntmps22
      go_wp2_with (go_at_call 57; refine (widthOK_yes wd w h1 c16).mono ?_; rintro e w' ⟨rfl, rfl⟩)
      go_ret3
      exact ⟨rfl, Below.refl _ _⟩
  rw [if_neg c3] at h
  have h3 : 0 ≤ a2 := by omega
  have h4 : a2 < (q : Int) := by omega
  obtain ⟨i, rfl⟩ := Int.eq_ofNat_of_zero_le h3
  rw [Int.toNat_natCast] at h
  simp only [Option.some.injEq, Prod.mk.injEq] at h
  obtain ⟨rfl, rfl, rfl⟩ := h
  clear c3 h3
  obtain ⟨lo, hlo⟩ : ∃ lo, lo = i * (wd + 4) := ⟨_, rfl⟩
  obtain ⟨hi, hhi⟩ : ∃ hi, hi = (i + 1) * (wd + 4) := ⟨_, rfl⟩
  have hlh : hi = lo + (wd + 4) := by rw [hhi, hlo, Nat.add_mul, Nat.one_mul]
  have hlh1 : lo ≤ hi := by rw [hlh]; exact Nat.le_add_right _ _
  have hhs : hi ≤ a1.size := by rw [hhi, ← hqs]; exact Nat.mul_le_mul_right _ (by omega)
  rw [← hlo, ← hhi]
  have e1 : wrap64 ((i : Int) * ((wd : Int) + 4)) = (lo : Int) := by
    have : (i : Int) * ((wd : Int) + 4) = (lo : Int) := by rw [hlo]; simp
    rw [this]; exact Go.IntWalk.wrap64_in _ (by omega)
  have e2 : wrap64 (((i : Int) + 1) * ((wd : Int) + 4)) = (hi : Int) := by
    have : ((i : Int) + 1) * ((wd : Int) + 4) = (hi : Int) := by rw [hhi]; simp
    rw [this]; exact Go.IntWalk.wrap64_in _ (by omega)
  have HLH := Aside0.mk hlh
  clear hqs hlo hhi hlh
  go_enter Try.func22, Try.ntmps22
  go_wp2_with (go_at_call 57; refine (widthOK_yes wd w h1 c16).mono ?_; rintro e w' ⟨rfl, rfl⟩)
  generalize he : a1.extract lo hi = es
  have hes : es.size = wd + 4 := by rw [← he, ByteArray.size_extract, Nat.min_eq_left hhs]; have := HLH.out; omega
  have HE := Aside0.mk he
  have HS := Aside0.mk hes
  have hw : wd ≤ es.size := by omega
  clear he hes hlh1 hhs hs e1 e2 hdiv hm
  have HX1 := Aside0.mk (show es.extract 0 wd = a1.extract lo (lo + wd) by rw [← HE.out, ByteArray.extract_extract, Nat.add_zero, Nat.min_eq_left (by have := HLH.out; omega)])
  have HX2 := Aside0.mk (show es.extract wd es.size = a1.extract (lo + wd) hi by rw [HS.out, ← HE.out, ByteArray.extract_extract, Nat.min_eq_right (by have := HLH.out; omega)])
  have HX3 : Aside0 (record_take.f (es.extract wd es.size) = some (beNum (es.extract wd es.size).data.toList)) := by
    unfold record_take.f
    rw [if_pos (by rw [ByteArray.size_extract]; have := HS.out; omega)]
    exact ⟨rfl⟩
  go_region_with (go_at_call 55; refine (record_take.calls _ _ _ HX3.out).mono ?_; rintro e w' ⟨rfl, hb⟩)
  all_goals
    go_wp2
    go_ret3
    refine ⟨by rw [← HX1.out, ← HX2.out]; simp [Act.put], ?_⟩
    exact (Below.drew (Below.refl _ _)).trans hb
end Go.Proofs.Ytkfhedppnlocpaa.Q
