/- Contracts of the strings.Builder's String and of record.put: the bytes of a number, the greatest first. Condition: a width of 1 to 4. -/
import Derived.Test.YtkfhedppnlocpaaE1
import Derived.Test.YtkfhedppnlocpaaProg
import Derived.Below
import Derived.Deep.Draws
import Derived.Deep.AppendLies
import Derived.Maps.AppendAt
import Derived.OwnWalk
import Derived.Laws.BytesArg
import Derived.Laws.MakeOwn
import Derived.Laws.OwnMore
import Derived.Deep.OwnRows
import Derived.Tactics
import Derived.Lib.ConvBytes
import Derived.Laws.Slices
import Derived.WalkKit
import Derived.KernelRfl
import Derived.RowKit3
import Derived.Deep.LoopGhost
import Derived.Deep.QuietTactic
import Derived.BigQuiet
import Derived.WideLaws
import Derived.Deep.DeepCutAuto
import Derived.Deep.CutBlock
import Derived.Deep.RegionHeld3
import Derived.Laws.Rows
import Derived.Lib.AppendStr
import Derived.ArgAppend
import Derived.Laws.IdiomCopy
import Derived.OrdersHeld
import Derived.Laws.BitsLemmas
import Derived.RowKit
import Derived.Test.YtkfhedppnlocpaaWWords
import Derived.Test.YtkfhedppnlocpaaWLast
import Derived.Test.YtkfhedppnlocpaaWTab
import Derived.Test.YtkfhedppnlocpaaWFour
import Derived.Test.YtkfhedppnlocpaaWQPut
import Derived.Test.YtkfhedppnlocpaaWApart
import Derived.Test.YtkfhedppnlocpaaWArr
import Derived.Test.YtkfhedppnlocpaaWZeros
import Derived.Test.YtkfhedppnlocpaaWFoot
import Derived.Test.YtkfhedppnlocpaaWKept
import Derived.Test.YtkfhedppnlocpaaWShare
import Derived.Test.YtkfhedppnlocpaaWN
import Derived.Test.YtkfhedppnlocpaaWFootNe
import Derived.Test.YtkfhedppnlocpaaWAt
import Derived.Test.YtkfhedppnlocpaaWEqStruct
import Derived.Test.YtkfhedppnlocpaaWRepsOne
import Derived.Test.YtkfhedppnlocpaaWInv
import Derived.Test.YtkfhedppnlocpaaWInvWords
import Derived.Test.YtkfhedppnlocpaaWGuard
import Derived.Test.YtkfhedppnlocpaaWNEv
import Derived.Test.YtkfhedppnlocpaaWMore
import Derived.Lib.UnsafeStr
import Derived.IntWalk
import Derived.RegionTactic
namespace Go.Proofs.Ytkfhedppnlocpaa.Q
open Go.RowKit Go.Proofs.YtkfhedppnlocpaaW.PrintWords Go.Proofs.YtkfhedppnlocpaaW.PrintLast Go.Proofs.YtkfhedppnlocpaaW.PrintMore

/-- All but one row's block stands. -/
structure UpdS (v : Value) (w w' : World) : Prop where
  os : w'.os = w.os
  tape : w'.tape = w.tape
  output : w'.output = w.output
  size : w.heap.size ≤ w'.heap.size
  block : ∀ k, k < w.heap.size → v.ownBlock ≠ some k → w'.heap[k]? = w.heap[k]?

theorem UpdS.drew (v : Value) (w : World) : UpdS v w w.drew := ⟨rfl, rfl, rfl, Nat.le_refl _, fun _ _ _ => rfl⟩
theorem UpdS.freeze (g n c : Nat) (w : World) (m : Nat) : UpdS (.slice (some ⟨g, 0, none⟩) n c) w (w.drew.freeze ⟨g, 0, none⟩ m) := by
  unfold World.freeze
  split
  · exact UpdS.drew _ _
  · exact ⟨rfl, rfl, rfl, by simp, fun k hk hne => by
      simp only [Array.getElem?_modify]
      rw [if_neg (fun e => hne (by simp [Value.ownBlock, e]))]
      rfl⟩
theorem UpdS.alloc {v : Value} {w w' : World} (h : UpdS v w w') (o : Obj) : UpdS v w (w'.alloc o) :=
  ⟨h.os, h.tape, h.output, by have := h.size; simp; omega, fun k hk hne => (Lib.alloc_old w' o k (by have := h.size; omega)).trans (h.block k hk hne)⟩
theorem UpdS.below {base b : Nat} {v : Value} {bs : List UInt8} {w w' : World} (h : UpdS v w w') (hb : Bld base b v bs w) (hB : base ≤ w.heap.size) : Below base w w' :=
  ⟨h.os, h.tape, h.output, h.size, fun k hk => h.block k (by omega) (fun e => by have := (hb.2.choose_spec.2.2.lt k e).1; omega)⟩

set_option maxHeartbeats 2000000 in
set_option maxRecDepth 100000 in
theorem String_any (base b : Nat) (v : Value) (l : List UInt8) (w : World) (h : Bld base b v l w) :
    Calls Try.prog 52 #[.pointer (some ⟨b, 0, none⟩)] w fun e w' => e = .returned (.string ⟨l.toArray⟩) ∧ UpdS v w w' := by
  obtain ⟨_, p, hp, hbk, hown⟩ := h
  clear hp
  have hlt : b < w.heap.size := by
    rcases Nat.lt_or_ge b w.heap.size with h' | h'
    · exact h'
    · simp [Array.getElem?_eq_none h'] at hbk
  rcases hown.2 with ⟨rfl, hl⟩ | ⟨g, cap, cur, rfl, hbg, hg, hnc, hcm, hcs, htake⟩
  · have hl0 : l = [] := List.eq_nil_of_length_eq_zero hl
    subst hl0
    have hUS : ∀ (W : World) (q : Option Addr), (Builtin.unsafeString_ #[136, 3] 9 #[.pointer q, .int .i64 0]).run Try.prog W = .ok (.string .empty) W := fun W q => Lib.run_unsafeString_none W _ _ _ q
    have c1 : w.drew.cell? ⟨b, 1, none⟩ = some (.slice none 0 0) := by
      have : w.drew.heap[b]? = some (.cells #[p, .slice none 0 0] 104 (0, 0)) := hbk
      rw [Lib.cell_of_heap this]; rfl
    have hSD : (Builtin.unsafeSliceData_ #[90] 136 #[.slice none 0 0]).run Try.prog w.drew = .ok (.pointer none) w.drew := rfl
    clear hown hbk
    go_enter Try.func52, Try.ntmps52
    go_wp2
    go_region
    all_goals (go_wp2; go_ret; exact ⟨rfl, UpdS.drew _ _⟩)
  · by_cases hl0 : l = []
    · subst hl0
      have hUS : ∀ (W : World) (q : Option Addr), (Builtin.unsafeString_ #[136, 3] 9 #[.pointer q, .int .i64 0]).run Try.prog W = .ok (.string .empty) W := fun W q => Lib.run_unsafeString_none W _ _ _ q
      have hbk' : w.heap[b]? = some (.cells #[p, .slice (some ⟨g, 0, none⟩) 0 cap] 104 (0, 0)) := hbk
      have c1 : w.drew.cell? ⟨b, 1, none⟩ = some (.slice (some ⟨g, 0, none⟩) 0 cap) := by
        have : w.drew.heap[b]? = some (.cells #[p, .slice (some ⟨g, 0, none⟩) 0 cap] 104 (0, 0)) := hbk
        rw [Lib.cell_of_heap this]; rfl
      by_cases hc0 : cap = 0
      · subst hc0
        have hSD : (Builtin.unsafeSliceData_ #[90] 136 #[.slice (some ⟨g, 0, none⟩) 0 0]).run Try.prog w.drew = .ok (.pointer (some ⟨w.drew.heap.size, 0, none⟩)) (w.drew.alloc (.view ⟨g, 0, none⟩ 5)) :=
          Lib.run_unsafeSliceData_zero w.drew _ _ 5 Try.underlying136 ⟨g, 0, none⟩ 0 (5, cur.size) (by have hg' : w.drew.heap[g]? = some (.cells cur 5 (0, 0)) := hg; simp [World.shape?, hg'])
        have c2 : (w.drew.alloc (.view ⟨g, 0, none⟩ 5)).cell? ⟨b, 1, none⟩ = some (.slice (some ⟨g, 0, none⟩) 0 0) := by
          have : (w.drew.alloc (.view ⟨g, 0, none⟩ 5)).heap[b]? = _ := (Lib.alloc_old w.drew _ b hlt).trans hbk
          rw [Lib.cell_of_heap this]; rfl
        have c3 : (w.alloc (.view ⟨g, 0, none⟩ 5)).drew.cell? ⟨b, 1, none⟩ = some (.slice (some ⟨g, 0, none⟩) 0 0) := c2
        have c0 : w.cell? ⟨b, 1, none⟩ = some (.slice (some ⟨g, 0, none⟩) 0 0) := c1
        clear hown hbk hbk' htake hcs hg
        go_enter Try.func52, Try.ntmps52
        go_wp2
        go_region
        all_goals (go_wp2; go_ret; exact ⟨rfl, (UpdS.drew _ _).alloc _⟩)
      · have hSD : (Builtin.unsafeSliceData_ #[90] 136 #[.slice (some ⟨g, 0, none⟩) 0 cap]).run Try.prog w.drew = .ok (.pointer (some ⟨g, 0, none⟩)) w.drew :=
          Lib.run_unsafeSliceData_row _ _ _ _ _ _ hc0
        clear hc0 hown hbk hbk' htake hcs hg
        go_enter Try.func52, Try.ntmps52
        go_wp2
        go_region
        all_goals (go_wp2; go_ret; exact ⟨rfl, UpdS.drew _ _⟩)
    · have hl1 : l.length ≠ 0 := by simpa using hl0
      have c1 : w.drew.cell? ⟨b, 1, none⟩ = some (.slice (some ⟨g, 0, none⟩) l.length cap) := by
        have : w.drew.heap[b]? = some (.cells #[p, .slice (some ⟨g, 0, none⟩) l.length cap] 104 (0, 0)) := hbk
        rw [Lib.cell_of_heap this]; rfl
      have hSD : (Builtin.unsafeSliceData_ #[90] 136 #[.slice (some ⟨g, 0, none⟩) l.length cap]).run Try.prog w.drew = .ok (.pointer (some ⟨g, 0, none⟩)) w.drew :=
        Lib.run_unsafeSliceData_row _ _ _ _ _ _ (by omega)
      have hUS : (Builtin.unsafeString_ #[136, 3] 9 #[.pointer (some ⟨g, 0, none⟩), .int .i64 l.length]).run Try.prog w.drew = .ok (.string ⟨l.toArray⟩) (w.drew.freeze ⟨g, 0, none⟩ l.length) := by
        refine Lib.run_unsafeString_row w.drew 136 3 9 5 Try.underlying136 (by kernel_rfl) g cur.size (by have hg' : w.drew.heap[g]? = some (.cells cur 5 (0, 0)) := hg; simp [World.shape?, hg']) l hl0 (by omega) (by unfold maxLen at hcm; omega) ?_
        intro j x hx
        have := hown.cells (g := g) rfl j (.int .u8 x.toNat) (by simp [Lib.byteCells, hx])
        exact this
      clear hown hbk htake hcs hg
      go_enter Try.func52, Try.ntmps52
      go_wp2
      go_region
      all_goals (go_wp2; go_ret; exact ⟨rfl, UpdS.freeze _ _ _ _ _⟩)

/-! ### record.put: function 51 -/
def be : Int → Nat → List UInt8
  | _, 0 => []
  | n, w + 1 => be (n / 256) w ++ [UInt8.ofNat (n % 256).toNat]

theorem be_length (n : Int) (w : Nat) : (be n w).length = w := by
  induction w generalizing n with
  | zero => rfl
  | succ w ih => simp [be, ih]

theorem be_step (n : Int) (wd k : Nat) (hk : k < wd) : be (n / 256 ^ (wd - (k + 1))) (k + 1) = be (n / 256 ^ (wd - k)) k ++ [UInt8.ofNat (n / 2 ^ (8 * (wd - 1 - k)) % 256).toNat] := by
  obtain ⟨m, hm⟩ : ∃ m, wd - k = m + 1 := ⟨wd - k - 1, by omega⟩
  have h1 : wd - (k + 1) = m := by omega
  have h2 : wd - 1 - k = m := by omega
  rw [hm, h1, h2, be, Int.pow_succ, Int.mul_comm, Int.pow_mul]
  rw [Int.mul_comm, Int.ediv_ediv_of_nonneg (Int.le_of_lt (Int.pow_pos (by decide)))]
  rfl

set_option maxHeartbeats 1000000 in
set_option maxRecDepth 100000 in
theorem put_any (base b : Nat) (v : Value) (bs : List UInt8) (n : Int) (wd : Nat) (h1 : 1 ≤ wd) (h4 : wd ≤ 4) (w : World) (h : Bld base b v bs w) (hlen : bs.length + 4 ≤ 140737488355328) (hBw : base ≤ w.heap.size) :
    Calls Try.prog 51 #[.pointer (some ⟨b, 0, none⟩), .int .i64 n, .int .i64 wd] w fun e w' => e = .returned (.tuple #[]) ∧ ∃ v', Bld base b v' (bs ++ be n wd) w' ∧ Upd b v v' w w' := by
  go_enter Try.func51, Try.ntmps51
  go_wp2
  go_loopw [6] (fun s wr => ∃ (k : Nat) (v' : Value), k ≤ wd ∧ s = .int .i64 (8 * (wd - 1 - k : Int)) ∧ Bld base b v' (bs ++ be (n / 256 ^ (wd - k)) k) wr ∧ Upd b v v' w wr) (fun s _ => ((intOf s) + 8).toNat)
  case atStart => exact ⟨0, v, Nat.zero_le _, by simp, by simpa [be] using h, Upd.refl _ _ _⟩
  case round =>
    obtain ⟨k, v', hk, rfl, hb, hu⟩ := hrel
    by_cases hlt : k < wd
    · go_wp2_with fail
      have hq : 0 ≤ n / 2 ^ (8 * (wd - 1 - k)) % 256 ∧ n / 2 ^ (8 * (wd - 1 - k)) % 256 < 256 := by omega
      refine (WriteByte_any base b v' _ _ hq.1 hq.2 _ hb (by rw [List.length_append, be_length]; omega) (by have := hu.size; omega)).mono ?_
      rintro e w2 ⟨rfl, v2, hb2, hu2⟩
      have hbs := be_step n wd k hlt
      rw [List.append_assoc, ← hbs] at hb2
      have HB2 := Aside0.mk hb2
      have HU2 := Aside0.mk (hu.trans hu2)
      clear hb2 hu2 hb hu hbs
      go_wp2
      go_roundw
      case rel => exact ⟨k + 1, v2, by omega, congrArg (Value.int .i64) (by omega), HB2.out, HU2.out⟩
      case measure => simp [intOf]; omega
    · have hkw : k = wd := by omega
      subst hkw
      have HB := Aside0.mk hb
      have HU := Aside0.mk hu
      clear hb hu
      go_wp2
      go_end0
      have := HB.out
      simp only [Nat.sub_self, Int.pow_zero, Int.ediv_one] at this
      exact ⟨rfl, v', this, HU.out⟩

end Go.Proofs.Ytkfhedppnlocpaa.Q
