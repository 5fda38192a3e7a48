/- Contract of record.take: of at most four bytes it answers the number that they say. Condition: none beyond that length. -/
import Derived.Test.YtkfhedppnlocpaaProg
import Derived.Below
import Derived.Deep.Draws
import Derived.Deep.AppendLies
import Derived.Maps.AppendAt
import Derived.OwnWalk
import Derived.Laws.BytesArg
import Derived.Laws.MakeOwn
import Derived.Laws.OwnMore
import Derived.Deep.OwnRows
import Derived.Tactics
import Derived.Lib.ConvBytes
import Derived.Laws.Slices
import Derived.WalkKit
import Derived.KernelRfl
import Derived.RowKit3
import Derived.Deep.LoopGhost
import Derived.Deep.QuietTactic
import Derived.BigQuiet
import Derived.WideLaws
import Derived.Deep.DeepCutAuto
import Derived.Deep.CutBlock
import Derived.Deep.RegionHeld3
import Derived.Laws.Rows
import Derived.Lib.AppendStr
import Derived.ArgAppend
import Derived.Laws.IdiomCopy
import Derived.OrdersHeld
import Derived.Laws.BitsLemmas
import Derived.RowKit
import Derived.Test.YtkfhedppnlocpaaWWords
import Derived.Test.YtkfhedppnlocpaaWLast
import Derived.Test.YtkfhedppnlocpaaWTab
import Derived.Test.YtkfhedppnlocpaaWFour
import Derived.Test.YtkfhedppnlocpaaWQPut
import Derived.Test.YtkfhedppnlocpaaWApart
import Derived.Test.YtkfhedppnlocpaaWArr
import Derived.Test.YtkfhedppnlocpaaWZeros
import Derived.Test.YtkfhedppnlocpaaWFoot
import Derived.Test.YtkfhedppnlocpaaWKept
import Derived.Test.YtkfhedppnlocpaaWShare
import Derived.Test.YtkfhedppnlocpaaWN
import Derived.Test.YtkfhedppnlocpaaWFootNe
import Derived.Test.YtkfhedppnlocpaaWAt
import Derived.Test.YtkfhedppnlocpaaWEqStruct
import Derived.Test.YtkfhedppnlocpaaWRepsOne
import Derived.Test.YtkfhedppnlocpaaWInv
import Derived.Test.YtkfhedppnlocpaaWInvWords
import Derived.Test.YtkfhedppnlocpaaWGuard
import Derived.Test.YtkfhedppnlocpaaWNEv
import Derived.Test.YtkfhedppnlocpaaWMore
import Derived.Lib.ConvBytes
import Derived.IntWalk
namespace Go.Proofs.Ytkfhedppnlocpaa.Q
open Go.RowKit Go.Proofs.YtkfhedppnlocpaaW.PrintWords Go.Proofs.YtkfhedppnlocpaaW.PrintLast Go.Proofs.YtkfhedppnlocpaaW.PrintMore

/-- The number that bytes say, the greatest first. -/
def beNum (l : List UInt8) : Int := l.foldl (fun n c => n * 256 + (c.toNat : Int)) 0

theorem beNum_snoc (l : List UInt8) (c : UInt8) : beNum (l ++ [c]) = beNum l * 256 + (c.toNat : Int) := by simp [beNum, List.foldl_append]

theorem beNum_bd4 (l : List UInt8) (h : l.length ≤ 4) : 0 ≤ beNum l ∧ beNum l < 4294967296 := by
  match l, h with
  | [], _ => simp [beNum]
  | [a], _ => have := a.toNat_lt; simp [beNum]; omega
  | [a, b], _ => have := a.toNat_lt; have := b.toNat_lt; simp [beNum]; omega
  | [a, b, c], _ => have := a.toNat_lt; have := b.toNat_lt; have := c.toNat_lt; simp [beNum]; omega
  | [a, b, c, d], _ => have := a.toNat_lt; have := b.toNat_lt; have := c.toNat_lt; have := d.toNat_lt; simp [beNum]; omega

theorem bytesWorld_below {w0 w : World} (e : TypeId) (s : ByteArray) (h : Below w0.heap.size w0 w) : Below w0.heap.size w0 (Lib.bytesWorld w e s) :=
  h.trans ⟨rfl, rfl, rfl, by rw [Lib.bytesWorld_size]; omega, fun k hk => Lib.bytesWorld_at_old w e s k (Nat.lt_of_lt_of_le hk h.size)⟩

/-! ### record.take: function 55 -/
def record_take.f (a0 : ByteArray) : Option Int := if a0.size ≤ 4 then some (beNum a0.data.toList) else none

theorem take_snoc1 (s : ByteArray) (k : Nat) (h : k < s.size) : s.data.toList.take (k + 1) = s.data.toList.take k ++ [s[k]] := by
  rw [List.take_succ_eq_append_getElem (by simpa using h)]; rfl

theorem take_step (a : Int) (c : Nat) (h0 : 0 ≤ a) (h1 : a < 4294967296) (hc : c < 256) : bits .or .i64 (a * 256) (wrap64 (c : Int)) = a * 256 + c := by
  rw [Go.IntWalk.wrap64_in _ (by omega)]
  exact bits_join .i64 63 (by decide) (fun n h0 h1 => (i64_w n).trans (Go.IntWalk.wrap64_in n (by omega))) 8 (a * 256) c (by omega) (by omega) (by omega) (by omega) (by omega) (by omega)

set_option maxHeartbeats 1000000 in
theorem record_take.calls (a0 : ByteArray) (r : Int) (w : World) (h : record_take.f a0 = some r) :
    Calls Try.prog 55 #[.string a0] w fun e w' => e = .returned (.int .i64 r) ∧ Below w.heap.size w w' := by
  unfold record_take.f at h
  split at h
  · rename_i h4
    obtain rfl := Option.some.inj h
    clear h
    have hconv := Lib.run_convert_string_bytes (P := Try.prog) w 9 90 5 a0 Try.underlying9 Try.underlying90 Try.underlying5
    go_enter Try.func55, Try.ntmps55
    go_wp2
    clear hconv
    go_loop [3, 9] (fun n i => ∃ k : Nat, k ≤ a0.size ∧ i = .int .i64 k ∧ n = .int .i64 (beNum (a0.data.toList.take k))) (fun _ i => a0.size - (intOf i).toNat)
    case atStart => exact ⟨0, Nat.zero_le _, rfl, rfl⟩
    case round =>
      obtain ⟨k, hk, rfl, rfl⟩ := hrel
      by_cases hlt : k < a0.size
      · have hc := Lib.bytesWorld_cell w 5 a0 k hlt
        have hbd := beNum_bd4 (a0.data.toList.take k) (by rw [List.length_take]; omega)
        have hx := take_step (beNum (a0.data.toList.take k)) a0.data[k].toNat hbd.1 hbd.2 (UInt8.toNat_lt _)
        have HX := Aside0.mk hx
        clear hx
        go_wp2
        go_round
        case rel => exact ⟨k + 1, by omega, by go_num, by rw [HX.out, take_snoc1 a0 k hlt, beNum_snoc]; rfl⟩
        case measure => simp [intOf]; omega
      · go_wp2
        go_ret
        exact ⟨by rw [List.take_of_length_le (by simp; omega)]; rfl, bytesWorld_below 5 a0 (Below.refl _ _)⟩
  · cases h

end Go.Proofs.Ytkfhedppnlocpaa.Q
