/- Letters that are read; contracts of granarylaw13.sameLetters and letters. Condition: the lists are read. -/
import Derived.Test.YtadbcekglcmccaaProg
import Derived.Below
import Derived.Deep.Draws
import Derived.Deep.AppendLies
import Derived.Maps.AppendAt
import Derived.OwnWalk
import Derived.Laws.BytesArg
import Derived.Laws.MakeOwn
import Derived.Laws.OwnMore
import Derived.Deep.OwnRows
import Derived.Tactics
import Derived.Lib.ConvBytes
import Derived.Laws.Slices
import Derived.WalkKit
import Derived.KernelRfl
import Derived.RowKit3
import Derived.Deep.LoopGhost
import Derived.Deep.QuietTactic
import Derived.BigQuiet
import Derived.WideLaws
import Derived.Deep.DeepCutAuto
import Derived.Deep.CutBlock
import Derived.Deep.RegionHeld3
import Derived.Laws.Rows
import Derived.Lib.AppendStr
import Derived.ArgAppend
import Derived.Laws.IdiomCopy
import Derived.OrdersHeld
import Derived.Laws.BitsLemmas
import Derived.RowKit
import Derived.Test.YtadbcekglcmccaaWWords
import Derived.Test.YtadbcekglcmccaaWLast
import Derived.Test.YtadbcekglcmccaaWTab
import Derived.Test.YtadbcekglcmccaaWFour
import Derived.Test.YtadbcekglcmccaaWQPut
import Derived.Test.YtadbcekglcmccaaWApart
import Derived.Test.YtadbcekglcmccaaWArr
import Derived.Test.YtadbcekglcmccaaWZeros
import Derived.Test.YtadbcekglcmccaaWFoot
import Derived.Test.YtadbcekglcmccaaWKept
import Derived.Test.YtadbcekglcmccaaWShare
import Derived.Test.YtadbcekglcmccaaWN
import Derived.Test.YtadbcekglcmccaaWFootNe
import Derived.Test.YtadbcekglcmccaaWAt
import Derived.Test.YtadbcekglcmccaaWEqStruct
import Derived.Test.YtadbcekglcmccaaWRepsOne
import Derived.Test.YtadbcekglcmccaaWInv
import Derived.Test.YtadbcekglcmccaaWInvWords
import Derived.Test.YtadbcekglcmccaaWGuard
import Derived.Test.YtadbcekglcmccaaWNEv
import Derived.Test.YtadbcekglcmccaaWMore
import Derived.Test.YtadbcekglcmccaaBB
set_option linter.unusedVariables false
set_option linter.unusedSimpArgs false
namespace Go.Proofs.Ytadbcekglcmccaa.Q
open Go.RowKit Go.Proofs.YtadbcekglcmccaaW.PrintWords Go.Proofs.YtadbcekglcmccaaW.PrintLast Go.Proofs.YtadbcekglcmccaaW.PrintMore
open Go.FM Go.Plan

/-! ### Letters that are read -/
structure RdL (W : World) (A : Option Addr) (L : List Lt) : Prop where
  lt : ∀ q, rowB A = some q → q < W.heap.size
  at_ : ∀ (i : Nat) (y : Lt), L[i]? = some y → ∃ ad, A = some ad ∧
    W.cell? (ad.add (i * 4)) = some (.int .i64 y.i) ∧ W.cell? ⟨(ad.add (i * 4)).block, (ad.add (i * 4)).off + 1, none⟩ = some (.int .i64 y.f) ∧ W.cell? ⟨(ad.add (i * 4)).block, (ad.add (i * 4)).off + 2, none⟩ = some (.int .i64 y.t) ∧ W.cell? ⟨(ad.add (i * 4)).block, (ad.add (i * 4)).off + 3, none⟩ = some (.string y.s)
section
variable {W W' : World} {A : Option Addr} {L : List Lt}
theorem RdL.of {B cap : Nat} (h : OwnL W B A cap L) : RdL W A L := ⟨fun q hq => (ownsRow_lt h q hq).2, fun i y hy => h.adr i y hy⟩
theorem add_block (a : Addr) (k : Nat) : (a.add k).block = a.block := by unfold Addr.add; split <;> rfl
theorem cell_keep {a : Addr} (h : W'.heap[a.block]? = W.heap[a.block]?) : W'.cell? a = W.cell? a := by unfold World.cell?; rw [h]
theorem RdL.keep (h : RdL W A L) (k : ∀ q, rowB A = some q → W'.heap[q]? = W.heap[q]?) (hs : W.heap.size ≤ W'.heap.size) : RdL W' A L := by
  refine ⟨fun q hq => Nat.lt_of_lt_of_le (h.lt q hq) hs, fun i y hy => ?_⟩
  obtain ⟨ad, rfl, x0, x1, x2, x3⟩ := h.at_ i y hy
  have hb : W'.heap[(ad.add (i * 4)).block]? = W.heap[(ad.add (i * 4)).block]? := by rw [add_block]; exact k ad.block rfl
  exact ⟨ad, rfl, (cell_keep hb).trans x0, (cell_keep (a := ⟨(ad.add (i * 4)).block, (ad.add (i * 4)).off + 1, none⟩) hb).trans x1, (cell_keep (a := ⟨(ad.add (i * 4)).block, (ad.add (i * 4)).off + 2, none⟩) hb).trans x2, (cell_keep (a := ⟨(ad.add (i * 4)).block, (ad.add (i * 4)).off + 3, none⟩) hb).trans x3⟩
theorem RdL.below (h : RdL W A L) (hb : Below W.heap.size W W') : RdL W' A L := h.keep (fun q hq => hb.block q (h.lt q hq)) hb.size
theorem RdL.nil (W : World) : RdL W none [] := ⟨fun q hq => (by cases hq), fun i y hy => by simp at hy⟩
end

set_option maxHeartbeats 4000000 in
set_option maxRecDepth 100000 in
theorem same_quiet (A1 A2 : Option Addr) (cap1 cap2 : Nat) (L : List Lt) (w : World) (h1 : RdL w A1 L) (h2 : RdL w A2 L) (hL : L.length ≤ 4611686018427387904) :
    Calls Try.prog 26 #[.slice A1 L.length cap1, .slice A2 L.length cap2] w fun e w' => e = .returned (.bool true) ∧ ∃ n, w' = w.drewN n := by
  have H1 := Aside0.mk h1
  have H2 := Aside0.mk h2
  have HL := Aside0.mk hL
  clear h1 h2 hL
  go_enter Try.func26, Try.ntmps26
  go_wp2_with fail
  go_loopg [5] L.length (fun kq v5 w' => ∃ (i : Nat), v5 = .int .i64 (i : Int) ∧ Aside0 (i + kq = L.length) ∧ Aside0 (∃ n, w' = w.drewN n))
  case atStart => exact ⟨0, rfl, ⟨by omega⟩, ⟨0, rfl⟩⟩
  case round =>
    obtain ⟨i, rfl, HK, HB⟩ := hrel
    by_cases ci : (i : Int) < (L.length : Int)
    · cases gk with
      | zero => exact absurd HK.out (by omega)
      | succ k1 =>
      have cb : decide ((i : Int) < (L.length : Int)) = true := decide_eq_true ci
      have cb2 : decide (i < L.length) = true := decide_eq_true (by omega)
      have p2 : (0 ≤ (i : Int)) = True := eq_true (by omega)
      have p3 : ((i : Int) < (L.length : Int)) = True := eq_true ci
      have hwi : wrap64 ((i : Int) + 1) = (i : Int) + 1 := Go.IntWalk.wrap64_in _ (by have := HL.out; omega)
      have HK' := Aside0.mk (show i + 1 + k1 = L.length by have := HK.out; omega)
      obtain ⟨y, hy⟩ : ∃ y, L[i]? = some y := ⟨_, List.getElem?_eq_getElem (show i < L.length by omega)⟩
      have HBW := Aside0.mk (show wr.heap = w.heap from by obtain ⟨n, hn⟩ := HB.out; rw [hn]; rfl)
      have HR1 := Aside0.mk (H1.out.keep (W' := wr) (fun q hq => by rw [HBW.out]) (by rw [HBW.out]; exact Nat.le_refl _))
      have HR2 := Aside0.mk (H2.out.keep (W' := wr) (fun q hq => by rw [HBW.out]) (by rw [HBW.out]; exact Nat.le_refl _))
      obtain ⟨a1, rfl, x0, x1, x2, x3⟩ := HR1.out.at_ i y hy
      obtain ⟨a2, rfl, y0, y1, y2, y3⟩ := HR2.out.at_ i y hy
      have hne : (y.s != y.s) = false := by have := (MapKept.bytes_beq y.s y.s).2 rfl; simp [bne, this]
      clear ci hy HK
      go_wp2_with fail
      go_quiet (fail)
      have HB3 := Aside0.mk (show ∃ n, wr.drewN nq = w.drewN n from by obtain ⟨n, hn⟩ := HB.out; exact ⟨n + nq, by rw [hn, World.drewN_drewN]⟩)
      go_wp2_with fail
      go_roundg k1
      case measure => have := HK'.out; omega
      case rel => exact ⟨i + 1, congrArg (Value.int .i64) (by omega), HK', HB3⟩
    · have cb : decide ((i : Int) < (L.length : Int)) = false := decide_eq_false ci
      have cb2 : decide (i < L.length) = false := decide_eq_false (by omega)
      clear ci
      go_wp2_with fail
      go_ret
      exact ⟨rfl, HB.out⟩

set_option maxHeartbeats 4000000 in
set_option maxRecDepth 100000 in
theorem letters_calls (A : Option Addr) (cap : Nat) (L : List Lt) (w : World) (h : RdL w A L) (hL : L.length ≤ 3000000000000) :
    Calls Try.prog 47 #[.slice A L.length cap] w (FRes L w) := by
  have H := Aside0.mk h
  have HL := Aside0.mk hL
  clear h hL
  go_enter Try.func47, Try.ntmps47
  go_wp2_with fail
  go_loopg [3, 4] L.length (fun kq v3 v4 w' => ∃ (i : Nat) (A' : Option Addr) (cap' : Nat), v3 = .slice A' (L.take i).length cap' ∧ v4 = .int .i64 (i : Int) ∧ Aside0 (i + kq = L.length) ∧ Aside0 (Below w.heap.size w w') ∧ Aside0 (OwnL w' w.heap.size A' cap' (L.take i)))
  case atStart => exact ⟨0, none, 0, rfl, rfl, ⟨by omega⟩, ⟨Below.refl _ _⟩, ⟨World.ownsRow_nil _ _ _ _⟩⟩
  case round =>
    obtain ⟨i, A', cap', rfl, rfl, HK, HB, HO⟩ := hrel
    have HI := Aside0.mk (H.out.below HB.out)
    by_cases ci : (i : Int) < (L.length : Int)
    · cases gk with
      | zero => exact absurd HK.out (by omega)
      | succ k1 =>
      have cb : decide ((i : Int) < (L.length : Int)) = true := decide_eq_true ci
      have cb2 : decide (i < L.length) = true := decide_eq_true (by omega)
      have p2 : (0 ≤ (i : Int)) = True := eq_true (by omega)
      have p3 : ((i : Int) < (L.length : Int)) = True := eq_true ci
      have hwi : wrap64 ((i : Int) + 1) = (i : Int) + 1 := Go.IntWalk.wrap64_in _ (by have := HL.out; omega)
      have HK' := Aside0.mk (show i + 1 + k1 = L.length by have := HK.out; omega)
      obtain ⟨y, hy⟩ : ∃ y, L[i]? = some y := ⟨_, List.getElem?_eq_getElem (show i < L.length by omega)⟩
      have HT := Aside0.mk (show L.take (i + 1) = L.take i ++ [y] from by rw [List.take_add_one, hy]; rfl)
      obtain ⟨a1, rfl, x0, x1, x2, x3⟩ := HI.out.at_ i y hy
      obtain ⟨i0, hi, hz0, hz1, hz2⟩ := info_parts info33
      have HI4 := Aside0.mk (And.intro hi (And.intro hz0 (And.intro hz1 hz2)))
      clear hi hz0 hz1 hz2
      have HOne := Aside0.mk (lc_one y)
      have HM := Aside0.mk (show (L.take i).length ≤ 2999999999999 by rw [List.length_take]; have := HL.out; omega)
      clear ci hy HK
      generalize L.take i = M at *
      have D := Aside0.mk (show M.length + 1 ≤ maxLen ∧ (M.length + 1) * 40 ≤ 140737488355328 from ⟨by unfold maxLen; have := HM.out; omega, by have := HM.out; omega⟩)
      have HRS := Aside0.mk (show lcells M ++ [.int .i64 y.i, .int .i64 y.f, .int .i64 y.t, .string y.s] = lcells (M ++ [y]) from (lcells_app M [y]).symm)
      have HLM := Aside0.mk (show M.length + 1 = (M ++ [y]).length by simp)
      go_wp2_with (at_builtin; refine wpList_append_own_at _ rfl _ _ 57 rfl w.heap.size 33 i0 (.agg #[.int .i64 0, .int .i64 0, .int .i64 0, .string ByteArray.empty]) 4 40 Try.underlying57 HI4.out.1 HI4.out.2.1 HI4.out.2.2.1 HI4.out.2.2.2 rfl (by decide) (.slice A' M.length cap') M.length (lcells M) rfl (World.ownsRow.alloc HO.out _) ⟨wr.heap.size, 0, none⟩ 1 1 [.int .i64 y.i, .int .i64 y.f, .int .i64 y.t, .string y.s] rfl rfl (new_cells _ _ _) HOne.out D.out.1 D.out.2 (le_alloc HB.out.size) ?_; intro v' w5 hown hgrow _ hat; obtain ⟨A5, c5, rfl⟩ := own_form hown; rw [rowB_own] at hgrow; rw [HRS.out, HLM.out] at hown; have HO5 := Aside0.mk hown; have HG5 := Aside0.mk hgrow; clear hown hgrow hat)
      have HB5 := Aside0.mk ((below_step HB.out (below2a wr (.cells #[.int .i64 y.i, .int .i64 y.f, .int .i64 y.t, .string y.s] 33))).grown HG5.out (below_step HB.out (below2a wr (.cells #[.int .i64 y.i, .int .i64 y.f, .int .i64 y.t, .string y.s] 33))).size (fun q hq => (ownsRow_lt HO.out q hq).1))
      go_roundg k1
      case measure => have := HK'.out; omega
      case rel => exact ⟨i + 1, A5, c5, by rw [HT.out, HLM.out], congrArg (Value.int .i64) (by rw [hwi]; omega), HK', HB5, ⟨by rw [HT.out]; exact HO5.out⟩⟩
    · have cb : decide ((i : Int) < (L.length : Int)) = false := decide_eq_false ci
      have cb2 : decide (i < L.length) = false := decide_eq_false (by omega)
      have hi : i = L.length := by have := HK.out; omega
      have HT := Aside0.mk (show L.take i = L by rw [hi, List.take_length])
      clear ci hi
      rw [HT.out] at HO
      go_wp2_with fail
      go_ret
      exact ⟨A', cap', by rw [HT.out]; rfl, HB.out, HO.out⟩

end Go.Proofs.Ytadbcekglcmccaa.Q
