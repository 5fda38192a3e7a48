/- The walks of granarylaw13.MailMoves, MailLooks and MailPlays (printed by gen_bm.py): they answer true at every input. Condition: the script is read. -/
import Derived.Test.YtadbcekglcmccaaProg
import Derived.Below
import Derived.Deep.Draws
import Derived.Deep.AppendLies
import Derived.Maps.AppendAt
import Derived.OwnWalk
import Derived.Laws.BytesArg
import Derived.Laws.MakeOwn
import Derived.Laws.OwnMore
import Derived.Deep.OwnRows
import Derived.Tactics
import Derived.Lib.ConvBytes
import Derived.Laws.Slices
import Derived.WalkKit
import Derived.KernelRfl
import Derived.RowKit3
import Derived.Deep.LoopGhost
import Derived.Deep.QuietTactic
import Derived.BigQuiet
import Derived.WideLaws
import Derived.Deep.DeepCutAuto
import Derived.Deep.CutBlock
import Derived.Deep.RegionHeld3
import Derived.Laws.Rows
import Derived.Lib.AppendStr
import Derived.ArgAppend
import Derived.Laws.IdiomCopy
import Derived.OrdersHeld
import Derived.Laws.BitsLemmas
import Derived.RowKit
import Derived.Test.YtadbcekglcmccaaWWords
import Derived.Test.YtadbcekglcmccaaWLast
import Derived.Test.YtadbcekglcmccaaWTab
import Derived.Test.YtadbcekglcmccaaWFour
import Derived.Test.YtadbcekglcmccaaWQPut
import Derived.Test.YtadbcekglcmccaaWApart
import Derived.Test.YtadbcekglcmccaaWArr
import Derived.Test.YtadbcekglcmccaaWZeros
import Derived.Test.YtadbcekglcmccaaWFoot
import Derived.Test.YtadbcekglcmccaaWKept
import Derived.Test.YtadbcekglcmccaaWShare
import Derived.Test.YtadbcekglcmccaaWN
import Derived.Test.YtadbcekglcmccaaWFootNe
import Derived.Test.YtadbcekglcmccaaWAt
import Derived.Test.YtadbcekglcmccaaWEqStruct
import Derived.Test.YtadbcekglcmccaaWRepsOne
import Derived.Test.YtadbcekglcmccaaWInv
import Derived.Test.YtadbcekglcmccaaWInvWords
import Derived.Test.YtadbcekglcmccaaWGuard
import Derived.Test.YtadbcekglcmccaaWNEv
import Derived.Test.YtadbcekglcmccaaWMore
import Derived.Test.YtadbcekglcmccaaBB
set_option linter.unusedVariables false
set_option linter.unusedSimpArgs false
namespace Go.Proofs.Ytadbcekglcmccaa.Q
open Go.RowKit Go.Proofs.YtadbcekglcmccaaW.PrintWords Go.Proofs.YtadbcekglcmccaaW.PrintLast Go.Proofs.YtadbcekglcmccaaW.PrintMore
open Go.FM Go.Plan

section
variable {w W : World} {n m : Nat}
abbrev StepTo (w : World) (n m : Nat) (W : World) (k a i j : Int) (s : ByteArray) : Prop := Calls Try.prog 22 #[.pointer (some ⟨m, 0, none⟩), .agg #[.int .i64 k, .int .i64 a, .int .i64 i, .int .i64 j, .string s]] W fun e w' => e = .returned (.bool true) ∧ BI w w' (n + 1) m
theorem BI.fly (h : BI w W n m) (hn : n ≤ 2999999999999) : StepTo w n m W 7 0 0 0 ⟨#[]⟩ := h.step ⟨7, 0, 0, 0, ⟨#[]⟩⟩ hn ⟨by decide, by decide⟩
theorem BI.one_ (h : BI w W n m) (hn : n ≤ 2999999999999) : StepTo w n m W 1 0 0 1 ⟨#[]⟩ := h.step ⟨1, 0, 0, 1, ⟨#[]⟩⟩ hn ⟨by decide, by decide⟩
theorem BI.drop_ (h : BI w W n m) (hn : n ≤ 2999999999999) : StepTo w n m W 3 0 0 0 ⟨#[]⟩ := h.step ⟨3, 0, 0, 0, ⟨#[]⟩⟩ hn ⟨by decide, by decide⟩
theorem BI.last_ (h : BI w W n m) (hn : n ≤ 2999999999999) : StepTo w n m W 1 0 2 2 ⟨#[108, 97, 115, 116]⟩ := h.step ⟨1, 0, 2, 2, ⟨#[108, 97, 115, 116]⟩⟩ hn ⟨by decide, by decide⟩
theorem BI.count_ (h : BI w W n m) (hn : n ≤ 2999999999999) : StepTo w n m W 8 0 0 0 ⟨#[]⟩ := h.step ⟨8, 0, 0, 0, ⟨#[]⟩⟩ hn ⟨by decide, by decide⟩
theorem BI.sent_ (h : BI w W n m) (hn : n ≤ 2999999999999) : StepTo w n m W 9 0 0 0 ⟨#[]⟩ := h.step ⟨9, 0, 0, 0, ⟨#[]⟩⟩ hn ⟨by decide, by decide⟩
end

set_option maxHeartbeats 8000000 in
set_option maxRecDepth 100000 in
theorem moves_calls (a0 : Int) (A : Option Addr) (cA : Nat) (l : List Mo) (w : World) (hA : RMop w A l) (hl : l.length ≤ cA) (hc : cA ≤ 2932031007402) :
    Calls Try.prog 5 #[.int .i64 a0, .slice A l.length cA] w fun e w' => e = .returned (.bool true) ∧ Below w.heap.size w w' := by
  have HA := Aside0.mk hA
  have HL := Aside0.mk (show l.length ≤ 2932031007402 by omega)
  have HX := Aside0.mk (blk_new w (.cells #[.pointer none, .pointer none, .pointer none, .pointer none] 50))
  have HB := Aside0.mk (below2a w (.cells #[.pointer none, .pointer none, .pointer none, .pointer none] 50))
  clear hA hc hl
  go_enter Try.func5, Try.ntmps5
  go_upto_region 2 with fail
  generalize w.alloc (.cells #[.pointer none, .pointer none, .pointer none, .pointer none] 50) = w1 at *
  go_wp2_with (first
    | (go_at_call 20; (with_reducible refine (begins_calls w.heap.size a0 w _ HX.out HB.out (Nat.le_refl _)).mono ?_); rintro e w2 ⟨rfl, hs⟩; have H2 := Aside0.mk hs; clear hs)
    | (go_at_call 21; (with_reducible refine (upto_calls w.heap.size 0 A cA l 1 6 w w _ H2.out (Below.refl _ _) HA.out (by have := HL.out; omega)).mono ?_); rintro e w3 ⟨rfl, hs⟩; have H3 := Aside0.mk hs; clear hs)
    | (go_at_call 22; (with_reducible refine (H3.out.fly (by have := HL.out; omega)).mono ?_); rintro e w4 ⟨rfl, hs⟩; have H4 := Aside0.mk hs; clear hs)
    | (go_at_call 22; (with_reducible refine (H4.out.one_ (by have := HL.out; omega)).mono ?_); rintro e w5 ⟨rfl, hs⟩; have H5 := Aside0.mk hs; clear hs))
  go_ret
  exact ⟨rfl, H5.out.below_⟩

set_option maxHeartbeats 8000000 in
set_option maxRecDepth 100000 in
theorem looks_calls (a0 : Int) (A : Option Addr) (cA : Nat) (l : List Mo) (w : World) (hA : RMop w A l) (hl : l.length ≤ cA) (hc : cA ≤ 2932031007402) :
    Calls Try.prog 6 #[.int .i64 a0, .slice A l.length cA] w fun e w' => e = .returned (.bool true) ∧ Below w.heap.size w w' := by
  have HA := Aside0.mk hA
  have HL := Aside0.mk (show l.length ≤ 2932031007402 by omega)
  have HX := Aside0.mk (blk_new w (.cells #[.pointer none, .pointer none, .pointer none, .pointer none] 50))
  have HB := Aside0.mk (below2a w (.cells #[.pointer none, .pointer none, .pointer none, .pointer none] 50))
  clear hA hc hl
  go_enter Try.func6, Try.ntmps6
  go_upto_region 2 with fail
  generalize w.alloc (.cells #[.pointer none, .pointer none, .pointer none, .pointer none] 50) = w1 at *
  go_wp2_with (first
    | (go_at_call 20; (with_reducible refine (begins_calls w.heap.size a0 w _ HX.out HB.out (Nat.le_refl _)).mono ?_); rintro e w2 ⟨rfl, hs⟩; have H2 := Aside0.mk hs; clear hs)
    | (go_at_call 21; (with_reducible refine (upto_calls w.heap.size 0 A cA l 7 9 w w _ H2.out (Below.refl _ _) HA.out (by have := HL.out; omega)).mono ?_); rintro e w3 ⟨rfl, hs⟩; have H3 := Aside0.mk hs; clear hs)
    | (go_at_call 22; (with_reducible refine (H3.out.drop_ (by have := HL.out; omega)).mono ?_); rintro e w4 ⟨rfl, hs⟩; have H4 := Aside0.mk hs; clear hs)
    | (go_at_call 22; (with_reducible refine (H4.out.last_ (by have := HL.out; omega)).mono ?_); rintro e w5 ⟨rfl, hs⟩; have H5 := Aside0.mk hs; clear hs)
    | (go_at_call 22; (with_reducible refine (H5.out.fly (by have := HL.out; omega)).mono ?_); rintro e w6 ⟨rfl, hs⟩; have H6 := Aside0.mk hs; clear hs)
    | (go_at_call 22; (with_reducible refine (H6.out.count_ (by have := HL.out; omega)).mono ?_); rintro e w7 ⟨rfl, hs⟩; have H7 := Aside0.mk hs; clear hs)
    | (go_at_call 22; (with_reducible refine (H7.out.sent_ (by have := HL.out; omega)).mono ?_); rintro e w8 ⟨rfl, hs⟩; have H8 := Aside0.mk hs; clear hs))
  go_ret
  exact ⟨rfl, H8.out.below_⟩

set_option maxHeartbeats 8000000 in
set_option maxRecDepth 100000 in
theorem plays_law (a0 : Int) (A : Option Addr) (cA : Nat) (l : List Mo) (w : World) (hA : RMop w A l) (hl : l.length ≤ cA) (hc : cA ≤ 2932031007402) :
    Calls Try.prog 7 #[.int .i64 a0, .slice A l.length cA] w fun e w' => e = .returned (.bool true) ∧ Below w.heap.size w w' := by
  have HA := Aside0.mk hA
  have HL := Aside0.mk (show l.length ≤ 2932031007402 by omega)
  have HX := Aside0.mk (blk_new w (.cells #[.pointer none, .pointer none, .pointer none, .pointer none] 50))
  have HB := Aside0.mk (below2a w (.cells #[.pointer none, .pointer none, .pointer none, .pointer none] 50))
  clear hA hc hl
  go_enter Try.func7, Try.ntmps7
  go_upto_region 2 with fail
  generalize w.alloc (.cells #[.pointer none, .pointer none, .pointer none, .pointer none] 50) = w1 at *
  go_wp2_with (first
    | (go_at_call 20; (with_reducible refine (begins_calls w.heap.size a0 w _ HX.out HB.out (Nat.le_refl _)).mono ?_); rintro e w2 ⟨rfl, hs⟩; have H2 := Aside0.mk hs; clear hs)
    | (go_at_call 21; (with_reducible refine (upto_calls w.heap.size 0 A cA l 1 9 w w _ H2.out (Below.refl _ _) HA.out (by have := HL.out; omega)).mono ?_); rintro e w3 ⟨rfl, hs⟩; have H3 := Aside0.mk hs; clear hs)
    | (go_at_call 22; (with_reducible refine (H3.out.one_ (by have := HL.out; omega)).mono ?_); rintro e w4 ⟨rfl, hs⟩; have H4 := Aside0.mk hs; clear hs)
    | (go_at_call 22; (with_reducible refine (H4.out.fly (by have := HL.out; omega)).mono ?_); rintro e w5 ⟨rfl, hs⟩; have H5 := Aside0.mk hs; clear hs))
  go_ret
  exact ⟨rfl, H5.out.below_⟩


end Go.Proofs.Ytadbcekglcmccaa.Q
