/- Contract of the book's out. Condition: the letter is set off and not yet out. -/
import Derived.Test.YtadbcekglcmccaaProg
import Derived.Below
import Derived.Deep.Draws
import Derived.Deep.AppendLies
import Derived.Maps.AppendAt
import Derived.OwnWalk
import Derived.Laws.BytesArg
import Derived.Laws.MakeOwn
import Derived.Laws.OwnMore
import Derived.Deep.OwnRows
import Derived.Tactics
import Derived.Lib.ConvBytes
import Derived.Laws.Slices
import Derived.WalkKit
import Derived.KernelRfl
import Derived.RowKit3
import Derived.Deep.LoopGhost
import Derived.Deep.QuietTactic
import Derived.BigQuiet
import Derived.WideLaws
import Derived.Deep.DeepCutAuto
import Derived.Deep.CutBlock
import Derived.Deep.RegionHeld3
import Derived.Laws.Rows
import Derived.Lib.AppendStr
import Derived.ArgAppend
import Derived.Laws.IdiomCopy
import Derived.OrdersHeld
import Derived.Laws.BitsLemmas
import Derived.RowKit
import Derived.Test.YtadbcekglcmccaaWWords
import Derived.Test.YtadbcekglcmccaaWLast
import Derived.Test.YtadbcekglcmccaaWTab
import Derived.Test.YtadbcekglcmccaaWFour
import Derived.Test.YtadbcekglcmccaaWQPut
import Derived.Test.YtadbcekglcmccaaWApart
import Derived.Test.YtadbcekglcmccaaWArr
import Derived.Test.YtadbcekglcmccaaWZeros
import Derived.Test.YtadbcekglcmccaaWFoot
import Derived.Test.YtadbcekglcmccaaWKept
import Derived.Test.YtadbcekglcmccaaWShare
import Derived.Test.YtadbcekglcmccaaWN
import Derived.Test.YtadbcekglcmccaaWFootNe
import Derived.Test.YtadbcekglcmccaaWAt
import Derived.Test.YtadbcekglcmccaaWEqStruct
import Derived.Test.YtadbcekglcmccaaWRepsOne
import Derived.Test.YtadbcekglcmccaaWInv
import Derived.Test.YtadbcekglcmccaaWInvWords
import Derived.Test.YtadbcekglcmccaaWGuard
import Derived.Test.YtadbcekglcmccaaWNEv
import Derived.Test.YtadbcekglcmccaaWMore
import Derived.Test.YtadbcekglcmccaaB1
set_option linter.unusedVariables false
set_option linter.unusedSimpArgs false
namespace Go.Proofs.Ytadbcekglcmccaa.Q
open Go.RowKit Go.Proofs.YtadbcekglcmccaaW.PrintWords Go.Proofs.YtadbcekglcmccaaW.PrintLast Go.Proofs.YtadbcekglcmccaaW.PrintMore
open Go.FM Go.Plan

set_option maxHeartbeats 4000000 in
set_option maxRecDepth 100000 in
theorem out_calls (B : Nat) (k : Bk) (y : Lt) (j : Nat) (w : World) (h : k.In B w) (hl : k.Bs.length = k.Ls.length) (hL : k.Ls.length ≤ 3000000000000) (hy : y.i = (j : Int) + 1) (hj : k.Ls[j]? = some y) (hb : k.Bs[j]? = some false) :
    Calls Try.prog 51 #[.pointer (some ⟨k.b, 0, none⟩), .agg #[.int .i64 y.i, .int .i64 y.f, .int .i64 y.t, .string y.s]] w (KRes B k k.Ls (k.Bs.set j true) (.bool true) w) := by
  have H0 := Aside0.mk (h.below (below2a w (.cells #[.int .i64 y.i, .int .i64 y.f, .int .i64 y.t, .string y.s] 33)))
  have H00 := Aside0.mk h
  have HL := Aside0.mk hL
  have HX := Aside0.mk (blk_new w (.cells #[.int .i64 y.i, .int .i64 y.f, .int .i64 y.t, .string y.s] 33))
  have HW := Aside0.mk (below2a w (.cells #[.int .i64 y.i, .int .i64 y.f, .int .i64 y.t, .string y.s] 33))
  have HE := Aside0.mk hl
  have HY := Aside0.mk hy
  have HJ := Aside0.mk hj
  have HBJ := Aside0.mk hb
  have hjl := (List.getElem?_eq_some_iff.1 hj).1
  have HJL := Aside0.mk hjl
  clear h hL hl hy hj hb hjl
  go_enter Try.func51, Try.ntmps51
  go_wp2_with fail
  generalize hc : w.heap.size = c at *
  have HC := Aside0.mk hc
  clear hc
  generalize w.alloc (.cells #[.int .i64 y.i, .int .i64 y.f, .int .i64 y.t, .string y.s] 33) = w0 at *
  have x0 := blk_cell HX.out 0
  have x1 := blk_cell HX.out 1
  have x2 := blk_cell HX.out 2
  have x3 := blk_cell HX.out 3
  have c0 := blk_cell H0.out.blk 0
  have c1 := blk_cell H0.out.blk 1
  obtain ⟨a1, ha1, z0, z1, z2, z3⟩ := OwnL.adr H0.out.rowL j y HJ.out
  obtain ⟨q, hq⟩ := ownsRow_addr H0.out.rowB (show 0 < k.Bs.length by rw [HE.out]; have := HJL.out; omega)
  have hrB := H0.out.rowB
  rw [hq] at hrB
  have xb : w0.cell? ⟨q, j, none⟩ = some (.bool false) := by
    rw [hrB.cellAt j (by rw [HE.out]; have := HJL.out; omega)]
    unfold bcells
    rw [List.getElem?_map, HBJ.out]
    rfl
  rw [ha1] at c0
  rw [hq] at c1
  have HRB := Aside0.mk hrB
  have HA1 := Aside0.mk ha1
  have HQ := Aside0.mk hq
  clear hrB ha1 hq
  have b1 : decide (y.i < 1) = false := decide_eq_false (by rw [HY.out]; omega)
  have b2 : decide ((k.Ls.length : Int) < y.i) = false := decide_eq_false (by rw [HY.out]; have := HJL.out; omega)
  have hw1 : IntKind.i64.wrap (y.i - 1) = (j : Int) := by rw [i64_w, Go.IntWalk.wrap64_in _ (by rw [HY.out]; have := HJL.out; have := HL.out; omega), HY.out]; omega
  have hw2 : wrap64 (y.i - 1) = (j : Int) := by rw [Go.IntWalk.wrap64_in _ (by rw [HY.out]; have := HJL.out; have := HL.out; omega), HY.out]; omega
  have hw3 : IntKind.i64.wrap (j : Int) = (j : Int) := by rw [i64_w, Go.IntWalk.wrap64_in _ (by have := HJL.out; have := HL.out; omega)]
  have hw4 : wrap64 (j : Int) = (j : Int) := Go.IntWalk.wrap64_in _ (by have := HJL.out; have := HL.out; omega)
  have p2 : (0 ≤ (j : Int)) = True := eq_true (by omega)
  have p3 : ((j : Int) < (k.Ls.length : Int)) = True := eq_true (by have := HJL.out; omega)
  have p4 : ((j : Int) < (k.Bs.length : Int)) = True := eq_true (by rw [HE.out]; have := HJL.out; omega)
  have hne : (y.s != y.s) = false := by have := (MapKept.bytes_beq y.s y.s).2 rfl; simp [bne, this]
  go_quiet (fail)
  have HB1 := Aside0.mk (show Below c w (w0.drewN nq) from ⟨HW.out.os, HW.out.tape, HW.out.output, HW.out.size, HW.out.block⟩)
  have H1 := Aside0.mk (H0.out.below (below_drewN w0 nq))
  have HX1 := Aside0.mk (show (w0.drewN nq).heap[c]? = some (.cells #[.int .i64 y.i, .int .i64 y.f, .int .i64 y.t, .string y.s] 33 (0, 0)) from HX.out)
  have HRB1 := Aside0.mk (pw_own_drewN HRB.out nq)
  clear x0 x1 x2 x3 c0 c1 z0 z1 z2 z3 xb H0 HX HRB HW
  generalize w0.drewN nq = w1 at *
  go_upto_region 3 with fail
  refine wp_region_planF (quiets [0, 1, 2, 3, 4, 5, 6, 7] ++ []) 8 (fun W => W.heap[k.b]? = some (.cells #[.slice k.A k.Ls.length k.cap, .slice k.A2 k.Bs.length k.cap2] 65 (0, 0)) ∧ W.heap[c]? = some (.cells #[.int .i64 y.i, .int .i64 y.f, .int .i64 y.t, .string y.s] 33 (0, 0))) (by kernel_rfl) (by kernel_rfl) ⟨H1.out.blk, HX1.out⟩ ?_
  apply mix_quiets [0, 1, 2, 3, 4, 5, 6, 7] _ (by kernel_rfl) ⟨H1.out.blk, HX1.out⟩
  case h =>
    intro W hW
    have e2 := blk_cell hW.1 1
    have e3 := blk_cell hW.2 0
    rw [HQ.out] at e2
    clear hW
    refine still_of_quiet _ _ ?_
    simp only [segOps, List.getElem?_toArray, List.getElem?_cons_zero, List.getElem?_cons_succ, Option.toList_some, List.nil_append, List.cons_append, List.append_nil]
    repeat (go_big_quiet_step (fail))
    exact wpQuiet_nil rfl
  refine fin_write 8 ⟨none, _, _, _, _, _⟩ rfl ?_
  change wpList _ _ _ _ _ w1.drew
  have H2 := Aside0.mk (H1.out.below (below_drew w1))
  have HB2 := Aside0.mk (show Below c w w1.drew from ⟨HB1.out.os, HB1.out.tape, HB1.out.output, HB1.out.size, HB1.out.block⟩)
  have HRB2 := Aside0.mk (show w1.drew.ownsRow B 4 1 (.slice (some ⟨q, 0, none⟩) k.Bs.length k.cap2) k.Bs.length (bcells k.Bs) from HRB1.out)
  clear H1 HB1 HRB1 HX1
  generalize w1.drew = w2 at *
  have xb : w2.cell? ⟨q, j, none⟩ = some (.bool false) := by
    rw [HRB2.out.cellAt j (by rw [HE.out]; have := HJL.out; omega)]
    unfold bcells
    rw [List.getElem?_map, HBJ.out]
    rfl
  have xf := HRB2.out.frozenAt j
  obtain ⟨hst, hgr⟩ := HRB2.out.stored j (.bool true)
  have HST := Aside0.mk hst
  have HGR := Aside0.mk hgr
  clear hst hgr
  go_wp2_with fail
  refine nq_out ?_
  have hd : KDone w (w2.setCell ⟨q, j, none⟩ (.bool true)) B k ⟨k.b, k.A, k.cap, k.Ls, k.A2, k.cap2, k.Bs.set j true⟩ := by
    have hgr := HGR.out
    have hbw : Below w.heap.size w w2 := by rw [HC.out]; exact HB2.out
    have hq2 : Q.rowB k.A2 = some q := by rw [HQ.out]; rfl
    refine ⟨⟨?_, ownsRow_keep H2.out.rowL (fun p hp => Below.heap_setCell w2 ⟨q, j, none⟩ _ p (H2.out.AA p q hp hq2)), ?_⟩, ((But.of_below hbw).set (.inr (.inr hq2)) j _), rfl, .inl rfl, .inl rfl⟩
    · show (w2.setCell ⟨q, j, none⟩ (.bool true)).heap[k.b]? = some (.cells #[.slice k.A k.Ls.length k.cap, .slice k.A2 (k.Bs.set j true).length k.cap2] 65 (0, 0))
      rw [List.length_set]
      exact (Below.heap_setCell w2 ⟨q, j, none⟩ _ k.b (fun e => H2.out.bA2 q hq2 e.symm)).trans H2.out.blk
    · show (w2.setCell ⟨q, j, none⟩ (.bool true)).ownsRow B 4 1 (.slice k.A2 (k.Bs.set j true).length k.cap2) (k.Bs.set j true).length (bcells (k.Bs.set j true))
      rw [List.length_set, HQ.out]
      unfold bcells
      rw [List.map_set]
      exact HST.out
  have HD := Aside0.mk hd
  clear hd
  go_wp2_with fail
  go_ret
  exact ⟨rfl, k.A, k.cap, k.A2, k.cap2, HD.out⟩

end Go.Proofs.Ytadbcekglcmccaa.Q
