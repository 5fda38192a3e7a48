/- The bench's plays where the place holds no mails (printed by gen_ba.py). Condition: both pointers are nil. -/
import Derived.Test.YtadbcekglcmccaaProg
import Derived.Below
import Derived.Deep.Draws
import Derived.Deep.AppendLies
import Derived.Maps.AppendAt
import Derived.OwnWalk
import Derived.Laws.BytesArg
import Derived.Laws.MakeOwn
import Derived.Laws.OwnMore
import Derived.Deep.OwnRows
import Derived.Tactics
import Derived.Lib.ConvBytes
import Derived.Laws.Slices
import Derived.WalkKit
import Derived.KernelRfl
import Derived.RowKit3
import Derived.Deep.LoopGhost
import Derived.Deep.QuietTactic
import Derived.BigQuiet
import Derived.WideLaws
import Derived.Deep.DeepCutAuto
import Derived.Deep.CutBlock
import Derived.Deep.RegionHeld3
import Derived.Laws.Rows
import Derived.Lib.AppendStr
import Derived.ArgAppend
import Derived.Laws.IdiomCopy
import Derived.OrdersHeld
import Derived.Laws.BitsLemmas
import Derived.RowKit
import Derived.Test.YtadbcekglcmccaaWWords
import Derived.Test.YtadbcekglcmccaaWLast
import Derived.Test.YtadbcekglcmccaaWTab
import Derived.Test.YtadbcekglcmccaaWFour
import Derived.Test.YtadbcekglcmccaaWQPut
import Derived.Test.YtadbcekglcmccaaWApart
import Derived.Test.YtadbcekglcmccaaWArr
import Derived.Test.YtadbcekglcmccaaWZeros
import Derived.Test.YtadbcekglcmccaaWFoot
import Derived.Test.YtadbcekglcmccaaWKept
import Derived.Test.YtadbcekglcmccaaWShare
import Derived.Test.YtadbcekglcmccaaWN
import Derived.Test.YtadbcekglcmccaaWFootNe
import Derived.Test.YtadbcekglcmccaaWAt
import Derived.Test.YtadbcekglcmccaaWEqStruct
import Derived.Test.YtadbcekglcmccaaWRepsOne
import Derived.Test.YtadbcekglcmccaaWInv
import Derived.Test.YtadbcekglcmccaaWInvWords
import Derived.Test.YtadbcekglcmccaaWGuard
import Derived.Test.YtadbcekglcmccaaWNEv
import Derived.Test.YtadbcekglcmccaaWMore
import Derived.Test.YtadbcekglcmccaaB9
set_option linter.unusedVariables false
set_option linter.unusedSimpArgs false
namespace Go.Proofs.Ytadbcekglcmccaa.Q
open Go.RowKit Go.Proofs.YtadbcekglcmccaaW.PrintWords Go.Proofs.YtadbcekglcmccaaW.PrintLast Go.Proofs.YtadbcekglcmccaaW.PrintMore
open Go.FM Go.Plan

theorem same_nil (w : World) : Calls Try.prog 26 #[.slice none 0 0, .slice none 0 0] w fun e w' => e = .returned (.bool true) ∧ Below w.heap.size w w' :=
  same_calls 0 0 none none 0 0 [] w (World.ownsRow_nil _ _ _ _) (World.ownsRow_nil _ _ _ _) (by simp)
set_option maxHeartbeats 8000000 in
set_option maxRecDepth 100000 in
theorem noplay_send (m : Nat) (o : Mo) (w : World) (hp : plc o.a = 1) (h0 : w.cell? ⟨m, 1, none⟩ = some (.pointer none)) (h2 : w.cell? ⟨m, 3, none⟩ = some (.pointer none)) (k1 : (o.k == 1) = true) :
    Calls Try.prog 22 #[.pointer (some ⟨m, 0, none⟩), .agg #[.int .i64 o.k, .int .i64 o.a, .int .i64 o.n, .int .i64 o.m, .string o.s]] w fun e w' => e = .returned (.bool true) ∧ Below w.heap.size w w' := by
  have HX1 := Aside0.mk (blk_new w (.cells #[.int .i64 o.k, .int .i64 o.a, .int .i64 o.n, .int .i64 o.m, .string o.s] 41))
  have HB1 := Aside0.mk (below2a w (.cells #[.int .i64 o.k, .int .i64 o.a, .int .i64 o.n, .int .i64 o.m, .string o.s] 41))
  have HA0 := Aside0.mk (pw_cell_below (below2a w (.cells #[.int .i64 o.k, .int .i64 o.a, .int .i64 o.n, .int .i64 o.m, .string o.s] 41)) h0)
  have HA2 := Aside0.mk (pw_cell_below (below2a w (.cells #[.int .i64 o.k, .int .i64 o.a, .int .i64 o.n, .int .i64 o.m, .string o.s] 41)) h2)
  clear h0 h2
  go_enter Try.func22, Try.ntmps22
  go_wp2_with fail
  generalize w.alloc (.cells #[.int .i64 o.k, .int .i64 o.a, .int .i64 o.n, .int .i64 o.m, .string o.s] 41) = w1 at *
  have y1 := blk_cell HX1.out 1
  have a0 := HA0.out
  go_quiet (first | (go_at_call 24; refine Calls.quiet_of_same (place_at o.a 1 hp _)))
  have HX2 := Aside0.mk (blk_below HX1.out (below_drewN w1 nq))
  have HB2 := Aside0.mk (below_step HB1.out (below_drewN w1 nq))
  have HA2' := Aside0.mk (pw_cell_below (below_drewN w1 nq) HA2.out)
  clear y1 a0 HX1 HB1 HA0 HA2
  generalize w1.drewN nq = w2 at *
  have y1 := blk_cell HX2.out 1
  have a2 := HA2'.out
  go_upto_region 2 with fail
  go_quiet (first | (go_at_call 24; refine Calls.quiet_of_same (place_at o.a 1 hp _)))
  have HX3 := Aside0.mk (blk_below HX2.out (below_drewN w2 nq))
  have HB3 := Aside0.mk (below_step HB2.out (below_drewN w2 nq))
  clear y1 a2 HX2 HB2 HA2'
  generalize w2.drewN nq = w3 at *
  have y0 := blk_cell HX3.out 0
  have y2 := blk_cell HX3.out 2
  have y3 := blk_cell HX3.out 3
  have y4 := blk_cell HX3.out 4
  go_wp2_with (first
    | (go_at_call 12; (with_reducible refine (send_nil _ _ _ _).mono ?_); rintro e w' ⟨rfl, rfl⟩)
    | (go_at_call 39; (with_reducible refine (rsend_nil _ _ _ _).mono ?_); rintro e w' ⟨rfl, rfl⟩)
    | (go_at_call 11; refine (num_calls _ _).mono ?_; rintro e w' ⟨rfl, rfl⟩))
  go_ret
  exact ⟨rfl, HB3.out⟩
set_option maxHeartbeats 8000000 in
set_option maxRecDepth 100000 in
theorem noplay_deliver (m : Nat) (o : Mo) (w : World) (hp : plc o.a = 1) (h0 : w.cell? ⟨m, 1, none⟩ = some (.pointer none)) (h2 : w.cell? ⟨m, 3, none⟩ = some (.pointer none)) (k1 : (o.k == 1) = false) (k2 : (o.k == 2) = true) :
    Calls Try.prog 22 #[.pointer (some ⟨m, 0, none⟩), .agg #[.int .i64 o.k, .int .i64 o.a, .int .i64 o.n, .int .i64 o.m, .string o.s]] w fun e w' => e = .returned (.bool true) ∧ Below w.heap.size w w' := by
  have HX1 := Aside0.mk (blk_new w (.cells #[.int .i64 o.k, .int .i64 o.a, .int .i64 o.n, .int .i64 o.m, .string o.s] 41))
  have HB1 := Aside0.mk (below2a w (.cells #[.int .i64 o.k, .int .i64 o.a, .int .i64 o.n, .int .i64 o.m, .string o.s] 41))
  have HA0 := Aside0.mk (pw_cell_below (below2a w (.cells #[.int .i64 o.k, .int .i64 o.a, .int .i64 o.n, .int .i64 o.m, .string o.s] 41)) h0)
  have HA2 := Aside0.mk (pw_cell_below (below2a w (.cells #[.int .i64 o.k, .int .i64 o.a, .int .i64 o.n, .int .i64 o.m, .string o.s] 41)) h2)
  clear h0 h2
  go_enter Try.func22, Try.ntmps22
  go_wp2_with fail
  generalize w.alloc (.cells #[.int .i64 o.k, .int .i64 o.a, .int .i64 o.n, .int .i64 o.m, .string o.s] 41) = w1 at *
  have y1 := blk_cell HX1.out 1
  have a0 := HA0.out
  go_quiet (first | (go_at_call 24; refine Calls.quiet_of_same (place_at o.a 1 hp _)))
  have HX2 := Aside0.mk (blk_below HX1.out (below_drewN w1 nq))
  have HB2 := Aside0.mk (below_step HB1.out (below_drewN w1 nq))
  have HA2' := Aside0.mk (pw_cell_below (below_drewN w1 nq) HA2.out)
  clear y1 a0 HX1 HB1 HA0 HA2
  generalize w1.drewN nq = w2 at *
  have y1 := blk_cell HX2.out 1
  have a2 := HA2'.out
  go_upto_region 2 with fail
  go_quiet (first | (go_at_call 24; refine Calls.quiet_of_same (place_at o.a 1 hp _)))
  have HX3 := Aside0.mk (blk_below HX2.out (below_drewN w2 nq))
  have HB3 := Aside0.mk (below_step HB2.out (below_drewN w2 nq))
  clear y1 a2 HX2 HB2 HA2'
  generalize w2.drewN nq = w3 at *
  have y0 := blk_cell HX3.out 0
  have y2 := blk_cell HX3.out 2
  have y3 := blk_cell HX3.out 3
  have y4 := blk_cell HX3.out 4
  have z6 : ((⟨#[]⟩ : ByteArray) == ⟨#[]⟩) = true := (MapKept.bytes_beq _ _).2 rfl
  go_upto_region 10 with (go_at_call 13; (with_reducible refine (deliver_nil _ _).mono ?_); rintro e w4 ⟨rfl, hb⟩; have HB4 := Aside0.mk (below_step HB3.out hb); have HX4 := Aside0.mk (blk_below HX3.out hb); clear hb)
  have HB5 := Aside0.mk (below_step HB4.out (below2a w4 O0))
  have HX5 := Aside0.mk (blk_below HX4.out (below2a w4 O0))
  have HY5 := Aside0.mk (blk_new w4 O0)
  clear y0 y2 y3 y4 HB4 HX4 HX3
  generalize w4.heap.size = d at *
  generalize w4.alloc O0 = w5 at *
  have t2 := blk_cell HX5.out 2
  go_upto_region 11 with (go_at_call 40; (with_reducible refine (rdeliver_nil _ _).mono ?_); rintro e w6 ⟨rfl, hb⟩; have HB6 := Aside0.mk (below_step HB5.out hb); have HY6 := Aside0.mk (blk_below HY5.out hb); clear hb)
  have HB7 := Aside0.mk (below_step HB6.out (below2a w6 O0))
  have HY7 := Aside0.mk (blk_below HY6.out (below2a w6 O0))
  have HZ7 := Aside0.mk (blk_new w6 O0)
  clear t2 HX5 HY5 HY6
  generalize w6.heap.size = d6 at *
  generalize w6.alloc O0 = w7 at *
  have s0 := blk_cell HY7.out 0
  have s1 := blk_cell HY7.out 1
  have s2 := blk_cell HY7.out 2
  have s3 := blk_cell HY7.out 3
  have t0 := blk_cell HZ7.out 0
  have t1 := blk_cell HZ7.out 1
  have t2 := blk_cell HZ7.out 2
  have t3 := blk_cell HZ7.out 3
  go_wp2_with (go_at_call 11; refine (num_calls _ _).mono ?_; rintro e w' ⟨rfl, rfl⟩)
  go_ret
  exact ⟨rfl, HB7.out⟩
set_option maxHeartbeats 8000000 in
set_option maxRecDepth 100000 in
theorem noplay_drop (m : Nat) (o : Mo) (w : World) (hp : plc o.a = 1) (h0 : w.cell? ⟨m, 1, none⟩ = some (.pointer none)) (h2 : w.cell? ⟨m, 3, none⟩ = some (.pointer none)) (k1 : (o.k == 1) = false) (k2 : (o.k == 2) = false) (k3 : (o.k == 3) = true) :
    Calls Try.prog 22 #[.pointer (some ⟨m, 0, none⟩), .agg #[.int .i64 o.k, .int .i64 o.a, .int .i64 o.n, .int .i64 o.m, .string o.s]] w fun e w' => e = .returned (.bool true) ∧ Below w.heap.size w w' := by
  have HX1 := Aside0.mk (blk_new w (.cells #[.int .i64 o.k, .int .i64 o.a, .int .i64 o.n, .int .i64 o.m, .string o.s] 41))
  have HB1 := Aside0.mk (below2a w (.cells #[.int .i64 o.k, .int .i64 o.a, .int .i64 o.n, .int .i64 o.m, .string o.s] 41))
  have HA0 := Aside0.mk (pw_cell_below (below2a w (.cells #[.int .i64 o.k, .int .i64 o.a, .int .i64 o.n, .int .i64 o.m, .string o.s] 41)) h0)
  have HA2 := Aside0.mk (pw_cell_below (below2a w (.cells #[.int .i64 o.k, .int .i64 o.a, .int .i64 o.n, .int .i64 o.m, .string o.s] 41)) h2)
  clear h0 h2
  go_enter Try.func22, Try.ntmps22
  go_wp2_with fail
  generalize w.alloc (.cells #[.int .i64 o.k, .int .i64 o.a, .int .i64 o.n, .int .i64 o.m, .string o.s] 41) = w1 at *
  have y1 := blk_cell HX1.out 1
  have a0 := HA0.out
  go_quiet (first | (go_at_call 24; refine Calls.quiet_of_same (place_at o.a 1 hp _)))
  have HX2 := Aside0.mk (blk_below HX1.out (below_drewN w1 nq))
  have HB2 := Aside0.mk (below_step HB1.out (below_drewN w1 nq))
  have HA2' := Aside0.mk (pw_cell_below (below_drewN w1 nq) HA2.out)
  clear y1 a0 HX1 HB1 HA0 HA2
  generalize w1.drewN nq = w2 at *
  have y1 := blk_cell HX2.out 1
  have a2 := HA2'.out
  go_upto_region 2 with fail
  go_quiet (first | (go_at_call 24; refine Calls.quiet_of_same (place_at o.a 1 hp _)))
  have HX3 := Aside0.mk (blk_below HX2.out (below_drewN w2 nq))
  have HB3 := Aside0.mk (below_step HB2.out (below_drewN w2 nq))
  clear y1 a2 HX2 HB2 HA2'
  generalize w2.drewN nq = w3 at *
  have y0 := blk_cell HX3.out 0
  have y2 := blk_cell HX3.out 2
  have y3 := blk_cell HX3.out 3
  have y4 := blk_cell HX3.out 4
  go_wp2_with (first
    | (go_at_call 17; (with_reducible refine (drop_nil _ _).mono ?_); rintro e w' ⟨rfl, rfl⟩)
    | (go_at_call 41; (with_reducible refine (rdrop_nil _ _).mono ?_); rintro e w' ⟨rfl, rfl⟩)
    | (go_at_call 11; refine (num_calls _ _).mono ?_; rintro e w' ⟨rfl, rfl⟩))
  go_ret
  exact ⟨rfl, HB3.out⟩
set_option maxHeartbeats 8000000 in
set_option maxRecDepth 100000 in
theorem noplay_copy (m : Nat) (o : Mo) (w : World) (hp : plc o.a = 1) (h0 : w.cell? ⟨m, 1, none⟩ = some (.pointer none)) (h2 : w.cell? ⟨m, 3, none⟩ = some (.pointer none)) (k1 : (o.k == 1) = false) (k2 : (o.k == 2) = false) (k3 : (o.k == 3) = false) (k4 : (o.k == 4) = true) :
    Calls Try.prog 22 #[.pointer (some ⟨m, 0, none⟩), .agg #[.int .i64 o.k, .int .i64 o.a, .int .i64 o.n, .int .i64 o.m, .string o.s]] w fun e w' => e = .returned (.bool true) ∧ Below w.heap.size w w' := by
  have HX1 := Aside0.mk (blk_new w (.cells #[.int .i64 o.k, .int .i64 o.a, .int .i64 o.n, .int .i64 o.m, .string o.s] 41))
  have HB1 := Aside0.mk (below2a w (.cells #[.int .i64 o.k, .int .i64 o.a, .int .i64 o.n, .int .i64 o.m, .string o.s] 41))
  have HA0 := Aside0.mk (pw_cell_below (below2a w (.cells #[.int .i64 o.k, .int .i64 o.a, .int .i64 o.n, .int .i64 o.m, .string o.s] 41)) h0)
  have HA2 := Aside0.mk (pw_cell_below (below2a w (.cells #[.int .i64 o.k, .int .i64 o.a, .int .i64 o.n, .int .i64 o.m, .string o.s] 41)) h2)
  clear h0 h2
  go_enter Try.func22, Try.ntmps22
  go_wp2_with fail
  generalize w.alloc (.cells #[.int .i64 o.k, .int .i64 o.a, .int .i64 o.n, .int .i64 o.m, .string o.s] 41) = w1 at *
  have y1 := blk_cell HX1.out 1
  have a0 := HA0.out
  go_quiet (first | (go_at_call 24; refine Calls.quiet_of_same (place_at o.a 1 hp _)))
  have HX2 := Aside0.mk (blk_below HX1.out (below_drewN w1 nq))
  have HB2 := Aside0.mk (below_step HB1.out (below_drewN w1 nq))
  have HA2' := Aside0.mk (pw_cell_below (below_drewN w1 nq) HA2.out)
  clear y1 a0 HX1 HB1 HA0 HA2
  generalize w1.drewN nq = w2 at *
  have y1 := blk_cell HX2.out 1
  have a2 := HA2'.out
  go_upto_region 2 with fail
  go_quiet (first | (go_at_call 24; refine Calls.quiet_of_same (place_at o.a 1 hp _)))
  have HX3 := Aside0.mk (blk_below HX2.out (below_drewN w2 nq))
  have HB3 := Aside0.mk (below_step HB2.out (below_drewN w2 nq))
  clear y1 a2 HX2 HB2 HA2'
  generalize w2.drewN nq = w3 at *
  have y0 := blk_cell HX3.out 0
  have y2 := blk_cell HX3.out 2
  have y3 := blk_cell HX3.out 3
  have y4 := blk_cell HX3.out 4
  go_wp2_with (first
    | (go_at_call 18; (with_reducible refine (copy_nil _ _).mono ?_); rintro e w' ⟨rfl, rfl⟩)
    | (go_at_call 42; (with_reducible refine (rcopy_nil _ _).mono ?_); rintro e w' ⟨rfl, rfl⟩)
    | (go_at_call 11; refine (num_calls _ _).mono ?_; rintro e w' ⟨rfl, rfl⟩))
  go_ret
  exact ⟨rfl, HB3.out⟩
set_option maxHeartbeats 8000000 in
set_option maxRecDepth 100000 in
theorem noplay_cut (m : Nat) (o : Mo) (w : World) (hp : plc o.a = 1) (h0 : w.cell? ⟨m, 1, none⟩ = some (.pointer none)) (h2 : w.cell? ⟨m, 3, none⟩ = some (.pointer none)) (k1 : (o.k == 1) = false) (k2 : (o.k == 2) = false) (k3 : (o.k == 3) = false) (k4 : (o.k == 4) = false) (k5 : (o.k == 5) = true) :
    Calls Try.prog 22 #[.pointer (some ⟨m, 0, none⟩), .agg #[.int .i64 o.k, .int .i64 o.a, .int .i64 o.n, .int .i64 o.m, .string o.s]] w fun e w' => e = .returned (.bool true) ∧ Below w.heap.size w w' := by
  have HX1 := Aside0.mk (blk_new w (.cells #[.int .i64 o.k, .int .i64 o.a, .int .i64 o.n, .int .i64 o.m, .string o.s] 41))
  have HB1 := Aside0.mk (below2a w (.cells #[.int .i64 o.k, .int .i64 o.a, .int .i64 o.n, .int .i64 o.m, .string o.s] 41))
  have HA0 := Aside0.mk (pw_cell_below (below2a w (.cells #[.int .i64 o.k, .int .i64 o.a, .int .i64 o.n, .int .i64 o.m, .string o.s] 41)) h0)
  have HA2 := Aside0.mk (pw_cell_below (below2a w (.cells #[.int .i64 o.k, .int .i64 o.a, .int .i64 o.n, .int .i64 o.m, .string o.s] 41)) h2)
  clear h0 h2
  go_enter Try.func22, Try.ntmps22
  go_wp2_with fail
  generalize w.alloc (.cells #[.int .i64 o.k, .int .i64 o.a, .int .i64 o.n, .int .i64 o.m, .string o.s] 41) = w1 at *
  have y1 := blk_cell HX1.out 1
  have a0 := HA0.out
  go_quiet (first | (go_at_call 24; refine Calls.quiet_of_same (place_at o.a 1 hp _)))
  have HX2 := Aside0.mk (blk_below HX1.out (below_drewN w1 nq))
  have HB2 := Aside0.mk (below_step HB1.out (below_drewN w1 nq))
  have HA2' := Aside0.mk (pw_cell_below (below_drewN w1 nq) HA2.out)
  clear y1 a0 HX1 HB1 HA0 HA2
  generalize w1.drewN nq = w2 at *
  have y1 := blk_cell HX2.out 1
  have a2 := HA2'.out
  go_upto_region 2 with fail
  go_quiet (first | (go_at_call 24; refine Calls.quiet_of_same (place_at o.a 1 hp _)))
  have HX3 := Aside0.mk (blk_below HX2.out (below_drewN w2 nq))
  have HB3 := Aside0.mk (below_step HB2.out (below_drewN w2 nq))
  clear y1 a2 HX2 HB2 HA2'
  generalize w2.drewN nq = w3 at *
  have y0 := blk_cell HX3.out 0
  have y2 := blk_cell HX3.out 2
  have y3 := blk_cell HX3.out 3
  have y4 := blk_cell HX3.out 4
  go_wp2_with (first
    | (go_at_call 15; (with_reducible refine (cut_nil _ _ _).mono ?_); rintro e w' ⟨rfl, rfl⟩)
    | (go_at_call 43; (with_reducible refine (rcut_nil _ _ _).mono ?_); rintro e w' ⟨rfl, rfl⟩)
    | (go_at_call 11; refine (num_calls _ _).mono ?_; rintro e w' ⟨rfl, rfl⟩))
  go_ret
  exact ⟨rfl, HB3.out⟩
set_option maxHeartbeats 8000000 in
set_option maxRecDepth 100000 in
theorem noplay_heal (m : Nat) (o : Mo) (w : World) (hp : plc o.a = 1) (h0 : w.cell? ⟨m, 1, none⟩ = some (.pointer none)) (h2 : w.cell? ⟨m, 3, none⟩ = some (.pointer none)) (k1 : (o.k == 1) = false) (k2 : (o.k == 2) = false) (k3 : (o.k == 3) = false) (k4 : (o.k == 4) = false) (k5 : (o.k == 5) = false) (k6 : (o.k == 6) = true) :
    Calls Try.prog 22 #[.pointer (some ⟨m, 0, none⟩), .agg #[.int .i64 o.k, .int .i64 o.a, .int .i64 o.n, .int .i64 o.m, .string o.s]] w fun e w' => e = .returned (.bool true) ∧ Below w.heap.size w w' := by
  have HX1 := Aside0.mk (blk_new w (.cells #[.int .i64 o.k, .int .i64 o.a, .int .i64 o.n, .int .i64 o.m, .string o.s] 41))
  have HB1 := Aside0.mk (below2a w (.cells #[.int .i64 o.k, .int .i64 o.a, .int .i64 o.n, .int .i64 o.m, .string o.s] 41))
  have HA0 := Aside0.mk (pw_cell_below (below2a w (.cells #[.int .i64 o.k, .int .i64 o.a, .int .i64 o.n, .int .i64 o.m, .string o.s] 41)) h0)
  have HA2 := Aside0.mk (pw_cell_below (below2a w (.cells #[.int .i64 o.k, .int .i64 o.a, .int .i64 o.n, .int .i64 o.m, .string o.s] 41)) h2)
  clear h0 h2
  go_enter Try.func22, Try.ntmps22
  go_wp2_with fail
  generalize w.alloc (.cells #[.int .i64 o.k, .int .i64 o.a, .int .i64 o.n, .int .i64 o.m, .string o.s] 41) = w1 at *
  have y1 := blk_cell HX1.out 1
  have a0 := HA0.out
  go_quiet (first | (go_at_call 24; refine Calls.quiet_of_same (place_at o.a 1 hp _)))
  have HX2 := Aside0.mk (blk_below HX1.out (below_drewN w1 nq))
  have HB2 := Aside0.mk (below_step HB1.out (below_drewN w1 nq))
  have HA2' := Aside0.mk (pw_cell_below (below_drewN w1 nq) HA2.out)
  clear y1 a0 HX1 HB1 HA0 HA2
  generalize w1.drewN nq = w2 at *
  have y1 := blk_cell HX2.out 1
  have a2 := HA2'.out
  go_upto_region 2 with fail
  go_quiet (first | (go_at_call 24; refine Calls.quiet_of_same (place_at o.a 1 hp _)))
  have HX3 := Aside0.mk (blk_below HX2.out (below_drewN w2 nq))
  have HB3 := Aside0.mk (below_step HB2.out (below_drewN w2 nq))
  clear y1 a2 HX2 HB2 HA2'
  generalize w2.drewN nq = w3 at *
  have y0 := blk_cell HX3.out 0
  have y2 := blk_cell HX3.out 2
  have y3 := blk_cell HX3.out 3
  have y4 := blk_cell HX3.out 4
  go_wp2_with (first
    | (go_at_call 19; (with_reducible refine (heal_nil _ _ _).mono ?_); rintro e w' ⟨rfl, rfl⟩)
    | (go_at_call 44; (with_reducible refine (rheal_nil _ _ _).mono ?_); rintro e w' ⟨rfl, rfl⟩)
    | (go_at_call 11; refine (num_calls _ _).mono ?_; rintro e w' ⟨rfl, rfl⟩))
  go_ret
  exact ⟨rfl, HB3.out⟩
set_option maxHeartbeats 8000000 in
set_option maxRecDepth 100000 in
theorem noplay_flying (m : Nat) (o : Mo) (w : World) (hp : plc o.a = 1) (h0 : w.cell? ⟨m, 1, none⟩ = some (.pointer none)) (h2 : w.cell? ⟨m, 3, none⟩ = some (.pointer none)) (k1 : (o.k == 1) = false) (k2 : (o.k == 2) = false) (k3 : (o.k == 3) = false) (k4 : (o.k == 4) = false) (k5 : (o.k == 5) = false) (k6 : (o.k == 6) = false) (k7 : (o.k == 7) = true) :
    Calls Try.prog 22 #[.pointer (some ⟨m, 0, none⟩), .agg #[.int .i64 o.k, .int .i64 o.a, .int .i64 o.n, .int .i64 o.m, .string o.s]] w fun e w' => e = .returned (.bool true) ∧ Below w.heap.size w w' := by
  have HX1 := Aside0.mk (blk_new w (.cells #[.int .i64 o.k, .int .i64 o.a, .int .i64 o.n, .int .i64 o.m, .string o.s] 41))
  have HB1 := Aside0.mk (below2a w (.cells #[.int .i64 o.k, .int .i64 o.a, .int .i64 o.n, .int .i64 o.m, .string o.s] 41))
  have HA0 := Aside0.mk (pw_cell_below (below2a w (.cells #[.int .i64 o.k, .int .i64 o.a, .int .i64 o.n, .int .i64 o.m, .string o.s] 41)) h0)
  have HA2 := Aside0.mk (pw_cell_below (below2a w (.cells #[.int .i64 o.k, .int .i64 o.a, .int .i64 o.n, .int .i64 o.m, .string o.s] 41)) h2)
  clear h0 h2
  go_enter Try.func22, Try.ntmps22
  go_wp2_with fail
  generalize w.alloc (.cells #[.int .i64 o.k, .int .i64 o.a, .int .i64 o.n, .int .i64 o.m, .string o.s] 41) = w1 at *
  have y1 := blk_cell HX1.out 1
  have a0 := HA0.out
  go_quiet (first | (go_at_call 24; refine Calls.quiet_of_same (place_at o.a 1 hp _)))
  have HX2 := Aside0.mk (blk_below HX1.out (below_drewN w1 nq))
  have HB2 := Aside0.mk (below_step HB1.out (below_drewN w1 nq))
  have HA2' := Aside0.mk (pw_cell_below (below_drewN w1 nq) HA2.out)
  clear y1 a0 HX1 HB1 HA0 HA2
  generalize w1.drewN nq = w2 at *
  have y1 := blk_cell HX2.out 1
  have a2 := HA2'.out
  go_upto_region 2 with fail
  go_quiet (first | (go_at_call 24; refine Calls.quiet_of_same (place_at o.a 1 hp _)))
  have HX3 := Aside0.mk (blk_below HX2.out (below_drewN w2 nq))
  have HB3 := Aside0.mk (below_step HB2.out (below_drewN w2 nq))
  clear y1 a2 HX2 HB2 HA2'
  generalize w2.drewN nq = w3 at *
  have y0 := blk_cell HX3.out 0
  have y2 := blk_cell HX3.out 2
  have y3 := blk_cell HX3.out 3
  have y4 := blk_cell HX3.out 4
  go_wp2_with (first
    | (go_at_call 25; (with_reducible refine (flying_nil _).mono ?_); rintro e w' ⟨rfl, rfl⟩)
    | (go_at_call 27; (with_reducible refine (rflying_nil _).mono ?_); rintro e w' ⟨rfl, rfl⟩)
    | (go_at_call 26; (with_reducible refine (same_nil _).mono ?_); rintro e w4 ⟨rfl, hb⟩; have HB4 := Aside0.mk (below_step HB3.out hb); clear hb))
  go_ret
  exact ⟨rfl, HB4.out⟩
set_option maxHeartbeats 8000000 in
set_option maxRecDepth 100000 in
theorem noplay_count (m : Nat) (o : Mo) (w : World) (hp : plc o.a = 1) (h0 : w.cell? ⟨m, 1, none⟩ = some (.pointer none)) (h2 : w.cell? ⟨m, 3, none⟩ = some (.pointer none)) (k1 : (o.k == 1) = false) (k2 : (o.k == 2) = false) (k3 : (o.k == 3) = false) (k4 : (o.k == 4) = false) (k5 : (o.k == 5) = false) (k6 : (o.k == 6) = false) (k7 : (o.k == 7) = false) (k8 : (o.k == 8) = true) :
    Calls Try.prog 22 #[.pointer (some ⟨m, 0, none⟩), .agg #[.int .i64 o.k, .int .i64 o.a, .int .i64 o.n, .int .i64 o.m, .string o.s]] w fun e w' => e = .returned (.bool true) ∧ Below w.heap.size w w' := by
  have HX1 := Aside0.mk (blk_new w (.cells #[.int .i64 o.k, .int .i64 o.a, .int .i64 o.n, .int .i64 o.m, .string o.s] 41))
  have HB1 := Aside0.mk (below2a w (.cells #[.int .i64 o.k, .int .i64 o.a, .int .i64 o.n, .int .i64 o.m, .string o.s] 41))
  have HA0 := Aside0.mk (pw_cell_below (below2a w (.cells #[.int .i64 o.k, .int .i64 o.a, .int .i64 o.n, .int .i64 o.m, .string o.s] 41)) h0)
  have HA2 := Aside0.mk (pw_cell_below (below2a w (.cells #[.int .i64 o.k, .int .i64 o.a, .int .i64 o.n, .int .i64 o.m, .string o.s] 41)) h2)
  clear h0 h2
  go_enter Try.func22, Try.ntmps22
  go_wp2_with fail
  generalize w.alloc (.cells #[.int .i64 o.k, .int .i64 o.a, .int .i64 o.n, .int .i64 o.m, .string o.s] 41) = w1 at *
  have y1 := blk_cell HX1.out 1
  have a0 := HA0.out
  go_quiet (first | (go_at_call 24; refine Calls.quiet_of_same (place_at o.a 1 hp _)))
  have HX2 := Aside0.mk (blk_below HX1.out (below_drewN w1 nq))
  have HB2 := Aside0.mk (below_step HB1.out (below_drewN w1 nq))
  have HA2' := Aside0.mk (pw_cell_below (below_drewN w1 nq) HA2.out)
  clear y1 a0 HX1 HB1 HA0 HA2
  generalize w1.drewN nq = w2 at *
  have y1 := blk_cell HX2.out 1
  have a2 := HA2'.out
  go_upto_region 2 with fail
  go_quiet (first | (go_at_call 24; refine Calls.quiet_of_same (place_at o.a 1 hp _)))
  have HX3 := Aside0.mk (blk_below HX2.out (below_drewN w2 nq))
  have HB3 := Aside0.mk (below_step HB2.out (below_drewN w2 nq))
  clear y1 a2 HX2 HB2 HA2'
  generalize w2.drewN nq = w3 at *
  have y0 := blk_cell HX3.out 0
  have y2 := blk_cell HX3.out 2
  have y3 := blk_cell HX3.out 3
  have y4 := blk_cell HX3.out 4
  go_wp2_with (first
    | (go_at_call 14; (with_reducible refine (count_nil _).mono ?_); rintro e w' ⟨rfl, rfl⟩)
    | (go_at_call 45; (with_reducible refine (rcount_nil _).mono ?_); rintro e w' ⟨rfl, rfl⟩)
    | (go_at_call 11; refine (num_calls _ _).mono ?_; rintro e w' ⟨rfl, rfl⟩))
  go_ret
  exact ⟨rfl, HB3.out⟩
set_option maxHeartbeats 8000000 in
set_option maxRecDepth 100000 in
theorem noplay_sent (m : Nat) (o : Mo) (w : World) (hp : plc o.a = 1) (h0 : w.cell? ⟨m, 1, none⟩ = some (.pointer none)) (h2 : w.cell? ⟨m, 3, none⟩ = some (.pointer none)) (k1 : (o.k == 1) = false) (k2 : (o.k == 2) = false) (k3 : (o.k == 3) = false) (k4 : (o.k == 4) = false) (k5 : (o.k == 5) = false) (k6 : (o.k == 6) = false) (k7 : (o.k == 7) = false) (k8 : (o.k == 8) = false) (k9 : (o.k == 9) = true) :
    Calls Try.prog 22 #[.pointer (some ⟨m, 0, none⟩), .agg #[.int .i64 o.k, .int .i64 o.a, .int .i64 o.n, .int .i64 o.m, .string o.s]] w fun e w' => e = .returned (.bool true) ∧ Below w.heap.size w w' := by
  have HX1 := Aside0.mk (blk_new w (.cells #[.int .i64 o.k, .int .i64 o.a, .int .i64 o.n, .int .i64 o.m, .string o.s] 41))
  have HB1 := Aside0.mk (below2a w (.cells #[.int .i64 o.k, .int .i64 o.a, .int .i64 o.n, .int .i64 o.m, .string o.s] 41))
  have HA0 := Aside0.mk (pw_cell_below (below2a w (.cells #[.int .i64 o.k, .int .i64 o.a, .int .i64 o.n, .int .i64 o.m, .string o.s] 41)) h0)
  have HA2 := Aside0.mk (pw_cell_below (below2a w (.cells #[.int .i64 o.k, .int .i64 o.a, .int .i64 o.n, .int .i64 o.m, .string o.s] 41)) h2)
  clear h0 h2
  go_enter Try.func22, Try.ntmps22
  go_wp2_with fail
  generalize w.alloc (.cells #[.int .i64 o.k, .int .i64 o.a, .int .i64 o.n, .int .i64 o.m, .string o.s] 41) = w1 at *
  have y1 := blk_cell HX1.out 1
  have a0 := HA0.out
  go_quiet (first | (go_at_call 24; refine Calls.quiet_of_same (place_at o.a 1 hp _)))
  have HX2 := Aside0.mk (blk_below HX1.out (below_drewN w1 nq))
  have HB2 := Aside0.mk (below_step HB1.out (below_drewN w1 nq))
  have HA2' := Aside0.mk (pw_cell_below (below_drewN w1 nq) HA2.out)
  clear y1 a0 HX1 HB1 HA0 HA2
  generalize w1.drewN nq = w2 at *
  have y1 := blk_cell HX2.out 1
  have a2 := HA2'.out
  go_upto_region 2 with fail
  go_quiet (first | (go_at_call 24; refine Calls.quiet_of_same (place_at o.a 1 hp _)))
  have HX3 := Aside0.mk (blk_below HX2.out (below_drewN w2 nq))
  have HB3 := Aside0.mk (below_step HB2.out (below_drewN w2 nq))
  clear y1 a2 HX2 HB2 HA2'
  generalize w2.drewN nq = w3 at *
  have y0 := blk_cell HX3.out 0
  have y2 := blk_cell HX3.out 2
  have y3 := blk_cell HX3.out 3
  have y4 := blk_cell HX3.out 4
  go_wp2_with (first
    | (go_at_call 30; (with_reducible refine (sent_nil _).mono ?_); rintro e w' ⟨rfl, rfl⟩)
    | (go_at_call 46; (with_reducible refine (rsent_nil _).mono ?_); rintro e w' ⟨rfl, rfl⟩)
    | (go_at_call 11; refine (num_calls _ _).mono ?_; rintro e w' ⟨rfl, rfl⟩))
  go_ret
  exact ⟨rfl, HB3.out⟩
set_option maxHeartbeats 8000000 in
set_option maxRecDepth 100000 in
theorem noplay_other (m : Nat) (o : Mo) (w : World) (hp : plc o.a = 1) (h0 : w.cell? ⟨m, 1, none⟩ = some (.pointer none)) (h2 : w.cell? ⟨m, 3, none⟩ = some (.pointer none)) (k1 : (o.k == 1) = false) (k2 : (o.k == 2) = false) (k3 : (o.k == 3) = false) (k4 : (o.k == 4) = false) (k5 : (o.k == 5) = false) (k6 : (o.k == 6) = false) (k7 : (o.k == 7) = false) (k8 : (o.k == 8) = false) (k9 : (o.k == 9) = false) :
    Calls Try.prog 22 #[.pointer (some ⟨m, 0, none⟩), .agg #[.int .i64 o.k, .int .i64 o.a, .int .i64 o.n, .int .i64 o.m, .string o.s]] w fun e w' => e = .returned (.bool true) ∧ Below w.heap.size w w' := by
  have HX1 := Aside0.mk (blk_new w (.cells #[.int .i64 o.k, .int .i64 o.a, .int .i64 o.n, .int .i64 o.m, .string o.s] 41))
  have HB1 := Aside0.mk (below2a w (.cells #[.int .i64 o.k, .int .i64 o.a, .int .i64 o.n, .int .i64 o.m, .string o.s] 41))
  have HA0 := Aside0.mk (pw_cell_below (below2a w (.cells #[.int .i64 o.k, .int .i64 o.a, .int .i64 o.n, .int .i64 o.m, .string o.s] 41)) h0)
  have HA2 := Aside0.mk (pw_cell_below (below2a w (.cells #[.int .i64 o.k, .int .i64 o.a, .int .i64 o.n, .int .i64 o.m, .string o.s] 41)) h2)
  clear h0 h2
  go_enter Try.func22, Try.ntmps22
  go_wp2_with fail
  generalize w.alloc (.cells #[.int .i64 o.k, .int .i64 o.a, .int .i64 o.n, .int .i64 o.m, .string o.s] 41) = w1 at *
  have y1 := blk_cell HX1.out 1
  have a0 := HA0.out
  go_quiet (first | (go_at_call 24; refine Calls.quiet_of_same (place_at o.a 1 hp _)))
  have HX2 := Aside0.mk (blk_below HX1.out (below_drewN w1 nq))
  have HB2 := Aside0.mk (below_step HB1.out (below_drewN w1 nq))
  have HA2' := Aside0.mk (pw_cell_below (below_drewN w1 nq) HA2.out)
  clear y1 a0 HX1 HB1 HA0 HA2
  generalize w1.drewN nq = w2 at *
  have y1 := blk_cell HX2.out 1
  have a2 := HA2'.out
  go_upto_region 2 with fail
  go_quiet (first | (go_at_call 24; refine Calls.quiet_of_same (place_at o.a 1 hp _)))
  have HX3 := Aside0.mk (blk_below HX2.out (below_drewN w2 nq))
  have HB3 := Aside0.mk (below_step HB2.out (below_drewN w2 nq))
  clear y1 a2 HX2 HB2 HA2'
  generalize w2.drewN nq = w3 at *
  have y0 := blk_cell HX3.out 0
  have y2 := blk_cell HX3.out 2
  have y3 := blk_cell HX3.out 3
  have y4 := blk_cell HX3.out 4
  go_wp2_with fail
  go_ret
  exact ⟨rfl, HB3.out⟩
theorem plays_nil (m : Nat) (o : Mo) (w : World) (hp : plc o.a = 1) (h0 : w.cell? ⟨m, 1, none⟩ = some (.pointer none)) (h2 : w.cell? ⟨m, 3, none⟩ = some (.pointer none)) :
    Calls Try.prog 22 #[.pointer (some ⟨m, 0, none⟩), .agg #[.int .i64 o.k, .int .i64 o.a, .int .i64 o.n, .int .i64 o.m, .string o.s]] w fun e w' => e = .returned (.bool true) ∧ Below w.heap.size w w' := by
  have ht : ∀ i : Int, o.k = i → (o.k == i) = true := fun i h => by simp [h]
  have hf : ∀ i : Int, o.k ≠ i → (o.k == i) = false := fun i h => by simp [h]
  by_cases c1 : o.k = 1
  · exact noplay_send m o w hp h0 h2  (ht 1 c1)
  by_cases c2 : o.k = 2
  · exact noplay_deliver m o w hp h0 h2 (hf 1 c1) (ht 2 c2)
  by_cases c3 : o.k = 3
  · exact noplay_drop m o w hp h0 h2 (hf 1 c1) (hf 2 c2) (ht 3 c3)
  by_cases c4 : o.k = 4
  · exact noplay_copy m o w hp h0 h2 (hf 1 c1) (hf 2 c2) (hf 3 c3) (ht 4 c4)
  by_cases c5 : o.k = 5
  · exact noplay_cut m o w hp h0 h2 (hf 1 c1) (hf 2 c2) (hf 3 c3) (hf 4 c4) (ht 5 c5)
  by_cases c6 : o.k = 6
  · exact noplay_heal m o w hp h0 h2 (hf 1 c1) (hf 2 c2) (hf 3 c3) (hf 4 c4) (hf 5 c5) (ht 6 c6)
  by_cases c7 : o.k = 7
  · exact noplay_flying m o w hp h0 h2 (hf 1 c1) (hf 2 c2) (hf 3 c3) (hf 4 c4) (hf 5 c5) (hf 6 c6) (ht 7 c7)
  by_cases c8 : o.k = 8
  · exact noplay_count m o w hp h0 h2 (hf 1 c1) (hf 2 c2) (hf 3 c3) (hf 4 c4) (hf 5 c5) (hf 6 c6) (hf 7 c7) (ht 8 c8)
  by_cases c9 : o.k = 9
  · exact noplay_sent m o w hp h0 h2 (hf 1 c1) (hf 2 c2) (hf 3 c3) (hf 4 c4) (hf 5 c5) (hf 6 c6) (hf 7 c7) (hf 8 c8) (ht 9 c9)
  exact noplay_other m o w hp h0 h2 (hf 1 c1) (hf 2 c2) (hf 3 c3) (hf 4 c4) (hf 5 c5) (hf 6 c6) (hf 7 c7) (hf 8 c8) (hf 9 c9)

end Go.Proofs.Ytadbcekglcmccaa.Q
