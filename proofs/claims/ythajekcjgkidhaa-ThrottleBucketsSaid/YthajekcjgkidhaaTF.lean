/- Contract of (*pails).plays at a place that holds nothing: the answers are alike. No condition. -/
import Derived.Test.YthajekcjgkidhaaProg
import Derived.Below
import Derived.Deep.Draws
import Derived.Deep.AppendLies
import Derived.Maps.AppendAt
import Derived.OwnWalk
import Derived.Laws.BytesArg
import Derived.Laws.MakeOwn
import Derived.Laws.OwnMore
import Derived.Deep.OwnRows
import Derived.Tactics
import Derived.Lib.ConvBytes
import Derived.Laws.Slices
import Derived.WalkKit
import Derived.KernelRfl
import Derived.RowKit3
import Derived.Deep.LoopGhost
import Derived.Deep.QuietTactic
import Derived.BigQuiet
import Derived.WideLaws
import Derived.Deep.DeepCutAuto
import Derived.Deep.CutBlock
import Derived.Deep.RegionHeld3
import Derived.Laws.Rows
import Derived.Lib.AppendStr
import Derived.ArgAppend
import Derived.Laws.IdiomCopy
import Derived.OrdersHeld
import Derived.Laws.BitsLemmas
import Derived.RowKit
import Derived.Test.YthajekcjgkidhaaWWords
import Derived.Test.YthajekcjgkidhaaWLast
import Derived.Test.YthajekcjgkidhaaWTab
import Derived.Test.YthajekcjgkidhaaWFour
import Derived.Test.YthajekcjgkidhaaWQPut
import Derived.Test.YthajekcjgkidhaaWApart
import Derived.Test.YthajekcjgkidhaaWArr
import Derived.Test.YthajekcjgkidhaaWZeros
import Derived.Test.YthajekcjgkidhaaWFoot
import Derived.Test.YthajekcjgkidhaaWKept
import Derived.Test.YthajekcjgkidhaaWShare
import Derived.Test.YthajekcjgkidhaaWN
import Derived.Test.YthajekcjgkidhaaWFootNe
import Derived.Test.YthajekcjgkidhaaWAt
import Derived.Test.YthajekcjgkidhaaWEqStruct
import Derived.Test.YthajekcjgkidhaaWRepsOne
import Derived.Test.YthajekcjgkidhaaWInv
import Derived.Test.YthajekcjgkidhaaWInvWords
import Derived.Test.YthajekcjgkidhaaWGuard
import Derived.Test.YthajekcjgkidhaaWNEv
import Derived.Test.YthajekcjgkidhaaWMore
import Derived.Test.YthajekcjgkidhaaLocks
import Derived.Conc.MuLone
import Derived.Test.YthajekcjgkidhaaTE
set_option linter.unusedVariables false
set_option linter.unusedSimpArgs false
namespace Go.Proofs.Ythajekcjgkidhaa.Q
open Go.RowKit Go.Proofs.YthajekcjgkidhaaW.PrintWords Go.Proofs.YthajekcjgkidhaaW.PrintLast Go.Proofs.YthajekcjgkidhaaW.PrintMore
open Go.MuLone

/-- What a step of plays reads where the place holds no bucket. -/
structure PN (w W : World) (m ix c : Nat) (o : Op5) : Prop where
  bx : W.heap[c]? = some (.cells #[.int .i64 o.k, .int .i64 o.a, .int .i64 o.n, .int .i64 o.d, .int .i64 o.f] 37 (0, 0))
  a0 : W.cell? ⟨m, ix, none⟩ = some (.pointer none)
  a2 : W.cell? ⟨m, 2 + ix, none⟩ = some (.pointer none)
  bu : Below w.heap.size w W
theorem PN.drewN {w W : World} {m ix c : Nat} {o : Op5} (h : PN w W m ix c o) (n : Nat) : PN w (W.drewN n) m ix c o :=
  ⟨h.bx, h.a0, h.a2, ⟨h.bu.1, h.bu.2, h.bu.3, h.bu.4, h.bu.5⟩⟩
theorem playsn_start (m ix : Nat) (o : Op5) (w : World) (h0 : w.cell? ⟨m, ix, none⟩ = some (.pointer none)) (h2 : w.cell? ⟨m, 2 + ix, none⟩ = some (.pointer none)) :
    PN w (w.alloc (.cells #[.int .i64 o.k, .int .i64 o.a, .int .i64 o.n, .int .i64 o.d, .int .i64 o.f] 37)) m ix w.heap.size o :=
  ⟨blk_new w _, pw_cell_below ((Below.refl _ _).alloc (Nat.le_refl _) _) h0, pw_cell_below ((Below.refl _ _).alloc (Nat.le_refl _) _) h2, (Below.refl _ _).alloc (Nat.le_refl _) _⟩


set_option maxHeartbeats 4000000 in
set_option maxRecDepth 100000 in
theorem playsn_tick0 (m : Nat) (o : Op5) (w : World) (hp : plc o.a = 0) (k1 : (o.k == 1) = true)
    (h0 : w.cell? ⟨m, 0, none⟩ = some (.pointer none)) (h2 : w.cell? ⟨m, 2, none⟩ = some (.pointer none)) :
    Calls Try.prog 27 #[.pointer (some ⟨m, 0, none⟩), .agg #[.int .i64 o.k, .int .i64 o.a, .int .i64 o.n, .int .i64 o.d, .int .i64 o.f]] w fun e w' => e = .returned (.bool true) ∧ Below w.heap.size w w' := by
  have hs := playsn_start m 0 o w h0 h2
  go_enter Try.func27, Try.ntmps27
  go_wp2_with fail
  generalize hw1 : w.alloc (.cells #[.int .i64 o.k, .int .i64 o.a, .int .i64 o.n, .int .i64 o.d, .int .i64 o.f] 37) = w1 at *
  clear hw1
  have x1 := blk_cell hs.bx 1
  have a0 := hs.a0
  have HS := Aside0.mk hs
  clear h0 h2 hs
  go_quiet (first | (go_at_call 30; refine Calls.quiet_of_same (place0 o.a hp _)))
  have hs := HS.out.drewN nq
  generalize w1.drewN nq = w2 at *
  clear a0 x1 HS
  have x1 := blk_cell hs.bx 1
  have a2 : w2.cell? ⟨m, 2, none⟩ = some (.pointer none) := hs.a2
  have HS := Aside0.mk hs
  clear hs
  go_wp2_with fail
  go_quiet (first | (go_at_call 30; refine Calls.quiet_of_same (place0 o.a hp _)))
  have hs := HS.out.drewN nq
  generalize w2.drewN nq = w3 at *
  clear a2 x1 HS
  have x0 := blk_cell hs.bx 0
  have x2 := blk_cell hs.bx 2
  have HS := Aside0.mk hs
  clear hs
  go_wp2_with (first
    | (go_at_call 22; refine (tick_nil o.n _).mono ?_; rintro e w' ⟨rfl, rfl⟩)
    | (go_at_call 38; refine (rtick_nil o.n _).mono ?_; rintro e w' ⟨rfl, rfl⟩)
    | (go_at_call 14; refine (num_calls _ _).mono ?_; rintro e w' ⟨rfl, rfl⟩))
  go_ret
  exact ⟨rfl, HS.out.bu⟩

set_option maxHeartbeats 4000000 in
set_option maxRecDepth 100000 in
theorem playsn_take0 (m : Nat) (o : Op5) (w : World) (hp : plc o.a = 0) (k1 : (o.k == 1) = false) (k2 : (o.k == 2) = true)
    (h0 : w.cell? ⟨m, 0, none⟩ = some (.pointer none)) (h2 : w.cell? ⟨m, 2, none⟩ = some (.pointer none)) :
    Calls Try.prog 27 #[.pointer (some ⟨m, 0, none⟩), .agg #[.int .i64 o.k, .int .i64 o.a, .int .i64 o.n, .int .i64 o.d, .int .i64 o.f]] w fun e w' => e = .returned (.bool true) ∧ Below w.heap.size w w' := by
  have hs := playsn_start m 0 o w h0 h2
  go_enter Try.func27, Try.ntmps27
  go_wp2_with fail
  generalize hw1 : w.alloc (.cells #[.int .i64 o.k, .int .i64 o.a, .int .i64 o.n, .int .i64 o.d, .int .i64 o.f] 37) = w1 at *
  clear hw1
  have x1 := blk_cell hs.bx 1
  have a0 := hs.a0
  have HS := Aside0.mk hs
  clear h0 h2 hs
  go_quiet (first | (go_at_call 30; refine Calls.quiet_of_same (place0 o.a hp _)))
  have hs := HS.out.drewN nq
  generalize w1.drewN nq = w2 at *
  clear a0 x1 HS
  have x1 := blk_cell hs.bx 1
  have a2 : w2.cell? ⟨m, 2, none⟩ = some (.pointer none) := hs.a2
  have HS := Aside0.mk hs
  clear hs
  go_wp2_with fail
  go_quiet (first | (go_at_call 30; refine Calls.quiet_of_same (place0 o.a hp _)))
  have hs := HS.out.drewN nq
  generalize w2.drewN nq = w3 at *
  clear a2 x1 HS
  have x0 := blk_cell hs.bx 0
  have x2 := blk_cell hs.bx 2
  have HS := Aside0.mk hs
  clear hs
  go_wp2_with (first
    | (go_at_call 21; refine (take_nil o.n _).mono ?_; rintro e w' ⟨rfl, rfl⟩)
    | (go_at_call 39; refine (rtake_nil o.n _).mono ?_; rintro e w' ⟨rfl, rfl⟩)
    | (go_at_call 14; refine (num_calls _ _).mono ?_; rintro e w' ⟨rfl, rfl⟩))
  go_ret
  exact ⟨rfl, HS.out.bu⟩

set_option maxHeartbeats 4000000 in
set_option maxRecDepth 100000 in
theorem playsn_wait0 (m : Nat) (o : Op5) (w : World) (hp : plc o.a = 0) (k1 : (o.k == 1) = false) (k2 : (o.k == 2) = false) (k3 : (o.k == 3) = true)
    (h0 : w.cell? ⟨m, 0, none⟩ = some (.pointer none)) (h2 : w.cell? ⟨m, 2, none⟩ = some (.pointer none)) :
    Calls Try.prog 27 #[.pointer (some ⟨m, 0, none⟩), .agg #[.int .i64 o.k, .int .i64 o.a, .int .i64 o.n, .int .i64 o.d, .int .i64 o.f]] w fun e w' => e = .returned (.bool true) ∧ Below w.heap.size w w' := by
  have hs := playsn_start m 0 o w h0 h2
  go_enter Try.func27, Try.ntmps27
  go_wp2_with fail
  generalize hw1 : w.alloc (.cells #[.int .i64 o.k, .int .i64 o.a, .int .i64 o.n, .int .i64 o.d, .int .i64 o.f] 37) = w1 at *
  clear hw1
  have x1 := blk_cell hs.bx 1
  have a0 := hs.a0
  have HS := Aside0.mk hs
  clear h0 h2 hs
  go_quiet (first | (go_at_call 30; refine Calls.quiet_of_same (place0 o.a hp _)))
  have hs := HS.out.drewN nq
  generalize w1.drewN nq = w2 at *
  clear a0 x1 HS
  have x1 := blk_cell hs.bx 1
  have a2 : w2.cell? ⟨m, 2, none⟩ = some (.pointer none) := hs.a2
  have HS := Aside0.mk hs
  clear hs
  go_wp2_with fail
  go_quiet (first | (go_at_call 30; refine Calls.quiet_of_same (place0 o.a hp _)))
  have hs := HS.out.drewN nq
  generalize w2.drewN nq = w3 at *
  clear a2 x1 HS
  have x0 := blk_cell hs.bx 0
  have x2 := blk_cell hs.bx 2
  have HS := Aside0.mk hs
  clear hs
  go_wp2_with (first
    | (go_at_call 23; refine (wait_nil o.n _).mono ?_; rintro e w' ⟨rfl, rfl⟩)
    | (go_at_call 40; refine (rwait_nil o.n _).mono ?_; rintro e w' ⟨rfl, rfl⟩)
    | (go_at_call 14; refine (num_calls _ _).mono ?_; rintro e w' ⟨rfl, rfl⟩))
  go_ret
  exact ⟨rfl, HS.out.bu⟩

set_option maxHeartbeats 4000000 in
set_option maxRecDepth 100000 in
theorem playsn_level0 (m : Nat) (o : Op5) (w : World) (hp : plc o.a = 0) (k1 : (o.k == 1) = false) (k2 : (o.k == 2) = false) (k3 : (o.k == 3) = false) (k4 : (o.k == 4) = true)
    (h0 : w.cell? ⟨m, 0, none⟩ = some (.pointer none)) (h2 : w.cell? ⟨m, 2, none⟩ = some (.pointer none)) :
    Calls Try.prog 27 #[.pointer (some ⟨m, 0, none⟩), .agg #[.int .i64 o.k, .int .i64 o.a, .int .i64 o.n, .int .i64 o.d, .int .i64 o.f]] w fun e w' => e = .returned (.bool true) ∧ Below w.heap.size w w' := by
  have hs := playsn_start m 0 o w h0 h2
  go_enter Try.func27, Try.ntmps27
  go_wp2_with fail
  generalize hw1 : w.alloc (.cells #[.int .i64 o.k, .int .i64 o.a, .int .i64 o.n, .int .i64 o.d, .int .i64 o.f] 37) = w1 at *
  clear hw1
  have x1 := blk_cell hs.bx 1
  have a0 := hs.a0
  have HS := Aside0.mk hs
  clear h0 h2 hs
  go_quiet (first | (go_at_call 30; refine Calls.quiet_of_same (place0 o.a hp _)))
  have hs := HS.out.drewN nq
  generalize w1.drewN nq = w2 at *
  clear a0 x1 HS
  have x1 := blk_cell hs.bx 1
  have a2 : w2.cell? ⟨m, 2, none⟩ = some (.pointer none) := hs.a2
  have HS := Aside0.mk hs
  clear hs
  go_wp2_with fail
  go_quiet (first | (go_at_call 30; refine Calls.quiet_of_same (place0 o.a hp _)))
  have hs := HS.out.drewN nq
  generalize w2.drewN nq = w3 at *
  clear a2 x1 HS
  have x0 := blk_cell hs.bx 0
  have x2 := blk_cell hs.bx 2
  have HS := Aside0.mk hs
  clear hs
  go_wp2_with (first
    | (go_at_call 28; refine (level_nil _).mono ?_; rintro e w' ⟨rfl, rfl⟩)
    | (go_at_call 41; refine (rlevel_nil _).mono ?_; rintro e w' ⟨rfl, rfl⟩)
    | (go_at_call 14; refine (num_calls _ _).mono ?_; rintro e w' ⟨rfl, rfl⟩))
  go_ret
  exact ⟨rfl, HS.out.bu⟩

set_option maxHeartbeats 4000000 in
set_option maxRecDepth 100000 in
theorem playsn_idle0 (m : Nat) (o : Op5) (w : World) (hp : plc o.a = 0) (k1 : (o.k == 1) = false) (k2 : (o.k == 2) = false) (k3 : (o.k == 3) = false) (k4 : (o.k == 4) = false)
    (h0 : w.cell? ⟨m, 0, none⟩ = some (.pointer none)) (h2 : w.cell? ⟨m, 2, none⟩ = some (.pointer none)) :
    Calls Try.prog 27 #[.pointer (some ⟨m, 0, none⟩), .agg #[.int .i64 o.k, .int .i64 o.a, .int .i64 o.n, .int .i64 o.d, .int .i64 o.f]] w fun e w' => e = .returned (.bool true) ∧ Below w.heap.size w w' := by
  have hs := playsn_start m 0 o w h0 h2
  go_enter Try.func27, Try.ntmps27
  go_wp2_with fail
  generalize hw1 : w.alloc (.cells #[.int .i64 o.k, .int .i64 o.a, .int .i64 o.n, .int .i64 o.d, .int .i64 o.f] 37) = w1 at *
  clear hw1
  have x1 := blk_cell hs.bx 1
  have a0 := hs.a0
  have HS := Aside0.mk hs
  clear h0 h2 hs
  go_quiet (first | (go_at_call 30; refine Calls.quiet_of_same (place0 o.a hp _)))
  have hs := HS.out.drewN nq
  generalize w1.drewN nq = w2 at *
  clear a0 x1 HS
  have x1 := blk_cell hs.bx 1
  have a2 : w2.cell? ⟨m, 2, none⟩ = some (.pointer none) := hs.a2
  have HS := Aside0.mk hs
  clear hs
  go_wp2_with fail
  go_quiet (first | (go_at_call 30; refine Calls.quiet_of_same (place0 o.a hp _)))
  have hs := HS.out.drewN nq
  generalize w2.drewN nq = w3 at *
  clear a2 x1 HS
  have x0 := blk_cell hs.bx 0
  have x2 := blk_cell hs.bx 2
  have HS := Aside0.mk hs
  clear hs
  go_wp2_with fail
  go_ret
  exact ⟨rfl, HS.out.bu⟩

set_option maxHeartbeats 4000000 in
set_option maxRecDepth 100000 in
theorem playsn_tick1 (m : Nat) (o : Op5) (w : World) (hp : plc o.a = 1) (k1 : (o.k == 1) = true)
    (h0 : w.cell? ⟨m, 1, none⟩ = some (.pointer none)) (h2 : w.cell? ⟨m, 3, none⟩ = some (.pointer none)) :
    Calls Try.prog 27 #[.pointer (some ⟨m, 0, none⟩), .agg #[.int .i64 o.k, .int .i64 o.a, .int .i64 o.n, .int .i64 o.d, .int .i64 o.f]] w fun e w' => e = .returned (.bool true) ∧ Below w.heap.size w w' := by
  have hs := playsn_start m 1 o w h0 h2
  go_enter Try.func27, Try.ntmps27
  go_wp2_with fail
  generalize hw1 : w.alloc (.cells #[.int .i64 o.k, .int .i64 o.a, .int .i64 o.n, .int .i64 o.d, .int .i64 o.f] 37) = w1 at *
  clear hw1
  have x1 := blk_cell hs.bx 1
  have a0 := hs.a0
  have HS := Aside0.mk hs
  clear h0 h2 hs
  go_quiet (first | (go_at_call 30; refine Calls.quiet_of_same (place1 o.a hp _)))
  have hs := HS.out.drewN nq
  generalize w1.drewN nq = w2 at *
  clear a0 x1 HS
  have x1 := blk_cell hs.bx 1
  have a2 : w2.cell? ⟨m, 3, none⟩ = some (.pointer none) := hs.a2
  have HS := Aside0.mk hs
  clear hs
  go_wp2_with fail
  go_quiet (first | (go_at_call 30; refine Calls.quiet_of_same (place1 o.a hp _)))
  have hs := HS.out.drewN nq
  generalize w2.drewN nq = w3 at *
  clear a2 x1 HS
  have x0 := blk_cell hs.bx 0
  have x2 := blk_cell hs.bx 2
  have HS := Aside0.mk hs
  clear hs
  go_wp2_with (first
    | (go_at_call 22; refine (tick_nil o.n _).mono ?_; rintro e w' ⟨rfl, rfl⟩)
    | (go_at_call 38; refine (rtick_nil o.n _).mono ?_; rintro e w' ⟨rfl, rfl⟩)
    | (go_at_call 14; refine (num_calls _ _).mono ?_; rintro e w' ⟨rfl, rfl⟩))
  go_ret
  exact ⟨rfl, HS.out.bu⟩

set_option maxHeartbeats 4000000 in
set_option maxRecDepth 100000 in
theorem playsn_take1 (m : Nat) (o : Op5) (w : World) (hp : plc o.a = 1) (k1 : (o.k == 1) = false) (k2 : (o.k == 2) = true)
    (h0 : w.cell? ⟨m, 1, none⟩ = some (.pointer none)) (h2 : w.cell? ⟨m, 3, none⟩ = some (.pointer none)) :
    Calls Try.prog 27 #[.pointer (some ⟨m, 0, none⟩), .agg #[.int .i64 o.k, .int .i64 o.a, .int .i64 o.n, .int .i64 o.d, .int .i64 o.f]] w fun e w' => e = .returned (.bool true) ∧ Below w.heap.size w w' := by
  have hs := playsn_start m 1 o w h0 h2
  go_enter Try.func27, Try.ntmps27
  go_wp2_with fail
  generalize hw1 : w.alloc (.cells #[.int .i64 o.k, .int .i64 o.a, .int .i64 o.n, .int .i64 o.d, .int .i64 o.f] 37) = w1 at *
  clear hw1
  have x1 := blk_cell hs.bx 1
  have a0 := hs.a0
  have HS := Aside0.mk hs
  clear h0 h2 hs
  go_quiet (first | (go_at_call 30; refine Calls.quiet_of_same (place1 o.a hp _)))
  have hs := HS.out.drewN nq
  generalize w1.drewN nq = w2 at *
  clear a0 x1 HS
  have x1 := blk_cell hs.bx 1
  have a2 : w2.cell? ⟨m, 3, none⟩ = some (.pointer none) := hs.a2
  have HS := Aside0.mk hs
  clear hs
  go_wp2_with fail
  go_quiet (first | (go_at_call 30; refine Calls.quiet_of_same (place1 o.a hp _)))
  have hs := HS.out.drewN nq
  generalize w2.drewN nq = w3 at *
  clear a2 x1 HS
  have x0 := blk_cell hs.bx 0
  have x2 := blk_cell hs.bx 2
  have HS := Aside0.mk hs
  clear hs
  go_wp2_with (first
    | (go_at_call 21; refine (take_nil o.n _).mono ?_; rintro e w' ⟨rfl, rfl⟩)
    | (go_at_call 39; refine (rtake_nil o.n _).mono ?_; rintro e w' ⟨rfl, rfl⟩)
    | (go_at_call 14; refine (num_calls _ _).mono ?_; rintro e w' ⟨rfl, rfl⟩))
  go_ret
  exact ⟨rfl, HS.out.bu⟩

set_option maxHeartbeats 4000000 in
set_option maxRecDepth 100000 in
theorem playsn_wait1 (m : Nat) (o : Op5) (w : World) (hp : plc o.a = 1) (k1 : (o.k == 1) = false) (k2 : (o.k == 2) = false) (k3 : (o.k == 3) = true)
    (h0 : w.cell? ⟨m, 1, none⟩ = some (.pointer none)) (h2 : w.cell? ⟨m, 3, none⟩ = some (.pointer none)) :
    Calls Try.prog 27 #[.pointer (some ⟨m, 0, none⟩), .agg #[.int .i64 o.k, .int .i64 o.a, .int .i64 o.n, .int .i64 o.d, .int .i64 o.f]] w fun e w' => e = .returned (.bool true) ∧ Below w.heap.size w w' := by
  have hs := playsn_start m 1 o w h0 h2
  go_enter Try.func27, Try.ntmps27
  go_wp2_with fail
  generalize hw1 : w.alloc (.cells #[.int .i64 o.k, .int .i64 o.a, .int .i64 o.n, .int .i64 o.d, .int .i64 o.f] 37) = w1 at *
  clear hw1
  have x1 := blk_cell hs.bx 1
  have a0 := hs.a0
  have HS := Aside0.mk hs
  clear h0 h2 hs
  go_quiet (first | (go_at_call 30; refine Calls.quiet_of_same (place1 o.a hp _)))
  have hs := HS.out.drewN nq
  generalize w1.drewN nq = w2 at *
  clear a0 x1 HS
  have x1 := blk_cell hs.bx 1
  have a2 : w2.cell? ⟨m, 3, none⟩ = some (.pointer none) := hs.a2
  have HS := Aside0.mk hs
  clear hs
  go_wp2_with fail
  go_quiet (first | (go_at_call 30; refine Calls.quiet_of_same (place1 o.a hp _)))
  have hs := HS.out.drewN nq
  generalize w2.drewN nq = w3 at *
  clear a2 x1 HS
  have x0 := blk_cell hs.bx 0
  have x2 := blk_cell hs.bx 2
  have HS := Aside0.mk hs
  clear hs
  go_wp2_with (first
    | (go_at_call 23; refine (wait_nil o.n _).mono ?_; rintro e w' ⟨rfl, rfl⟩)
    | (go_at_call 40; refine (rwait_nil o.n _).mono ?_; rintro e w' ⟨rfl, rfl⟩)
    | (go_at_call 14; refine (num_calls _ _).mono ?_; rintro e w' ⟨rfl, rfl⟩))
  go_ret
  exact ⟨rfl, HS.out.bu⟩

set_option maxHeartbeats 4000000 in
set_option maxRecDepth 100000 in
theorem playsn_level1 (m : Nat) (o : Op5) (w : World) (hp : plc o.a = 1) (k1 : (o.k == 1) = false) (k2 : (o.k == 2) = false) (k3 : (o.k == 3) = false) (k4 : (o.k == 4) = true)
    (h0 : w.cell? ⟨m, 1, none⟩ = some (.pointer none)) (h2 : w.cell? ⟨m, 3, none⟩ = some (.pointer none)) :
    Calls Try.prog 27 #[.pointer (some ⟨m, 0, none⟩), .agg #[.int .i64 o.k, .int .i64 o.a, .int .i64 o.n, .int .i64 o.d, .int .i64 o.f]] w fun e w' => e = .returned (.bool true) ∧ Below w.heap.size w w' := by
  have hs := playsn_start m 1 o w h0 h2
  go_enter Try.func27, Try.ntmps27
  go_wp2_with fail
  generalize hw1 : w.alloc (.cells #[.int .i64 o.k, .int .i64 o.a, .int .i64 o.n, .int .i64 o.d, .int .i64 o.f] 37) = w1 at *
  clear hw1
  have x1 := blk_cell hs.bx 1
  have a0 := hs.a0
  have HS := Aside0.mk hs
  clear h0 h2 hs
  go_quiet (first | (go_at_call 30; refine Calls.quiet_of_same (place1 o.a hp _)))
  have hs := HS.out.drewN nq
  generalize w1.drewN nq = w2 at *
  clear a0 x1 HS
  have x1 := blk_cell hs.bx 1
  have a2 : w2.cell? ⟨m, 3, none⟩ = some (.pointer none) := hs.a2
  have HS := Aside0.mk hs
  clear hs
  go_wp2_with fail
  go_quiet (first | (go_at_call 30; refine Calls.quiet_of_same (place1 o.a hp _)))
  have hs := HS.out.drewN nq
  generalize w2.drewN nq = w3 at *
  clear a2 x1 HS
  have x0 := blk_cell hs.bx 0
  have x2 := blk_cell hs.bx 2
  have HS := Aside0.mk hs
  clear hs
  go_wp2_with (first
    | (go_at_call 28; refine (level_nil _).mono ?_; rintro e w' ⟨rfl, rfl⟩)
    | (go_at_call 41; refine (rlevel_nil _).mono ?_; rintro e w' ⟨rfl, rfl⟩)
    | (go_at_call 14; refine (num_calls _ _).mono ?_; rintro e w' ⟨rfl, rfl⟩))
  go_ret
  exact ⟨rfl, HS.out.bu⟩

set_option maxHeartbeats 4000000 in
set_option maxRecDepth 100000 in
theorem playsn_idle1 (m : Nat) (o : Op5) (w : World) (hp : plc o.a = 1) (k1 : (o.k == 1) = false) (k2 : (o.k == 2) = false) (k3 : (o.k == 3) = false) (k4 : (o.k == 4) = false)
    (h0 : w.cell? ⟨m, 1, none⟩ = some (.pointer none)) (h2 : w.cell? ⟨m, 3, none⟩ = some (.pointer none)) :
    Calls Try.prog 27 #[.pointer (some ⟨m, 0, none⟩), .agg #[.int .i64 o.k, .int .i64 o.a, .int .i64 o.n, .int .i64 o.d, .int .i64 o.f]] w fun e w' => e = .returned (.bool true) ∧ Below w.heap.size w w' := by
  have hs := playsn_start m 1 o w h0 h2
  go_enter Try.func27, Try.ntmps27
  go_wp2_with fail
  generalize hw1 : w.alloc (.cells #[.int .i64 o.k, .int .i64 o.a, .int .i64 o.n, .int .i64 o.d, .int .i64 o.f] 37) = w1 at *
  clear hw1
  have x1 := blk_cell hs.bx 1
  have a0 := hs.a0
  have HS := Aside0.mk hs
  clear h0 h2 hs
  go_quiet (first | (go_at_call 30; refine Calls.quiet_of_same (place1 o.a hp _)))
  have hs := HS.out.drewN nq
  generalize w1.drewN nq = w2 at *
  clear a0 x1 HS
  have x1 := blk_cell hs.bx 1
  have a2 : w2.cell? ⟨m, 3, none⟩ = some (.pointer none) := hs.a2
  have HS := Aside0.mk hs
  clear hs
  go_wp2_with fail
  go_quiet (first | (go_at_call 30; refine Calls.quiet_of_same (place1 o.a hp _)))
  have hs := HS.out.drewN nq
  generalize w2.drewN nq = w3 at *
  clear a2 x1 HS
  have x0 := blk_cell hs.bx 0
  have x2 := blk_cell hs.bx 2
  have HS := Aside0.mk hs
  clear hs
  go_wp2_with fail
  go_ret
  exact ⟨rfl, HS.out.bu⟩

end Go.Proofs.Ythajekcjgkidhaa.Q
