/- Contract of (*pails).plays at a place that holds a pair of buckets: the answers are alike. Condition: the two buckets say the same. -/
import Derived.Test.YthajekcjgkidhaaProg
import Derived.Below
import Derived.Deep.Draws
import Derived.Deep.AppendLies
import Derived.Maps.AppendAt
import Derived.OwnWalk
import Derived.Laws.BytesArg
import Derived.Laws.MakeOwn
import Derived.Laws.OwnMore
import Derived.Deep.OwnRows
import Derived.Tactics
import Derived.Lib.ConvBytes
import Derived.Laws.Slices
import Derived.WalkKit
import Derived.KernelRfl
import Derived.RowKit3
import Derived.Deep.LoopGhost
import Derived.Deep.QuietTactic
import Derived.BigQuiet
import Derived.WideLaws
import Derived.Deep.DeepCutAuto
import Derived.Deep.CutBlock
import Derived.Deep.RegionHeld3
import Derived.Laws.Rows
import Derived.Lib.AppendStr
import Derived.ArgAppend
import Derived.Laws.IdiomCopy
import Derived.OrdersHeld
import Derived.Laws.BitsLemmas
import Derived.RowKit
import Derived.Test.YthajekcjgkidhaaWWords
import Derived.Test.YthajekcjgkidhaaWLast
import Derived.Test.YthajekcjgkidhaaWTab
import Derived.Test.YthajekcjgkidhaaWFour
import Derived.Test.YthajekcjgkidhaaWQPut
import Derived.Test.YthajekcjgkidhaaWApart
import Derived.Test.YthajekcjgkidhaaWArr
import Derived.Test.YthajekcjgkidhaaWZeros
import Derived.Test.YthajekcjgkidhaaWFoot
import Derived.Test.YthajekcjgkidhaaWKept
import Derived.Test.YthajekcjgkidhaaWShare
import Derived.Test.YthajekcjgkidhaaWN
import Derived.Test.YthajekcjgkidhaaWFootNe
import Derived.Test.YthajekcjgkidhaaWAt
import Derived.Test.YthajekcjgkidhaaWEqStruct
import Derived.Test.YthajekcjgkidhaaWRepsOne
import Derived.Test.YthajekcjgkidhaaWInv
import Derived.Test.YthajekcjgkidhaaWInvWords
import Derived.Test.YthajekcjgkidhaaWGuard
import Derived.Test.YthajekcjgkidhaaWNEv
import Derived.Test.YthajekcjgkidhaaWMore
import Derived.Test.YthajekcjgkidhaaLocks
import Derived.Conc.MuLone
import Derived.Test.YthajekcjgkidhaaTD
set_option linter.unusedVariables false
set_option linter.unusedSimpArgs false
namespace Go.Proofs.Ythajekcjgkidhaa.Q
open Go.RowKit Go.Proofs.YthajekcjgkidhaaW.PrintWords Go.Proofs.YthajekcjgkidhaaW.PrintLast Go.Proofs.YthajekcjgkidhaaW.PrintMore
open Go.MuLone

theorem But2.drew {w W : World} {g k : Nat} (h : But2 w W g k) : But2 w W.drew g k := ⟨h.os, h.tape, h.output, h.size, h.block⟩

theorem place0 (n : Int) (h : plc n = 0) (w : World) : Calls Try.prog 30 #[.int .i64 n] w fun e w' => e = .returned (.int .i64 0) ∧ w' = w := by
  refine (place_calls n w).mono ?_
  rintro e w' ⟨rfl, rfl⟩
  rw [h]
  exact ⟨rfl, rfl⟩
theorem place1 (n : Int) (h : plc n = 1) (w : World) : Calls Try.prog 30 #[.int .i64 n] w fun e w' => e = .returned (.int .i64 1) ∧ w' = w := by
  refine (place_calls n w).mono ?_
  rintro e w' ⟨rfl, rfl⟩
  rw [h]
  exact ⟨rfl, rfl⟩




/-- What a step of plays reads: its own copy of the step at c, the two pointers of the place, the two buckets. -/
structure PF (w W : World) (m ix c g k : Nat) (b : Bkt) (o : Op5) : Prop where
  two : Two W g k b
  bx : W.heap[c]? = some (.cells #[.int .i64 o.k, .int .i64 o.a, .int .i64 o.n, .int .i64 o.d, .int .i64 o.f] 37 (0, 0))
  a0 : W.cell? ⟨m, ix, none⟩ = some (.pointer (some ⟨g, 0, none⟩))
  a2 : W.cell? ⟨m, 2 + ix, none⟩ = some (.pointer (some ⟨k, 0, none⟩))
  bu : But2 w W g k
  mg : m ≠ g
  mkk : m ≠ k
  cg : c ≠ g
  ck : c ≠ k
theorem PF.drewN {w W : World} {m ix c g k : Nat} {b : Bkt} {o : Op5} (h : PF w W m ix c g k b o) (n : Nat) : PF w (W.drewN n) m ix c g k b o :=
  ⟨⟨h.two.isb, h.two.isr, h.two.good, h.two.gk⟩, h.bx, h.a0, h.a2, h.bu.drewN n, h.mg, h.mkk, h.cg, h.ck⟩
theorem held_cell {W W' : World} {g m i : Nat} (h : Held W W' g) (hm : m ≠ g) : W'.cell? ⟨m, i, none⟩ = W.cell? ⟨m, i, none⟩ := by
  unfold World.cell?
  rw [h.block m hm]
theorem PF.own {w W W' : World} {m ix c g k : Nat} {b : Bkt} {o : Op5} (h : PF w W m ix c g k b o) (hh : Held W W' g) :
    W'.heap[c]? = some (.cells #[.int .i64 o.k, .int .i64 o.a, .int .i64 o.n, .int .i64 o.d, .int .i64 o.f] 37 (0, 0)) ∧ IsR W' k b ∧ But2 w W' g k :=
  ⟨(hh.block c h.cg).trans h.bx, (hh.block k (fun e => h.two.gk e.symm)).trans h.two.isr, h.bu.held hh⟩

theorem plays_start (m ix g k : Nat) (b : Bkt) (o : Op5) (w : World) (hT : Two w g k b) (h0 : w.cell? ⟨m, ix, none⟩ = some (.pointer (some ⟨g, 0, none⟩))) (h2 : w.cell? ⟨m, 2 + ix, none⟩ = some (.pointer (some ⟨k, 0, none⟩)))
    (hg : g < w.heap.size) (hk : k < w.heap.size) (mg : m ≠ g) (mk : m ≠ k) : PF w (w.alloc (.cells #[.int .i64 o.k, .int .i64 o.a, .int .i64 o.n, .int .i64 o.d, .int .i64 o.f] 37)) m ix w.heap.size g k b o :=
  ⟨⟨(Below.heap_alloc w _ g hg).trans hT.isb, (Below.heap_alloc w _ k hk).trans hT.isr, hT.good, hT.gk⟩, blk_new w _, pw_cell_below ((Below.refl _ _).alloc (Nat.le_refl _) _) h0, pw_cell_below ((Below.refl _ _).alloc (Nat.le_refl _) _) h2, (But2.refl w g k).alloc _, mg, mk, by omega, by omega⟩


set_option maxHeartbeats 4000000 in
set_option maxRecDepth 100000 in
theorem plays_tick0 (m g k : Nat) (b : Bkt) (o : Op5) (w : World) (hT : Two w g k b) (hp : plc o.a = 0) (k1 : (o.k == 1) = true)
    (h0 : w.cell? ⟨m, 0, none⟩ = some (.pointer (some ⟨g, 0, none⟩))) (h2 : w.cell? ⟨m, 2, none⟩ = some (.pointer (some ⟨k, 0, none⟩))) (hg : g < w.heap.size) (hkk : k < w.heap.size) (mg : m ≠ g) (mk : m ≠ k) :
    Calls Try.prog 27 #[.pointer (some ⟨m, 0, none⟩), .agg #[.int .i64 o.k, .int .i64 o.a, .int .i64 o.n, .int .i64 o.d, .int .i64 o.f]] w fun e w' => e = .returned (.bool true) ∧ ∃ b', Two w' g k b' ∧ b.Like b' ∧ But2 w w' g k := by
  have hs := plays_start m 0 g k b o w hT h0 h2 hg hkk mg mk
  go_enter Try.func27, Try.ntmps27
  go_wp2_with fail
  generalize w.alloc (.cells #[.int .i64 o.k, .int .i64 o.a, .int .i64 o.n, .int .i64 o.d, .int .i64 o.f] 37) = w1 at *
  generalize w.heap.size = c at *
  have x1 := blk_cell hs.bx 1
  have a0 := hs.a0
  have HS := Aside0.mk hs
  clear h0 h2 hT hs
  go_quiet (first | (go_at_call 30; refine Calls.quiet_of_same (place0 o.a hp _)))
  have hs := HS.out.drewN nq
  generalize w1.drewN nq = w2 at *
  clear a0 x1 HS
  have x1 := blk_cell hs.bx 1
  have a2 : w2.cell? ⟨m, 2, none⟩ = some (.pointer (some ⟨k, 0, none⟩)) := hs.a2
  have HS := Aside0.mk hs
  clear hs
  go_wp2_with fail
  go_quiet (first | (go_at_call 30; refine Calls.quiet_of_same (place0 o.a hp _)))
  have hs := HS.out.drewN nq
  generalize w2.drewN nq = w3 at *
  clear a2 x1 HS
  have x0 := blk_cell hs.bx 0
  have x2 := blk_cell hs.bx 2
  have HS := Aside0.mk hs
  clear hs
  have z1 : ((b.tick o.n).2 == (b.tick o.n).2) = true := by simp
  go_wp2_with (first
    | (go_at_call 22; (with_reducible refine (tick_calls g b HS.out.two.good o.n _ HS.out.two.isb).mono ?_); rintro e w4 ⟨rfl, i1, g1⟩; have HO := Aside0.mk (HS.out.own g1); have HI := Aside0.mk i1; have HG := Aside0.mk g1; have y2 := blk_cell HO.out.1 2; clear i1 g1)
    | (go_at_call 38; (with_reducible refine (rtick_calls k b HS.out.two.good o.n _ HO.out.2.1).mono ?_); rintro e w5 ⟨rfl, i2, g2⟩; have HI2 := Aside0.mk i2; have HG2 := Aside0.mk g2; clear i2 g2)
    | (go_at_call 14; refine (num_calls _ _).mono ?_; rintro e w' ⟨rfl, rfl⟩))
  go_ret
  exact ⟨rfl, (b.tick o.n).1, HS.out.two.turn HG.out HI.out HG2.out HI2.out (Bkt.tick_good HS.out.two.good o.n), Bkt.tick_like b o.n, HO.out.2.2.heldk HG2.out⟩

set_option maxHeartbeats 4000000 in
set_option maxRecDepth 100000 in
theorem plays_take0 (m g k : Nat) (b : Bkt) (o : Op5) (w : World) (hT : Two w g k b) (hp : plc o.a = 0) (k1 : (o.k == 1) = false) (k2 : (o.k == 2) = true)
    (h0 : w.cell? ⟨m, 0, none⟩ = some (.pointer (some ⟨g, 0, none⟩))) (h2 : w.cell? ⟨m, 2, none⟩ = some (.pointer (some ⟨k, 0, none⟩))) (hg : g < w.heap.size) (hkk : k < w.heap.size) (mg : m ≠ g) (mk : m ≠ k) :
    Calls Try.prog 27 #[.pointer (some ⟨m, 0, none⟩), .agg #[.int .i64 o.k, .int .i64 o.a, .int .i64 o.n, .int .i64 o.d, .int .i64 o.f]] w fun e w' => e = .returned (.bool true) ∧ ∃ b', Two w' g k b' ∧ b.Like b' ∧ But2 w w' g k := by
  have hs := plays_start m 0 g k b o w hT h0 h2 hg hkk mg mk
  go_enter Try.func27, Try.ntmps27
  go_wp2_with fail
  generalize w.alloc (.cells #[.int .i64 o.k, .int .i64 o.a, .int .i64 o.n, .int .i64 o.d, .int .i64 o.f] 37) = w1 at *
  generalize w.heap.size = c at *
  have x1 := blk_cell hs.bx 1
  have a0 := hs.a0
  have HS := Aside0.mk hs
  clear h0 h2 hT hs
  go_quiet (first | (go_at_call 30; refine Calls.quiet_of_same (place0 o.a hp _)))
  have hs := HS.out.drewN nq
  generalize w1.drewN nq = w2 at *
  clear a0 x1 HS
  have x1 := blk_cell hs.bx 1
  have a2 : w2.cell? ⟨m, 2, none⟩ = some (.pointer (some ⟨k, 0, none⟩)) := hs.a2
  have HS := Aside0.mk hs
  clear hs
  go_wp2_with fail
  go_quiet (first | (go_at_call 30; refine Calls.quiet_of_same (place0 o.a hp _)))
  have hs := HS.out.drewN nq
  generalize w2.drewN nq = w3 at *
  clear a2 x1 HS
  have x0 := blk_cell hs.bx 0
  have x2 := blk_cell hs.bx 2
  have HS := Aside0.mk hs
  clear hs
  have z1 : ((b.take o.n).2.1 == (b.take o.n).2.1) = true := by simp
  have z2 : ((b.take o.n).2.2 == (b.take o.n).2.2) = true := by simp
  go_wp2_with (first
    | (go_at_call 21; (with_reducible refine (take_calls g b HS.out.two.good o.n _ HS.out.two.isb).mono ?_); rintro e w4 ⟨rfl, i1, g1⟩; have HO := Aside0.mk (HS.out.own g1); have HI := Aside0.mk i1; have HG := Aside0.mk g1; have y2 := blk_cell HO.out.1 2; clear i1 g1)
    | (go_at_call 39; (with_reducible refine (rtake_calls k b HS.out.two.good o.n _ HO.out.2.1).mono ?_); rintro e w5 ⟨rfl, i2, g2⟩; have HI2 := Aside0.mk i2; have HG2 := Aside0.mk g2; clear i2 g2)
    | (go_at_call 14; refine (num_calls _ _).mono ?_; rintro e w' ⟨rfl, rfl⟩))
  go_ret
  exact ⟨rfl, (b.take o.n).1, HS.out.two.turn HG.out HI.out HG2.out HI2.out (Bkt.take_good HS.out.two.good o.n), Bkt.take_like b o.n, HO.out.2.2.heldk HG2.out⟩

set_option maxHeartbeats 4000000 in
set_option maxRecDepth 100000 in
theorem plays_wait0 (m g k : Nat) (b : Bkt) (o : Op5) (w : World) (hT : Two w g k b) (hp : plc o.a = 0) (k1 : (o.k == 1) = false) (k2 : (o.k == 2) = false) (k3 : (o.k == 3) = true)
    (h0 : w.cell? ⟨m, 0, none⟩ = some (.pointer (some ⟨g, 0, none⟩))) (h2 : w.cell? ⟨m, 2, none⟩ = some (.pointer (some ⟨k, 0, none⟩))) (hg : g < w.heap.size) (hkk : k < w.heap.size) (mg : m ≠ g) (mk : m ≠ k) :
    Calls Try.prog 27 #[.pointer (some ⟨m, 0, none⟩), .agg #[.int .i64 o.k, .int .i64 o.a, .int .i64 o.n, .int .i64 o.d, .int .i64 o.f]] w fun e w' => e = .returned (.bool true) ∧ ∃ b', Two w' g k b' ∧ b.Like b' ∧ But2 w w' g k := by
  have hs := plays_start m 0 g k b o w hT h0 h2 hg hkk mg mk
  go_enter Try.func27, Try.ntmps27
  go_wp2_with fail
  generalize w.alloc (.cells #[.int .i64 o.k, .int .i64 o.a, .int .i64 o.n, .int .i64 o.d, .int .i64 o.f] 37) = w1 at *
  generalize w.heap.size = c at *
  have x1 := blk_cell hs.bx 1
  have a0 := hs.a0
  have HS := Aside0.mk hs
  clear h0 h2 hT hs
  go_quiet (first | (go_at_call 30; refine Calls.quiet_of_same (place0 o.a hp _)))
  have hs := HS.out.drewN nq
  generalize w1.drewN nq = w2 at *
  clear a0 x1 HS
  have x1 := blk_cell hs.bx 1
  have a2 : w2.cell? ⟨m, 2, none⟩ = some (.pointer (some ⟨k, 0, none⟩)) := hs.a2
  have HS := Aside0.mk hs
  clear hs
  go_wp2_with fail
  go_quiet (first | (go_at_call 30; refine Calls.quiet_of_same (place0 o.a hp _)))
  have hs := HS.out.drewN nq
  generalize w2.drewN nq = w3 at *
  clear a2 x1 HS
  have x0 := blk_cell hs.bx 0
  have x2 := blk_cell hs.bx 2
  have HS := Aside0.mk hs
  clear hs
  have z1 : ((b.wait o.n).1 == (b.wait o.n).1) = true := by simp
  have z2 : ((b.wait o.n).2 == (b.wait o.n).2) = true := by simp
  go_wp2_with (first
    | (go_at_call 23; (with_reducible refine (wait_calls g b HS.out.two.good o.n _ HS.out.two.isb).mono ?_); rintro e w4 ⟨rfl, i1, g1⟩; have HO := Aside0.mk (HS.out.own g1); have HI := Aside0.mk i1; have HG := Aside0.mk g1; have y2 := blk_cell HO.out.1 2; clear i1 g1)
    | (go_at_call 40; (with_reducible refine (rwait_calls k b HS.out.two.good o.n _ HO.out.2.1).mono ?_); rintro e w5 ⟨rfl, i2, g2⟩; have HI2 := Aside0.mk i2; have HG2 := Aside0.mk g2; clear i2 g2)
    | (go_at_call 14; refine (num_calls _ _).mono ?_; rintro e w' ⟨rfl, rfl⟩))
  go_ret
  exact ⟨rfl, b, HS.out.two.turn HG.out HI.out HG2.out HI2.out HS.out.two.good, Bkt.Like.refl b, HO.out.2.2.heldk HG2.out⟩

set_option maxHeartbeats 4000000 in
set_option maxRecDepth 100000 in
theorem plays_level0 (m g k : Nat) (b : Bkt) (o : Op5) (w : World) (hT : Two w g k b) (hp : plc o.a = 0) (k1 : (o.k == 1) = false) (k2 : (o.k == 2) = false) (k3 : (o.k == 3) = false) (k4 : (o.k == 4) = true)
    (h0 : w.cell? ⟨m, 0, none⟩ = some (.pointer (some ⟨g, 0, none⟩))) (h2 : w.cell? ⟨m, 2, none⟩ = some (.pointer (some ⟨k, 0, none⟩))) (hg : g < w.heap.size) (hkk : k < w.heap.size) (mg : m ≠ g) (mk : m ≠ k) :
    Calls Try.prog 27 #[.pointer (some ⟨m, 0, none⟩), .agg #[.int .i64 o.k, .int .i64 o.a, .int .i64 o.n, .int .i64 o.d, .int .i64 o.f]] w fun e w' => e = .returned (.bool true) ∧ ∃ b', Two w' g k b' ∧ b.Like b' ∧ But2 w w' g k := by
  have hs := plays_start m 0 g k b o w hT h0 h2 hg hkk mg mk
  go_enter Try.func27, Try.ntmps27
  go_wp2_with fail
  generalize w.alloc (.cells #[.int .i64 o.k, .int .i64 o.a, .int .i64 o.n, .int .i64 o.d, .int .i64 o.f] 37) = w1 at *
  generalize w.heap.size = c at *
  have x1 := blk_cell hs.bx 1
  have a0 := hs.a0
  have HS := Aside0.mk hs
  clear h0 h2 hT hs
  go_quiet (first | (go_at_call 30; refine Calls.quiet_of_same (place0 o.a hp _)))
  have hs := HS.out.drewN nq
  generalize w1.drewN nq = w2 at *
  clear a0 x1 HS
  have x1 := blk_cell hs.bx 1
  have a2 : w2.cell? ⟨m, 2, none⟩ = some (.pointer (some ⟨k, 0, none⟩)) := hs.a2
  have HS := Aside0.mk hs
  clear hs
  go_wp2_with fail
  go_quiet (first | (go_at_call 30; refine Calls.quiet_of_same (place0 o.a hp _)))
  have hs := HS.out.drewN nq
  generalize w2.drewN nq = w3 at *
  clear a2 x1 HS
  have x0 := blk_cell hs.bx 0
  have x2 := blk_cell hs.bx 2
  have HS := Aside0.mk hs
  clear hs
  have z1 : (b.tk == b.tk) = true := by simp
  go_wp2_with (first
    | (go_at_call 28; (with_reducible refine (level_calls g b _ HS.out.two.isb).mono ?_); rintro e w4 ⟨rfl, i1, g1⟩; have HO := Aside0.mk (HS.out.own g1); have HI := Aside0.mk i1; have HG := Aside0.mk g1; have y2 := blk_cell HO.out.1 2; clear i1 g1)
    | (go_at_call 41; (with_reducible refine (rlevel_calls k b HS.out.two.good _ HO.out.2.1).mono ?_); rintro e w5 ⟨rfl, i2, g2⟩; have HI2 := Aside0.mk i2; have HG2 := Aside0.mk g2; clear i2 g2)
    | (go_at_call 14; refine (num_calls _ _).mono ?_; rintro e w' ⟨rfl, rfl⟩))
  go_ret
  exact ⟨rfl, b, HS.out.two.turn HG.out HI.out HG2.out HI2.out HS.out.two.good, Bkt.Like.refl b, HO.out.2.2.heldk HG2.out⟩

set_option maxHeartbeats 4000000 in
set_option maxRecDepth 100000 in
theorem plays_idle0 (m g k : Nat) (b : Bkt) (o : Op5) (w : World) (hT : Two w g k b) (hp : plc o.a = 0) (k1 : (o.k == 1) = false) (k2 : (o.k == 2) = false) (k3 : (o.k == 3) = false) (k4 : (o.k == 4) = false)
    (h0 : w.cell? ⟨m, 0, none⟩ = some (.pointer (some ⟨g, 0, none⟩))) (h2 : w.cell? ⟨m, 2, none⟩ = some (.pointer (some ⟨k, 0, none⟩))) (hg : g < w.heap.size) (hkk : k < w.heap.size) (mg : m ≠ g) (mk : m ≠ k) :
    Calls Try.prog 27 #[.pointer (some ⟨m, 0, none⟩), .agg #[.int .i64 o.k, .int .i64 o.a, .int .i64 o.n, .int .i64 o.d, .int .i64 o.f]] w fun e w' => e = .returned (.bool true) ∧ ∃ b', Two w' g k b' ∧ b.Like b' ∧ But2 w w' g k := by
  have hs := plays_start m 0 g k b o w hT h0 h2 hg hkk mg mk
  go_enter Try.func27, Try.ntmps27
  go_wp2_with fail
  generalize w.alloc (.cells #[.int .i64 o.k, .int .i64 o.a, .int .i64 o.n, .int .i64 o.d, .int .i64 o.f] 37) = w1 at *
  generalize w.heap.size = c at *
  have x1 := blk_cell hs.bx 1
  have a0 := hs.a0
  have HS := Aside0.mk hs
  clear h0 h2 hT hs
  go_quiet (first | (go_at_call 30; refine Calls.quiet_of_same (place0 o.a hp _)))
  have hs := HS.out.drewN nq
  generalize w1.drewN nq = w2 at *
  clear a0 x1 HS
  have x1 := blk_cell hs.bx 1
  have a2 : w2.cell? ⟨m, 2, none⟩ = some (.pointer (some ⟨k, 0, none⟩)) := hs.a2
  have HS := Aside0.mk hs
  clear hs
  go_wp2_with fail
  go_quiet (first | (go_at_call 30; refine Calls.quiet_of_same (place0 o.a hp _)))
  have hs := HS.out.drewN nq
  generalize w2.drewN nq = w3 at *
  clear a2 x1 HS
  have x0 := blk_cell hs.bx 0
  have x2 := blk_cell hs.bx 2
  have HS := Aside0.mk hs
  clear hs
  go_wp2_with fail
  go_ret
  exact ⟨rfl, b, HS.out.two, Bkt.Like.refl b, HS.out.bu⟩

set_option maxHeartbeats 4000000 in
set_option maxRecDepth 100000 in
theorem plays_tick1 (m g k : Nat) (b : Bkt) (o : Op5) (w : World) (hT : Two w g k b) (hp : plc o.a = 1) (k1 : (o.k == 1) = true)
    (h0 : w.cell? ⟨m, 1, none⟩ = some (.pointer (some ⟨g, 0, none⟩))) (h2 : w.cell? ⟨m, 3, none⟩ = some (.pointer (some ⟨k, 0, none⟩))) (hg : g < w.heap.size) (hkk : k < w.heap.size) (mg : m ≠ g) (mk : m ≠ k) :
    Calls Try.prog 27 #[.pointer (some ⟨m, 0, none⟩), .agg #[.int .i64 o.k, .int .i64 o.a, .int .i64 o.n, .int .i64 o.d, .int .i64 o.f]] w fun e w' => e = .returned (.bool true) ∧ ∃ b', Two w' g k b' ∧ b.Like b' ∧ But2 w w' g k := by
  have hs := plays_start m 1 g k b o w hT h0 h2 hg hkk mg mk
  go_enter Try.func27, Try.ntmps27
  go_wp2_with fail
  generalize w.alloc (.cells #[.int .i64 o.k, .int .i64 o.a, .int .i64 o.n, .int .i64 o.d, .int .i64 o.f] 37) = w1 at *
  generalize w.heap.size = c at *
  have x1 := blk_cell hs.bx 1
  have a0 := hs.a0
  have HS := Aside0.mk hs
  clear h0 h2 hT hs
  go_quiet (first | (go_at_call 30; refine Calls.quiet_of_same (place1 o.a hp _)))
  have hs := HS.out.drewN nq
  generalize w1.drewN nq = w2 at *
  clear a0 x1 HS
  have x1 := blk_cell hs.bx 1
  have a2 : w2.cell? ⟨m, 3, none⟩ = some (.pointer (some ⟨k, 0, none⟩)) := hs.a2
  have HS := Aside0.mk hs
  clear hs
  go_wp2_with fail
  go_quiet (first | (go_at_call 30; refine Calls.quiet_of_same (place1 o.a hp _)))
  have hs := HS.out.drewN nq
  generalize w2.drewN nq = w3 at *
  clear a2 x1 HS
  have x0 := blk_cell hs.bx 0
  have x2 := blk_cell hs.bx 2
  have HS := Aside0.mk hs
  clear hs
  have z1 : ((b.tick o.n).2 == (b.tick o.n).2) = true := by simp
  go_wp2_with (first
    | (go_at_call 22; (with_reducible refine (tick_calls g b HS.out.two.good o.n _ HS.out.two.isb).mono ?_); rintro e w4 ⟨rfl, i1, g1⟩; have HO := Aside0.mk (HS.out.own g1); have HI := Aside0.mk i1; have HG := Aside0.mk g1; have y2 := blk_cell HO.out.1 2; clear i1 g1)
    | (go_at_call 38; (with_reducible refine (rtick_calls k b HS.out.two.good o.n _ HO.out.2.1).mono ?_); rintro e w5 ⟨rfl, i2, g2⟩; have HI2 := Aside0.mk i2; have HG2 := Aside0.mk g2; clear i2 g2)
    | (go_at_call 14; refine (num_calls _ _).mono ?_; rintro e w' ⟨rfl, rfl⟩))
  go_ret
  exact ⟨rfl, (b.tick o.n).1, HS.out.two.turn HG.out HI.out HG2.out HI2.out (Bkt.tick_good HS.out.two.good o.n), Bkt.tick_like b o.n, HO.out.2.2.heldk HG2.out⟩

set_option maxHeartbeats 4000000 in
set_option maxRecDepth 100000 in
theorem plays_take1 (m g k : Nat) (b : Bkt) (o : Op5) (w : World) (hT : Two w g k b) (hp : plc o.a = 1) (k1 : (o.k == 1) = false) (k2 : (o.k == 2) = true)
    (h0 : w.cell? ⟨m, 1, none⟩ = some (.pointer (some ⟨g, 0, none⟩))) (h2 : w.cell? ⟨m, 3, none⟩ = some (.pointer (some ⟨k, 0, none⟩))) (hg : g < w.heap.size) (hkk : k < w.heap.size) (mg : m ≠ g) (mk : m ≠ k) :
    Calls Try.prog 27 #[.pointer (some ⟨m, 0, none⟩), .agg #[.int .i64 o.k, .int .i64 o.a, .int .i64 o.n, .int .i64 o.d, .int .i64 o.f]] w fun e w' => e = .returned (.bool true) ∧ ∃ b', Two w' g k b' ∧ b.Like b' ∧ But2 w w' g k := by
  have hs := plays_start m 1 g k b o w hT h0 h2 hg hkk mg mk
  go_enter Try.func27, Try.ntmps27
  go_wp2_with fail
  generalize w.alloc (.cells #[.int .i64 o.k, .int .i64 o.a, .int .i64 o.n, .int .i64 o.d, .int .i64 o.f] 37) = w1 at *
  generalize w.heap.size = c at *
  have x1 := blk_cell hs.bx 1
  have a0 := hs.a0
  have HS := Aside0.mk hs
  clear h0 h2 hT hs
  go_quiet (first | (go_at_call 30; refine Calls.quiet_of_same (place1 o.a hp _)))
  have hs := HS.out.drewN nq
  generalize w1.drewN nq = w2 at *
  clear a0 x1 HS
  have x1 := blk_cell hs.bx 1
  have a2 : w2.cell? ⟨m, 3, none⟩ = some (.pointer (some ⟨k, 0, none⟩)) := hs.a2
  have HS := Aside0.mk hs
  clear hs
  go_wp2_with fail
  go_quiet (first | (go_at_call 30; refine Calls.quiet_of_same (place1 o.a hp _)))
  have hs := HS.out.drewN nq
  generalize w2.drewN nq = w3 at *
  clear a2 x1 HS
  have x0 := blk_cell hs.bx 0
  have x2 := blk_cell hs.bx 2
  have HS := Aside0.mk hs
  clear hs
  have z1 : ((b.take o.n).2.1 == (b.take o.n).2.1) = true := by simp
  have z2 : ((b.take o.n).2.2 == (b.take o.n).2.2) = true := by simp
  go_wp2_with (first
    | (go_at_call 21; (with_reducible refine (take_calls g b HS.out.two.good o.n _ HS.out.two.isb).mono ?_); rintro e w4 ⟨rfl, i1, g1⟩; have HO := Aside0.mk (HS.out.own g1); have HI := Aside0.mk i1; have HG := Aside0.mk g1; have y2 := blk_cell HO.out.1 2; clear i1 g1)
    | (go_at_call 39; (with_reducible refine (rtake_calls k b HS.out.two.good o.n _ HO.out.2.1).mono ?_); rintro e w5 ⟨rfl, i2, g2⟩; have HI2 := Aside0.mk i2; have HG2 := Aside0.mk g2; clear i2 g2)
    | (go_at_call 14; refine (num_calls _ _).mono ?_; rintro e w' ⟨rfl, rfl⟩))
  go_ret
  exact ⟨rfl, (b.take o.n).1, HS.out.two.turn HG.out HI.out HG2.out HI2.out (Bkt.take_good HS.out.two.good o.n), Bkt.take_like b o.n, HO.out.2.2.heldk HG2.out⟩

set_option maxHeartbeats 4000000 in
set_option maxRecDepth 100000 in
theorem plays_wait1 (m g k : Nat) (b : Bkt) (o : Op5) (w : World) (hT : Two w g k b) (hp : plc o.a = 1) (k1 : (o.k == 1) = false) (k2 : (o.k == 2) = false) (k3 : (o.k == 3) = true)
    (h0 : w.cell? ⟨m, 1, none⟩ = some (.pointer (some ⟨g, 0, none⟩))) (h2 : w.cell? ⟨m, 3, none⟩ = some (.pointer (some ⟨k, 0, none⟩))) (hg : g < w.heap.size) (hkk : k < w.heap.size) (mg : m ≠ g) (mk : m ≠ k) :
    Calls Try.prog 27 #[.pointer (some ⟨m, 0, none⟩), .agg #[.int .i64 o.k, .int .i64 o.a, .int .i64 o.n, .int .i64 o.d, .int .i64 o.f]] w fun e w' => e = .returned (.bool true) ∧ ∃ b', Two w' g k b' ∧ b.Like b' ∧ But2 w w' g k := by
  have hs := plays_start m 1 g k b o w hT h0 h2 hg hkk mg mk
  go_enter Try.func27, Try.ntmps27
  go_wp2_with fail
  generalize w.alloc (.cells #[.int .i64 o.k, .int .i64 o.a, .int .i64 o.n, .int .i64 o.d, .int .i64 o.f] 37) = w1 at *
  generalize w.heap.size = c at *
  have x1 := blk_cell hs.bx 1
  have a0 := hs.a0
  have HS := Aside0.mk hs
  clear h0 h2 hT hs
  go_quiet (first | (go_at_call 30; refine Calls.quiet_of_same (place1 o.a hp _)))
  have hs := HS.out.drewN nq
  generalize w1.drewN nq = w2 at *
  clear a0 x1 HS
  have x1 := blk_cell hs.bx 1
  have a2 : w2.cell? ⟨m, 3, none⟩ = some (.pointer (some ⟨k, 0, none⟩)) := hs.a2
  have HS := Aside0.mk hs
  clear hs
  go_wp2_with fail
  go_quiet (first | (go_at_call 30; refine Calls.quiet_of_same (place1 o.a hp _)))
  have hs := HS.out.drewN nq
  generalize w2.drewN nq = w3 at *
  clear a2 x1 HS
  have x0 := blk_cell hs.bx 0
  have x2 := blk_cell hs.bx 2
  have HS := Aside0.mk hs
  clear hs
  have z1 : ((b.wait o.n).1 == (b.wait o.n).1) = true := by simp
  have z2 : ((b.wait o.n).2 == (b.wait o.n).2) = true := by simp
  go_wp2_with (first
    | (go_at_call 23; (with_reducible refine (wait_calls g b HS.out.two.good o.n _ HS.out.two.isb).mono ?_); rintro e w4 ⟨rfl, i1, g1⟩; have HO := Aside0.mk (HS.out.own g1); have HI := Aside0.mk i1; have HG := Aside0.mk g1; have y2 := blk_cell HO.out.1 2; clear i1 g1)
    | (go_at_call 40; (with_reducible refine (rwait_calls k b HS.out.two.good o.n _ HO.out.2.1).mono ?_); rintro e w5 ⟨rfl, i2, g2⟩; have HI2 := Aside0.mk i2; have HG2 := Aside0.mk g2; clear i2 g2)
    | (go_at_call 14; refine (num_calls _ _).mono ?_; rintro e w' ⟨rfl, rfl⟩))
  go_ret
  exact ⟨rfl, b, HS.out.two.turn HG.out HI.out HG2.out HI2.out HS.out.two.good, Bkt.Like.refl b, HO.out.2.2.heldk HG2.out⟩

set_option maxHeartbeats 4000000 in
set_option maxRecDepth 100000 in
theorem plays_level1 (m g k : Nat) (b : Bkt) (o : Op5) (w : World) (hT : Two w g k b) (hp : plc o.a = 1) (k1 : (o.k == 1) = false) (k2 : (o.k == 2) = false) (k3 : (o.k == 3) = false) (k4 : (o.k == 4) = true)
    (h0 : w.cell? ⟨m, 1, none⟩ = some (.pointer (some ⟨g, 0, none⟩))) (h2 : w.cell? ⟨m, 3, none⟩ = some (.pointer (some ⟨k, 0, none⟩))) (hg : g < w.heap.size) (hkk : k < w.heap.size) (mg : m ≠ g) (mk : m ≠ k) :
    Calls Try.prog 27 #[.pointer (some ⟨m, 0, none⟩), .agg #[.int .i64 o.k, .int .i64 o.a, .int .i64 o.n, .int .i64 o.d, .int .i64 o.f]] w fun e w' => e = .returned (.bool true) ∧ ∃ b', Two w' g k b' ∧ b.Like b' ∧ But2 w w' g k := by
  have hs := plays_start m 1 g k b o w hT h0 h2 hg hkk mg mk
  go_enter Try.func27, Try.ntmps27
  go_wp2_with fail
  generalize w.alloc (.cells #[.int .i64 o.k, .int .i64 o.a, .int .i64 o.n, .int .i64 o.d, .int .i64 o.f] 37) = w1 at *
  generalize w.heap.size = c at *
  have x1 := blk_cell hs.bx 1
  have a0 := hs.a0
  have HS := Aside0.mk hs
  clear h0 h2 hT hs
  go_quiet (first | (go_at_call 30; refine Calls.quiet_of_same (place1 o.a hp _)))
  have hs := HS.out.drewN nq
  generalize w1.drewN nq = w2 at *
  clear a0 x1 HS
  have x1 := blk_cell hs.bx 1
  have a2 : w2.cell? ⟨m, 3, none⟩ = some (.pointer (some ⟨k, 0, none⟩)) := hs.a2
  have HS := Aside0.mk hs
  clear hs
  go_wp2_with fail
  go_quiet (first | (go_at_call 30; refine Calls.quiet_of_same (place1 o.a hp _)))
  have hs := HS.out.drewN nq
  generalize w2.drewN nq = w3 at *
  clear a2 x1 HS
  have x0 := blk_cell hs.bx 0
  have x2 := blk_cell hs.bx 2
  have HS := Aside0.mk hs
  clear hs
  have z1 : (b.tk == b.tk) = true := by simp
  go_wp2_with (first
    | (go_at_call 28; (with_reducible refine (level_calls g b _ HS.out.two.isb).mono ?_); rintro e w4 ⟨rfl, i1, g1⟩; have HO := Aside0.mk (HS.out.own g1); have HI := Aside0.mk i1; have HG := Aside0.mk g1; have y2 := blk_cell HO.out.1 2; clear i1 g1)
    | (go_at_call 41; (with_reducible refine (rlevel_calls k b HS.out.two.good _ HO.out.2.1).mono ?_); rintro e w5 ⟨rfl, i2, g2⟩; have HI2 := Aside0.mk i2; have HG2 := Aside0.mk g2; clear i2 g2)
    | (go_at_call 14; refine (num_calls _ _).mono ?_; rintro e w' ⟨rfl, rfl⟩))
  go_ret
  exact ⟨rfl, b, HS.out.two.turn HG.out HI.out HG2.out HI2.out HS.out.two.good, Bkt.Like.refl b, HO.out.2.2.heldk HG2.out⟩

set_option maxHeartbeats 4000000 in
set_option maxRecDepth 100000 in
theorem plays_idle1 (m g k : Nat) (b : Bkt) (o : Op5) (w : World) (hT : Two w g k b) (hp : plc o.a = 1) (k1 : (o.k == 1) = false) (k2 : (o.k == 2) = false) (k3 : (o.k == 3) = false) (k4 : (o.k == 4) = false)
    (h0 : w.cell? ⟨m, 1, none⟩ = some (.pointer (some ⟨g, 0, none⟩))) (h2 : w.cell? ⟨m, 3, none⟩ = some (.pointer (some ⟨k, 0, none⟩))) (hg : g < w.heap.size) (hkk : k < w.heap.size) (mg : m ≠ g) (mk : m ≠ k) :
    Calls Try.prog 27 #[.pointer (some ⟨m, 0, none⟩), .agg #[.int .i64 o.k, .int .i64 o.a, .int .i64 o.n, .int .i64 o.d, .int .i64 o.f]] w fun e w' => e = .returned (.bool true) ∧ ∃ b', Two w' g k b' ∧ b.Like b' ∧ But2 w w' g k := by
  have hs := plays_start m 1 g k b o w hT h0 h2 hg hkk mg mk
  go_enter Try.func27, Try.ntmps27
  go_wp2_with fail
  generalize w.alloc (.cells #[.int .i64 o.k, .int .i64 o.a, .int .i64 o.n, .int .i64 o.d, .int .i64 o.f] 37) = w1 at *
  generalize w.heap.size = c at *
  have x1 := blk_cell hs.bx 1
  have a0 := hs.a0
  have HS := Aside0.mk hs
  clear h0 h2 hT hs
  go_quiet (first | (go_at_call 30; refine Calls.quiet_of_same (place1 o.a hp _)))
  have hs := HS.out.drewN nq
  generalize w1.drewN nq = w2 at *
  clear a0 x1 HS
  have x1 := blk_cell hs.bx 1
  have a2 : w2.cell? ⟨m, 3, none⟩ = some (.pointer (some ⟨k, 0, none⟩)) := hs.a2
  have HS := Aside0.mk hs
  clear hs
  go_wp2_with fail
  go_quiet (first | (go_at_call 30; refine Calls.quiet_of_same (place1 o.a hp _)))
  have hs := HS.out.drewN nq
  generalize w2.drewN nq = w3 at *
  clear a2 x1 HS
  have x0 := blk_cell hs.bx 0
  have x2 := blk_cell hs.bx 2
  have HS := Aside0.mk hs
  clear hs
  go_wp2_with fail
  go_ret
  exact ⟨rfl, b, HS.out.two, Bkt.Like.refl b, HS.out.bu⟩

end Go.Proofs.Ythajekcjgkidhaa.Q
