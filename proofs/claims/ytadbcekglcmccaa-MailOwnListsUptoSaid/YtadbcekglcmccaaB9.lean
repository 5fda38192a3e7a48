/- A pair of mails, the program's and the document's; the bench's plays at a pair (printed by gen_b9.py). Condition: both are as one. -/
import Derived.Test.YtadbcekglcmccaaProg
import Derived.Below
import Derived.Deep.Draws
import Derived.Deep.AppendLies
import Derived.Maps.AppendAt
import Derived.OwnWalk
import Derived.Laws.BytesArg
import Derived.Laws.MakeOwn
import Derived.Laws.OwnMore
import Derived.Deep.OwnRows
import Derived.Tactics
import Derived.Lib.ConvBytes
import Derived.Laws.Slices
import Derived.WalkKit
import Derived.KernelRfl
import Derived.RowKit3
import Derived.Deep.LoopGhost
import Derived.Deep.QuietTactic
import Derived.BigQuiet
import Derived.WideLaws
import Derived.Deep.DeepCutAuto
import Derived.Deep.CutBlock
import Derived.Deep.RegionHeld3
import Derived.Laws.Rows
import Derived.Lib.AppendStr
import Derived.ArgAppend
import Derived.Laws.IdiomCopy
import Derived.OrdersHeld
import Derived.Laws.BitsLemmas
import Derived.RowKit
import Derived.Test.YtadbcekglcmccaaWWords
import Derived.Test.YtadbcekglcmccaaWLast
import Derived.Test.YtadbcekglcmccaaWTab
import Derived.Test.YtadbcekglcmccaaWFour
import Derived.Test.YtadbcekglcmccaaWQPut
import Derived.Test.YtadbcekglcmccaaWApart
import Derived.Test.YtadbcekglcmccaaWArr
import Derived.Test.YtadbcekglcmccaaWZeros
import Derived.Test.YtadbcekglcmccaaWFoot
import Derived.Test.YtadbcekglcmccaaWKept
import Derived.Test.YtadbcekglcmccaaWShare
import Derived.Test.YtadbcekglcmccaaWN
import Derived.Test.YtadbcekglcmccaaWFootNe
import Derived.Test.YtadbcekglcmccaaWAt
import Derived.Test.YtadbcekglcmccaaWEqStruct
import Derived.Test.YtadbcekglcmccaaWRepsOne
import Derived.Test.YtadbcekglcmccaaWInv
import Derived.Test.YtadbcekglcmccaaWInvWords
import Derived.Test.YtadbcekglcmccaaWGuard
import Derived.Test.YtadbcekglcmccaaWNEv
import Derived.Test.YtadbcekglcmccaaWMore
import Derived.Test.YtadbcekglcmccaaB8
import Derived.Test.YtadbcekglcmccaaB3
set_option linter.unusedVariables false
set_option linter.unusedSimpArgs false
namespace Go.Proofs.Ytadbcekglcmccaa.Q
open Go.RowKit Go.Proofs.YtadbcekglcmccaaW.PrintWords Go.Proofs.YtadbcekglcmccaaW.PrintLast Go.Proofs.YtadbcekglcmccaaW.PrintMore
open Go.FM Go.Plan

/-- Which of the two places a number means. -/
def plc (n : Int) : Nat := ((n.tmod 2 + 2).tmod 2).toNat
theorem plc_lt (n : Int) : plc n < 2 := by
  unfold plc
  have h1 := Int.emod_nonneg (n.tmod 2 + 2) (show (2 : Int) ≠ 0 by decide)
  have h2 := Int.emod_lt_of_pos (n.tmod 2 + 2) (show (0 : Int) < 2 by decide)
  have h3 : 0 ≤ n.tmod 2 + 2 := by
    have := Int.natAbs_tmod n 2
    have h4 : (n.tmod 2).natAbs < 2 := by rw [this]; exact Nat.mod_lt _ (by decide)
    omega
  rw [Int.tmod_eq_emod_of_nonneg h3]
  omega
theorem place_calls (n : Int) (w : World) : Calls Try.prog 24 #[.int .i64 n] w fun e w' => e = .returned (.int .i64 (plc n)) ∧ w' = w := by
  have h3 : 0 ≤ n.tmod 2 + 2 ∧ n.tmod 2 + 2 < 4 := by
    have := Int.natAbs_tmod n 2
    have h4 : (n.tmod 2).natAbs < 2 := by rw [this]; exact Nat.mod_lt _ (by decide)
    omega
  have k1 : IntKind.i64.wrap (n.tmod 2 + 2) = n.tmod 2 + 2 := (i64_w _).trans (Go.IntWalk.wrap64_in _ (by omega))
  have k2 : (n.tmod 2 + 2).tmod 2 = (plc n : Int) := by
    unfold plc
    rw [Int.toNat_of_nonneg]
    rw [Int.tmod_eq_emod_of_nonneg h3.1]
    exact Int.emod_nonneg _ (by decide)
  go_enter Try.func24, Try.ntmps24
  go_wp2
  go_ret
  exact ⟨rfl, rfl⟩

/-! ### A pair of mails -/
structure PW (B : Nat) (W : World) (x : Pm) (r : Rm) : Prop where
  xin : x.In B W
  rin : r.In B W
  ap : ∀ i, x.S i → ¬ r.S i
def PS (x : Pm) (r : Rm) (i : Nat) : Prop := x.S i ∨ r.S i
theorem PW.lt {B : Nat} {W : World} {x : Pm} {r : Rm} (h : PW B W x r) : ∀ i, PS x r i → i < W.heap.size := fun i hi => hi.elim (Pm.lt h.xin i) (h.rin.lt i)
theorem PW.keep {B : Nat} {W W' : World} {x : Pm} {r : Rm} (h : PW B W x r) (k : ∀ i, PS x r i → W'.heap[i]? = W.heap[i]?) : PW B W' x r :=
  ⟨Pm.keep h.xin fun i hi => k i (.inl hi), h.rin.keep fun i hi => k i (.inr hi), h.ap⟩
/-- What a step leaves of a pair. -/
structure PD (w W : World) (B : Nat) (x0 : Pm) (r0 : Rm) (x : Pm) (r : Rm) : Prop where
  pw : PW B W x r
  fr : But w W (PS x0 r0)
  sub : ∀ i, PS x r i → PS x0 r0 i ∨ w.heap.size ≤ i
  g : x.g = x0.g
  m : r.m = r0.m
theorem PD.start {w W : World} {B : Nat} {x : Pm} {r : Rm} (h : PW B w x r) (hb : Below w.heap.size w W) : PD w W B x r x r :=
  ⟨h.keep fun i hi => hb.block i (h.lt i hi), But.of_below hb, fun i hi => .inl hi, rfl, rfl⟩
theorem PD.more {w W W' : World} {B : Nat} {x0 x : Pm} {r0 r : Rm} (h : PD w W B x0 r0 x r) (hb : Below W.heap.size W W') : PD w W' B x0 r0 x r :=
  ⟨h.pw.keep fun i hi => hb.block i (h.pw.lt i hi), h.fr.below_ hb, h.sub, h.g, h.m⟩
theorem PD.mail {w W W' : World} {B : Nat} {x0 x x' : Pm} {r0 r : Rm} (h : PD w W B x0 r0 x r) (d : MDone W W' B x x') : PD w W' B x0 r0 x' r := by
  refine ⟨⟨d.inn, h.pw.rin.keep fun i hi => d.fr.block i (h.pw.rin.lt i hi) (fun hs => h.pw.ap i hs hi), fun i hi hr => ?_⟩, ⟨d.fr.os.trans h.fr.os, d.fr.tape.trans h.fr.tape, d.fr.output.trans h.fr.output, Nat.le_trans h.fr.size d.fr.size, fun i hi hs => ?_⟩, fun i hi => ?_, d.g.trans h.g, h.m⟩
  · rcases d.S i hi with h1 | h1
    · exact h.pw.ap i h1 hr
    · have := h.pw.rin.lt i hr
      omega
  · refine (d.fr.block i (Nat.lt_of_lt_of_le hi h.fr.size) (fun k => ?_)).trans (h.fr.block i hi hs)
    rcases h.sub i (.inl k) with h1 | h1
    · exact hs h1
    · omega
  · rcases hi with hi | hi
    · rcases d.S i hi with h1 | h1
      · exact h.sub i (.inl h1)
      · exact .inr (Nat.le_trans h.fr.size h1)
    · exact h.sub i (.inr hi)
theorem PD.ref {w W W' : World} {B : Nat} {x0 x : Pm} {r0 r r' : Rm} (h : PD w W B x0 r0 x r) (d : RDone W W' B r r') : PD w W' B x0 r0 x r' := by
  refine ⟨⟨Pm.keep h.pw.xin fun i hi => d.fr.block i (Pm.lt h.pw.xin i hi) (fun hs => h.pw.ap i hi hs), d.inn, fun i hi hr => ?_⟩, ⟨d.fr.os.trans h.fr.os, d.fr.tape.trans h.fr.tape, d.fr.output.trans h.fr.output, Nat.le_trans h.fr.size d.fr.size, fun i hi hs => ?_⟩, fun i hi => ?_, h.g, d.m.trans h.m⟩
  · rcases d.sub i hr with h1 | h1
    · exact h.pw.ap i hi h1
    · have := Pm.lt h.pw.xin i hi
      omega
  · refine (d.fr.block i (Nat.lt_of_lt_of_le hi h.fr.size) (fun k => ?_)).trans (h.fr.block i hi hs)
    rcases h.sub i (.inr k) with h1 | h1
    · exact hs h1
    · omega
  · rcases hi with hi | hi
    · exact h.sub i (.inl hi)
    · rcases d.sub i hi with h1 | h1
      · exact h.sub i (.inr h1)
      · exact .inr (Nat.le_trans h.fr.size h1)

abbrev OM (o : Mo) : Obj := .cells #[.int .i64 o.k, .int .i64 o.a, .int .i64 o.n, .int .i64 o.m, .string o.s] 41
/-- What a step of plays answers at a pair. -/
def PRes (n B : Nat) (x : Pm) (r : Rm) (w : World) (e : Ending) (w' : World) : Prop := e = .returned (.bool true) ∧ ∃ x' r', PD w w' B x r x' r' ∧ J (n + 1) x' r'
theorem place_at (n : Int) (p : Nat) (h : plc n = p) (w : World) : Calls Try.prog 24 #[.int .i64 n] w fun e w' => e = .returned (.int .i64 (p : Int)) ∧ w' = w := by
  refine (place_calls n w).mono ?_
  rintro e w' ⟨rfl, rfl⟩
  rw [h]
  exact ⟨rfl, rfl⟩
set_option maxHeartbeats 8000000 in
set_option maxRecDepth 100000 in
theorem plays_send0 (n B m : Nat) (x : Pm) (r : Rm) (o : Mo) (w : World) (h : PW B w x r) (hB : B ≤ w.heap.size) (hj : J n x r) (hn : n ≤ 2999999999999) (ho : o.Wf) (hp : plc o.a = 0) (h0 : w.cell? ⟨m, 0, none⟩ = some (.pointer (some ⟨x.g, 0, none⟩))) (h2 : w.cell? ⟨m, 2, none⟩ = some (.pointer (some ⟨r.m, 0, none⟩))) (k1 : (o.k == 1) = true) :
    Calls Try.prog 22 #[.pointer (some ⟨m, 0, none⟩), .agg #[.int .i64 o.k, .int .i64 o.a, .int .i64 o.n, .int .i64 o.m, .string o.s]] w (PRes n B x r w) := by
  have HX1 := Aside0.mk (blk_new w (.cells #[.int .i64 o.k, .int .i64 o.a, .int .i64 o.n, .int .i64 o.m, .string o.s] 41))
  have HB1 := Aside0.mk (below2a w (.cells #[.int .i64 o.k, .int .i64 o.a, .int .i64 o.n, .int .i64 o.m, .string o.s] 41))
  have HA0 := Aside0.mk (pw_cell_below (below2a w (.cells #[.int .i64 o.k, .int .i64 o.a, .int .i64 o.n, .int .i64 o.m, .string o.s] 41)) h0)
  have HA2 := Aside0.mk (pw_cell_below (below2a w (.cells #[.int .i64 o.k, .int .i64 o.a, .int .i64 o.n, .int .i64 o.m, .string o.s] 41)) h2)
  have HP := Aside0.mk h
  have HJ := Aside0.mk hj
  have HBB := Aside0.mk hB
  have HN := Aside0.mk hn
  have HO := Aside0.mk ho
  have HS := Aside0.mk h.lt
  clear h hj hB hn ho
  clear h0 h2
  go_enter Try.func22, Try.ntmps22
  go_wp2_with fail
  generalize w.alloc (.cells #[.int .i64 o.k, .int .i64 o.a, .int .i64 o.n, .int .i64 o.m, .string o.s] 41) = w1 at *
  have y1 := blk_cell HX1.out 1
  have a0 := HA0.out
  go_quiet (first | (go_at_call 24; refine Calls.quiet_of_same (place_at o.a 0 hp _)))
  have HX2 := Aside0.mk (blk_below HX1.out (below_drewN w1 nq))
  have HB2 := Aside0.mk (below_step HB1.out (below_drewN w1 nq))
  have HA2' := Aside0.mk (pw_cell_below (below_drewN w1 nq) HA2.out)
  clear y1 a0 HX1 HB1 HA0 HA2
  generalize w1.drewN nq = w2 at *
  have y1 := blk_cell HX2.out 1
  have a2 := HA2'.out
  go_upto_region 2 with fail
  go_quiet (first | (go_at_call 24; refine Calls.quiet_of_same (place_at o.a 0 hp _)))
  have HX3 := Aside0.mk (blk_below HX2.out (below_drewN w2 nq))
  have HB3 := Aside0.mk (below_step HB2.out (below_drewN w2 nq))
  clear y1 a2 HX2 HB2 HA2'
  generalize w2.drewN nq = w3 at *
  have y0 := blk_cell HX3.out 0
  have y2 := blk_cell HX3.out 2
  have y3 := blk_cell HX3.out 3
  have y4 := blk_cell HX3.out 4
  have HD3 := Aside0.mk (PD.start HP.out HB3.out)
  have HNC := Aside0.mk (show ¬ PS x r w.heap.size from fun hs => by have := HS.out _ hs; omega)
  have HB0 := Aside0.mk (show B ≤ w3.heap.size from Nat.le_trans HBB.out HB3.out.size)
  obtain ⟨v1, hv1⟩ : ∃ v : Int, (if sendB x o.n o.m = 0 then x.sent + 1 else 0) = v := ⟨_, rfl⟩
  have z1 : (v1 == v1) = true := by simp
  obtain ⟨v2, hv2⟩ : ∃ v : Int, sendB x o.n o.m = v := ⟨_, rfl⟩
  have z2 : (v2 == v2) = true := by simp
  have HQ1 := Aside0.mk (send_good B x n w3 HD3.out.pw.xin HB0.out HJ.out.good (by have := HN.out; omega) o.n o.m o.s)
  have HQ2 := Aside0.mk (fun (W : World) (h : r.In B W) (hb : B ≤ W.heap.size) => rsend_calls B n x r o.n o.m o.s W h hb HJ.out HN.out)
  rw [hv1, hv2] at HQ1 HQ2
  clear hv1 hv2
  go_wp2_with (first
    | (go_at_call 12; (with_reducible refine HQ1.out.mono ?_); rintro e w4 ⟨rfl, A1, c1, hd⟩; have H4 := Aside0.mk (HD3.out.mail hd); have HX4 := Aside0.mk ((hd.fr.block _ (blk_lt HX3.out) (fun hs => HNC.out (.inl hs))).trans HX3.out); have t2 := blk_cell HX4.out 2; have t3 := blk_cell HX4.out 3; have t4 := blk_cell HX4.out 4; clear hd)
    | (go_at_call 39; (with_reducible refine (HQ2.out _ H4.out.pw.rin (Nat.le_trans HBB.out H4.out.fr.size)).mono ?_); rintro e w5 ⟨rfl, A2, c2, A3, c3, A4, c4, hd⟩; have H5 := Aside0.mk (H4.out.ref hd); clear hd)
    | (go_at_call 11; refine (num_calls _ _).mono ?_; rintro e w' ⟨rfl, rfl⟩))
  go_ret
  exact ⟨rfl, _, _, H5.out, HJ.out.send o.n o.m o.s _ _ _ _ _ _ _ _⟩
set_option maxHeartbeats 8000000 in
set_option maxRecDepth 100000 in
theorem plays_deliver0 (n B m : Nat) (x : Pm) (r : Rm) (o : Mo) (w : World) (h : PW B w x r) (hB : B ≤ w.heap.size) (hj : J n x r) (hn : n ≤ 2999999999999) (ho : o.Wf) (hp : plc o.a = 0) (h0 : w.cell? ⟨m, 0, none⟩ = some (.pointer (some ⟨x.g, 0, none⟩))) (h2 : w.cell? ⟨m, 2, none⟩ = some (.pointer (some ⟨r.m, 0, none⟩))) (k1 : (o.k == 1) = false) (k2 : (o.k == 2) = true) :
    Calls Try.prog 22 #[.pointer (some ⟨m, 0, none⟩), .agg #[.int .i64 o.k, .int .i64 o.a, .int .i64 o.n, .int .i64 o.m, .string o.s]] w (PRes n B x r w) := by
  have HX1 := Aside0.mk (blk_new w (.cells #[.int .i64 o.k, .int .i64 o.a, .int .i64 o.n, .int .i64 o.m, .string o.s] 41))
  have HB1 := Aside0.mk (below2a w (.cells #[.int .i64 o.k, .int .i64 o.a, .int .i64 o.n, .int .i64 o.m, .string o.s] 41))
  have HA0 := Aside0.mk (pw_cell_below (below2a w (.cells #[.int .i64 o.k, .int .i64 o.a, .int .i64 o.n, .int .i64 o.m, .string o.s] 41)) h0)
  have HA2 := Aside0.mk (pw_cell_below (below2a w (.cells #[.int .i64 o.k, .int .i64 o.a, .int .i64 o.n, .int .i64 o.m, .string o.s] 41)) h2)
  have HP := Aside0.mk h
  have HJ := Aside0.mk hj
  have HBB := Aside0.mk hB
  have HN := Aside0.mk hn
  have HO := Aside0.mk ho
  have HS := Aside0.mk h.lt
  clear h hj hB hn ho
  clear h0 h2
  go_enter Try.func22, Try.ntmps22
  go_wp2_with fail
  generalize w.alloc (.cells #[.int .i64 o.k, .int .i64 o.a, .int .i64 o.n, .int .i64 o.m, .string o.s] 41) = w1 at *
  have y1 := blk_cell HX1.out 1
  have a0 := HA0.out
  go_quiet (first | (go_at_call 24; refine Calls.quiet_of_same (place_at o.a 0 hp _)))
  have HX2 := Aside0.mk (blk_below HX1.out (below_drewN w1 nq))
  have HB2 := Aside0.mk (below_step HB1.out (below_drewN w1 nq))
  have HA2' := Aside0.mk (pw_cell_below (below_drewN w1 nq) HA2.out)
  clear y1 a0 HX1 HB1 HA0 HA2
  generalize w1.drewN nq = w2 at *
  have y1 := blk_cell HX2.out 1
  have a2 := HA2'.out
  go_upto_region 2 with fail
  go_quiet (first | (go_at_call 24; refine Calls.quiet_of_same (place_at o.a 0 hp _)))
  have HX3 := Aside0.mk (blk_below HX2.out (below_drewN w2 nq))
  have HB3 := Aside0.mk (below_step HB2.out (below_drewN w2 nq))
  clear y1 a2 HX2 HB2 HA2'
  generalize w2.drewN nq = w3 at *
  have y0 := blk_cell HX3.out 0
  have y2 := blk_cell HX3.out 2
  have y3 := blk_cell HX3.out 3
  have y4 := blk_cell HX3.out 4
  have HD3 := Aside0.mk (PD.start HP.out HB3.out)
  have HNC := Aside0.mk (show ¬ PS x r w.heap.size from fun hs => by have := HS.out _ hs; omega)
  have HB0 := Aside0.mk (show B ≤ w3.heap.size from Nat.le_trans HBB.out HB3.out.size)
  obtain ⟨⟨⟨d1, d2, d3, d4⟩, v2⟩, hv⟩ : ∃ d : Lt × Int, delB x o.n = d := ⟨_, rfl⟩
  have z2 : (v2 == v2) = true := by simp
  have z3 : (d1 == d1) = true := by simp
  have z4 : (d2 == d2) = true := by simp
  have z5 : (d3 == d3) = true := by simp
  have z6 : (d4 == d4) = true := (MapKept.bytes_beq d4 d4).2 rfl
  have HQ1 := Aside0.mk (deliver_calls B x n w3 HD3.out.pw.xin HJ.out.good o.n)
  have HQ2 := Aside0.mk (fun (W : World) (h : r.In B W) => rdeliver_calls B n x r o.n W h HJ.out HN.out HO.out.2)
  rw [hv] at HQ1 HQ2
  dsimp only at HQ1 HQ2
  clear hv
  go_upto_region 10 with (go_at_call 13; (with_reducible refine HQ1.out.mono ?_); rintro e w4 ⟨rfl, A1, c1, hd⟩; have H4 := Aside0.mk (HD3.out.mail hd); have HX4 := Aside0.mk ((hd.fr.block _ (blk_lt HX3.out) (fun hs => HNC.out (.inl hs))).trans HX3.out); clear hd)
  have H5 := Aside0.mk (H4.out.more (below2a w4 (.cells #[.int .i64 d1, .int .i64 d2, .int .i64 d3, .string d4] 33)))
  have HX5 := Aside0.mk (blk_below HX4.out (below2a w4 (.cells #[.int .i64 d1, .int .i64 d2, .int .i64 d3, .string d4] 33)))
  have HY5 := Aside0.mk (blk_new w4 (.cells #[.int .i64 d1, .int .i64 d2, .int .i64 d3, .string d4] 33))
  have HDL := Aside0.mk (H4.out.fr.size)
  clear y0 y2 y3 y4 H4 HX4 HX3
  generalize w4.heap.size = d at *
  generalize w4.alloc (.cells #[.int .i64 d1, .int .i64 d2, .int .i64 d3, .string d4] 33) = w5 at *
  have t2 := blk_cell HX5.out 2
  go_upto_region 11 with (go_at_call 40; (with_reducible refine (HQ2.out _ H5.out.pw.rin).mono ?_); rintro e w6 ⟨rfl, A2, c2, A3, c3, A4, c4, hd⟩; have H6 := Aside0.mk (H5.out.ref hd); have HY6 := Aside0.mk ((hd.fr.block _ (blk_lt HY5.out) (fun hs => by have := HS.out _ (.inr hs); have := HDL.out; omega)).trans HY5.out); clear hd)
  have H7 := Aside0.mk (H6.out.more (below2a w6 (.cells #[.int .i64 d1, .int .i64 d2, .int .i64 d3, .string d4] 33)))
  have HY7 := Aside0.mk (blk_below HY6.out (below2a w6 (.cells #[.int .i64 d1, .int .i64 d2, .int .i64 d3, .string d4] 33)))
  have HZ7 := Aside0.mk (blk_new w6 (.cells #[.int .i64 d1, .int .i64 d2, .int .i64 d3, .string d4] 33))
  clear t2 H5 HX5 HY5 H6 HY6
  generalize w6.heap.size = d6 at *
  generalize w6.alloc (.cells #[.int .i64 d1, .int .i64 d2, .int .i64 d3, .string d4] 33) = w7 at *
  have s0 := blk_cell HY7.out 0
  have s1 := blk_cell HY7.out 1
  have s2 := blk_cell HY7.out 2
  have s3 := blk_cell HY7.out 3
  have t0 := blk_cell HZ7.out 0
  have t1 := blk_cell HZ7.out 1
  have t2 := blk_cell HZ7.out 2
  have t3 := blk_cell HZ7.out 3
  go_wp2_with (go_at_call 11; refine (num_calls _ _).mono ?_; rintro e w' ⟨rfl, rfl⟩)
  go_ret
  exact ⟨rfl, _, _, H7.out, HJ.out.deliver o.n _ _ _ _ _ _ _ _⟩
set_option maxHeartbeats 8000000 in
set_option maxRecDepth 100000 in
theorem plays_drop0 (n B m : Nat) (x : Pm) (r : Rm) (o : Mo) (w : World) (h : PW B w x r) (hB : B ≤ w.heap.size) (hj : J n x r) (hn : n ≤ 2999999999999) (ho : o.Wf) (hp : plc o.a = 0) (h0 : w.cell? ⟨m, 0, none⟩ = some (.pointer (some ⟨x.g, 0, none⟩))) (h2 : w.cell? ⟨m, 2, none⟩ = some (.pointer (some ⟨r.m, 0, none⟩))) (k1 : (o.k == 1) = false) (k2 : (o.k == 2) = false) (k3 : (o.k == 3) = true) :
    Calls Try.prog 22 #[.pointer (some ⟨m, 0, none⟩), .agg #[.int .i64 o.k, .int .i64 o.a, .int .i64 o.n, .int .i64 o.m, .string o.s]] w (PRes n B x r w) := by
  have HX1 := Aside0.mk (blk_new w (.cells #[.int .i64 o.k, .int .i64 o.a, .int .i64 o.n, .int .i64 o.m, .string o.s] 41))
  have HB1 := Aside0.mk (below2a w (.cells #[.int .i64 o.k, .int .i64 o.a, .int .i64 o.n, .int .i64 o.m, .string o.s] 41))
  have HA0 := Aside0.mk (pw_cell_below (below2a w (.cells #[.int .i64 o.k, .int .i64 o.a, .int .i64 o.n, .int .i64 o.m, .string o.s] 41)) h0)
  have HA2 := Aside0.mk (pw_cell_below (below2a w (.cells #[.int .i64 o.k, .int .i64 o.a, .int .i64 o.n, .int .i64 o.m, .string o.s] 41)) h2)
  have HP := Aside0.mk h
  have HJ := Aside0.mk hj
  have HBB := Aside0.mk hB
  have HN := Aside0.mk hn
  have HO := Aside0.mk ho
  have HS := Aside0.mk h.lt
  clear h hj hB hn ho
  clear h0 h2
  go_enter Try.func22, Try.ntmps22
  go_wp2_with fail
  generalize w.alloc (.cells #[.int .i64 o.k, .int .i64 o.a, .int .i64 o.n, .int .i64 o.m, .string o.s] 41) = w1 at *
  have y1 := blk_cell HX1.out 1
  have a0 := HA0.out
  go_quiet (first | (go_at_call 24; refine Calls.quiet_of_same (place_at o.a 0 hp _)))
  have HX2 := Aside0.mk (blk_below HX1.out (below_drewN w1 nq))
  have HB2 := Aside0.mk (below_step HB1.out (below_drewN w1 nq))
  have HA2' := Aside0.mk (pw_cell_below (below_drewN w1 nq) HA2.out)
  clear y1 a0 HX1 HB1 HA0 HA2
  generalize w1.drewN nq = w2 at *
  have y1 := blk_cell HX2.out 1
  have a2 := HA2'.out
  go_upto_region 2 with fail
  go_quiet (first | (go_at_call 24; refine Calls.quiet_of_same (place_at o.a 0 hp _)))
  have HX3 := Aside0.mk (blk_below HX2.out (below_drewN w2 nq))
  have HB3 := Aside0.mk (below_step HB2.out (below_drewN w2 nq))
  clear y1 a2 HX2 HB2 HA2'
  generalize w2.drewN nq = w3 at *
  have y0 := blk_cell HX3.out 0
  have y2 := blk_cell HX3.out 2
  have y3 := blk_cell HX3.out 3
  have y4 := blk_cell HX3.out 4
  have HD3 := Aside0.mk (PD.start HP.out HB3.out)
  have HNC := Aside0.mk (show ¬ PS x r w.heap.size from fun hs => by have := HS.out _ hs; omega)
  have HB0 := Aside0.mk (show B ≤ w3.heap.size from Nat.le_trans HBB.out HB3.out.size)
  obtain ⟨v2, hv2⟩ : ∃ v : Int, dropB x o.n = v := ⟨_, rfl⟩
  have z2 : (v2 == v2) = true := by simp
  have HQ1 := Aside0.mk (drop_calls B x n w3 HD3.out.pw.xin HJ.out.good o.n)
  have HQ2 := Aside0.mk (fun (W : World) (h : r.In B W) (hb : B ≤ W.heap.size) => rdrop_calls B n x r o.n W h HJ.out HN.out HO.out.2)
  rw [hv2] at HQ1 HQ2
  clear hv2
  go_wp2_with (first
    | (go_at_call 17; (with_reducible refine HQ1.out.mono ?_); rintro e w4 ⟨rfl, A1, c1, hd⟩; have H4 := Aside0.mk (HD3.out.mail hd); have HX4 := Aside0.mk ((hd.fr.block _ (blk_lt HX3.out) (fun hs => HNC.out (.inl hs))).trans HX3.out); have t2 := blk_cell HX4.out 2; have t3 := blk_cell HX4.out 3; have t4 := blk_cell HX4.out 4; clear hd)
    | (go_at_call 41; (with_reducible refine (HQ2.out _ H4.out.pw.rin (Nat.le_trans HBB.out H4.out.fr.size)).mono ?_); rintro e w5 ⟨rfl, A2, c2, A3, c3, A4, c4, hd⟩; have H5 := Aside0.mk (H4.out.ref hd); clear hd)
    | (go_at_call 11; refine (num_calls _ _).mono ?_; rintro e w' ⟨rfl, rfl⟩))
  go_ret
  exact ⟨rfl, _, _, H5.out, HJ.out.drop o.n _ _ _ _ _ _ _ _⟩
set_option maxHeartbeats 8000000 in
set_option maxRecDepth 100000 in
theorem plays_copy0 (n B m : Nat) (x : Pm) (r : Rm) (o : Mo) (w : World) (h : PW B w x r) (hB : B ≤ w.heap.size) (hj : J n x r) (hn : n ≤ 2999999999999) (ho : o.Wf) (hp : plc o.a = 0) (h0 : w.cell? ⟨m, 0, none⟩ = some (.pointer (some ⟨x.g, 0, none⟩))) (h2 : w.cell? ⟨m, 2, none⟩ = some (.pointer (some ⟨r.m, 0, none⟩))) (k1 : (o.k == 1) = false) (k2 : (o.k == 2) = false) (k3 : (o.k == 3) = false) (k4 : (o.k == 4) = true) :
    Calls Try.prog 22 #[.pointer (some ⟨m, 0, none⟩), .agg #[.int .i64 o.k, .int .i64 o.a, .int .i64 o.n, .int .i64 o.m, .string o.s]] w (PRes n B x r w) := by
  have HX1 := Aside0.mk (blk_new w (.cells #[.int .i64 o.k, .int .i64 o.a, .int .i64 o.n, .int .i64 o.m, .string o.s] 41))
  have HB1 := Aside0.mk (below2a w (.cells #[.int .i64 o.k, .int .i64 o.a, .int .i64 o.n, .int .i64 o.m, .string o.s] 41))
  have HA0 := Aside0.mk (pw_cell_below (below2a w (.cells #[.int .i64 o.k, .int .i64 o.a, .int .i64 o.n, .int .i64 o.m, .string o.s] 41)) h0)
  have HA2 := Aside0.mk (pw_cell_below (below2a w (.cells #[.int .i64 o.k, .int .i64 o.a, .int .i64 o.n, .int .i64 o.m, .string o.s] 41)) h2)
  have HP := Aside0.mk h
  have HJ := Aside0.mk hj
  have HBB := Aside0.mk hB
  have HN := Aside0.mk hn
  have HO := Aside0.mk ho
  have HS := Aside0.mk h.lt
  clear h hj hB hn ho
  clear h0 h2
  go_enter Try.func22, Try.ntmps22
  go_wp2_with fail
  generalize w.alloc (.cells #[.int .i64 o.k, .int .i64 o.a, .int .i64 o.n, .int .i64 o.m, .string o.s] 41) = w1 at *
  have y1 := blk_cell HX1.out 1
  have a0 := HA0.out
  go_quiet (first | (go_at_call 24; refine Calls.quiet_of_same (place_at o.a 0 hp _)))
  have HX2 := Aside0.mk (blk_below HX1.out (below_drewN w1 nq))
  have HB2 := Aside0.mk (below_step HB1.out (below_drewN w1 nq))
  have HA2' := Aside0.mk (pw_cell_below (below_drewN w1 nq) HA2.out)
  clear y1 a0 HX1 HB1 HA0 HA2
  generalize w1.drewN nq = w2 at *
  have y1 := blk_cell HX2.out 1
  have a2 := HA2'.out
  go_upto_region 2 with fail
  go_quiet (first | (go_at_call 24; refine Calls.quiet_of_same (place_at o.a 0 hp _)))
  have HX3 := Aside0.mk (blk_below HX2.out (below_drewN w2 nq))
  have HB3 := Aside0.mk (below_step HB2.out (below_drewN w2 nq))
  clear y1 a2 HX2 HB2 HA2'
  generalize w2.drewN nq = w3 at *
  have y0 := blk_cell HX3.out 0
  have y2 := blk_cell HX3.out 2
  have y3 := blk_cell HX3.out 3
  have y4 := blk_cell HX3.out 4
  have HD3 := Aside0.mk (PD.start HP.out HB3.out)
  have HNC := Aside0.mk (show ¬ PS x r w.heap.size from fun hs => by have := HS.out _ hs; omega)
  have HB0 := Aside0.mk (show B ≤ w3.heap.size from Nat.le_trans HBB.out HB3.out.size)
  obtain ⟨v2, hv2⟩ : ∃ v : Int, copyB x o.n = v := ⟨_, rfl⟩
  have z2 : (v2 == v2) = true := by simp
  have HQ1 := Aside0.mk (copy_calls B x n w3 HD3.out.pw.xin HB0.out HJ.out.good (by have := HN.out; omega) o.n)
  have HQ2 := Aside0.mk (fun (W : World) (h : r.In B W) (hb : B ≤ W.heap.size) => rcopy_calls B n x r o.n W h hb HJ.out HN.out HO.out.2)
  rw [hv2] at HQ1 HQ2
  clear hv2
  go_wp2_with (first
    | (go_at_call 18; (with_reducible refine HQ1.out.mono ?_); rintro e w4 ⟨rfl, A1, c1, hd⟩; have H4 := Aside0.mk (HD3.out.mail hd); have HX4 := Aside0.mk ((hd.fr.block _ (blk_lt HX3.out) (fun hs => HNC.out (.inl hs))).trans HX3.out); have t2 := blk_cell HX4.out 2; have t3 := blk_cell HX4.out 3; have t4 := blk_cell HX4.out 4; clear hd)
    | (go_at_call 42; (with_reducible refine (HQ2.out _ H4.out.pw.rin (Nat.le_trans HBB.out H4.out.fr.size)).mono ?_); rintro e w5 ⟨rfl, A2, c2, A3, c3, A4, c4, hd⟩; have H5 := Aside0.mk (H4.out.ref hd); clear hd)
    | (go_at_call 11; refine (num_calls _ _).mono ?_; rintro e w' ⟨rfl, rfl⟩))
  go_ret
  exact ⟨rfl, _, _, H5.out, HJ.out.copy o.n _ _ _ _ _ _ _ _⟩
set_option maxHeartbeats 8000000 in
set_option maxRecDepth 100000 in
theorem plays_cut0 (n B m : Nat) (x : Pm) (r : Rm) (o : Mo) (w : World) (h : PW B w x r) (hB : B ≤ w.heap.size) (hj : J n x r) (hn : n ≤ 2999999999999) (ho : o.Wf) (hp : plc o.a = 0) (h0 : w.cell? ⟨m, 0, none⟩ = some (.pointer (some ⟨x.g, 0, none⟩))) (h2 : w.cell? ⟨m, 2, none⟩ = some (.pointer (some ⟨r.m, 0, none⟩))) (k1 : (o.k == 1) = false) (k2 : (o.k == 2) = false) (k3 : (o.k == 3) = false) (k4 : (o.k == 4) = false) (k5 : (o.k == 5) = true) :
    Calls Try.prog 22 #[.pointer (some ⟨m, 0, none⟩), .agg #[.int .i64 o.k, .int .i64 o.a, .int .i64 o.n, .int .i64 o.m, .string o.s]] w (PRes n B x r w) := by
  have HX1 := Aside0.mk (blk_new w (.cells #[.int .i64 o.k, .int .i64 o.a, .int .i64 o.n, .int .i64 o.m, .string o.s] 41))
  have HB1 := Aside0.mk (below2a w (.cells #[.int .i64 o.k, .int .i64 o.a, .int .i64 o.n, .int .i64 o.m, .string o.s] 41))
  have HA0 := Aside0.mk (pw_cell_below (below2a w (.cells #[.int .i64 o.k, .int .i64 o.a, .int .i64 o.n, .int .i64 o.m, .string o.s] 41)) h0)
  have HA2 := Aside0.mk (pw_cell_below (below2a w (.cells #[.int .i64 o.k, .int .i64 o.a, .int .i64 o.n, .int .i64 o.m, .string o.s] 41)) h2)
  have HP := Aside0.mk h
  have HJ := Aside0.mk hj
  have HBB := Aside0.mk hB
  have HN := Aside0.mk hn
  have HO := Aside0.mk ho
  have HS := Aside0.mk h.lt
  clear h hj hB hn ho
  clear h0 h2
  go_enter Try.func22, Try.ntmps22
  go_wp2_with fail
  generalize w.alloc (.cells #[.int .i64 o.k, .int .i64 o.a, .int .i64 o.n, .int .i64 o.m, .string o.s] 41) = w1 at *
  have y1 := blk_cell HX1.out 1
  have a0 := HA0.out
  go_quiet (first | (go_at_call 24; refine Calls.quiet_of_same (place_at o.a 0 hp _)))
  have HX2 := Aside0.mk (blk_below HX1.out (below_drewN w1 nq))
  have HB2 := Aside0.mk (below_step HB1.out (below_drewN w1 nq))
  have HA2' := Aside0.mk (pw_cell_below (below_drewN w1 nq) HA2.out)
  clear y1 a0 HX1 HB1 HA0 HA2
  generalize w1.drewN nq = w2 at *
  have y1 := blk_cell HX2.out 1
  have a2 := HA2'.out
  go_upto_region 2 with fail
  go_quiet (first | (go_at_call 24; refine Calls.quiet_of_same (place_at o.a 0 hp _)))
  have HX3 := Aside0.mk (blk_below HX2.out (below_drewN w2 nq))
  have HB3 := Aside0.mk (below_step HB2.out (below_drewN w2 nq))
  clear y1 a2 HX2 HB2 HA2'
  generalize w2.drewN nq = w3 at *
  have y0 := blk_cell HX3.out 0
  have y2 := blk_cell HX3.out 2
  have y3 := blk_cell HX3.out 3
  have y4 := blk_cell HX3.out 4
  have HD3 := Aside0.mk (PD.start HP.out HB3.out)
  have HNC := Aside0.mk (show ¬ PS x r w.heap.size from fun hs => by have := HS.out _ hs; omega)
  have HB0 := Aside0.mk (show B ≤ w3.heap.size from Nat.le_trans HBB.out HB3.out.size)
  obtain ⟨v2, hv2⟩ : ∃ v : Int, linkV o.n o.m = v := ⟨_, rfl⟩
  have z2 : (v2 == v2) = true := by simp
  have HQ1 := Aside0.mk (cut_calls B x n w3 HD3.out.pw.xin HJ.out.good (by have := HN.out; omega) o.n o.m)
  have HQ2 := Aside0.mk (fun (W : World) (h : r.In B W) (hb : B ≤ W.heap.size) => rcut_calls B n x r o.n o.m W h hb HJ.out HN.out)
  rw [hv2] at HQ1 HQ2
  clear hv2
  go_wp2_with (first
    | (go_at_call 15; (with_reducible refine HQ1.out.mono ?_); rintro e w4 ⟨rfl, A1, c1, hd⟩; have H4 := Aside0.mk (HD3.out.mail hd); have HX4 := Aside0.mk ((hd.fr.block _ (blk_lt HX3.out) (fun hs => HNC.out (.inl hs))).trans HX3.out); have t2 := blk_cell HX4.out 2; have t3 := blk_cell HX4.out 3; have t4 := blk_cell HX4.out 4; clear hd)
    | (go_at_call 43; (with_reducible refine (HQ2.out _ H4.out.pw.rin (Nat.le_trans HBB.out H4.out.fr.size)).mono ?_); rintro e w5 ⟨rfl, A2, c2, A3, c3, A4, c4, hd⟩; have H5 := Aside0.mk (H4.out.ref hd); clear hd)
    | (go_at_call 11; refine (num_calls _ _).mono ?_; rintro e w' ⟨rfl, rfl⟩))
  go_ret
  exact ⟨rfl, _, _, H5.out, HJ.out.cut o.n o.m _ _ _ _ _ _ _ _⟩
set_option maxHeartbeats 8000000 in
set_option maxRecDepth 100000 in
theorem plays_heal0 (n B m : Nat) (x : Pm) (r : Rm) (o : Mo) (w : World) (h : PW B w x r) (hB : B ≤ w.heap.size) (hj : J n x r) (hn : n ≤ 2999999999999) (ho : o.Wf) (hp : plc o.a = 0) (h0 : w.cell? ⟨m, 0, none⟩ = some (.pointer (some ⟨x.g, 0, none⟩))) (h2 : w.cell? ⟨m, 2, none⟩ = some (.pointer (some ⟨r.m, 0, none⟩))) (k1 : (o.k == 1) = false) (k2 : (o.k == 2) = false) (k3 : (o.k == 3) = false) (k4 : (o.k == 4) = false) (k5 : (o.k == 5) = false) (k6 : (o.k == 6) = true) :
    Calls Try.prog 22 #[.pointer (some ⟨m, 0, none⟩), .agg #[.int .i64 o.k, .int .i64 o.a, .int .i64 o.n, .int .i64 o.m, .string o.s]] w (PRes n B x r w) := by
  have HX1 := Aside0.mk (blk_new w (.cells #[.int .i64 o.k, .int .i64 o.a, .int .i64 o.n, .int .i64 o.m, .string o.s] 41))
  have HB1 := Aside0.mk (below2a w (.cells #[.int .i64 o.k, .int .i64 o.a, .int .i64 o.n, .int .i64 o.m, .string o.s] 41))
  have HA0 := Aside0.mk (pw_cell_below (below2a w (.cells #[.int .i64 o.k, .int .i64 o.a, .int .i64 o.n, .int .i64 o.m, .string o.s] 41)) h0)
  have HA2 := Aside0.mk (pw_cell_below (below2a w (.cells #[.int .i64 o.k, .int .i64 o.a, .int .i64 o.n, .int .i64 o.m, .string o.s] 41)) h2)
  have HP := Aside0.mk h
  have HJ := Aside0.mk hj
  have HBB := Aside0.mk hB
  have HN := Aside0.mk hn
  have HO := Aside0.mk ho
  have HS := Aside0.mk h.lt
  clear h hj hB hn ho
  clear h0 h2
  go_enter Try.func22, Try.ntmps22
  go_wp2_with fail
  generalize w.alloc (.cells #[.int .i64 o.k, .int .i64 o.a, .int .i64 o.n, .int .i64 o.m, .string o.s] 41) = w1 at *
  have y1 := blk_cell HX1.out 1
  have a0 := HA0.out
  go_quiet (first | (go_at_call 24; refine Calls.quiet_of_same (place_at o.a 0 hp _)))
  have HX2 := Aside0.mk (blk_below HX1.out (below_drewN w1 nq))
  have HB2 := Aside0.mk (below_step HB1.out (below_drewN w1 nq))
  have HA2' := Aside0.mk (pw_cell_below (below_drewN w1 nq) HA2.out)
  clear y1 a0 HX1 HB1 HA0 HA2
  generalize w1.drewN nq = w2 at *
  have y1 := blk_cell HX2.out 1
  have a2 := HA2'.out
  go_upto_region 2 with fail
  go_quiet (first | (go_at_call 24; refine Calls.quiet_of_same (place_at o.a 0 hp _)))
  have HX3 := Aside0.mk (blk_below HX2.out (below_drewN w2 nq))
  have HB3 := Aside0.mk (below_step HB2.out (below_drewN w2 nq))
  clear y1 a2 HX2 HB2 HA2'
  generalize w2.drewN nq = w3 at *
  have y0 := blk_cell HX3.out 0
  have y2 := blk_cell HX3.out 2
  have y3 := blk_cell HX3.out 3
  have y4 := blk_cell HX3.out 4
  have HD3 := Aside0.mk (PD.start HP.out HB3.out)
  have HNC := Aside0.mk (show ¬ PS x r w.heap.size from fun hs => by have := HS.out _ hs; omega)
  have HB0 := Aside0.mk (show B ≤ w3.heap.size from Nat.le_trans HBB.out HB3.out.size)
  obtain ⟨v2, hv2⟩ : ∃ v : Int, linkV o.n o.m = v := ⟨_, rfl⟩
  have z2 : (v2 == v2) = true := by simp
  have HQ1 := Aside0.mk (heal_calls B x w3 HD3.out.pw.xin o.n o.m)
  have HQ2 := Aside0.mk (fun (W : World) (h : r.In B W) (hb : B ≤ W.heap.size) => rheal_calls B n x r o.n o.m W h hb HJ.out HN.out)
  rw [hv2] at HQ1 HQ2
  clear hv2
  go_wp2_with (first
    | (go_at_call 19; (with_reducible refine HQ1.out.mono ?_); rintro e w4 ⟨rfl, A1, c1, hd⟩; have H4 := Aside0.mk (HD3.out.mail hd); have HX4 := Aside0.mk ((hd.fr.block _ (blk_lt HX3.out) (fun hs => HNC.out (.inl hs))).trans HX3.out); have t2 := blk_cell HX4.out 2; have t3 := blk_cell HX4.out 3; have t4 := blk_cell HX4.out 4; clear hd)
    | (go_at_call 44; (with_reducible refine (HQ2.out _ H4.out.pw.rin (Nat.le_trans HBB.out H4.out.fr.size)).mono ?_); rintro e w5 ⟨rfl, A2, c2, A3, c3, A4, c4, hd⟩; have H5 := Aside0.mk (H4.out.ref hd); clear hd)
    | (go_at_call 11; refine (num_calls _ _).mono ?_; rintro e w' ⟨rfl, rfl⟩))
  go_ret
  exact ⟨rfl, _, _, H5.out, HJ.out.heal o.n o.m _ _ _ _ _ _ _ _⟩
set_option maxHeartbeats 8000000 in
set_option maxRecDepth 100000 in
theorem plays_flying0 (n B m : Nat) (x : Pm) (r : Rm) (o : Mo) (w : World) (h : PW B w x r) (hB : B ≤ w.heap.size) (hj : J n x r) (hn : n ≤ 2999999999999) (ho : o.Wf) (hp : plc o.a = 0) (h0 : w.cell? ⟨m, 0, none⟩ = some (.pointer (some ⟨x.g, 0, none⟩))) (h2 : w.cell? ⟨m, 2, none⟩ = some (.pointer (some ⟨r.m, 0, none⟩))) (k1 : (o.k == 1) = false) (k2 : (o.k == 2) = false) (k3 : (o.k == 3) = false) (k4 : (o.k == 4) = false) (k5 : (o.k == 5) = false) (k6 : (o.k == 6) = false) (k7 : (o.k == 7) = true) :
    Calls Try.prog 22 #[.pointer (some ⟨m, 0, none⟩), .agg #[.int .i64 o.k, .int .i64 o.a, .int .i64 o.n, .int .i64 o.m, .string o.s]] w (PRes n B x r w) := by
  have HX1 := Aside0.mk (blk_new w (.cells #[.int .i64 o.k, .int .i64 o.a, .int .i64 o.n, .int .i64 o.m, .string o.s] 41))
  have HB1 := Aside0.mk (below2a w (.cells #[.int .i64 o.k, .int .i64 o.a, .int .i64 o.n, .int .i64 o.m, .string o.s] 41))
  have HA0 := Aside0.mk (pw_cell_below (below2a w (.cells #[.int .i64 o.k, .int .i64 o.a, .int .i64 o.n, .int .i64 o.m, .string o.s] 41)) h0)
  have HA2 := Aside0.mk (pw_cell_below (below2a w (.cells #[.int .i64 o.k, .int .i64 o.a, .int .i64 o.n, .int .i64 o.m, .string o.s] 41)) h2)
  have HP := Aside0.mk h
  have HJ := Aside0.mk hj
  have HBB := Aside0.mk hB
  have HN := Aside0.mk hn
  have HO := Aside0.mk ho
  have HS := Aside0.mk h.lt
  clear h hj hB hn ho
  clear h0 h2
  go_enter Try.func22, Try.ntmps22
  go_wp2_with fail
  generalize w.alloc (.cells #[.int .i64 o.k, .int .i64 o.a, .int .i64 o.n, .int .i64 o.m, .string o.s] 41) = w1 at *
  have y1 := blk_cell HX1.out 1
  have a0 := HA0.out
  go_quiet (first | (go_at_call 24; refine Calls.quiet_of_same (place_at o.a 0 hp _)))
  have HX2 := Aside0.mk (blk_below HX1.out (below_drewN w1 nq))
  have HB2 := Aside0.mk (below_step HB1.out (below_drewN w1 nq))
  have HA2' := Aside0.mk (pw_cell_below (below_drewN w1 nq) HA2.out)
  clear y1 a0 HX1 HB1 HA0 HA2
  generalize w1.drewN nq = w2 at *
  have y1 := blk_cell HX2.out 1
  have a2 := HA2'.out
  go_upto_region 2 with fail
  go_quiet (first | (go_at_call 24; refine Calls.quiet_of_same (place_at o.a 0 hp _)))
  have HX3 := Aside0.mk (blk_below HX2.out (below_drewN w2 nq))
  have HB3 := Aside0.mk (below_step HB2.out (below_drewN w2 nq))
  clear y1 a2 HX2 HB2 HA2'
  generalize w2.drewN nq = w3 at *
  have y0 := blk_cell HX3.out 0
  have y2 := blk_cell HX3.out 2
  have y3 := blk_cell HX3.out 3
  have y4 := blk_cell HX3.out 4
  have HD3 := Aside0.mk (PD.start HP.out HB3.out)
  have HNC := Aside0.mk (show ¬ PS x r w.heap.size from fun hs => by have := HS.out _ hs; omega)
  have HB0 := Aside0.mk (show B ≤ w3.heap.size from Nat.le_trans HBB.out HB3.out.size)
  have HQ2 := Aside0.mk (fun (W : World) (h : r.In B W) => rflying_calls B r W h HJ.out.len (by have := HJ.out.le; have := HN.out; omega))
  rw [← HJ.out.left] at HQ2
  have HL4 := Aside0.mk HJ.out.good.len4
  go_wp2_with (first
    | (go_at_call 25; (with_reducible refine (flying_calls B x _ HD3.out.pw.xin HL4.out).mono ?_); rintro e w4 ⟨A1, c1, rfl, hb, ho⟩; have H4 := Aside0.mk (HD3.out.more hb); have HO4 := Aside0.mk ho; clear hb ho)
    | (go_at_call 27; (with_reducible refine (HQ2.out _ H4.out.pw.rin).mono ?_); rintro e w5 ⟨A2, c2, rfl, hb, ho⟩; have H5 := Aside0.mk (H4.out.more hb); have HO5 := Aside0.mk ho; have HO6 := Aside0.mk (ownsRow_keep HO4.out (fun q hq => hb.block q (ownsRow_lt HO4.out q hq).2)); clear hb ho)
    | (go_at_call 26; (with_reducible refine (same_calls _ _ A1 A2 c1 c2 x.L _ HO6.out HO5.out (by have := HL4.out; omega)).mono ?_); rintro e w6 ⟨rfl, hb⟩; have H6 := Aside0.mk (H5.out.more hb); clear hb))
  go_ret
  exact ⟨rfl, _, _, H6.out, HJ.out.more (by omega)⟩
set_option maxHeartbeats 8000000 in
set_option maxRecDepth 100000 in
theorem plays_count0 (n B m : Nat) (x : Pm) (r : Rm) (o : Mo) (w : World) (h : PW B w x r) (hB : B ≤ w.heap.size) (hj : J n x r) (hn : n ≤ 2999999999999) (ho : o.Wf) (hp : plc o.a = 0) (h0 : w.cell? ⟨m, 0, none⟩ = some (.pointer (some ⟨x.g, 0, none⟩))) (h2 : w.cell? ⟨m, 2, none⟩ = some (.pointer (some ⟨r.m, 0, none⟩))) (k1 : (o.k == 1) = false) (k2 : (o.k == 2) = false) (k3 : (o.k == 3) = false) (k4 : (o.k == 4) = false) (k5 : (o.k == 5) = false) (k6 : (o.k == 6) = false) (k7 : (o.k == 7) = false) (k8 : (o.k == 8) = true) :
    Calls Try.prog 22 #[.pointer (some ⟨m, 0, none⟩), .agg #[.int .i64 o.k, .int .i64 o.a, .int .i64 o.n, .int .i64 o.m, .string o.s]] w (PRes n B x r w) := by
  have HX1 := Aside0.mk (blk_new w (.cells #[.int .i64 o.k, .int .i64 o.a, .int .i64 o.n, .int .i64 o.m, .string o.s] 41))
  have HB1 := Aside0.mk (below2a w (.cells #[.int .i64 o.k, .int .i64 o.a, .int .i64 o.n, .int .i64 o.m, .string o.s] 41))
  have HA0 := Aside0.mk (pw_cell_below (below2a w (.cells #[.int .i64 o.k, .int .i64 o.a, .int .i64 o.n, .int .i64 o.m, .string o.s] 41)) h0)
  have HA2 := Aside0.mk (pw_cell_below (below2a w (.cells #[.int .i64 o.k, .int .i64 o.a, .int .i64 o.n, .int .i64 o.m, .string o.s] 41)) h2)
  have HP := Aside0.mk h
  have HJ := Aside0.mk hj
  have HBB := Aside0.mk hB
  have HN := Aside0.mk hn
  have HO := Aside0.mk ho
  have HS := Aside0.mk h.lt
  clear h hj hB hn ho
  clear h0 h2
  go_enter Try.func22, Try.ntmps22
  go_wp2_with fail
  generalize w.alloc (.cells #[.int .i64 o.k, .int .i64 o.a, .int .i64 o.n, .int .i64 o.m, .string o.s] 41) = w1 at *
  have y1 := blk_cell HX1.out 1
  have a0 := HA0.out
  go_quiet (first | (go_at_call 24; refine Calls.quiet_of_same (place_at o.a 0 hp _)))
  have HX2 := Aside0.mk (blk_below HX1.out (below_drewN w1 nq))
  have HB2 := Aside0.mk (below_step HB1.out (below_drewN w1 nq))
  have HA2' := Aside0.mk (pw_cell_below (below_drewN w1 nq) HA2.out)
  clear y1 a0 HX1 HB1 HA0 HA2
  generalize w1.drewN nq = w2 at *
  have y1 := blk_cell HX2.out 1
  have a2 := HA2'.out
  go_upto_region 2 with fail
  go_quiet (first | (go_at_call 24; refine Calls.quiet_of_same (place_at o.a 0 hp _)))
  have HX3 := Aside0.mk (blk_below HX2.out (below_drewN w2 nq))
  have HB3 := Aside0.mk (below_step HB2.out (below_drewN w2 nq))
  clear y1 a2 HX2 HB2 HA2'
  generalize w2.drewN nq = w3 at *
  have y0 := blk_cell HX3.out 0
  have y2 := blk_cell HX3.out 2
  have y3 := blk_cell HX3.out 3
  have y4 := blk_cell HX3.out 4
  have HD3 := Aside0.mk (PD.start HP.out HB3.out)
  have HNC := Aside0.mk (show ¬ PS x r w.heap.size from fun hs => by have := HS.out _ hs; omega)
  have HB0 := Aside0.mk (show B ≤ w3.heap.size from Nat.le_trans HBB.out HB3.out.size)
  have HQ2 := Aside0.mk (fun (W : World) (h : r.In B W) => rcount_calls B r W h HJ.out.len (by have := HJ.out.le; have := HN.out; omega))
  rw [← HJ.out.left] at HQ2
  have z1 : ((x.L.length : Int) == (x.L.length : Int)) = true := by simp
  have z2 : (x.L.length == x.L.length) = true := by simp
  go_wp2_with (first
    | (go_at_call 14; (with_reducible refine (count_calls B x _ HD3.out.pw.xin).mono ?_); rintro e w4 ⟨rfl, rfl⟩)
    | (go_at_call 45; (with_reducible refine (HQ2.out _ HD3.out.pw.rin).mono ?_); rintro e w5 ⟨rfl, hb⟩; have H5 := Aside0.mk (HD3.out.more hb); clear hb))
  go_ret
  exact ⟨rfl, _, _, H5.out, HJ.out.more (by omega)⟩
set_option maxHeartbeats 8000000 in
set_option maxRecDepth 100000 in
theorem plays_sent0 (n B m : Nat) (x : Pm) (r : Rm) (o : Mo) (w : World) (h : PW B w x r) (hB : B ≤ w.heap.size) (hj : J n x r) (hn : n ≤ 2999999999999) (ho : o.Wf) (hp : plc o.a = 0) (h0 : w.cell? ⟨m, 0, none⟩ = some (.pointer (some ⟨x.g, 0, none⟩))) (h2 : w.cell? ⟨m, 2, none⟩ = some (.pointer (some ⟨r.m, 0, none⟩))) (k1 : (o.k == 1) = false) (k2 : (o.k == 2) = false) (k3 : (o.k == 3) = false) (k4 : (o.k == 4) = false) (k5 : (o.k == 5) = false) (k6 : (o.k == 6) = false) (k7 : (o.k == 7) = false) (k8 : (o.k == 8) = false) (k9 : (o.k == 9) = true) :
    Calls Try.prog 22 #[.pointer (some ⟨m, 0, none⟩), .agg #[.int .i64 o.k, .int .i64 o.a, .int .i64 o.n, .int .i64 o.m, .string o.s]] w (PRes n B x r w) := by
  have HX1 := Aside0.mk (blk_new w (.cells #[.int .i64 o.k, .int .i64 o.a, .int .i64 o.n, .int .i64 o.m, .string o.s] 41))
  have HB1 := Aside0.mk (below2a w (.cells #[.int .i64 o.k, .int .i64 o.a, .int .i64 o.n, .int .i64 o.m, .string o.s] 41))
  have HA0 := Aside0.mk (pw_cell_below (below2a w (.cells #[.int .i64 o.k, .int .i64 o.a, .int .i64 o.n, .int .i64 o.m, .string o.s] 41)) h0)
  have HA2 := Aside0.mk (pw_cell_below (below2a w (.cells #[.int .i64 o.k, .int .i64 o.a, .int .i64 o.n, .int .i64 o.m, .string o.s] 41)) h2)
  have HP := Aside0.mk h
  have HJ := Aside0.mk hj
  have HBB := Aside0.mk hB
  have HN := Aside0.mk hn
  have HO := Aside0.mk ho
  have HS := Aside0.mk h.lt
  clear h hj hB hn ho
  clear h0 h2
  go_enter Try.func22, Try.ntmps22
  go_wp2_with fail
  generalize w.alloc (.cells #[.int .i64 o.k, .int .i64 o.a, .int .i64 o.n, .int .i64 o.m, .string o.s] 41) = w1 at *
  have y1 := blk_cell HX1.out 1
  have a0 := HA0.out
  go_quiet (first | (go_at_call 24; refine Calls.quiet_of_same (place_at o.a 0 hp _)))
  have HX2 := Aside0.mk (blk_below HX1.out (below_drewN w1 nq))
  have HB2 := Aside0.mk (below_step HB1.out (below_drewN w1 nq))
  have HA2' := Aside0.mk (pw_cell_below (below_drewN w1 nq) HA2.out)
  clear y1 a0 HX1 HB1 HA0 HA2
  generalize w1.drewN nq = w2 at *
  have y1 := blk_cell HX2.out 1
  have a2 := HA2'.out
  go_upto_region 2 with fail
  go_quiet (first | (go_at_call 24; refine Calls.quiet_of_same (place_at o.a 0 hp _)))
  have HX3 := Aside0.mk (blk_below HX2.out (below_drewN w2 nq))
  have HB3 := Aside0.mk (below_step HB2.out (below_drewN w2 nq))
  clear y1 a2 HX2 HB2 HA2'
  generalize w2.drewN nq = w3 at *
  have y0 := blk_cell HX3.out 0
  have y2 := blk_cell HX3.out 2
  have y3 := blk_cell HX3.out 3
  have y4 := blk_cell HX3.out 4
  have HD3 := Aside0.mk (PD.start HP.out HB3.out)
  have HNC := Aside0.mk (show ¬ PS x r w.heap.size from fun hs => by have := HS.out _ hs; omega)
  have HB0 := Aside0.mk (show B ≤ w3.heap.size from Nat.le_trans HBB.out HB3.out.size)
  obtain ⟨v1, hv1⟩ : ∃ v : Int, x.sent = v := ⟨_, rfl⟩
  have z1 : (v1 == v1) = true := by simp
  have HQ1 := Aside0.mk (sent_calls B x w3 HD3.out.pw.xin)
  have HQ2 := Aside0.mk (fun (W : World) (h : r.In B W) => rsent_calls B r W h)
  rw [← HJ.out.sent] at HQ2
  rw [hv1] at HQ1 HQ2
  clear hv1
  go_wp2_with (first
    | (go_at_call 30; (with_reducible refine HQ1.out.mono ?_); rintro e w4 ⟨rfl, rfl⟩)
    | (go_at_call 46; (with_reducible refine (HQ2.out _ HD3.out.pw.rin).mono ?_); rintro e w5 ⟨rfl, rfl⟩))
  go_ret
  exact ⟨rfl, _, _, HD3.out, HJ.out.more (by omega)⟩
set_option maxHeartbeats 8000000 in
set_option maxRecDepth 100000 in
theorem plays_other0 (n B m : Nat) (x : Pm) (r : Rm) (o : Mo) (w : World) (h : PW B w x r) (hB : B ≤ w.heap.size) (hj : J n x r) (hn : n ≤ 2999999999999) (ho : o.Wf) (hp : plc o.a = 0) (h0 : w.cell? ⟨m, 0, none⟩ = some (.pointer (some ⟨x.g, 0, none⟩))) (h2 : w.cell? ⟨m, 2, none⟩ = some (.pointer (some ⟨r.m, 0, none⟩))) (k1 : (o.k == 1) = false) (k2 : (o.k == 2) = false) (k3 : (o.k == 3) = false) (k4 : (o.k == 4) = false) (k5 : (o.k == 5) = false) (k6 : (o.k == 6) = false) (k7 : (o.k == 7) = false) (k8 : (o.k == 8) = false) (k9 : (o.k == 9) = false) :
    Calls Try.prog 22 #[.pointer (some ⟨m, 0, none⟩), .agg #[.int .i64 o.k, .int .i64 o.a, .int .i64 o.n, .int .i64 o.m, .string o.s]] w (PRes n B x r w) := by
  have HX1 := Aside0.mk (blk_new w (.cells #[.int .i64 o.k, .int .i64 o.a, .int .i64 o.n, .int .i64 o.m, .string o.s] 41))
  have HB1 := Aside0.mk (below2a w (.cells #[.int .i64 o.k, .int .i64 o.a, .int .i64 o.n, .int .i64 o.m, .string o.s] 41))
  have HA0 := Aside0.mk (pw_cell_below (below2a w (.cells #[.int .i64 o.k, .int .i64 o.a, .int .i64 o.n, .int .i64 o.m, .string o.s] 41)) h0)
  have HA2 := Aside0.mk (pw_cell_below (below2a w (.cells #[.int .i64 o.k, .int .i64 o.a, .int .i64 o.n, .int .i64 o.m, .string o.s] 41)) h2)
  have HP := Aside0.mk h
  have HJ := Aside0.mk hj
  have HBB := Aside0.mk hB
  have HN := Aside0.mk hn
  have HO := Aside0.mk ho
  have HS := Aside0.mk h.lt
  clear h hj hB hn ho
  clear h0 h2
  go_enter Try.func22, Try.ntmps22
  go_wp2_with fail
  generalize w.alloc (.cells #[.int .i64 o.k, .int .i64 o.a, .int .i64 o.n, .int .i64 o.m, .string o.s] 41) = w1 at *
  have y1 := blk_cell HX1.out 1
  have a0 := HA0.out
  go_quiet (first | (go_at_call 24; refine Calls.quiet_of_same (place_at o.a 0 hp _)))
  have HX2 := Aside0.mk (blk_below HX1.out (below_drewN w1 nq))
  have HB2 := Aside0.mk (below_step HB1.out (below_drewN w1 nq))
  have HA2' := Aside0.mk (pw_cell_below (below_drewN w1 nq) HA2.out)
  clear y1 a0 HX1 HB1 HA0 HA2
  generalize w1.drewN nq = w2 at *
  have y1 := blk_cell HX2.out 1
  have a2 := HA2'.out
  go_upto_region 2 with fail
  go_quiet (first | (go_at_call 24; refine Calls.quiet_of_same (place_at o.a 0 hp _)))
  have HX3 := Aside0.mk (blk_below HX2.out (below_drewN w2 nq))
  have HB3 := Aside0.mk (below_step HB2.out (below_drewN w2 nq))
  clear y1 a2 HX2 HB2 HA2'
  generalize w2.drewN nq = w3 at *
  have y0 := blk_cell HX3.out 0
  have y2 := blk_cell HX3.out 2
  have y3 := blk_cell HX3.out 3
  have y4 := blk_cell HX3.out 4
  have HD3 := Aside0.mk (PD.start HP.out HB3.out)
  have HNC := Aside0.mk (show ¬ PS x r w.heap.size from fun hs => by have := HS.out _ hs; omega)
  have HB0 := Aside0.mk (show B ≤ w3.heap.size from Nat.le_trans HBB.out HB3.out.size)
  go_wp2_with fail
  go_ret
  exact ⟨rfl, _, _, HD3.out, HJ.out.more (by omega)⟩
set_option maxHeartbeats 8000000 in
set_option maxRecDepth 100000 in
theorem plays_send1 (n B m : Nat) (x : Pm) (r : Rm) (o : Mo) (w : World) (h : PW B w x r) (hB : B ≤ w.heap.size) (hj : J n x r) (hn : n ≤ 2999999999999) (ho : o.Wf) (hp : plc o.a = 1) (h0 : w.cell? ⟨m, 1, none⟩ = some (.pointer (some ⟨x.g, 0, none⟩))) (h2 : w.cell? ⟨m, 3, none⟩ = some (.pointer (some ⟨r.m, 0, none⟩))) (k1 : (o.k == 1) = true) :
    Calls Try.prog 22 #[.pointer (some ⟨m, 0, none⟩), .agg #[.int .i64 o.k, .int .i64 o.a, .int .i64 o.n, .int .i64 o.m, .string o.s]] w (PRes n B x r w) := by
  have HX1 := Aside0.mk (blk_new w (.cells #[.int .i64 o.k, .int .i64 o.a, .int .i64 o.n, .int .i64 o.m, .string o.s] 41))
  have HB1 := Aside0.mk (below2a w (.cells #[.int .i64 o.k, .int .i64 o.a, .int .i64 o.n, .int .i64 o.m, .string o.s] 41))
  have HA0 := Aside0.mk (pw_cell_below (below2a w (.cells #[.int .i64 o.k, .int .i64 o.a, .int .i64 o.n, .int .i64 o.m, .string o.s] 41)) h0)
  have HA2 := Aside0.mk (pw_cell_below (below2a w (.cells #[.int .i64 o.k, .int .i64 o.a, .int .i64 o.n, .int .i64 o.m, .string o.s] 41)) h2)
  have HP := Aside0.mk h
  have HJ := Aside0.mk hj
  have HBB := Aside0.mk hB
  have HN := Aside0.mk hn
  have HO := Aside0.mk ho
  have HS := Aside0.mk h.lt
  clear h hj hB hn ho
  clear h0 h2
  go_enter Try.func22, Try.ntmps22
  go_wp2_with fail
  generalize w.alloc (.cells #[.int .i64 o.k, .int .i64 o.a, .int .i64 o.n, .int .i64 o.m, .string o.s] 41) = w1 at *
  have y1 := blk_cell HX1.out 1
  have a0 := HA0.out
  go_quiet (first | (go_at_call 24; refine Calls.quiet_of_same (place_at o.a 1 hp _)))
  have HX2 := Aside0.mk (blk_below HX1.out (below_drewN w1 nq))
  have HB2 := Aside0.mk (below_step HB1.out (below_drewN w1 nq))
  have HA2' := Aside0.mk (pw_cell_below (below_drewN w1 nq) HA2.out)
  clear y1 a0 HX1 HB1 HA0 HA2
  generalize w1.drewN nq = w2 at *
  have y1 := blk_cell HX2.out 1
  have a2 := HA2'.out
  go_upto_region 2 with fail
  go_quiet (first | (go_at_call 24; refine Calls.quiet_of_same (place_at o.a 1 hp _)))
  have HX3 := Aside0.mk (blk_below HX2.out (below_drewN w2 nq))
  have HB3 := Aside0.mk (below_step HB2.out (below_drewN w2 nq))
  clear y1 a2 HX2 HB2 HA2'
  generalize w2.drewN nq = w3 at *
  have y0 := blk_cell HX3.out 0
  have y2 := blk_cell HX3.out 2
  have y3 := blk_cell HX3.out 3
  have y4 := blk_cell HX3.out 4
  have HD3 := Aside0.mk (PD.start HP.out HB3.out)
  have HNC := Aside0.mk (show ¬ PS x r w.heap.size from fun hs => by have := HS.out _ hs; omega)
  have HB0 := Aside0.mk (show B ≤ w3.heap.size from Nat.le_trans HBB.out HB3.out.size)
  obtain ⟨v1, hv1⟩ : ∃ v : Int, (if sendB x o.n o.m = 0 then x.sent + 1 else 0) = v := ⟨_, rfl⟩
  have z1 : (v1 == v1) = true := by simp
  obtain ⟨v2, hv2⟩ : ∃ v : Int, sendB x o.n o.m = v := ⟨_, rfl⟩
  have z2 : (v2 == v2) = true := by simp
  have HQ1 := Aside0.mk (send_good B x n w3 HD3.out.pw.xin HB0.out HJ.out.good (by have := HN.out; omega) o.n o.m o.s)
  have HQ2 := Aside0.mk (fun (W : World) (h : r.In B W) (hb : B ≤ W.heap.size) => rsend_calls B n x r o.n o.m o.s W h hb HJ.out HN.out)
  rw [hv1, hv2] at HQ1 HQ2
  clear hv1 hv2
  go_wp2_with (first
    | (go_at_call 12; (with_reducible refine HQ1.out.mono ?_); rintro e w4 ⟨rfl, A1, c1, hd⟩; have H4 := Aside0.mk (HD3.out.mail hd); have HX4 := Aside0.mk ((hd.fr.block _ (blk_lt HX3.out) (fun hs => HNC.out (.inl hs))).trans HX3.out); have t2 := blk_cell HX4.out 2; have t3 := blk_cell HX4.out 3; have t4 := blk_cell HX4.out 4; clear hd)
    | (go_at_call 39; (with_reducible refine (HQ2.out _ H4.out.pw.rin (Nat.le_trans HBB.out H4.out.fr.size)).mono ?_); rintro e w5 ⟨rfl, A2, c2, A3, c3, A4, c4, hd⟩; have H5 := Aside0.mk (H4.out.ref hd); clear hd)
    | (go_at_call 11; refine (num_calls _ _).mono ?_; rintro e w' ⟨rfl, rfl⟩))
  go_ret
  exact ⟨rfl, _, _, H5.out, HJ.out.send o.n o.m o.s _ _ _ _ _ _ _ _⟩
set_option maxHeartbeats 8000000 in
set_option maxRecDepth 100000 in
theorem plays_deliver1 (n B m : Nat) (x : Pm) (r : Rm) (o : Mo) (w : World) (h : PW B w x r) (hB : B ≤ w.heap.size) (hj : J n x r) (hn : n ≤ 2999999999999) (ho : o.Wf) (hp : plc o.a = 1) (h0 : w.cell? ⟨m, 1, none⟩ = some (.pointer (some ⟨x.g, 0, none⟩))) (h2 : w.cell? ⟨m, 3, none⟩ = some (.pointer (some ⟨r.m, 0, none⟩))) (k1 : (o.k == 1) = false) (k2 : (o.k == 2) = true) :
    Calls Try.prog 22 #[.pointer (some ⟨m, 0, none⟩), .agg #[.int .i64 o.k, .int .i64 o.a, .int .i64 o.n, .int .i64 o.m, .string o.s]] w (PRes n B x r w) := by
  have HX1 := Aside0.mk (blk_new w (.cells #[.int .i64 o.k, .int .i64 o.a, .int .i64 o.n, .int .i64 o.m, .string o.s] 41))
  have HB1 := Aside0.mk (below2a w (.cells #[.int .i64 o.k, .int .i64 o.a, .int .i64 o.n, .int .i64 o.m, .string o.s] 41))
  have HA0 := Aside0.mk (pw_cell_below (below2a w (.cells #[.int .i64 o.k, .int .i64 o.a, .int .i64 o.n, .int .i64 o.m, .string o.s] 41)) h0)
  have HA2 := Aside0.mk (pw_cell_below (below2a w (.cells #[.int .i64 o.k, .int .i64 o.a, .int .i64 o.n, .int .i64 o.m, .string o.s] 41)) h2)
  have HP := Aside0.mk h
  have HJ := Aside0.mk hj
  have HBB := Aside0.mk hB
  have HN := Aside0.mk hn
  have HO := Aside0.mk ho
  have HS := Aside0.mk h.lt
  clear h hj hB hn ho
  clear h0 h2
  go_enter Try.func22, Try.ntmps22
  go_wp2_with fail
  generalize w.alloc (.cells #[.int .i64 o.k, .int .i64 o.a, .int .i64 o.n, .int .i64 o.m, .string o.s] 41) = w1 at *
  have y1 := blk_cell HX1.out 1
  have a0 := HA0.out
  go_quiet (first | (go_at_call 24; refine Calls.quiet_of_same (place_at o.a 1 hp _)))
  have HX2 := Aside0.mk (blk_below HX1.out (below_drewN w1 nq))
  have HB2 := Aside0.mk (below_step HB1.out (below_drewN w1 nq))
  have HA2' := Aside0.mk (pw_cell_below (below_drewN w1 nq) HA2.out)
  clear y1 a0 HX1 HB1 HA0 HA2
  generalize w1.drewN nq = w2 at *
  have y1 := blk_cell HX2.out 1
  have a2 := HA2'.out
  go_upto_region 2 with fail
  go_quiet (first | (go_at_call 24; refine Calls.quiet_of_same (place_at o.a 1 hp _)))
  have HX3 := Aside0.mk (blk_below HX2.out (below_drewN w2 nq))
  have HB3 := Aside0.mk (below_step HB2.out (below_drewN w2 nq))
  clear y1 a2 HX2 HB2 HA2'
  generalize w2.drewN nq = w3 at *
  have y0 := blk_cell HX3.out 0
  have y2 := blk_cell HX3.out 2
  have y3 := blk_cell HX3.out 3
  have y4 := blk_cell HX3.out 4
  have HD3 := Aside0.mk (PD.start HP.out HB3.out)
  have HNC := Aside0.mk (show ¬ PS x r w.heap.size from fun hs => by have := HS.out _ hs; omega)
  have HB0 := Aside0.mk (show B ≤ w3.heap.size from Nat.le_trans HBB.out HB3.out.size)
  obtain ⟨⟨⟨d1, d2, d3, d4⟩, v2⟩, hv⟩ : ∃ d : Lt × Int, delB x o.n = d := ⟨_, rfl⟩
  have z2 : (v2 == v2) = true := by simp
  have z3 : (d1 == d1) = true := by simp
  have z4 : (d2 == d2) = true := by simp
  have z5 : (d3 == d3) = true := by simp
  have z6 : (d4 == d4) = true := (MapKept.bytes_beq d4 d4).2 rfl
  have HQ1 := Aside0.mk (deliver_calls B x n w3 HD3.out.pw.xin HJ.out.good o.n)
  have HQ2 := Aside0.mk (fun (W : World) (h : r.In B W) => rdeliver_calls B n x r o.n W h HJ.out HN.out HO.out.2)
  rw [hv] at HQ1 HQ2
  dsimp only at HQ1 HQ2
  clear hv
  go_upto_region 10 with (go_at_call 13; (with_reducible refine HQ1.out.mono ?_); rintro e w4 ⟨rfl, A1, c1, hd⟩; have H4 := Aside0.mk (HD3.out.mail hd); have HX4 := Aside0.mk ((hd.fr.block _ (blk_lt HX3.out) (fun hs => HNC.out (.inl hs))).trans HX3.out); clear hd)
  have H5 := Aside0.mk (H4.out.more (below2a w4 (.cells #[.int .i64 d1, .int .i64 d2, .int .i64 d3, .string d4] 33)))
  have HX5 := Aside0.mk (blk_below HX4.out (below2a w4 (.cells #[.int .i64 d1, .int .i64 d2, .int .i64 d3, .string d4] 33)))
  have HY5 := Aside0.mk (blk_new w4 (.cells #[.int .i64 d1, .int .i64 d2, .int .i64 d3, .string d4] 33))
  have HDL := Aside0.mk (H4.out.fr.size)
  clear y0 y2 y3 y4 H4 HX4 HX3
  generalize w4.heap.size = d at *
  generalize w4.alloc (.cells #[.int .i64 d1, .int .i64 d2, .int .i64 d3, .string d4] 33) = w5 at *
  have t2 := blk_cell HX5.out 2
  go_upto_region 11 with (go_at_call 40; (with_reducible refine (HQ2.out _ H5.out.pw.rin).mono ?_); rintro e w6 ⟨rfl, A2, c2, A3, c3, A4, c4, hd⟩; have H6 := Aside0.mk (H5.out.ref hd); have HY6 := Aside0.mk ((hd.fr.block _ (blk_lt HY5.out) (fun hs => by have := HS.out _ (.inr hs); have := HDL.out; omega)).trans HY5.out); clear hd)
  have H7 := Aside0.mk (H6.out.more (below2a w6 (.cells #[.int .i64 d1, .int .i64 d2, .int .i64 d3, .string d4] 33)))
  have HY7 := Aside0.mk (blk_below HY6.out (below2a w6 (.cells #[.int .i64 d1, .int .i64 d2, .int .i64 d3, .string d4] 33)))
  have HZ7 := Aside0.mk (blk_new w6 (.cells #[.int .i64 d1, .int .i64 d2, .int .i64 d3, .string d4] 33))
  clear t2 H5 HX5 HY5 H6 HY6
  generalize w6.heap.size = d6 at *
  generalize w6.alloc (.cells #[.int .i64 d1, .int .i64 d2, .int .i64 d3, .string d4] 33) = w7 at *
  have s0 := blk_cell HY7.out 0
  have s1 := blk_cell HY7.out 1
  have s2 := blk_cell HY7.out 2
  have s3 := blk_cell HY7.out 3
  have t0 := blk_cell HZ7.out 0
  have t1 := blk_cell HZ7.out 1
  have t2 := blk_cell HZ7.out 2
  have t3 := blk_cell HZ7.out 3
  go_wp2_with (go_at_call 11; refine (num_calls _ _).mono ?_; rintro e w' ⟨rfl, rfl⟩)
  go_ret
  exact ⟨rfl, _, _, H7.out, HJ.out.deliver o.n _ _ _ _ _ _ _ _⟩
set_option maxHeartbeats 8000000 in
set_option maxRecDepth 100000 in
theorem plays_drop1 (n B m : Nat) (x : Pm) (r : Rm) (o : Mo) (w : World) (h : PW B w x r) (hB : B ≤ w.heap.size) (hj : J n x r) (hn : n ≤ 2999999999999) (ho : o.Wf) (hp : plc o.a = 1) (h0 : w.cell? ⟨m, 1, none⟩ = some (.pointer (some ⟨x.g, 0, none⟩))) (h2 : w.cell? ⟨m, 3, none⟩ = some (.pointer (some ⟨r.m, 0, none⟩))) (k1 : (o.k == 1) = false) (k2 : (o.k == 2) = false) (k3 : (o.k == 3) = true) :
    Calls Try.prog 22 #[.pointer (some ⟨m, 0, none⟩), .agg #[.int .i64 o.k, .int .i64 o.a, .int .i64 o.n, .int .i64 o.m, .string o.s]] w (PRes n B x r w) := by
  have HX1 := Aside0.mk (blk_new w (.cells #[.int .i64 o.k, .int .i64 o.a, .int .i64 o.n, .int .i64 o.m, .string o.s] 41))
  have HB1 := Aside0.mk (below2a w (.cells #[.int .i64 o.k, .int .i64 o.a, .int .i64 o.n, .int .i64 o.m, .string o.s] 41))
  have HA0 := Aside0.mk (pw_cell_below (below2a w (.cells #[.int .i64 o.k, .int .i64 o.a, .int .i64 o.n, .int .i64 o.m, .string o.s] 41)) h0)
  have HA2 := Aside0.mk (pw_cell_below (below2a w (.cells #[.int .i64 o.k, .int .i64 o.a, .int .i64 o.n, .int .i64 o.m, .string o.s] 41)) h2)
  have HP := Aside0.mk h
  have HJ := Aside0.mk hj
  have HBB := Aside0.mk hB
  have HN := Aside0.mk hn
  have HO := Aside0.mk ho
  have HS := Aside0.mk h.lt
  clear h hj hB hn ho
  clear h0 h2
  go_enter Try.func22, Try.ntmps22
  go_wp2_with fail
  generalize w.alloc (.cells #[.int .i64 o.k, .int .i64 o.a, .int .i64 o.n, .int .i64 o.m, .string o.s] 41) = w1 at *
  have y1 := blk_cell HX1.out 1
  have a0 := HA0.out
  go_quiet (first | (go_at_call 24; refine Calls.quiet_of_same (place_at o.a 1 hp _)))
  have HX2 := Aside0.mk (blk_below HX1.out (below_drewN w1 nq))
  have HB2 := Aside0.mk (below_step HB1.out (below_drewN w1 nq))
  have HA2' := Aside0.mk (pw_cell_below (below_drewN w1 nq) HA2.out)
  clear y1 a0 HX1 HB1 HA0 HA2
  generalize w1.drewN nq = w2 at *
  have y1 := blk_cell HX2.out 1
  have a2 := HA2'.out
  go_upto_region 2 with fail
  go_quiet (first | (go_at_call 24; refine Calls.quiet_of_same (place_at o.a 1 hp _)))
  have HX3 := Aside0.mk (blk_below HX2.out (below_drewN w2 nq))
  have HB3 := Aside0.mk (below_step HB2.out (below_drewN w2 nq))
  clear y1 a2 HX2 HB2 HA2'
  generalize w2.drewN nq = w3 at *
  have y0 := blk_cell HX3.out 0
  have y2 := blk_cell HX3.out 2
  have y3 := blk_cell HX3.out 3
  have y4 := blk_cell HX3.out 4
  have HD3 := Aside0.mk (PD.start HP.out HB3.out)
  have HNC := Aside0.mk (show ¬ PS x r w.heap.size from fun hs => by have := HS.out _ hs; omega)
  have HB0 := Aside0.mk (show B ≤ w3.heap.size from Nat.le_trans HBB.out HB3.out.size)
  obtain ⟨v2, hv2⟩ : ∃ v : Int, dropB x o.n = v := ⟨_, rfl⟩
  have z2 : (v2 == v2) = true := by simp
  have HQ1 := Aside0.mk (drop_calls B x n w3 HD3.out.pw.xin HJ.out.good o.n)
  have HQ2 := Aside0.mk (fun (W : World) (h : r.In B W) (hb : B ≤ W.heap.size) => rdrop_calls B n x r o.n W h HJ.out HN.out HO.out.2)
  rw [hv2] at HQ1 HQ2
  clear hv2
  go_wp2_with (first
    | (go_at_call 17; (with_reducible refine HQ1.out.mono ?_); rintro e w4 ⟨rfl, A1, c1, hd⟩; have H4 := Aside0.mk (HD3.out.mail hd); have HX4 := Aside0.mk ((hd.fr.block _ (blk_lt HX3.out) (fun hs => HNC.out (.inl hs))).trans HX3.out); have t2 := blk_cell HX4.out 2; have t3 := blk_cell HX4.out 3; have t4 := blk_cell HX4.out 4; clear hd)
    | (go_at_call 41; (with_reducible refine (HQ2.out _ H4.out.pw.rin (Nat.le_trans HBB.out H4.out.fr.size)).mono ?_); rintro e w5 ⟨rfl, A2, c2, A3, c3, A4, c4, hd⟩; have H5 := Aside0.mk (H4.out.ref hd); clear hd)
    | (go_at_call 11; refine (num_calls _ _).mono ?_; rintro e w' ⟨rfl, rfl⟩))
  go_ret
  exact ⟨rfl, _, _, H5.out, HJ.out.drop o.n _ _ _ _ _ _ _ _⟩
set_option maxHeartbeats 8000000 in
set_option maxRecDepth 100000 in
theorem plays_copy1 (n B m : Nat) (x : Pm) (r : Rm) (o : Mo) (w : World) (h : PW B w x r) (hB : B ≤ w.heap.size) (hj : J n x r) (hn : n ≤ 2999999999999) (ho : o.Wf) (hp : plc o.a = 1) (h0 : w.cell? ⟨m, 1, none⟩ = some (.pointer (some ⟨x.g, 0, none⟩))) (h2 : w.cell? ⟨m, 3, none⟩ = some (.pointer (some ⟨r.m, 0, none⟩))) (k1 : (o.k == 1) = false) (k2 : (o.k == 2) = false) (k3 : (o.k == 3) = false) (k4 : (o.k == 4) = true) :
    Calls Try.prog 22 #[.pointer (some ⟨m, 0, none⟩), .agg #[.int .i64 o.k, .int .i64 o.a, .int .i64 o.n, .int .i64 o.m, .string o.s]] w (PRes n B x r w) := by
  have HX1 := Aside0.mk (blk_new w (.cells #[.int .i64 o.k, .int .i64 o.a, .int .i64 o.n, .int .i64 o.m, .string o.s] 41))
  have HB1 := Aside0.mk (below2a w (.cells #[.int .i64 o.k, .int .i64 o.a, .int .i64 o.n, .int .i64 o.m, .string o.s] 41))
  have HA0 := Aside0.mk (pw_cell_below (below2a w (.cells #[.int .i64 o.k, .int .i64 o.a, .int .i64 o.n, .int .i64 o.m, .string o.s] 41)) h0)
  have HA2 := Aside0.mk (pw_cell_below (below2a w (.cells #[.int .i64 o.k, .int .i64 o.a, .int .i64 o.n, .int .i64 o.m, .string o.s] 41)) h2)
  have HP := Aside0.mk h
  have HJ := Aside0.mk hj
  have HBB := Aside0.mk hB
  have HN := Aside0.mk hn
  have HO := Aside0.mk ho
  have HS := Aside0.mk h.lt
  clear h hj hB hn ho
  clear h0 h2
  go_enter Try.func22, Try.ntmps22
  go_wp2_with fail
  generalize w.alloc (.cells #[.int .i64 o.k, .int .i64 o.a, .int .i64 o.n, .int .i64 o.m, .string o.s] 41) = w1 at *
  have y1 := blk_cell HX1.out 1
  have a0 := HA0.out
  go_quiet (first | (go_at_call 24; refine Calls.quiet_of_same (place_at o.a 1 hp _)))
  have HX2 := Aside0.mk (blk_below HX1.out (below_drewN w1 nq))
  have HB2 := Aside0.mk (below_step HB1.out (below_drewN w1 nq))
  have HA2' := Aside0.mk (pw_cell_below (below_drewN w1 nq) HA2.out)
  clear y1 a0 HX1 HB1 HA0 HA2
  generalize w1.drewN nq = w2 at *
  have y1 := blk_cell HX2.out 1
  have a2 := HA2'.out
  go_upto_region 2 with fail
  go_quiet (first | (go_at_call 24; refine Calls.quiet_of_same (place_at o.a 1 hp _)))
  have HX3 := Aside0.mk (blk_below HX2.out (below_drewN w2 nq))
  have HB3 := Aside0.mk (below_step HB2.out (below_drewN w2 nq))
  clear y1 a2 HX2 HB2 HA2'
  generalize w2.drewN nq = w3 at *
  have y0 := blk_cell HX3.out 0
  have y2 := blk_cell HX3.out 2
  have y3 := blk_cell HX3.out 3
  have y4 := blk_cell HX3.out 4
  have HD3 := Aside0.mk (PD.start HP.out HB3.out)
  have HNC := Aside0.mk (show ¬ PS x r w.heap.size from fun hs => by have := HS.out _ hs; omega)
  have HB0 := Aside0.mk (show B ≤ w3.heap.size from Nat.le_trans HBB.out HB3.out.size)
  obtain ⟨v2, hv2⟩ : ∃ v : Int, copyB x o.n = v := ⟨_, rfl⟩
  have z2 : (v2 == v2) = true := by simp
  have HQ1 := Aside0.mk (copy_calls B x n w3 HD3.out.pw.xin HB0.out HJ.out.good (by have := HN.out; omega) o.n)
  have HQ2 := Aside0.mk (fun (W : World) (h : r.In B W) (hb : B ≤ W.heap.size) => rcopy_calls B n x r o.n W h hb HJ.out HN.out HO.out.2)
  rw [hv2] at HQ1 HQ2
  clear hv2
  go_wp2_with (first
    | (go_at_call 18; (with_reducible refine HQ1.out.mono ?_); rintro e w4 ⟨rfl, A1, c1, hd⟩; have H4 := Aside0.mk (HD3.out.mail hd); have HX4 := Aside0.mk ((hd.fr.block _ (blk_lt HX3.out) (fun hs => HNC.out (.inl hs))).trans HX3.out); have t2 := blk_cell HX4.out 2; have t3 := blk_cell HX4.out 3; have t4 := blk_cell HX4.out 4; clear hd)
    | (go_at_call 42; (with_reducible refine (HQ2.out _ H4.out.pw.rin (Nat.le_trans HBB.out H4.out.fr.size)).mono ?_); rintro e w5 ⟨rfl, A2, c2, A3, c3, A4, c4, hd⟩; have H5 := Aside0.mk (H4.out.ref hd); clear hd)
    | (go_at_call 11; refine (num_calls _ _).mono ?_; rintro e w' ⟨rfl, rfl⟩))
  go_ret
  exact ⟨rfl, _, _, H5.out, HJ.out.copy o.n _ _ _ _ _ _ _ _⟩
set_option maxHeartbeats 8000000 in
set_option maxRecDepth 100000 in
theorem plays_cut1 (n B m : Nat) (x : Pm) (r : Rm) (o : Mo) (w : World) (h : PW B w x r) (hB : B ≤ w.heap.size) (hj : J n x r) (hn : n ≤ 2999999999999) (ho : o.Wf) (hp : plc o.a = 1) (h0 : w.cell? ⟨m, 1, none⟩ = some (.pointer (some ⟨x.g, 0, none⟩))) (h2 : w.cell? ⟨m, 3, none⟩ = some (.pointer (some ⟨r.m, 0, none⟩))) (k1 : (o.k == 1) = false) (k2 : (o.k == 2) = false) (k3 : (o.k == 3) = false) (k4 : (o.k == 4) = false) (k5 : (o.k == 5) = true) :
    Calls Try.prog 22 #[.pointer (some ⟨m, 0, none⟩), .agg #[.int .i64 o.k, .int .i64 o.a, .int .i64 o.n, .int .i64 o.m, .string o.s]] w (PRes n B x r w) := by
  have HX1 := Aside0.mk (blk_new w (.cells #[.int .i64 o.k, .int .i64 o.a, .int .i64 o.n, .int .i64 o.m, .string o.s] 41))
  have HB1 := Aside0.mk (below2a w (.cells #[.int .i64 o.k, .int .i64 o.a, .int .i64 o.n, .int .i64 o.m, .string o.s] 41))
  have HA0 := Aside0.mk (pw_cell_below (below2a w (.cells #[.int .i64 o.k, .int .i64 o.a, .int .i64 o.n, .int .i64 o.m, .string o.s] 41)) h0)
  have HA2 := Aside0.mk (pw_cell_below (below2a w (.cells #[.int .i64 o.k, .int .i64 o.a, .int .i64 o.n, .int .i64 o.m, .string o.s] 41)) h2)
  have HP := Aside0.mk h
  have HJ := Aside0.mk hj
  have HBB := Aside0.mk hB
  have HN := Aside0.mk hn
  have HO := Aside0.mk ho
  have HS := Aside0.mk h.lt
  clear h hj hB hn ho
  clear h0 h2
  go_enter Try.func22, Try.ntmps22
  go_wp2_with fail
  generalize w.alloc (.cells #[.int .i64 o.k, .int .i64 o.a, .int .i64 o.n, .int .i64 o.m, .string o.s] 41) = w1 at *
  have y1 := blk_cell HX1.out 1
  have a0 := HA0.out
  go_quiet (first | (go_at_call 24; refine Calls.quiet_of_same (place_at o.a 1 hp _)))
  have HX2 := Aside0.mk (blk_below HX1.out (below_drewN w1 nq))
  have HB2 := Aside0.mk (below_step HB1.out (below_drewN w1 nq))
  have HA2' := Aside0.mk (pw_cell_below (below_drewN w1 nq) HA2.out)
  clear y1 a0 HX1 HB1 HA0 HA2
  generalize w1.drewN nq = w2 at *
  have y1 := blk_cell HX2.out 1
  have a2 := HA2'.out
  go_upto_region 2 with fail
  go_quiet (first | (go_at_call 24; refine Calls.quiet_of_same (place_at o.a 1 hp _)))
  have HX3 := Aside0.mk (blk_below HX2.out (below_drewN w2 nq))
  have HB3 := Aside0.mk (below_step HB2.out (below_drewN w2 nq))
  clear y1 a2 HX2 HB2 HA2'
  generalize w2.drewN nq = w3 at *
  have y0 := blk_cell HX3.out 0
  have y2 := blk_cell HX3.out 2
  have y3 := blk_cell HX3.out 3
  have y4 := blk_cell HX3.out 4
  have HD3 := Aside0.mk (PD.start HP.out HB3.out)
  have HNC := Aside0.mk (show ¬ PS x r w.heap.size from fun hs => by have := HS.out _ hs; omega)
  have HB0 := Aside0.mk (show B ≤ w3.heap.size from Nat.le_trans HBB.out HB3.out.size)
  obtain ⟨v2, hv2⟩ : ∃ v : Int, linkV o.n o.m = v := ⟨_, rfl⟩
  have z2 : (v2 == v2) = true := by simp
  have HQ1 := Aside0.mk (cut_calls B x n w3 HD3.out.pw.xin HJ.out.good (by have := HN.out; omega) o.n o.m)
  have HQ2 := Aside0.mk (fun (W : World) (h : r.In B W) (hb : B ≤ W.heap.size) => rcut_calls B n x r o.n o.m W h hb HJ.out HN.out)
  rw [hv2] at HQ1 HQ2
  clear hv2
  go_wp2_with (first
    | (go_at_call 15; (with_reducible refine HQ1.out.mono ?_); rintro e w4 ⟨rfl, A1, c1, hd⟩; have H4 := Aside0.mk (HD3.out.mail hd); have HX4 := Aside0.mk ((hd.fr.block _ (blk_lt HX3.out) (fun hs => HNC.out (.inl hs))).trans HX3.out); have t2 := blk_cell HX4.out 2; have t3 := blk_cell HX4.out 3; have t4 := blk_cell HX4.out 4; clear hd)
    | (go_at_call 43; (with_reducible refine (HQ2.out _ H4.out.pw.rin (Nat.le_trans HBB.out H4.out.fr.size)).mono ?_); rintro e w5 ⟨rfl, A2, c2, A3, c3, A4, c4, hd⟩; have H5 := Aside0.mk (H4.out.ref hd); clear hd)
    | (go_at_call 11; refine (num_calls _ _).mono ?_; rintro e w' ⟨rfl, rfl⟩))
  go_ret
  exact ⟨rfl, _, _, H5.out, HJ.out.cut o.n o.m _ _ _ _ _ _ _ _⟩
set_option maxHeartbeats 8000000 in
set_option maxRecDepth 100000 in
theorem plays_heal1 (n B m : Nat) (x : Pm) (r : Rm) (o : Mo) (w : World) (h : PW B w x r) (hB : B ≤ w.heap.size) (hj : J n x r) (hn : n ≤ 2999999999999) (ho : o.Wf) (hp : plc o.a = 1) (h0 : w.cell? ⟨m, 1, none⟩ = some (.pointer (some ⟨x.g, 0, none⟩))) (h2 : w.cell? ⟨m, 3, none⟩ = some (.pointer (some ⟨r.m, 0, none⟩))) (k1 : (o.k == 1) = false) (k2 : (o.k == 2) = false) (k3 : (o.k == 3) = false) (k4 : (o.k == 4) = false) (k5 : (o.k == 5) = false) (k6 : (o.k == 6) = true) :
    Calls Try.prog 22 #[.pointer (some ⟨m, 0, none⟩), .agg #[.int .i64 o.k, .int .i64 o.a, .int .i64 o.n, .int .i64 o.m, .string o.s]] w (PRes n B x r w) := by
  have HX1 := Aside0.mk (blk_new w (.cells #[.int .i64 o.k, .int .i64 o.a, .int .i64 o.n, .int .i64 o.m, .string o.s] 41))
  have HB1 := Aside0.mk (below2a w (.cells #[.int .i64 o.k, .int .i64 o.a, .int .i64 o.n, .int .i64 o.m, .string o.s] 41))
  have HA0 := Aside0.mk (pw_cell_below (below2a w (.cells #[.int .i64 o.k, .int .i64 o.a, .int .i64 o.n, .int .i64 o.m, .string o.s] 41)) h0)
  have HA2 := Aside0.mk (pw_cell_below (below2a w (.cells #[.int .i64 o.k, .int .i64 o.a, .int .i64 o.n, .int .i64 o.m, .string o.s] 41)) h2)
  have HP := Aside0.mk h
  have HJ := Aside0.mk hj
  have HBB := Aside0.mk hB
  have HN := Aside0.mk hn
  have HO := Aside0.mk ho
  have HS := Aside0.mk h.lt
  clear h hj hB hn ho
  clear h0 h2
  go_enter Try.func22, Try.ntmps22
  go_wp2_with fail
  generalize w.alloc (.cells #[.int .i64 o.k, .int .i64 o.a, .int .i64 o.n, .int .i64 o.m, .string o.s] 41) = w1 at *
  have y1 := blk_cell HX1.out 1
  have a0 := HA0.out
  go_quiet (first | (go_at_call 24; refine Calls.quiet_of_same (place_at o.a 1 hp _)))
  have HX2 := Aside0.mk (blk_below HX1.out (below_drewN w1 nq))
  have HB2 := Aside0.mk (below_step HB1.out (below_drewN w1 nq))
  have HA2' := Aside0.mk (pw_cell_below (below_drewN w1 nq) HA2.out)
  clear y1 a0 HX1 HB1 HA0 HA2
  generalize w1.drewN nq = w2 at *
  have y1 := blk_cell HX2.out 1
  have a2 := HA2'.out
  go_upto_region 2 with fail
  go_quiet (first | (go_at_call 24; refine Calls.quiet_of_same (place_at o.a 1 hp _)))
  have HX3 := Aside0.mk (blk_below HX2.out (below_drewN w2 nq))
  have HB3 := Aside0.mk (below_step HB2.out (below_drewN w2 nq))
  clear y1 a2 HX2 HB2 HA2'
  generalize w2.drewN nq = w3 at *
  have y0 := blk_cell HX3.out 0
  have y2 := blk_cell HX3.out 2
  have y3 := blk_cell HX3.out 3
  have y4 := blk_cell HX3.out 4
  have HD3 := Aside0.mk (PD.start HP.out HB3.out)
  have HNC := Aside0.mk (show ¬ PS x r w.heap.size from fun hs => by have := HS.out _ hs; omega)
  have HB0 := Aside0.mk (show B ≤ w3.heap.size from Nat.le_trans HBB.out HB3.out.size)
  obtain ⟨v2, hv2⟩ : ∃ v : Int, linkV o.n o.m = v := ⟨_, rfl⟩
  have z2 : (v2 == v2) = true := by simp
  have HQ1 := Aside0.mk (heal_calls B x w3 HD3.out.pw.xin o.n o.m)
  have HQ2 := Aside0.mk (fun (W : World) (h : r.In B W) (hb : B ≤ W.heap.size) => rheal_calls B n x r o.n o.m W h hb HJ.out HN.out)
  rw [hv2] at HQ1 HQ2
  clear hv2
  go_wp2_with (first
    | (go_at_call 19; (with_reducible refine HQ1.out.mono ?_); rintro e w4 ⟨rfl, A1, c1, hd⟩; have H4 := Aside0.mk (HD3.out.mail hd); have HX4 := Aside0.mk ((hd.fr.block _ (blk_lt HX3.out) (fun hs => HNC.out (.inl hs))).trans HX3.out); have t2 := blk_cell HX4.out 2; have t3 := blk_cell HX4.out 3; have t4 := blk_cell HX4.out 4; clear hd)
    | (go_at_call 44; (with_reducible refine (HQ2.out _ H4.out.pw.rin (Nat.le_trans HBB.out H4.out.fr.size)).mono ?_); rintro e w5 ⟨rfl, A2, c2, A3, c3, A4, c4, hd⟩; have H5 := Aside0.mk (H4.out.ref hd); clear hd)
    | (go_at_call 11; refine (num_calls _ _).mono ?_; rintro e w' ⟨rfl, rfl⟩))
  go_ret
  exact ⟨rfl, _, _, H5.out, HJ.out.heal o.n o.m _ _ _ _ _ _ _ _⟩
set_option maxHeartbeats 8000000 in
set_option maxRecDepth 100000 in
theorem plays_flying1 (n B m : Nat) (x : Pm) (r : Rm) (o : Mo) (w : World) (h : PW B w x r) (hB : B ≤ w.heap.size) (hj : J n x r) (hn : n ≤ 2999999999999) (ho : o.Wf) (hp : plc o.a = 1) (h0 : w.cell? ⟨m, 1, none⟩ = some (.pointer (some ⟨x.g, 0, none⟩))) (h2 : w.cell? ⟨m, 3, none⟩ = some (.pointer (some ⟨r.m, 0, none⟩))) (k1 : (o.k == 1) = false) (k2 : (o.k == 2) = false) (k3 : (o.k == 3) = false) (k4 : (o.k == 4) = false) (k5 : (o.k == 5) = false) (k6 : (o.k == 6) = false) (k7 : (o.k == 7) = true) :
    Calls Try.prog 22 #[.pointer (some ⟨m, 0, none⟩), .agg #[.int .i64 o.k, .int .i64 o.a, .int .i64 o.n, .int .i64 o.m, .string o.s]] w (PRes n B x r w) := by
  have HX1 := Aside0.mk (blk_new w (.cells #[.int .i64 o.k, .int .i64 o.a, .int .i64 o.n, .int .i64 o.m, .string o.s] 41))
  have HB1 := Aside0.mk (below2a w (.cells #[.int .i64 o.k, .int .i64 o.a, .int .i64 o.n, .int .i64 o.m, .string o.s] 41))
  have HA0 := Aside0.mk (pw_cell_below (below2a w (.cells #[.int .i64 o.k, .int .i64 o.a, .int .i64 o.n, .int .i64 o.m, .string o.s] 41)) h0)
  have HA2 := Aside0.mk (pw_cell_below (below2a w (.cells #[.int .i64 o.k, .int .i64 o.a, .int .i64 o.n, .int .i64 o.m, .string o.s] 41)) h2)
  have HP := Aside0.mk h
  have HJ := Aside0.mk hj
  have HBB := Aside0.mk hB
  have HN := Aside0.mk hn
  have HO := Aside0.mk ho
  have HS := Aside0.mk h.lt
  clear h hj hB hn ho
  clear h0 h2
  go_enter Try.func22, Try.ntmps22
  go_wp2_with fail
  generalize w.alloc (.cells #[.int .i64 o.k, .int .i64 o.a, .int .i64 o.n, .int .i64 o.m, .string o.s] 41) = w1 at *
  have y1 := blk_cell HX1.out 1
  have a0 := HA0.out
  go_quiet (first | (go_at_call 24; refine Calls.quiet_of_same (place_at o.a 1 hp _)))
  have HX2 := Aside0.mk (blk_below HX1.out (below_drewN w1 nq))
  have HB2 := Aside0.mk (below_step HB1.out (below_drewN w1 nq))
  have HA2' := Aside0.mk (pw_cell_below (below_drewN w1 nq) HA2.out)
  clear y1 a0 HX1 HB1 HA0 HA2
  generalize w1.drewN nq = w2 at *
  have y1 := blk_cell HX2.out 1
  have a2 := HA2'.out
  go_upto_region 2 with fail
  go_quiet (first | (go_at_call 24; refine Calls.quiet_of_same (place_at o.a 1 hp _)))
  have HX3 := Aside0.mk (blk_below HX2.out (below_drewN w2 nq))
  have HB3 := Aside0.mk (below_step HB2.out (below_drewN w2 nq))
  clear y1 a2 HX2 HB2 HA2'
  generalize w2.drewN nq = w3 at *
  have y0 := blk_cell HX3.out 0
  have y2 := blk_cell HX3.out 2
  have y3 := blk_cell HX3.out 3
  have y4 := blk_cell HX3.out 4
  have HD3 := Aside0.mk (PD.start HP.out HB3.out)
  have HNC := Aside0.mk (show ¬ PS x r w.heap.size from fun hs => by have := HS.out _ hs; omega)
  have HB0 := Aside0.mk (show B ≤ w3.heap.size from Nat.le_trans HBB.out HB3.out.size)
  have HQ2 := Aside0.mk (fun (W : World) (h : r.In B W) => rflying_calls B r W h HJ.out.len (by have := HJ.out.le; have := HN.out; omega))
  rw [← HJ.out.left] at HQ2
  have HL4 := Aside0.mk HJ.out.good.len4
  go_wp2_with (first
    | (go_at_call 25; (with_reducible refine (flying_calls B x _ HD3.out.pw.xin HL4.out).mono ?_); rintro e w4 ⟨A1, c1, rfl, hb, ho⟩; have H4 := Aside0.mk (HD3.out.more hb); have HO4 := Aside0.mk ho; clear hb ho)
    | (go_at_call 27; (with_reducible refine (HQ2.out _ H4.out.pw.rin).mono ?_); rintro e w5 ⟨A2, c2, rfl, hb, ho⟩; have H5 := Aside0.mk (H4.out.more hb); have HO5 := Aside0.mk ho; have HO6 := Aside0.mk (ownsRow_keep HO4.out (fun q hq => hb.block q (ownsRow_lt HO4.out q hq).2)); clear hb ho)
    | (go_at_call 26; (with_reducible refine (same_calls _ _ A1 A2 c1 c2 x.L _ HO6.out HO5.out (by have := HL4.out; omega)).mono ?_); rintro e w6 ⟨rfl, hb⟩; have H6 := Aside0.mk (H5.out.more hb); clear hb))
  go_ret
  exact ⟨rfl, _, _, H6.out, HJ.out.more (by omega)⟩
set_option maxHeartbeats 8000000 in
set_option maxRecDepth 100000 in
theorem plays_count1 (n B m : Nat) (x : Pm) (r : Rm) (o : Mo) (w : World) (h : PW B w x r) (hB : B ≤ w.heap.size) (hj : J n x r) (hn : n ≤ 2999999999999) (ho : o.Wf) (hp : plc o.a = 1) (h0 : w.cell? ⟨m, 1, none⟩ = some (.pointer (some ⟨x.g, 0, none⟩))) (h2 : w.cell? ⟨m, 3, none⟩ = some (.pointer (some ⟨r.m, 0, none⟩))) (k1 : (o.k == 1) = false) (k2 : (o.k == 2) = false) (k3 : (o.k == 3) = false) (k4 : (o.k == 4) = false) (k5 : (o.k == 5) = false) (k6 : (o.k == 6) = false) (k7 : (o.k == 7) = false) (k8 : (o.k == 8) = true) :
    Calls Try.prog 22 #[.pointer (some ⟨m, 0, none⟩), .agg #[.int .i64 o.k, .int .i64 o.a, .int .i64 o.n, .int .i64 o.m, .string o.s]] w (PRes n B x r w) := by
  have HX1 := Aside0.mk (blk_new w (.cells #[.int .i64 o.k, .int .i64 o.a, .int .i64 o.n, .int .i64 o.m, .string o.s] 41))
  have HB1 := Aside0.mk (below2a w (.cells #[.int .i64 o.k, .int .i64 o.a, .int .i64 o.n, .int .i64 o.m, .string o.s] 41))
  have HA0 := Aside0.mk (pw_cell_below (below2a w (.cells #[.int .i64 o.k, .int .i64 o.a, .int .i64 o.n, .int .i64 o.m, .string o.s] 41)) h0)
  have HA2 := Aside0.mk (pw_cell_below (below2a w (.cells #[.int .i64 o.k, .int .i64 o.a, .int .i64 o.n, .int .i64 o.m, .string o.s] 41)) h2)
  have HP := Aside0.mk h
  have HJ := Aside0.mk hj
  have HBB := Aside0.mk hB
  have HN := Aside0.mk hn
  have HO := Aside0.mk ho
  have HS := Aside0.mk h.lt
  clear h hj hB hn ho
  clear h0 h2
  go_enter Try.func22, Try.ntmps22
  go_wp2_with fail
  generalize w.alloc (.cells #[.int .i64 o.k, .int .i64 o.a, .int .i64 o.n, .int .i64 o.m, .string o.s] 41) = w1 at *
  have y1 := blk_cell HX1.out 1
  have a0 := HA0.out
  go_quiet (first | (go_at_call 24; refine Calls.quiet_of_same (place_at o.a 1 hp _)))
  have HX2 := Aside0.mk (blk_below HX1.out (below_drewN w1 nq))
  have HB2 := Aside0.mk (below_step HB1.out (below_drewN w1 nq))
  have HA2' := Aside0.mk (pw_cell_below (below_drewN w1 nq) HA2.out)
  clear y1 a0 HX1 HB1 HA0 HA2
  generalize w1.drewN nq = w2 at *
  have y1 := blk_cell HX2.out 1
  have a2 := HA2'.out
  go_upto_region 2 with fail
  go_quiet (first | (go_at_call 24; refine Calls.quiet_of_same (place_at o.a 1 hp _)))
  have HX3 := Aside0.mk (blk_below HX2.out (below_drewN w2 nq))
  have HB3 := Aside0.mk (below_step HB2.out (below_drewN w2 nq))
  clear y1 a2 HX2 HB2 HA2'
  generalize w2.drewN nq = w3 at *
  have y0 := blk_cell HX3.out 0
  have y2 := blk_cell HX3.out 2
  have y3 := blk_cell HX3.out 3
  have y4 := blk_cell HX3.out 4
  have HD3 := Aside0.mk (PD.start HP.out HB3.out)
  have HNC := Aside0.mk (show ¬ PS x r w.heap.size from fun hs => by have := HS.out _ hs; omega)
  have HB0 := Aside0.mk (show B ≤ w3.heap.size from Nat.le_trans HBB.out HB3.out.size)
  have HQ2 := Aside0.mk (fun (W : World) (h : r.In B W) => rcount_calls B r W h HJ.out.len (by have := HJ.out.le; have := HN.out; omega))
  rw [← HJ.out.left] at HQ2
  have z1 : ((x.L.length : Int) == (x.L.length : Int)) = true := by simp
  have z2 : (x.L.length == x.L.length) = true := by simp
  go_wp2_with (first
    | (go_at_call 14; (with_reducible refine (count_calls B x _ HD3.out.pw.xin).mono ?_); rintro e w4 ⟨rfl, rfl⟩)
    | (go_at_call 45; (with_reducible refine (HQ2.out _ HD3.out.pw.rin).mono ?_); rintro e w5 ⟨rfl, hb⟩; have H5 := Aside0.mk (HD3.out.more hb); clear hb))
  go_ret
  exact ⟨rfl, _, _, H5.out, HJ.out.more (by omega)⟩
set_option maxHeartbeats 8000000 in
set_option maxRecDepth 100000 in
theorem plays_sent1 (n B m : Nat) (x : Pm) (r : Rm) (o : Mo) (w : World) (h : PW B w x r) (hB : B ≤ w.heap.size) (hj : J n x r) (hn : n ≤ 2999999999999) (ho : o.Wf) (hp : plc o.a = 1) (h0 : w.cell? ⟨m, 1, none⟩ = some (.pointer (some ⟨x.g, 0, none⟩))) (h2 : w.cell? ⟨m, 3, none⟩ = some (.pointer (some ⟨r.m, 0, none⟩))) (k1 : (o.k == 1) = false) (k2 : (o.k == 2) = false) (k3 : (o.k == 3) = false) (k4 : (o.k == 4) = false) (k5 : (o.k == 5) = false) (k6 : (o.k == 6) = false) (k7 : (o.k == 7) = false) (k8 : (o.k == 8) = false) (k9 : (o.k == 9) = true) :
    Calls Try.prog 22 #[.pointer (some ⟨m, 0, none⟩), .agg #[.int .i64 o.k, .int .i64 o.a, .int .i64 o.n, .int .i64 o.m, .string o.s]] w (PRes n B x r w) := by
  have HX1 := Aside0.mk (blk_new w (.cells #[.int .i64 o.k, .int .i64 o.a, .int .i64 o.n, .int .i64 o.m, .string o.s] 41))
  have HB1 := Aside0.mk (below2a w (.cells #[.int .i64 o.k, .int .i64 o.a, .int .i64 o.n, .int .i64 o.m, .string o.s] 41))
  have HA0 := Aside0.mk (pw_cell_below (below2a w (.cells #[.int .i64 o.k, .int .i64 o.a, .int .i64 o.n, .int .i64 o.m, .string o.s] 41)) h0)
  have HA2 := Aside0.mk (pw_cell_below (below2a w (.cells #[.int .i64 o.k, .int .i64 o.a, .int .i64 o.n, .int .i64 o.m, .string o.s] 41)) h2)
  have HP := Aside0.mk h
  have HJ := Aside0.mk hj
  have HBB := Aside0.mk hB
  have HN := Aside0.mk hn
  have HO := Aside0.mk ho
  have HS := Aside0.mk h.lt
  clear h hj hB hn ho
  clear h0 h2
  go_enter Try.func22, Try.ntmps22
  go_wp2_with fail
  generalize w.alloc (.cells #[.int .i64 o.k, .int .i64 o.a, .int .i64 o.n, .int .i64 o.m, .string o.s] 41) = w1 at *
  have y1 := blk_cell HX1.out 1
  have a0 := HA0.out
  go_quiet (first | (go_at_call 24; refine Calls.quiet_of_same (place_at o.a 1 hp _)))
  have HX2 := Aside0.mk (blk_below HX1.out (below_drewN w1 nq))
  have HB2 := Aside0.mk (below_step HB1.out (below_drewN w1 nq))
  have HA2' := Aside0.mk (pw_cell_below (below_drewN w1 nq) HA2.out)
  clear y1 a0 HX1 HB1 HA0 HA2
  generalize w1.drewN nq = w2 at *
  have y1 := blk_cell HX2.out 1
  have a2 := HA2'.out
  go_upto_region 2 with fail
  go_quiet (first | (go_at_call 24; refine Calls.quiet_of_same (place_at o.a 1 hp _)))
  have HX3 := Aside0.mk (blk_below HX2.out (below_drewN w2 nq))
  have HB3 := Aside0.mk (below_step HB2.out (below_drewN w2 nq))
  clear y1 a2 HX2 HB2 HA2'
  generalize w2.drewN nq = w3 at *
  have y0 := blk_cell HX3.out 0
  have y2 := blk_cell HX3.out 2
  have y3 := blk_cell HX3.out 3
  have y4 := blk_cell HX3.out 4
  have HD3 := Aside0.mk (PD.start HP.out HB3.out)
  have HNC := Aside0.mk (show ¬ PS x r w.heap.size from fun hs => by have := HS.out _ hs; omega)
  have HB0 := Aside0.mk (show B ≤ w3.heap.size from Nat.le_trans HBB.out HB3.out.size)
  obtain ⟨v1, hv1⟩ : ∃ v : Int, x.sent = v := ⟨_, rfl⟩
  have z1 : (v1 == v1) = true := by simp
  have HQ1 := Aside0.mk (sent_calls B x w3 HD3.out.pw.xin)
  have HQ2 := Aside0.mk (fun (W : World) (h : r.In B W) => rsent_calls B r W h)
  rw [← HJ.out.sent] at HQ2
  rw [hv1] at HQ1 HQ2
  clear hv1
  go_wp2_with (first
    | (go_at_call 30; (with_reducible refine HQ1.out.mono ?_); rintro e w4 ⟨rfl, rfl⟩)
    | (go_at_call 46; (with_reducible refine (HQ2.out _ HD3.out.pw.rin).mono ?_); rintro e w5 ⟨rfl, rfl⟩))
  go_ret
  exact ⟨rfl, _, _, HD3.out, HJ.out.more (by omega)⟩
set_option maxHeartbeats 8000000 in
set_option maxRecDepth 100000 in
theorem plays_other1 (n B m : Nat) (x : Pm) (r : Rm) (o : Mo) (w : World) (h : PW B w x r) (hB : B ≤ w.heap.size) (hj : J n x r) (hn : n ≤ 2999999999999) (ho : o.Wf) (hp : plc o.a = 1) (h0 : w.cell? ⟨m, 1, none⟩ = some (.pointer (some ⟨x.g, 0, none⟩))) (h2 : w.cell? ⟨m, 3, none⟩ = some (.pointer (some ⟨r.m, 0, none⟩))) (k1 : (o.k == 1) = false) (k2 : (o.k == 2) = false) (k3 : (o.k == 3) = false) (k4 : (o.k == 4) = false) (k5 : (o.k == 5) = false) (k6 : (o.k == 6) = false) (k7 : (o.k == 7) = false) (k8 : (o.k == 8) = false) (k9 : (o.k == 9) = false) :
    Calls Try.prog 22 #[.pointer (some ⟨m, 0, none⟩), .agg #[.int .i64 o.k, .int .i64 o.a, .int .i64 o.n, .int .i64 o.m, .string o.s]] w (PRes n B x r w) := by
  have HX1 := Aside0.mk (blk_new w (.cells #[.int .i64 o.k, .int .i64 o.a, .int .i64 o.n, .int .i64 o.m, .string o.s] 41))
  have HB1 := Aside0.mk (below2a w (.cells #[.int .i64 o.k, .int .i64 o.a, .int .i64 o.n, .int .i64 o.m, .string o.s] 41))
  have HA0 := Aside0.mk (pw_cell_below (below2a w (.cells #[.int .i64 o.k, .int .i64 o.a, .int .i64 o.n, .int .i64 o.m, .string o.s] 41)) h0)
  have HA2 := Aside0.mk (pw_cell_below (below2a w (.cells #[.int .i64 o.k, .int .i64 o.a, .int .i64 o.n, .int .i64 o.m, .string o.s] 41)) h2)
  have HP := Aside0.mk h
  have HJ := Aside0.mk hj
  have HBB := Aside0.mk hB
  have HN := Aside0.mk hn
  have HO := Aside0.mk ho
  have HS := Aside0.mk h.lt
  clear h hj hB hn ho
  clear h0 h2
  go_enter Try.func22, Try.ntmps22
  go_wp2_with fail
  generalize w.alloc (.cells #[.int .i64 o.k, .int .i64 o.a, .int .i64 o.n, .int .i64 o.m, .string o.s] 41) = w1 at *
  have y1 := blk_cell HX1.out 1
  have a0 := HA0.out
  go_quiet (first | (go_at_call 24; refine Calls.quiet_of_same (place_at o.a 1 hp _)))
  have HX2 := Aside0.mk (blk_below HX1.out (below_drewN w1 nq))
  have HB2 := Aside0.mk (below_step HB1.out (below_drewN w1 nq))
  have HA2' := Aside0.mk (pw_cell_below (below_drewN w1 nq) HA2.out)
  clear y1 a0 HX1 HB1 HA0 HA2
  generalize w1.drewN nq = w2 at *
  have y1 := blk_cell HX2.out 1
  have a2 := HA2'.out
  go_upto_region 2 with fail
  go_quiet (first | (go_at_call 24; refine Calls.quiet_of_same (place_at o.a 1 hp _)))
  have HX3 := Aside0.mk (blk_below HX2.out (below_drewN w2 nq))
  have HB3 := Aside0.mk (below_step HB2.out (below_drewN w2 nq))
  clear y1 a2 HX2 HB2 HA2'
  generalize w2.drewN nq = w3 at *
  have y0 := blk_cell HX3.out 0
  have y2 := blk_cell HX3.out 2
  have y3 := blk_cell HX3.out 3
  have y4 := blk_cell HX3.out 4
  have HD3 := Aside0.mk (PD.start HP.out HB3.out)
  have HNC := Aside0.mk (show ¬ PS x r w.heap.size from fun hs => by have := HS.out _ hs; omega)
  have HB0 := Aside0.mk (show B ≤ w3.heap.size from Nat.le_trans HBB.out HB3.out.size)
  go_wp2_with fail
  go_ret
  exact ⟨rfl, _, _, HD3.out, HJ.out.more (by omega)⟩
theorem plays_pair (n B m : Nat) (x : Pm) (r : Rm) (o : Mo) (w : World) (h : PW B w x r) (hB : B ≤ w.heap.size) (hj : J n x r) (hn : n ≤ 2999999999999) (ho : o.Wf) (h0 : w.cell? ⟨m, plc o.a, none⟩ = some (.pointer (some ⟨x.g, 0, none⟩))) (h2 : w.cell? ⟨m, 2 + plc o.a, none⟩ = some (.pointer (some ⟨r.m, 0, none⟩))) :
    Calls Try.prog 22 #[.pointer (some ⟨m, 0, none⟩), .agg #[.int .i64 o.k, .int .i64 o.a, .int .i64 o.n, .int .i64 o.m, .string o.s]] w (PRes n B x r w) := by
  have ht : ∀ i : Int, o.k = i → (o.k == i) = true := fun i h => by simp [h]
  have hf : ∀ i : Int, o.k ≠ i → (o.k == i) = false := fun i h => by simp [h]
  have hlt := plc_lt o.a
  rcases (show plc o.a = 0 ∨ plc o.a = 1 by omega) with hp | hp <;> rw [hp] at h0 h2
  · by_cases c1 : o.k = 1
    · exact plays_send0 n B m x r o w h hB hj hn ho hp h0 h2  (ht 1 c1)
    by_cases c2 : o.k = 2
    · exact plays_deliver0 n B m x r o w h hB hj hn ho hp h0 h2 (hf 1 c1) (ht 2 c2)
    by_cases c3 : o.k = 3
    · exact plays_drop0 n B m x r o w h hB hj hn ho hp h0 h2 (hf 1 c1) (hf 2 c2) (ht 3 c3)
    by_cases c4 : o.k = 4
    · exact plays_copy0 n B m x r o w h hB hj hn ho hp h0 h2 (hf 1 c1) (hf 2 c2) (hf 3 c3) (ht 4 c4)
    by_cases c5 : o.k = 5
    · exact plays_cut0 n B m x r o w h hB hj hn ho hp h0 h2 (hf 1 c1) (hf 2 c2) (hf 3 c3) (hf 4 c4) (ht 5 c5)
    by_cases c6 : o.k = 6
    · exact plays_heal0 n B m x r o w h hB hj hn ho hp h0 h2 (hf 1 c1) (hf 2 c2) (hf 3 c3) (hf 4 c4) (hf 5 c5) (ht 6 c6)
    by_cases c7 : o.k = 7
    · exact plays_flying0 n B m x r o w h hB hj hn ho hp h0 h2 (hf 1 c1) (hf 2 c2) (hf 3 c3) (hf 4 c4) (hf 5 c5) (hf 6 c6) (ht 7 c7)
    by_cases c8 : o.k = 8
    · exact plays_count0 n B m x r o w h hB hj hn ho hp h0 h2 (hf 1 c1) (hf 2 c2) (hf 3 c3) (hf 4 c4) (hf 5 c5) (hf 6 c6) (hf 7 c7) (ht 8 c8)
    by_cases c9 : o.k = 9
    · exact plays_sent0 n B m x r o w h hB hj hn ho hp h0 h2 (hf 1 c1) (hf 2 c2) (hf 3 c3) (hf 4 c4) (hf 5 c5) (hf 6 c6) (hf 7 c7) (hf 8 c8) (ht 9 c9)
    exact plays_other0 n B m x r o w h hB hj hn ho hp h0 h2 (hf 1 c1) (hf 2 c2) (hf 3 c3) (hf 4 c4) (hf 5 c5) (hf 6 c6) (hf 7 c7) (hf 8 c8) (hf 9 c9)
  · by_cases c1 : o.k = 1
    · exact plays_send1 n B m x r o w h hB hj hn ho hp h0 h2  (ht 1 c1)
    by_cases c2 : o.k = 2
    · exact plays_deliver1 n B m x r o w h hB hj hn ho hp h0 h2 (hf 1 c1) (ht 2 c2)
    by_cases c3 : o.k = 3
    · exact plays_drop1 n B m x r o w h hB hj hn ho hp h0 h2 (hf 1 c1) (hf 2 c2) (ht 3 c3)
    by_cases c4 : o.k = 4
    · exact plays_copy1 n B m x r o w h hB hj hn ho hp h0 h2 (hf 1 c1) (hf 2 c2) (hf 3 c3) (ht 4 c4)
    by_cases c5 : o.k = 5
    · exact plays_cut1 n B m x r o w h hB hj hn ho hp h0 h2 (hf 1 c1) (hf 2 c2) (hf 3 c3) (hf 4 c4) (ht 5 c5)
    by_cases c6 : o.k = 6
    · exact plays_heal1 n B m x r o w h hB hj hn ho hp h0 h2 (hf 1 c1) (hf 2 c2) (hf 3 c3) (hf 4 c4) (hf 5 c5) (ht 6 c6)
    by_cases c7 : o.k = 7
    · exact plays_flying1 n B m x r o w h hB hj hn ho hp h0 h2 (hf 1 c1) (hf 2 c2) (hf 3 c3) (hf 4 c4) (hf 5 c5) (hf 6 c6) (ht 7 c7)
    by_cases c8 : o.k = 8
    · exact plays_count1 n B m x r o w h hB hj hn ho hp h0 h2 (hf 1 c1) (hf 2 c2) (hf 3 c3) (hf 4 c4) (hf 5 c5) (hf 6 c6) (hf 7 c7) (ht 8 c8)
    by_cases c9 : o.k = 9
    · exact plays_sent1 n B m x r o w h hB hj hn ho hp h0 h2 (hf 1 c1) (hf 2 c2) (hf 3 c3) (hf 4 c4) (hf 5 c5) (hf 6 c6) (hf 7 c7) (hf 8 c8) (ht 9 c9)
    exact plays_other1 n B m x r o w h hB hj hn ho hp h0 h2 (hf 1 c1) (hf 2 c2) (hf 3 c3) (hf 4 c4) (hf 5 c5) (hf 6 c6) (hf 7 c7) (hf 8 c8) (hf 9 c9)

end Go.Proofs.Ytadbcekglcmccaa.Q
