/- The bench of two pairs of mails: plays, fresh, begins, upTo (printed by gen_bb.py). Condition: the bench lies in memory of the call's own. -/
import Derived.Test.YtadbcekglcmccaaProg
import Derived.Below
import Derived.Deep.Draws
import Derived.Deep.AppendLies
import Derived.Maps.AppendAt
import Derived.OwnWalk
import Derived.Laws.BytesArg
import Derived.Laws.MakeOwn
import Derived.Laws.OwnMore
import Derived.Deep.OwnRows
import Derived.Tactics
import Derived.Lib.ConvBytes
import Derived.Laws.Slices
import Derived.WalkKit
import Derived.KernelRfl
import Derived.RowKit3
import Derived.Deep.LoopGhost
import Derived.Deep.QuietTactic
import Derived.BigQuiet
import Derived.WideLaws
import Derived.Deep.DeepCutAuto
import Derived.Deep.CutBlock
import Derived.Deep.RegionHeld3
import Derived.Laws.Rows
import Derived.Lib.AppendStr
import Derived.ArgAppend
import Derived.Laws.IdiomCopy
import Derived.OrdersHeld
import Derived.Laws.BitsLemmas
import Derived.RowKit
import Derived.Test.YtadbcekglcmccaaWWords
import Derived.Test.YtadbcekglcmccaaWLast
import Derived.Test.YtadbcekglcmccaaWTab
import Derived.Test.YtadbcekglcmccaaWFour
import Derived.Test.YtadbcekglcmccaaWQPut
import Derived.Test.YtadbcekglcmccaaWApart
import Derived.Test.YtadbcekglcmccaaWArr
import Derived.Test.YtadbcekglcmccaaWZeros
import Derived.Test.YtadbcekglcmccaaWFoot
import Derived.Test.YtadbcekglcmccaaWKept
import Derived.Test.YtadbcekglcmccaaWShare
import Derived.Test.YtadbcekglcmccaaWN
import Derived.Test.YtadbcekglcmccaaWFootNe
import Derived.Test.YtadbcekglcmccaaWAt
import Derived.Test.YtadbcekglcmccaaWEqStruct
import Derived.Test.YtadbcekglcmccaaWRepsOne
import Derived.Test.YtadbcekglcmccaaWInv
import Derived.Test.YtadbcekglcmccaaWInvWords
import Derived.Test.YtadbcekglcmccaaWGuard
import Derived.Test.YtadbcekglcmccaaWNEv
import Derived.Test.YtadbcekglcmccaaWMore
import Derived.Test.YtadbcekglcmccaaBA
set_option linter.unusedVariables false
set_option linter.unusedSimpArgs false
namespace Go.Proofs.Ytadbcekglcmccaa.Q
open Go.RowKit Go.Proofs.YtadbcekglcmccaaW.PrintWords Go.Proofs.YtadbcekglcmccaaW.PrintLast Go.Proofs.YtadbcekglcmccaaW.PrintMore
open Go.FM Go.Plan

/-! ### The bench -/
def pv : Option (Pm × Rm) → Value
  | none => .pointer none
  | some (x, r) => .pointer (some ⟨x.g, 0, none⟩)
def rv : Option (Pm × Rm) → Value
  | none => .pointer none
  | some (x, r) => .pointer (some ⟨r.m, 0, none⟩)
def S1 : Option (Pm × Rm) → Nat → Prop
  | none, _ => False
  | some (x, r), i => PS x r i
def mcells (x0 : Pm) (r0 : Rm) (s : Option (Pm × Rm)) : Array Value := #[.pointer (some ⟨x0.g, 0, none⟩), pv s, .pointer (some ⟨r0.m, 0, none⟩), rv s]
structure BS (B n : Nat) (W : World) (m : Nat) (x0 : Pm) (r0 : Rm) (s : Option (Pm × Rm)) : Prop where
  blk : W.heap[m]? = some (.cells (mcells x0 r0 s) 50 (0, 0))
  p0 : PW B W x0 r0
  j0 : J n x0 r0
  p1 : ∀ x r, s = some (x, r) → PW B W x r ∧ J n x r
  ap : ∀ i, PS x0 r0 i → ¬ S1 s i
  m0 : ¬ PS x0 r0 m
  m1 : ¬ S1 s m
/-- Its blocks. -/
def BF (m : Nat) (x0 : Pm) (r0 : Rm) (s : Option (Pm × Rm)) (i : Nat) : Prop := i = m ∨ PS x0 r0 i ∨ S1 s i
theorem BS.s1lt {B n : Nat} {W : World} {m : Nat} {x0 : Pm} {r0 : Rm} {s : Option (Pm × Rm)} (h : BS B n W m x0 r0 s) : ∀ i, S1 s i → i < W.heap.size := by
  intro i hi
  cases s with
  | none => exact hi.elim
  | some p => exact (h.p1 p.1 p.2 rfl).1.lt i hi
theorem BS.lt {B n : Nat} {W : World} {m : Nat} {x0 : Pm} {r0 : Rm} {s : Option (Pm × Rm)} (h : BS B n W m x0 r0 s) : ∀ i, BF m x0 r0 s i → i < W.heap.size := by
  intro i hi
  rcases hi with rfl | hi | hi
  · exact blk_lt h.blk
  · exact h.p0.lt i hi
  · exact h.s1lt i hi
theorem BS.keep {B n : Nat} {W W' : World} {m : Nat} {x0 : Pm} {r0 : Rm} {s : Option (Pm × Rm)} (h : BS B n W m x0 r0 s) (k : ∀ i, BF m x0 r0 s i → W'.heap[i]? = W.heap[i]?) : BS B n W' m x0 r0 s :=
  ⟨(k m (.inl rfl)).trans h.blk, h.p0.keep fun i hi => k i (.inr (.inl hi)), h.j0, fun x r e => ⟨(h.p1 x r e).1.keep fun i hi => k i (.inr (.inr (by rw [e]; exact hi))), (h.p1 x r e).2⟩, h.ap, h.m0, h.m1⟩
theorem BS.below {B n : Nat} {W W' : World} {m : Nat} {x0 : Pm} {r0 : Rm} {s : Option (Pm × Rm)} (h : BS B n W m x0 r0 s) (hb : Below W.heap.size W W') : BS B n W' m x0 r0 s :=
  h.keep fun i hi => hb.block i (h.lt i hi)
theorem BS.more {B n k : Nat} {W : World} {m : Nat} {x0 : Pm} {r0 : Rm} {s : Option (Pm × Rm)} (h : BS B n W m x0 r0 s) (hk : n ≤ k) : BS B k W m x0 r0 s :=
  ⟨h.blk, h.p0, h.j0.more hk, fun x r e => ⟨(h.p1 x r e).1, (h.p1 x r e).2.more hk⟩, h.ap, h.m0, h.m1⟩
def BRes (B n m : Nat) (x0 : Pm) (r0 : Rm) (s : Option (Pm × Rm)) (w : World) (e : Ending) (w' : World) : Prop :=
  e = .returned (.bool true) ∧ ∃ x0' r0' s', BS B (n + 1) w' m x0' r0' s' ∧ But w w' (BF m x0 r0 s) ∧ ∀ i, BF m x0' r0' s' i → BF m x0 r0 s i ∨ w.heap.size ≤ i
theorem bench_step (B n m : Nat) (x0 : Pm) (r0 : Rm) (s : Option (Pm × Rm)) (o : Mo) (w : World) (h : BS B n w m x0 r0 s) (hB : B ≤ w.heap.size) (hn : n ≤ 2999999999999) (ho : o.Wf) :
    Calls Try.prog 22 #[.pointer (some ⟨m, 0, none⟩), .agg #[.int .i64 o.k, .int .i64 o.a, .int .i64 o.n, .int .i64 o.m, .string o.s]] w (BRes B n m x0 r0 s w) := by
  have hlt := plc_lt o.a
  rcases (show plc o.a = 0 ∨ plc o.a = 1 by omega) with hp | hp
  · refine (plays_pair n B m x0 r0 o w h.p0 hB h.j0 hn ho (by rw [hp]; exact blk_cell h.blk 0) (by rw [hp]; exact blk_cell h.blk 2)).mono ?_
    rintro e w' ⟨rfl, x', r', d, j⟩
    refine ⟨rfl, x', r', s, ⟨?_, d.pw, j, fun x r e => ⟨(h.p1 x r e).1.keep fun i hi => d.fr.block i ((h.p1 x r e).1.lt i hi) (fun hs => h.ap i hs (by rw [e]; exact hi)), (h.p1 x r e).2.more (by omega)⟩, fun i hi hs => ?_, fun hs => ?_, h.m1⟩, d.fr.mono fun i hi => .inr (.inl hi), fun i hi => ?_⟩
    · unfold mcells
      rw [d.g, d.m]
      exact (d.fr.block m (blk_lt h.blk) h.m0).trans h.blk
    · rcases d.sub i hi with h1 | h1
      · exact h.ap i h1 hs
      · have := h.s1lt i hs
        omega
    · rcases d.sub m hs with h1 | h1
      · exact h.m0 h1
      · have := blk_lt h.blk
        omega
    · rcases hi with hi | hi | hi
      · exact .inl (.inl hi)
      · exact (d.sub i hi).imp (fun k => .inr (.inl k)) id
      · exact .inl (.inr (.inr hi))
  · cases s with
    | none =>
      refine (plays_nil m o w hp (blk_cell h.blk 1) (blk_cell h.blk 3)).mono ?_
      rintro e w' ⟨rfl, hb⟩
      exact ⟨rfl, x0, r0, none, (h.below hb).more (by omega), But.of_below hb, fun i hi => .inl hi⟩
    | some p =>
      obtain ⟨x, r⟩ := p
      obtain ⟨p1, j1⟩ := h.p1 x r rfl
      refine (plays_pair n B m x r o w p1 hB j1 hn ho (by rw [hp]; exact blk_cell h.blk 1) (by rw [hp]; exact blk_cell h.blk 3)).mono ?_
      rintro e w' ⟨rfl, x', r', d, j⟩
      refine ⟨rfl, x0, r0, some (x', r'), ⟨?_, h.p0.keep fun i hi => d.fr.block i (h.p0.lt i hi) (fun hs => h.ap i hi hs), h.j0.more (by omega), fun x2 r2 e => ?_, fun i hi hs => ?_, h.m0, fun hs => ?_⟩, d.fr.mono fun i hi => .inr (.inr hi), fun i hi => ?_⟩
      · unfold mcells pv rv
        dsimp only
        rw [d.g, d.m]
        exact (d.fr.block m (blk_lt h.blk) h.m1).trans h.blk
      · cases e
        exact ⟨d.pw, j⟩
      · rcases d.sub i hs with h1 | h1
        · exact h.ap i hi h1
        · have := h.p0.lt i hi
          omega
      · rcases d.sub m hs with h1 | h1
        · exact h.m1 h1
        · have := blk_lt h.blk
          omega
      · rcases hi with hi | hi | hi
        · exact .inl (.inl hi)
        · exact .inl (.inr (.inl hi))
        · exact (d.sub i hi).imp (fun k => .inr (.inr k)) id

/-- The bench in memory of the call's own. -/
def BI (w W : World) (n m : Nat) : Prop := ∃ x0 r0 s, BS w.heap.size n W m x0 r0 s ∧ Below w.heap.size w W ∧ ∀ i, BF m x0 r0 s i → w.heap.size ≤ i
theorem BI.below_ {w W : World} {n m : Nat} (h : BI w W n m) : Below w.heap.size w W := by
  obtain ⟨_, _, _, _, hb, _⟩ := h
  exact hb
theorem BI.grow {w W W' : World} {n m : Nat} (h : BI w W n m) (hb : Below W.heap.size W W') : BI w W' n m := by
  obtain ⟨x0, r0, s, h1, h2, h3⟩ := h
  exact ⟨x0, r0, s, h1.below hb, below_step h2 hb, h3⟩
theorem BI.step {w W : World} {n m : Nat} (h : BI w W n m) (o : Mo) (hn : n ≤ 2999999999999) (ho : o.Wf) :
    Calls Try.prog 22 #[.pointer (some ⟨m, 0, none⟩), .agg #[.int .i64 o.k, .int .i64 o.a, .int .i64 o.n, .int .i64 o.m, .string o.s]] W fun e w' => e = .returned (.bool true) ∧ BI w w' (n + 1) m := by
  obtain ⟨x0, r0, s, h1, h2, h3⟩ := h
  refine (bench_step w.heap.size n m x0 r0 s o W h1 h2.size hn ho).mono ?_
  rintro e w' ⟨rfl, x', r', s', k1, k2, k3⟩
  refine ⟨rfl, x', r', s', k1, k2.below h2 h3 h2.size, fun i hi => ?_⟩
  rcases k3 i hi with h4 | h4
  · exact h3 i h4
  · exact Nat.le_trans h2.size h4

/-! ### The bench's two mails are made -/
/-- A new pair. -/
structure FP (w W : World) (g q k : Nat) (n : Int) : Prop where
  pw : ∀ B, PW B W (Pm.fresh g q n) ⟨k, n, none, 0, [], none, 0, [], none, 0, []⟩
  ge : w.heap.size ≤ g ∧ w.heap.size ≤ q ∧ w.heap.size ≤ k
theorem FP.sub {w W : World} {g q k : Nat} {n : Int} (h : FP w W g q k n) : ∀ i, PS (Pm.fresh g q n) ⟨k, n, none, 0, [], none, 0, [], none, 0, []⟩ i → w.heap.size ≤ i := by
  intro i hi
  rcases hi with (hi | hi | hi) | hi | hi | hi | hi
  · exact hi ▸ h.ge.1
  · exact hi ▸ h.ge.2.1
  · cases hi
  · exact hi ▸ h.ge.2.2
  · cases hi
  · cases hi
  · cases hi
theorem FP.lt {w W : World} {g q k : Nat} {n : Int} (h : FP w W g q k n) : g < W.heap.size ∧ k < W.heap.size ∧ ∀ i, PS (Pm.fresh g q n) ⟨k, n, none, 0, [], none, 0, [], none, 0, []⟩ i → i < W.heap.size :=
  ⟨(h.pw 0).xin.glt, blk_lt (h.pw 0).rin.blk, (h.pw 0).lt⟩

theorem below_but {B : Nat} {w W W' : World} (h : Below B w W) {m : Nat} (hb : But W W' (fun i => i = m)) (hm : B ≤ m) (hB : B ≤ W.heap.size) : Below B w W' :=
  hb.below h (fun i hi => by omega) hB
set_option maxHeartbeats 4000000 in
set_option maxRecDepth 100000 in
theorem fresh_yes0 (m : Nat) (n : Int) (c0 c1 c2 c3 : Value) (w : World) (hm : w.heap[m]? = some (.cells #[c0, c1, c2, c3] 50 (0, 0))) (h : okLim n) :
    Calls Try.prog 38 #[.pointer (some ⟨m, 0, none⟩), .int .i64 0, .int .i64 n] w fun e w' => e = .returned (.bool true) ∧ ∃ g q k, FP w w' g q k n ∧ w'.heap[m]? = some (.cells #[.pointer (some ⟨g, 0, none⟩), c1, .pointer (some ⟨k, 0, none⟩), c3] 50 (0, 0)) ∧ But w w' (fun i => i = m) := by
  have HM := Aside0.mk hm
  have HL := Aside0.mk h
  clear hm h
  go_enter Try.func38, Try.ntmps38
  go_upto_region 3 with (first
    | (go_at_call 10; (with_reducible refine (new_yes n _ HL.out).mono ?_); rintro e w2 ⟨rfl, hi, hb, hs⟩; have H2 := Aside0.mk hi; have HB2 := Aside0.mk hb; have HS2 := Aside0.mk hs; clear hi hb hs)
    | (go_at_call 54; (with_reducible refine (rnew_yes n _ HL.out).mono ?_); rintro e w3 ⟨rfl, hw⟩; have HW3 := Aside0.mk hw; clear hw))
  have hb3 : Below w2.heap.size w2 w3 := by rw [HW3.out]; exact below2a w2 _
  have hk3 : w3.heap[w2.heap.size]? = some (.cells #[.int .i64 n, .slice none 0 0, .slice none 0 0, .slice none 0 0] 88 (0, 0)) := by rw [HW3.out]; exact blk_new w2 _
  have hm3 := blk_below (blk_below HM.out HB2.out) hb3
  have hlm := blk_lt HM.out
  have H3 := Aside0.mk (fun B => IsM.below (H2.out B) hb3)
  have HB3 := Aside0.mk (below_step HB2.out hb3)
  have HK3 := Aside0.mk hk3
  have HM3 := Aside0.mk hm3
  have HLM := Aside0.mk hlm
  have HGE := Aside0.mk (show w.heap.size ≤ w.heap.size + 1 ∧ w.heap.size ≤ w2.heap.size ∧ w.heap.size + 1 < w2.heap.size from by rw [HS2.out]; omega)
  clear hb3 hk3 hm3 hlm HW3 H2 HB2 HS2
  generalize w.heap.size + 1 = g at *
  generalize w2.heap.size = k at *
  have a0 := blk_cell HM3.out 0
  have f0 := blk_frozen HM3.out 0
  go_upto_region 4 with fail
  have HM4 := Aside0.mk (blk_set HM3.out 0 (.pointer (some ⟨g, 0, none⟩)))
  have HX4 := Aside0.mk (But.set (But.of_below (S := fun i => i = m) HB3.out) rfl 0 (.pointer (some ⟨g, 0, none⟩)))
  have HO4 := Aside0.mk (fun i (hi : i ≠ m) => Below.heap_setCell w3 ⟨m, 0, none⟩ (.pointer (some ⟨g, 0, none⟩)) i hi)
  clear a0 f0
  generalize w3.setCell ⟨m, 0, none⟩ (.pointer (some ⟨g, 0, none⟩)) = w4 at *
  have a2 := blk_cell HM4.out 2
  have f2 := blk_frozen HM4.out 2
  go_upto_region 5 with fail
  have HM5 := Aside0.mk (blk_set HM4.out 2 (.pointer (some ⟨k, 0, none⟩)))
  have HX5 := Aside0.mk (But.set HX4.out rfl 2 (.pointer (some ⟨k, 0, none⟩)))
  have HO5 := Aside0.mk (fun i (hi : i ≠ m) => (Below.heap_setCell w4 ⟨m, 2, none⟩ (.pointer (some ⟨k, 0, none⟩)) i hi).trans (HO4.out i hi))
  clear a2 f2 HM3 HM4 HX4 HO4
  generalize w4.setCell ⟨m, 2, none⟩ (.pointer (some ⟨k, 0, none⟩)) = w5 at *
  go_wp2_with (go_at_call 11; refine (num_calls _ _).mono ?_; rintro e w' ⟨rfl, rfl⟩)
  go_ret
  refine ⟨rfl, g, w.heap.size, k, ⟨fun B => ⟨?_, ?_, ?_⟩, HGE.out.1, Nat.le_refl _, HGE.out.2.1⟩, HM5.out, HX5.out⟩
  · refine Pm.keep (x := Pm.fresh g w.heap.size n) (H3.out B) fun i hi => HO5.out i ?_
    have := HLM.out
    have := HGE.out.1
    rcases hi with hi | hi | hi
    · have e : i = g := hi
      omega
    · have e : i = w.heap.size := hi
      omega
    · cases hi
  · exact ⟨(HO5.out k (by have := HLM.out; have := HGE.out.2.1; omega)).trans HK3.out, World.ownsRow_nil _ _ _ _, World.ownsRow_nil _ _ _ _, World.ownsRow_nil _ _ _ _⟩
  · intro i hi hr
    have := HGE.out
    rcases hr with hr | hr | hr | hr
    · rcases hi with hi | hi | hi
      · have e : i = g := hi
        have e2 : i = k := hr
        omega
      · have e : i = w.heap.size := hi
        have e2 : i = k := hr
        omega
      · cases hi
    · cases hr
    · cases hr
    · cases hr
set_option maxHeartbeats 4000000 in
set_option maxRecDepth 100000 in
theorem fresh_no0 (m : Nat) (n : Int) (c1 c3 : Value) (w : World) (hm : w.heap[m]? = some (.cells #[.pointer none, c1, .pointer none, c3] 50 (0, 0))) (h : ¬ okLim n) :
    Calls Try.prog 38 #[.pointer (some ⟨m, 0, none⟩), .int .i64 0, .int .i64 n] w fun e w' => e = .returned (.bool true) ∧ w'.heap[m]? = some (.cells #[.pointer none, c1, .pointer none, c3] 50 (0, 0)) ∧ But w w' (fun i => i = m) := by
  have HM := Aside0.mk hm
  have a0 := blk_cell hm 0
  have f0 := blk_frozen hm 0
  have a2 := blk_cell hm 2
  have f2 := blk_frozen hm 2
  have HL := Aside0.mk h
  clear hm h
  go_enter Try.func38, Try.ntmps38
  go_wp2_with (first
    | (go_at_call 10; (with_reducible refine (new_no n _ HL.out).mono ?_); rintro e w' ⟨rfl, rfl⟩)
    | (go_at_call 54; (with_reducible refine (rnew_no n _ HL.out).mono ?_); rintro e w' ⟨rfl, rfl⟩)
    | (go_at_call 11; refine (num_calls _ _).mono ?_; rintro e w' ⟨rfl, rfl⟩))
  go_ret
  exact ⟨rfl, blk_set (blk_set HM.out 0 (.pointer none)) 2 (.pointer none), ((But.refl w (fun i => i = m)).set rfl 0 (.pointer none)).set rfl 2 (.pointer none)⟩
set_option maxHeartbeats 4000000 in
set_option maxRecDepth 100000 in
theorem fresh_yes1 (m : Nat) (n : Int) (c0 c1 c2 c3 : Value) (w : World) (hm : w.heap[m]? = some (.cells #[c0, c1, c2, c3] 50 (0, 0))) (h : okLim n) :
    Calls Try.prog 38 #[.pointer (some ⟨m, 0, none⟩), .int .i64 1, .int .i64 n] w fun e w' => e = .returned (.bool true) ∧ ∃ g q k, FP w w' g q k n ∧ w'.heap[m]? = some (.cells #[c0, .pointer (some ⟨g, 0, none⟩), c2, .pointer (some ⟨k, 0, none⟩)] 50 (0, 0)) ∧ But w w' (fun i => i = m) := by
  have HM := Aside0.mk hm
  have HL := Aside0.mk h
  clear hm h
  go_enter Try.func38, Try.ntmps38
  go_upto_region 3 with (first
    | (go_at_call 10; (with_reducible refine (new_yes n _ HL.out).mono ?_); rintro e w2 ⟨rfl, hi, hb, hs⟩; have H2 := Aside0.mk hi; have HB2 := Aside0.mk hb; have HS2 := Aside0.mk hs; clear hi hb hs)
    | (go_at_call 54; (with_reducible refine (rnew_yes n _ HL.out).mono ?_); rintro e w3 ⟨rfl, hw⟩; have HW3 := Aside0.mk hw; clear hw))
  have hb3 : Below w2.heap.size w2 w3 := by rw [HW3.out]; exact below2a w2 _
  have hk3 : w3.heap[w2.heap.size]? = some (.cells #[.int .i64 n, .slice none 0 0, .slice none 0 0, .slice none 0 0] 88 (0, 0)) := by rw [HW3.out]; exact blk_new w2 _
  have hm3 := blk_below (blk_below HM.out HB2.out) hb3
  have hlm := blk_lt HM.out
  have H3 := Aside0.mk (fun B => IsM.below (H2.out B) hb3)
  have HB3 := Aside0.mk (below_step HB2.out hb3)
  have HK3 := Aside0.mk hk3
  have HM3 := Aside0.mk hm3
  have HLM := Aside0.mk hlm
  have HGE := Aside0.mk (show w.heap.size ≤ w.heap.size + 1 ∧ w.heap.size ≤ w2.heap.size ∧ w.heap.size + 1 < w2.heap.size from by rw [HS2.out]; omega)
  clear hb3 hk3 hm3 hlm HW3 H2 HB2 HS2
  generalize w.heap.size + 1 = g at *
  generalize w2.heap.size = k at *
  have a0 := blk_cell HM3.out 1
  have f0 := blk_frozen HM3.out 1
  go_upto_region 4 with fail
  have HM4 := Aside0.mk (blk_set HM3.out 1 (.pointer (some ⟨g, 0, none⟩)))
  have HX4 := Aside0.mk (But.set (But.of_below (S := fun i => i = m) HB3.out) rfl 1 (.pointer (some ⟨g, 0, none⟩)))
  have HO4 := Aside0.mk (fun i (hi : i ≠ m) => Below.heap_setCell w3 ⟨m, 1, none⟩ (.pointer (some ⟨g, 0, none⟩)) i hi)
  clear a0 f0
  generalize w3.setCell ⟨m, 1, none⟩ (.pointer (some ⟨g, 0, none⟩)) = w4 at *
  have a2 := blk_cell HM4.out 3
  have f2 := blk_frozen HM4.out 3
  go_upto_region 5 with fail
  have HM5 := Aside0.mk (blk_set HM4.out 3 (.pointer (some ⟨k, 0, none⟩)))
  have HX5 := Aside0.mk (But.set HX4.out rfl 3 (.pointer (some ⟨k, 0, none⟩)))
  have HO5 := Aside0.mk (fun i (hi : i ≠ m) => (Below.heap_setCell w4 ⟨m, 3, none⟩ (.pointer (some ⟨k, 0, none⟩)) i hi).trans (HO4.out i hi))
  clear a2 f2 HM3 HM4 HX4 HO4
  generalize w4.setCell ⟨m, 3, none⟩ (.pointer (some ⟨k, 0, none⟩)) = w5 at *
  go_wp2_with (go_at_call 11; refine (num_calls _ _).mono ?_; rintro e w' ⟨rfl, rfl⟩)
  go_ret
  refine ⟨rfl, g, w.heap.size, k, ⟨fun B => ⟨?_, ?_, ?_⟩, HGE.out.1, Nat.le_refl _, HGE.out.2.1⟩, HM5.out, HX5.out⟩
  · refine Pm.keep (x := Pm.fresh g w.heap.size n) (H3.out B) fun i hi => HO5.out i ?_
    have := HLM.out
    have := HGE.out.1
    rcases hi with hi | hi | hi
    · have e : i = g := hi
      omega
    · have e : i = w.heap.size := hi
      omega
    · cases hi
  · exact ⟨(HO5.out k (by have := HLM.out; have := HGE.out.2.1; omega)).trans HK3.out, World.ownsRow_nil _ _ _ _, World.ownsRow_nil _ _ _ _, World.ownsRow_nil _ _ _ _⟩
  · intro i hi hr
    have := HGE.out
    rcases hr with hr | hr | hr | hr
    · rcases hi with hi | hi | hi
      · have e : i = g := hi
        have e2 : i = k := hr
        omega
      · have e : i = w.heap.size := hi
        have e2 : i = k := hr
        omega
      · cases hi
    · cases hr
    · cases hr
    · cases hr
set_option maxHeartbeats 4000000 in
set_option maxRecDepth 100000 in
theorem fresh_no1 (m : Nat) (n : Int) (c0 c2 : Value) (w : World) (hm : w.heap[m]? = some (.cells #[c0, .pointer none, c2, .pointer none] 50 (0, 0))) (h : ¬ okLim n) :
    Calls Try.prog 38 #[.pointer (some ⟨m, 0, none⟩), .int .i64 1, .int .i64 n] w fun e w' => e = .returned (.bool true) ∧ w'.heap[m]? = some (.cells #[c0, .pointer none, c2, .pointer none] 50 (0, 0)) ∧ But w w' (fun i => i = m) := by
  have HM := Aside0.mk hm
  have a0 := blk_cell hm 1
  have f0 := blk_frozen hm 1
  have a2 := blk_cell hm 3
  have f2 := blk_frozen hm 3
  have HL := Aside0.mk h
  clear hm h
  go_enter Try.func38, Try.ntmps38
  go_wp2_with (first
    | (go_at_call 10; (with_reducible refine (new_no n _ HL.out).mono ?_); rintro e w' ⟨rfl, rfl⟩)
    | (go_at_call 54; (with_reducible refine (rnew_no n _ HL.out).mono ?_); rintro e w' ⟨rfl, rfl⟩)
    | (go_at_call 11; refine (num_calls _ _).mono ?_; rintro e w' ⟨rfl, rfl⟩))
  go_ret
  exact ⟨rfl, blk_set (blk_set HM.out 1 (.pointer none)) 3 (.pointer none), ((But.refl w (fun i => i = m)).set rfl 1 (.pointer none)).set rfl 3 (.pointer none)⟩
theorem ok5 : okLim 5 := ⟨by omega, by omega⟩
theorem FP.next {w W W' : World} {g q k m : Nat} {n : Int} (h : FP w W g q k n) (hm : m < w.heap.size) (hf : But W W' (fun i => i = m)) : FP w W' g q k n :=
  ⟨fun B => (h.pw B).keep fun i hi => hf.block i ((h.pw B).lt i hi) (fun e => by have := h.sub i hi; omega), h.ge⟩
theorem BI.two {w W0 W1 W2 : World} {m g q k g' q' k' : Nat} {n : Int} (hb : Below w.heap.size w W0) (hm : w.heap.size ≤ m) (hml : m < W0.heap.size) (ha : okLim n) (h1 : FP W0 W1 g q k n) (f1 : But W0 W1 (fun i => i = m)) (h2 : FP W1 W2 g' q' k' n) (f2 : But W1 W2 (fun i => i = m))
    (hk : W2.heap[m]? = some (.cells #[.pointer (some ⟨g, 0, none⟩), .pointer (some ⟨g', 0, none⟩), .pointer (some ⟨k, 0, none⟩), .pointer (some ⟨k', 0, none⟩)] 50 (0, 0))) : BI w W2 0 m := by
  refine ⟨Pm.fresh g q n, ⟨k, n, none, 0, [], none, 0, [], none, 0, []⟩, some (Pm.fresh g' q' n, ⟨k', n, none, 0, [], none, 0, [], none, 0, []⟩), ⟨hk, (FP.next h1 hml f2).pw _, J.new g q k n ha, fun x r e => ?_, fun i hi hs => ?_, fun hs => ?_, fun hs => ?_⟩, (below_but (below_but hb f1 hm hb.size) f2 hm (by have := hb.size; have := f1.size; omega)), fun i hi => ?_⟩
  · cases e
    exact ⟨h2.pw _, J.new g' q' k' n ha⟩
  · have := h1.lt.2.2 i hi
    have := h2.sub i hs
    omega
  · have := h1.sub m hs
    omega
  · have := h2.sub m hs
    have := f1.size
    omega
  · have := hb.size
    have := f1.size
    rcases hi with rfl | hi | hi
    · exact hm
    · have := h1.sub i hi
      omega
    · have := h2.sub i hi
      omega
theorem BI.one {w W0 W1 : World} {m g q k : Nat} {n : Int} (hb : Below w.heap.size w W0) (hm : w.heap.size ≤ m) (hml : m < W0.heap.size) (ha : okLim n) (h1 : FP W0 W1 g q k n) (f1 : But W0 W1 (fun i => i = m))
    (hk : W1.heap[m]? = some (.cells #[.pointer (some ⟨g, 0, none⟩), .pointer none, .pointer (some ⟨k, 0, none⟩), .pointer none] 50 (0, 0))) : BI w W1 0 m := by
  refine ⟨Pm.fresh g q n, ⟨k, n, none, 0, [], none, 0, [], none, 0, []⟩, none, ⟨hk, h1.pw _, J.new g q k n ha, fun x r e => (by cases e), fun i hi hs => hs, fun hs => ?_, fun hs => hs⟩, below_but hb f1 hm hb.size, fun i hi => ?_⟩
  · have := h1.sub m hs
    omega
  · have := hb.size
    rcases hi with rfl | hi | hi
    · exact hm
    · have := h1.sub i hi
      omega
    · exact hi.elim

set_option maxHeartbeats 4000000 in
set_option maxRecDepth 100000 in
theorem begins_calls (m : Nat) (n : Int) (w W : World) (hm : W.heap[m]? = some (.cells #[.pointer none, .pointer none, .pointer none, .pointer none] 50 (0, 0))) (hb : Below w.heap.size w W) (hge : w.heap.size ≤ m) :
    Calls Try.prog 20 #[.pointer (some ⟨m, 0, none⟩), .int .i64 n] W fun e w' => e = .returned (.bool true) ∧ BI w w' 0 m := by
  have HM := Aside0.mk hm
  have HB := Aside0.mk hb
  have HG := Aside0.mk hge
  have HML := Aside0.mk (blk_lt hm)
  clear hm hb hge
  by_cases h : okLim n
  · have HL := Aside0.mk h
    clear h
    go_enter Try.func20, Try.ntmps20
    go_upto_region 4 with (go_at_call 38; (with_reducible refine (fresh_yes0 m n _ _ _ _ _ HM.out HL.out).mono ?_); rintro e w2 ⟨rfl, g, q, k, hf, hk, hbu⟩; have HF := Aside0.mk hf; have HK := Aside0.mk hk; have HU := Aside0.mk hbu; clear hf hk hbu)
    have a2 := blk_cell HK.out 2
    go_wp2_with (go_at_call 38; (with_reducible refine (fresh_yes1 m n _ _ _ _ _ HK.out HL.out).mono ?_); rintro e w3 ⟨rfl, g2, q2, k2, hf, hk, hbu⟩; have HF2 := Aside0.mk hf; have HK2 := Aside0.mk hk; have HU2 := Aside0.mk hbu; clear hf hk hbu)
    go_ret
    exact ⟨rfl, BI.two HB.out HG.out HML.out HL.out HF.out HU.out HF2.out HU2.out HK2.out⟩
  · have HL := Aside0.mk h
    clear h
    go_enter Try.func20, Try.ntmps20
    go_upto_region 2 with (go_at_call 38; (with_reducible refine (fresh_no0 m n _ _ _ HM.out HL.out).mono ?_); rintro e w2 ⟨rfl, hk, hbu⟩; have HK := Aside0.mk hk; have HU := Aside0.mk hbu; have HML2 := Aside0.mk (blk_lt hk); clear hk hbu)
    have a2 := blk_cell HK.out 2
    go_upto_region 5 with fail
    clear a2
    go_wp2_with (first
      | (go_at_call 38; (with_reducible refine (fresh_yes0 m 5 _ _ _ _ _ HK.out ok5).mono ?_); rintro e w3 ⟨rfl, g, q, k, hf, hk, hbu⟩; have HF := Aside0.mk hf; have HK3 := Aside0.mk hk; have HU3 := Aside0.mk hbu; clear hf hk hbu)
      | (go_at_call 38; (with_reducible refine (fresh_no1 m n _ _ _ HK3.out HL.out).mono ?_); rintro e w4 ⟨rfl, hk, hbu⟩; have HK4 := Aside0.mk hk; have HU4 := Aside0.mk hbu; clear hk hbu))
    go_ret
    exact ⟨rfl, BI.one (below_but HB.out HU.out HG.out HB.out.size) HG.out HML2.out ok5 (FP.next HF.out HML2.out HU4.out) (HU3.out.trans HU4.out) HK4.out⟩

set_option maxHeartbeats 4000000 in
set_option maxRecDepth 100000 in
theorem upto_calls (m n : Nat) (A : Option Addr) (cap : Nat) (l : List Mo) (lo hi : Int) (w0 w W : World) (h : BI w W n m) (hb : Below w0.heap.size w0 w) (hl : RMop w0 A l) (hn : n + l.length ≤ 2999999999998) :
    Calls Try.prog 21 #[.pointer (some ⟨m, 0, none⟩), .slice A l.length cap, .int .i64 lo, .int .i64 hi] W fun e w' => e = .returned (.bool true) ∧ BI w w' (n + l.length) m := by
  have H := Aside0.mk h
  have HB := Aside0.mk hb
  have HR := Aside0.mk hl
  have HN := Aside0.mk hn
  clear h hb hl hn
  go_enter Try.func21, Try.ntmps21
  go_wp2_with fail
  go_loopg [9] l.length (fun kq v9 w' => ∃ (i : Nat), v9 = .int .i64 (i : Int) ∧ Aside0 (i + kq = l.length) ∧ Aside0 (BI w w' (n + i) m))
  case atStart => exact ⟨0, rfl, ⟨by omega⟩, ⟨H.out⟩⟩
  case round =>
    obtain ⟨i, rfl, HK, HI⟩ := hrel
    by_cases ci : (i : Int) < (l.length : Int)
    · cases gk with
      | zero => exact absurd HK.out (by omega)
      | succ k1 =>
      have cb : decide ((i : Int) < (l.length : Int)) = true := decide_eq_true ci
      have cb2 : decide (i < l.length) = true := decide_eq_true (by omega)
      have p2 : (0 ≤ (i : Int)) = True := eq_true (by omega)
      have p3 : ((i : Int) < (l.length : Int)) = True := eq_true ci
      have hwi : wrap64 ((i : Int) + 1) = (i : Int) + 1 := Go.IntWalk.wrap64_in _ (by have := HN.out; omega)
      have HK' := Aside0.mk (show i + 1 + k1 = l.length by have := HK.out; omega)
      obtain ⟨ad, rfl, x0, x1, x2, x3, x4⟩ := HR.out.at_ (below_step HB.out (by have := HI.out.below_; exact ⟨this.os, this.tape, this.output, this.size, fun j hj => this.block j hj⟩)) i (by omega)
      have HO := Aside0.mk (HR.out.wf i (by omega))
      generalize l.getD i mo0 = o at *
      clear ci HK
      go_upto_region 5 with fail
      have HX := Aside0.mk (blk_new wr (OM o))
      have HI2 := Aside0.mk (HI.out.grow (below2a wr (OM o)))
      clear x0 x1 x2 x3 x4
      generalize wr.heap.size = d at *
      generalize wr.alloc (OM o) = w1 at *
      have y0 := blk_cell HX.out 0
      have y1 := blk_cell HX.out 1
      have y2 := blk_cell HX.out 2
      have y3 := blk_cell HX.out 3
      have y4 := blk_cell HX.out 4
      go_wp2_with (go_at_call 22; (with_reducible refine (HI2.out.step o (by have := HN.out; have := HK'.out; omega) HO.out).mono ?_); rintro e w2 ⟨rfl, hs⟩; have HI3 := Aside0.mk hs; clear hs)
      go_roundg k1
      case measure => have := HK'.out; omega
      case rel => exact ⟨i + 1, congrArg (Value.int .i64) (by omega), HK', HI3⟩
    · have cb : decide ((i : Int) < (l.length : Int)) = false := decide_eq_false ci
      have cb2 : decide (i < l.length) = false := decide_eq_false (by omega)
      have hi : i = l.length := by have := HK.out; omega
      clear ci
      go_wp2_with fail
      go_ret
      rw [hi] at HI
      exact ⟨rfl, HI.out⟩

end Go.Proofs.Ytadbcekglcmccaa.Q
