/- Contracts of the document's sets and turn (printed by gen_b6.py). Condition: block m is a mail of the document. -/
import Derived.Test.YtadbcekglcmccaaProg
import Derived.Below
import Derived.Deep.Draws
import Derived.Deep.AppendLies
import Derived.Maps.AppendAt
import Derived.OwnWalk
import Derived.Laws.BytesArg
import Derived.Laws.MakeOwn
import Derived.Laws.OwnMore
import Derived.Deep.OwnRows
import Derived.Tactics
import Derived.Lib.ConvBytes
import Derived.Laws.Slices
import Derived.WalkKit
import Derived.KernelRfl
import Derived.RowKit3
import Derived.Deep.LoopGhost
import Derived.Deep.QuietTactic
import Derived.BigQuiet
import Derived.WideLaws
import Derived.Deep.DeepCutAuto
import Derived.Deep.CutBlock
import Derived.Deep.RegionHeld3
import Derived.Laws.Rows
import Derived.Lib.AppendStr
import Derived.ArgAppend
import Derived.Laws.IdiomCopy
import Derived.OrdersHeld
import Derived.Laws.BitsLemmas
import Derived.RowKit
import Derived.Test.YtadbcekglcmccaaWWords
import Derived.Test.YtadbcekglcmccaaWLast
import Derived.Test.YtadbcekglcmccaaWTab
import Derived.Test.YtadbcekglcmccaaWFour
import Derived.Test.YtadbcekglcmccaaWQPut
import Derived.Test.YtadbcekglcmccaaWApart
import Derived.Test.YtadbcekglcmccaaWArr
import Derived.Test.YtadbcekglcmccaaWZeros
import Derived.Test.YtadbcekglcmccaaWFoot
import Derived.Test.YtadbcekglcmccaaWKept
import Derived.Test.YtadbcekglcmccaaWShare
import Derived.Test.YtadbcekglcmccaaWN
import Derived.Test.YtadbcekglcmccaaWFootNe
import Derived.Test.YtadbcekglcmccaaWAt
import Derived.Test.YtadbcekglcmccaaWEqStruct
import Derived.Test.YtadbcekglcmccaaWRepsOne
import Derived.Test.YtadbcekglcmccaaWInv
import Derived.Test.YtadbcekglcmccaaWInvWords
import Derived.Test.YtadbcekglcmccaaWGuard
import Derived.Test.YtadbcekglcmccaaWNEv
import Derived.Test.YtadbcekglcmccaaWMore
import Derived.Test.YtadbcekglcmccaaB5
set_option linter.unusedVariables false
set_option linter.unusedSimpArgs false
namespace Go.Proofs.Ytadbcekglcmccaa.Q
open Go.RowKit Go.Proofs.YtadbcekglcmccaaW.PrintWords Go.Proofs.YtadbcekglcmccaaW.PrintLast Go.Proofs.YtadbcekglcmccaaW.PrintMore
open Go.FM Go.Plan

theorem Rm.In.put1 {w W W' : World} {B : Nat} {r : Rm} (h : r.In B W) (hw : But w W r.S) (hg : W.grownBy W' (Q.rowB r.A)) {A' : Option Addr} {cap' : Nat} {L' : List Lt} (ho : OwnL W' B A' cap' L') (hr : Q.rowB A' = Q.rowB r.A ∨ ∃ q, Q.rowB A' = some q ∧ w.heap.size ≤ q) :
    RDone w (W'.setCell ⟨r.m, 1, none⟩ (.slice A' L'.length cap')) B r ⟨r.m, r.lim, A', cap', L', r.A2, r.cap2, r.Bs, r.A3, r.cap3, r.Ts⟩ := by
  have e1 : W'.heap[r.m]? = W.heap[r.m]? := hg.block r.m (blk_lt h.blk) (fun e => (h.nA r.m e.symm).1 rfl)
  have e3 := e1.trans h.blk
  have e4 : ∀ q, Q.rowB A' = some q → q ≠ r.m := by
    intro q hq
    obtain ⟨cur, hc⟩ := ownsRow_type ho q hq
    exact fun e => blk_ne hc e3 (by decide) e
  refine ⟨⟨blk_set e3 1 _, ownsRow_keep ho (fun q hq => Below.heap_setCell W' ⟨r.m, 1, none⟩ _ q (e4 q hq)), ownsRow_keep h.rowB (fun q hq => (Below.heap_setCell W' ⟨r.m, 1, none⟩ _ q ((h.nA2 q hq).1)).trans (hg.block q (ownsRow_lt h.rowB q hq).2 (fun e => by have h1 := h.nA2 q hq; have h2 := e.symm; first | exact h1.2.1 h2 | exact h1.2.2 h2))), ownsRow_keep h.rowT (fun q hq => (Below.heap_setCell W' ⟨r.m, 1, none⟩ _ q ((h.nA3 q hq).1)).trans (hg.block q (ownsRow_lt h.rowT q hq).2 (fun e => by have h1 := h.nA3 q hq; have h2 := e.symm; first | exact h1.2.1 h2 | exact h1.2.2 h2)))⟩, (hw.grown hg (fun q hq => .inr (.inl hq))).set (.inl rfl) 1 _, rfl, fun i hi => ?_⟩
  · rcases hi with hi | hi | hi | hi
    · exact .inl (.inl hi)
    · rcases hr with e | ⟨q, e, hle⟩
      · exact .inl (.inr (.inl (e ▸ hi)))
      · rw [e] at hi; obtain rfl := Option.some.inj hi; exact .inr hle
    · exact .inl (.inr (.inr (.inl hi)))
    · exact .inl (.inr (.inr (.inr hi)))
theorem Rm.In.put2 {w W W' : World} {B : Nat} {r : Rm} (h : r.In B W) (hw : But w W r.S) (hg : W.grownBy W' (Q.rowB r.A2)) {A' : Option Addr} {cap' : Nat} {L' : List Bool} (ho : W'.ownsRow B 4 1 (.slice A' L'.length cap') L'.length (bcells L')) (hr : Q.rowB A' = Q.rowB r.A2 ∨ ∃ q, Q.rowB A' = some q ∧ w.heap.size ≤ q) :
    RDone w (W'.setCell ⟨r.m, 2, none⟩ (.slice A' L'.length cap')) B r ⟨r.m, r.lim, r.A, r.cap, r.Ls, A', cap', L', r.A3, r.cap3, r.Ts⟩ := by
  have e1 : W'.heap[r.m]? = W.heap[r.m]? := hg.block r.m (blk_lt h.blk) (fun e => (h.nA2 r.m e.symm).1 rfl)
  have e3 := e1.trans h.blk
  have e4 : ∀ q, Q.rowB A' = some q → q ≠ r.m := by
    intro q hq
    obtain ⟨cur, hc⟩ := ownsRow_type ho q hq
    exact fun e => blk_ne hc e3 (by decide) e
  refine ⟨⟨blk_set e3 2 _, ownsRow_keep h.rowL (fun q hq => (Below.heap_setCell W' ⟨r.m, 2, none⟩ _ q ((h.nA q hq).1)).trans (hg.block q (ownsRow_lt h.rowL q hq).2 (fun e => by have h1 := h.nA q hq; have h2 := e.symm; first | exact h1.2.1 h2 | exact h1.2.2 h2))), ownsRow_keep ho (fun q hq => Below.heap_setCell W' ⟨r.m, 2, none⟩ _ q (e4 q hq)), ownsRow_keep h.rowT (fun q hq => (Below.heap_setCell W' ⟨r.m, 2, none⟩ _ q ((h.nA3 q hq).1)).trans (hg.block q (ownsRow_lt h.rowT q hq).2 (fun e => by have h1 := h.nA3 q hq; have h2 := e.symm; first | exact h1.2.1 h2 | exact h1.2.2 h2)))⟩, (hw.grown hg (fun q hq => .inr (.inr (.inl hq)))).set (.inl rfl) 2 _, rfl, fun i hi => ?_⟩
  · rcases hi with hi | hi | hi | hi
    · exact .inl (.inl hi)
    · exact .inl (.inr (.inl hi))
    · rcases hr with e | ⟨q, e, hle⟩
      · exact .inl (.inr (.inr (.inl (e ▸ hi))))
      · rw [e] at hi; obtain rfl := Option.some.inj hi; exact .inr hle
    · exact .inl (.inr (.inr (.inr hi)))
theorem Rm.In.put3 {w W W' : World} {B : Nat} {r : Rm} (h : r.In B W) (hw : But w W r.S) (hg : W.grownBy W' (Q.rowB r.A3)) {A' : Option Addr} {cap' : Nat} {L' : List Tn} (ho : W'.ownsRow B 99 3 (.slice A' L'.length cap') L'.length (tcells L')) (hr : Q.rowB A' = Q.rowB r.A3 ∨ ∃ q, Q.rowB A' = some q ∧ w.heap.size ≤ q) :
    RDone w (W'.setCell ⟨r.m, 3, none⟩ (.slice A' L'.length cap')) B r ⟨r.m, r.lim, r.A, r.cap, r.Ls, r.A2, r.cap2, r.Bs, A', cap', L'⟩ := by
  have e1 : W'.heap[r.m]? = W.heap[r.m]? := hg.block r.m (blk_lt h.blk) (fun e => (h.nA3 r.m e.symm).1 rfl)
  have e3 := e1.trans h.blk
  have e4 : ∀ q, Q.rowB A' = some q → q ≠ r.m := by
    intro q hq
    obtain ⟨cur, hc⟩ := ownsRow_type ho q hq
    exact fun e => blk_ne hc e3 (by decide) e
  refine ⟨⟨blk_set e3 3 _, ownsRow_keep h.rowL (fun q hq => (Below.heap_setCell W' ⟨r.m, 3, none⟩ _ q ((h.nA q hq).1)).trans (hg.block q (ownsRow_lt h.rowL q hq).2 (fun e => by have h1 := h.nA q hq; have h2 := e.symm; first | exact h1.2.1 h2 | exact h1.2.2 h2))), ownsRow_keep h.rowB (fun q hq => (Below.heap_setCell W' ⟨r.m, 3, none⟩ _ q ((h.nA2 q hq).1)).trans (hg.block q (ownsRow_lt h.rowB q hq).2 (fun e => by have h1 := h.nA2 q hq; have h2 := e.symm; first | exact h1.2.1 h2 | exact h1.2.2 h2))), ownsRow_keep ho (fun q hq => Below.heap_setCell W' ⟨r.m, 3, none⟩ _ q (e4 q hq))⟩, (hw.grown hg (fun q hq => .inr (.inr (.inr hq)))).set (.inl rfl) 3 _, rfl, fun i hi => ?_⟩
  · rcases hi with hi | hi | hi | hi
    · exact .inl (.inl hi)
    · exact .inl (.inr (.inl hi))
    · exact .inl (.inr (.inr (.inl hi)))
    · rcases hr with e | ⟨q, e, hle⟩
      · exact .inl (.inr (.inr (.inr (e ▸ hi))))
      · rw [e] at hi; obtain rfl := Option.some.inj hi; exact .inr hle
def RRes (B : Nat) (r : Rm) (Ls' : List Lt) (Bs' : List Bool) (Ts' : List Tn) (v : Value) (w : World) (e : Ending) (w' : World) : Prop :=
  e = .returned v ∧ ∃ A cap A2 cap2 A3 cap3, RDone w w' B r ⟨r.m, r.lim, A, cap, Ls', A2, cap2, Bs', A3, cap3, Ts'⟩
theorem RRes.same {B : Nat} {r : Rm} {v : Value} {w w' : World} {e : Ending} (he : e = .returned v) (h : r.In B w) (hb : Below w.heap.size w w') : RRes B r r.Ls r.Bs r.Ts v w e w' :=
  ⟨he, r.A, r.cap, r.A2, r.cap2, r.A3, r.cap3, RDone.same h hb⟩
/-- A letter is gone. -/
theorem Rm.In.mark {w W : World} {B : Nat} {r : Rm} (h : r.In B W) (hw : Below w.heap.size w W) {q : Nat} (hq : r.A2 = some ⟨q, 0, none⟩) (j : Nat) :
    RDone w (W.setCell ⟨q, j, none⟩ (.bool true)) B r ⟨r.m, r.lim, r.A, r.cap, r.Ls, r.A2, r.cap2, r.Bs.set j true, r.A3, r.cap3, r.Ts⟩ := by
  have hq2 : Q.rowB r.A2 = some q := by rw [hq]; rfl
  obtain ⟨n1, n2, n3⟩ := h.nA2 q hq2
  have hst := h.rowB
  rw [hq] at hst
  have hst2 := (hst.stored j (.bool true)).1
  refine ⟨⟨?_, ownsRow_keep h.rowL (fun p hp => Below.heap_setCell W ⟨q, j, none⟩ _ p (fun e => n2 (by have e' : p = q := e; rw [← e']; exact hp))), ?_, ownsRow_keep h.rowT (fun p hp => Below.heap_setCell W ⟨q, j, none⟩ _ p (fun e => n3 (by have e' : p = q := e; rw [← e']; exact hp)))⟩, (But.of_below hw).set (.inr (.inr (.inl hq2))) j _, rfl, fun i hi => .inl hi⟩
  · show (W.setCell ⟨q, j, none⟩ (.bool true)).heap[r.m]? = some (.cells #[.int .i64 r.lim, .slice r.A r.Ls.length r.cap, .slice r.A2 (r.Bs.set j true).length r.cap2, .slice r.A3 r.Ts.length r.cap3] 88 (0, 0))
    rw [List.length_set]
    exact (Below.heap_setCell W ⟨q, j, none⟩ _ r.m (fun e => n1 e.symm)).trans h.blk
  · show (W.setCell ⟨q, j, none⟩ (.bool true)).ownsRow B 4 1 (.slice r.A2 (r.Bs.set j true).length r.cap2) (r.Bs.set j true).length (bcells (r.Bs.set j true))
    rw [List.length_set, hq]
    unfold bcells
    rw [List.map_set]
    exact hst2

set_option maxHeartbeats 4000000 in
set_option maxRecDepth 100000 in
theorem rsets_calls (B : Nat) (r : Rm) (f t : Int) (s : ByteArray) (w : World) (h : r.In B w) (hB : B ≤ w.heap.size) (hl : r.Bs.length = r.Ls.length) (hL : r.Ls.length ≤ 3000000000000) :
    Calls Try.prog 57 #[.pointer (some ⟨r.m, 0, none⟩), .int .i64 f, .int .i64 t, .string s] w (RRes B r (r.Ls ++ [⟨(r.Ls.length : Int) + 1, f, t, s⟩]) (r.Bs ++ [false]) r.Ts (.int .i64 ((r.Ls.length : Int) + 1)) w) := by
  obtain ⟨y, hyy⟩ : ∃ y : Lt, (⟨(r.Ls.length : Int) + 1, f, t, s⟩ : Lt) = y := ⟨_, rfl⟩
  have H := Aside0.mk h
  have HB := Aside0.mk hB
  have HL := Aside0.mk hL
  have HE := Aside0.mk hl
  have c1 := blk_cell h.blk 1
  have f1 := blk_frozen h.blk 1
  have hwi : wrap64 ((r.Ls.length : Int) + 1) = (r.Ls.length : Int) + 1 := Go.IntWalk.wrap64_in _ (by omega)
  obtain ⟨i0, hi, hz0, hz1, hz2⟩ := info_parts info33
  have HI4 := Aside0.mk (And.intro hi (And.intro hz0 (And.intro hz1 hz2)))
  obtain ⟨i1, hi, hz0, hz1, hz2⟩ := info_parts info4
  have HI5 := Aside0.mk (And.intro hi (And.intro hz0 (And.intro hz1 hz2)))
  clear hi hz0 hz1 hz2
  have HOne := Aside0.mk (lc_one ⟨(r.Ls.length : Int) + 1, f, t, s⟩)
  have hone2 : ∀ u ∈ [Value.bool false], u.oneCell' = true := by intro u hu; simp at hu; subst hu; rfl
  have HOne2 := Aside0.mk hone2
  have D := Aside0.mk (show r.Ls.length + 1 ≤ maxLen ∧ (r.Ls.length + 1) * 40 ≤ 140737488355328 from ⟨by unfold maxLen; omega, by omega⟩)
  have D2 := Aside0.mk (show r.Bs.length + 1 ≤ maxLen ∧ (r.Bs.length + 1) * 1 ≤ 140737488355328 from ⟨by unfold maxLen; omega, by omega⟩)
  have HRS := Aside0.mk (show lcells r.Ls ++ [.int .i64 ((r.Ls.length : Int) + 1), .int .i64 f, .int .i64 t, .string s] = lcells (r.Ls ++ [⟨(r.Ls.length : Int) + 1, f, t, s⟩]) from (lcells_app r.Ls [⟨(r.Ls.length : Int) + 1, f, t, s⟩]).symm)
  have HLM := Aside0.mk (show r.Ls.length + 1 = (r.Ls ++ [(⟨(r.Ls.length : Int) + 1, f, t, s⟩ : Lt)]).length by simp)
  have HRS2 := Aside0.mk (show bcells r.Bs ++ [.bool false] = bcells (r.Bs ++ [false]) by unfold bcells; rw [List.map_append]; rfl)
  have HLM2 := Aside0.mk (show r.Bs.length + 1 = (r.Bs ++ [false]).length by simp)
  clear h hB hl hL hone2
  go_enter Try.func57, Try.ntmps57
  go_upto_region 3 with (at_builtin; refine wpList_append_own_at _ rfl _ _ 57 rfl B 33 i0 (.agg #[.int .i64 0, .int .i64 0, .int .i64 0, .string ByteArray.empty]) 4 40 Try.underlying57 HI4.out.1 HI4.out.2.1 HI4.out.2.2.1 HI4.out.2.2.2 rfl (by decide) (.slice r.A r.Ls.length r.cap) r.Ls.length (lcells r.Ls) rfl (H.out.rowL.alloc _) ⟨w.heap.size, 0, none⟩ 1 1 [.int .i64 ((r.Ls.length : Int) + 1), .int .i64 f, .int .i64 t, .string s] rfl rfl (new_cells _ _ _) HOne.out D.out.1 D.out.2 (le_alloc HB.out) ?_; intro v' w5 hown hgrow _ hat; obtain ⟨A5, c5, rfl⟩ := own_form hown; rw [rowB_own] at hgrow; rw [rowB_own, rowB_own] at hat; rw [HRS.out, HLM.out] at hown; have HOwn := Aside0.mk hown; have HG := Aside0.mk hgrow; have HAT := Aside0.mk hat; have b5 := (hgrow.block r.m (blk_lt (blk_below H.out.blk (below2a w (.cells #[.int .i64 ((r.Ls.length : Int) + 1), .int .i64 f, .int .i64 t, .string s] 33)))) (fun e => (H.out.nA r.m e.symm).1 rfl)).trans (blk_below H.out.blk (below2a w (.cells #[.int .i64 ((r.Ls.length : Int) + 1), .int .i64 f, .int .i64 t, .string s] 33))); have f5 := blk_frozen b5 1; have c5x := blk_cell b5 1; clear hown hgrow hat)
  have hd := Rm.In.put1 (r := r) (w := w) (A' := A5) (cap' := c5) (H.out.below (below2a w (.cells #[.int .i64 ((r.Ls.length : Int) + 1), .int .i64 f, .int .i64 t, .string s] 33))) (But.of_below (below2a w _)) HG.out HOwn.out (by rcases HAT.out with e | e; exact .inl e; exact .inr ⟨_, e, (below2a w _).size⟩)
  rw [← HLM.out] at hd
  have HD := Aside0.mk hd
  clear hd HOwn HG HAT b5 f5 c5x c1 f1
  generalize w5.setCell ⟨r.m, 1, none⟩ (.slice A5 (r.Ls.length + 1) c5) = w6 at *
  have c2 := blk_cell HD.out.inn.blk 2
  have HBW := Aside0.mk (Nat.le_trans HB.out HD.out.fr.size)
  dsimp only at c2
  go_upto_region 4 with (at_builtin; refine wpList_append_own_at _ rfl _ _ 31 rfl B 4 i1 (.bool false) 1 1 Try.underlying31 HI5.out.1 HI5.out.2.1 HI5.out.2.2.1 HI5.out.2.2.2 rfl (by decide) (.slice r.A2 r.Bs.length r.cap2) r.Bs.length (bcells r.Bs) rfl (HD.out.inn.rowB.alloc _) ⟨w6.heap.size, 0, none⟩ 1 1 [.bool false] rfl rfl (cell_one_new _ _ _) HOne2.out D2.out.1 D2.out.2 (le_alloc HBW.out) ?_; intro v' w7 hown hgrow _ hat; obtain ⟨A7, c7, rfl⟩ := own_form hown; rw [rowB_own] at hgrow; rw [rowB_own, rowB_own] at hat; rw [HRS2.out, HLM2.out] at hown; have HOwn := Aside0.mk hown; have HG := Aside0.mk hgrow; have HAT := Aside0.mk hat; have b7 := (hgrow.block r.m (blk_lt (blk_below HD.out.inn.blk (below2a w6 (.cells #[.bool false] 4)))) (fun e => (HD.out.inn.nA2 r.m e.symm).1 rfl)).trans (blk_below HD.out.inn.blk (below2a w6 (.cells #[.bool false] 4))); have f7 := blk_frozen b7 2; have c7x := blk_cell b7 2; clear hown hgrow hat)
  have hd := Rm.In.put2 (w := w6) (A' := A7) (cap' := c7) (HD.out.inn.below (below2a w6 (.cells #[.bool false] 4))) (But.of_below (below2a w6 _)) HG.out HOwn.out (by rcases HAT.out with e | e; exact .inl e; exact .inr ⟨_, e, (below2a w6 _).size⟩)
  rw [← HLM2.out] at hd
  have HD2 := Aside0.mk (HD.out.then hd)
  clear hd HOwn HG HAT b7 f7 c7x c2
  dsimp only at HD2
  generalize w7.setCell ⟨r.m, 2, none⟩ (.slice A7 (r.Bs.length + 1) c7) = w8 at *
  go_wp2_with fail
  go_ret
  exact ⟨rfl, _, _, _, _, _, _, HD2.out⟩

set_option maxHeartbeats 4000000 in
set_option maxRecDepth 100000 in
theorem rturn_no (B : Nat) (r : Rm) (a b : Int) (c : Bool) (w : World) (hl : linkB a b = false) :
    Calls Try.prog 59 #[.pointer (some ⟨r.m, 0, none⟩), .int .i64 a, .int .i64 b, .bool c] w fun e w' => e = .returned (.int .i64 1) ∧ w = w' := by
  by_cases h1 : adB a = true
  · by_cases h2 : adB b = true
    · have h3 : (a == b) = true := by
        unfold linkB at hl
        rw [h1, h2] at hl
        simpa using hl
      have H1 := Aside0.mk h1
      have H2 := Aside0.mk h2
      clear h1 h2 hl
      go_enter Try.func59, Try.ntmps59
      go_wp2_with (first
        | (go_at_call 55; refine (raddress_calls a _).mono ?_; rintro e w' ⟨rfl, rfl⟩; rw [H1.out])
        | (go_at_call 55; refine (raddress_calls b _).mono ?_; rintro e w' ⟨rfl, rfl⟩; rw [H2.out]))
      go_ret
      exact ⟨rfl, rfl⟩
    · have H1 := Aside0.mk h1
      have H2 := Aside0.mk (show adB b = false by simpa using h2)
      clear h1 h2 hl
      go_enter Try.func59, Try.ntmps59
      go_wp2_with (first
        | (go_at_call 55; (with_reducible refine (raddress_calls a _).mono ?_); rintro e w' ⟨rfl, rfl⟩; rw [H1.out])
        | (go_at_call 55; (with_reducible refine (raddress_calls b _).mono ?_); rintro e w' ⟨rfl, rfl⟩; rw [H2.out]))
      go_ret
      exact ⟨rfl, rfl⟩
  · have H1 := Aside0.mk (show adB a = false by simpa using h1)
    clear h1 hl
    go_enter Try.func59, Try.ntmps59
    go_wp2_with (go_at_call 55; (with_reducible refine (raddress_calls a _).mono ?_); rintro e w' ⟨rfl, rfl⟩; rw [H1.out])
    go_ret
    exact ⟨rfl, rfl⟩

set_option maxHeartbeats 4000000 in
set_option maxRecDepth 100000 in
theorem rturn_ok (B : Nat) (r : Rm) (a b : Int) (c : Bool) (w : World) (h : r.In B w) (hB : B ≤ w.heap.size) (hT : r.Ts.length ≤ 3000000000000) (hl : linkB a b = true) :
    Calls Try.prog 59 #[.pointer (some ⟨r.m, 0, none⟩), .int .i64 a, .int .i64 b, .bool c] w (RRes B r r.Ls r.Bs (r.Ts ++ [⟨a, b, c⟩]) (.int .i64 0) w) := by
  have H := Aside0.mk h
  have HB := Aside0.mk hB
  have h3 : (a == b) = false := by
    have hk := linkB_iff hl
    unfold linkB at hl
    rw [hk.1, hk.2] at hl
    simpa using hl
  have H1 := Aside0.mk (linkB_iff hl).1
  have H2 := Aside0.mk (linkB_iff hl).2
  have c3 := blk_cell h.blk 3
  obtain ⟨i0, hi, hz0, hz1, hz2⟩ := info_parts info99
  have HI4 := Aside0.mk (And.intro hi (And.intro hz0 (And.intro hz1 hz2)))
  clear hi hz0 hz1 hz2
  have HOne := Aside0.mk (tcn_one ⟨a, b, c⟩)
  have D := Aside0.mk (show r.Ts.length + 1 ≤ maxLen ∧ (r.Ts.length + 1) * 24 ≤ 140737488355328 from ⟨by unfold maxLen; omega, by omega⟩)
  have HRS := Aside0.mk (show tcells r.Ts ++ [.int .i64 a, .int .i64 b, .bool c] = tcells (r.Ts ++ [⟨a, b, c⟩]) from (tcells_app r.Ts [⟨a, b, c⟩]).symm)
  have HLM := Aside0.mk (show r.Ts.length + 1 = (r.Ts ++ [(⟨a, b, c⟩ : Tn)]).length by simp)
  clear h hB hT hl
  go_enter Try.func59, Try.ntmps59
  go_upto_region 6 with (first
    | (go_at_call 55; (with_reducible refine (raddress_calls a _).mono ?_); rintro e w' ⟨rfl, rfl⟩; rw [H1.out])
    | (go_at_call 55; (with_reducible refine (raddress_calls b _).mono ?_); rintro e w' ⟨rfl, rfl⟩; rw [H2.out])
    | (at_builtin; refine wpList_append_own_at _ rfl _ _ 86 rfl B 99 i0 (.agg #[.int .i64 0, .int .i64 0, .bool false]) 3 24 Try.underlying86 HI4.out.1 HI4.out.2.1 HI4.out.2.2.1 HI4.out.2.2.2 rfl (by decide) (.slice r.A3 r.Ts.length r.cap3) r.Ts.length (tcells r.Ts) rfl (H.out.rowT.alloc _) ⟨w.heap.size, 0, none⟩ 1 1 [.int .i64 a, .int .i64 b, .bool c] rfl rfl (new_cells _ _ _) HOne.out D.out.1 D.out.2 (le_alloc HB.out) ?_; intro v' w5 hown hgrow _ hat; obtain ⟨A5, c5, rfl⟩ := own_form hown; rw [rowB_own] at hgrow; rw [rowB_own, rowB_own] at hat; rw [HRS.out, HLM.out] at hown; have HOwn := Aside0.mk hown; have HG := Aside0.mk hgrow; have HAT := Aside0.mk hat; have b5 := (hgrow.block r.m (blk_lt (blk_below H.out.blk (below2a w (.cells #[.int .i64 a, .int .i64 b, .bool c] 99)))) (fun e => (H.out.nA3 r.m e.symm).1 rfl)).trans (blk_below H.out.blk (below2a w (.cells #[.int .i64 a, .int .i64 b, .bool c] 99))); have f5 := blk_frozen b5 3; have c5x := blk_cell b5 3; clear hown hgrow hat))
  have hd := Rm.In.put3 (r := r) (w := w) (A' := A5) (cap' := c5) (H.out.below (below2a w (.cells #[.int .i64 a, .int .i64 b, .bool c] 99))) (But.of_below (below2a w _)) HG.out HOwn.out (by rcases HAT.out with e | e; exact .inl e; exact .inr ⟨_, e, (below2a w _).size⟩)
  rw [← HLM.out] at hd
  have HD := Aside0.mk hd
  clear hd HOwn HG HAT b5 f5 c5x c3
  generalize w5.setCell ⟨r.m, 3, none⟩ (.slice A5 (r.Ts.length + 1) c5) = w6 at *
  go_wp2_with fail
  go_ret
  exact ⟨rfl, _, _, _, _, _, _, HD.out⟩

end Go.Proofs.Ytadbcekglcmccaa.Q
