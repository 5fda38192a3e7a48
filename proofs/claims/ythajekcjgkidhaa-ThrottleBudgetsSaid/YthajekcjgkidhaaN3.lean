/- Contract of (*throttle.Budget).Fail at a time within its bounds. Condition: as for Left. -/
import Derived.Test.YthajekcjgkidhaaProg
import Derived.Below
import Derived.Deep.Draws
import Derived.Deep.AppendLies
import Derived.Maps.AppendAt
import Derived.OwnWalk
import Derived.Laws.BytesArg
import Derived.Laws.MakeOwn
import Derived.Laws.OwnMore
import Derived.Deep.OwnRows
import Derived.Tactics
import Derived.Lib.ConvBytes
import Derived.Laws.Slices
import Derived.WalkKit
import Derived.KernelRfl
import Derived.RowKit3
import Derived.Deep.LoopGhost
import Derived.Deep.QuietTactic
import Derived.BigQuiet
import Derived.WideLaws
import Derived.Deep.DeepCutAuto
import Derived.Deep.CutBlock
import Derived.Deep.RegionHeld3
import Derived.Laws.Rows
import Derived.Lib.AppendStr
import Derived.ArgAppend
import Derived.Laws.IdiomCopy
import Derived.OrdersHeld
import Derived.Laws.BitsLemmas
import Derived.RowKit
import Derived.Test.YthajekcjgkidhaaWWords
import Derived.Test.YthajekcjgkidhaaWLast
import Derived.Test.YthajekcjgkidhaaWTab
import Derived.Test.YthajekcjgkidhaaWFour
import Derived.Test.YthajekcjgkidhaaWQPut
import Derived.Test.YthajekcjgkidhaaWApart
import Derived.Test.YthajekcjgkidhaaWArr
import Derived.Test.YthajekcjgkidhaaWZeros
import Derived.Test.YthajekcjgkidhaaWFoot
import Derived.Test.YthajekcjgkidhaaWKept
import Derived.Test.YthajekcjgkidhaaWShare
import Derived.Test.YthajekcjgkidhaaWN
import Derived.Test.YthajekcjgkidhaaWFootNe
import Derived.Test.YthajekcjgkidhaaWAt
import Derived.Test.YthajekcjgkidhaaWEqStruct
import Derived.Test.YthajekcjgkidhaaWRepsOne
import Derived.Test.YthajekcjgkidhaaWInv
import Derived.Test.YthajekcjgkidhaaWInvWords
import Derived.Test.YthajekcjgkidhaaWGuard
import Derived.Test.YthajekcjgkidhaaWNEv
import Derived.Test.YthajekcjgkidhaaWMore
import Derived.Test.YthajekcjgkidhaaLocks
import Derived.Conc.MuLone
import Derived.Test.YthajekcjgkidhaaN2
set_option linter.unusedVariables false
set_option linter.unusedSimpArgs false
namespace Go.Proofs.Ythajekcjgkidhaa.Q
open Go.RowKit Go.Proofs.YthajekcjgkidhaaW.PrintWords Go.Proofs.YthajekcjgkidhaaW.PrintLast Go.Proofs.YthajekcjgkidhaaW.PrintMore
open Go.MuLone Go.FM

/-- What Fail makes of a budget's map, and what it answers. -/
def failF (t b m : Int) (F : Fm) (it : Int × Int) (now : Int) : Fm × Int × Int :=
  if now < 0 ∨ 9007199254740992 < now then (F, 0, 1) else
  if ((F it).getD (0, b)).1 = t then (F, 0, 100) else
  if ((F it).getD (0, b)).1 + 1 = t then ((fun x => if x = it then some (((F it).getD (0, b)).1 + 1, min (2 * ((F it).getD (0, b)).2) m) else F x), 0, 100)
  else ((fun x => if x = it then some (((F it).getD (0, b)).1 + 1, min (2 * ((F it).getD (0, b)).2) m) else F x), now + ((F it).getD (0, b)).2, 0)

theorem tail14 : Region.lexTailB .any (opsOf Try.f15 14) 9 = true := by kernel_rfl
theorem tail14' (ops : Array Oper) (h : opsOf Try.f15 14 = ops) : Region.lexTailB .any ops 9 = true := h ▸ tail14
theorem tail15 : Region.lexTailB .any (opsOf Try.f15 15) 6 = true := by kernel_rfl
theorem tail15' (ops : Array Oper) (h : opsOf Try.f15 15 = ops) : Region.lexTailB .any ops 6 = true := h ▸ tail15

/-- .. and the state that it has in hand, in a block of its own. -/
structure UF (w W : World) (g r c d : Nat) (t b m : Int) (F : Fm) (it : Int × Int) (s1 s2 : Int) : Prop where
  ul : UL w W g r c t b m F it 1
  sx : W.heap[d]? = some (.cells #[.int .i64 s1, .int .i64 s2] 89 (0, 0))
  dg : d ≠ g
  dr : d ≠ r
  dc : d ≠ c
  dw : w.heap.size ≤ d
theorem But2.setNew {w W : World} {g k d : Nat} (h : But2 w W g k) (hd : w.heap.size ≤ d) (i : Nat) (u : Value) : But2 w (W.setCell ⟨d, i, none⟩ u) g k :=
  ⟨h.os, h.tape, h.output, by simpa [World.setCell] using h.size, fun j hj a b => (Below.heap_setCell W ⟨d, i, none⟩ u j (by show j ≠ d; omega)).trans (h.block j hj a b)⟩
theorem UL.other {w W : World} {g r c d : Nat} {t b m l : Int} {F : Fm} {it : Int × Int} (h : UL w W g r c t b m F it l) (dg : d ≠ g) (dr : d ≠ r) (dc : d ≠ c) (dw : w.heap.size ≤ d) (i : Nat) (u : Value) : UL w (W.setCell ⟨d, i, none⟩ u) g r c t b m F it l :=
  ⟨(Below.heap_setCell W ⟨d, i, none⟩ u g dg.symm).trans h.blk, h.fm.below (Below.heap_setCell W ⟨d, i, none⟩ u r dr.symm), h.gr, (Below.heap_setCell W ⟨d, i, none⟩ u c dc.symm).trans h.bx, h.bu.setNew dw i u, h.cg, h.cr⟩
theorem UF.set0 {w W : World} {g r c d : Nat} {t b m : Int} {F : Fm} {it : Int × Int} {s1 s2 : Int} (h : UF w W g r c d t b m F it s1 s2) (u : Int) : UF w (W.setCell ⟨d, 0, none⟩ (.int .i64 u)) g r c d t b m F it u s2 :=
  ⟨h.ul.other h.dg h.dr h.dc h.dw 0 _, blk_set h.sx 0 _, h.dg, h.dr, h.dc, h.dw⟩
theorem UF.set1 {w W : World} {g r c d : Nat} {t b m : Int} {F : Fm} {it : Int × Int} {s1 s2 : Int} (h : UF w W g r c d t b m F it s1 s2) (u : Int) : UF w (W.setCell ⟨d, 1, none⟩ (.int .i64 u)) g r c d t b m F it s1 u :=
  ⟨h.ul.other h.dg h.dr h.dc h.dw 1 _, blk_set h.sx 1 _, h.dg, h.dr, h.dc, h.dw⟩
theorem UF.drew {w W : World} {g r c d : Nat} {t b m : Int} {F : Fm} {it : Int × Int} {s1 s2 : Int} (h : UF w W g r c d t b m F it s1 s2) : UF w W.drew g r c d t b m F it s1 s2 := ⟨h.ul.drew, h.sx, h.dg, h.dr, h.dc, h.dw⟩
theorem UF.drewN {w W : World} {g r c d : Nat} {t b m : Int} {F : Fm} {it : Int × Int} {s1 s2 : Int} (h : UF w W g r c d t b m F it s1 s2) (n : Nat) : UF w (W.drewN n) g r c d t b m F it s1 s2 := ⟨h.ul.drewN n, h.sx, h.dg, h.dr, h.dc, h.dw⟩
theorem UL.alloc {w W : World} {g r c : Nat} {t b m l : Int} {F : Fm} {it : Int × Int} (h : UL w W g r c t b m F it l) (o : Obj) : UL w (W.alloc o) g r c t b m F it l :=
  ⟨(Below.heap_alloc W o g (blk_lt h.blk)).trans h.blk, h.fm.below (Below.heap_alloc W o r h.fm.lt), h.gr, (Below.heap_alloc W o c (blk_lt h.bx)).trans h.bx, h.bu.alloc o, h.cg, h.cr⟩
theorem UL.hand {w W : World} {g r c : Nat} {t b m : Int} {F : Fm} {it : Int × Int} (h : UL w W g r c t b m F it 1) (s1 s2 : Int) : UF w (W.alloc (.cells #[.int .i64 s1, .int .i64 s2] 89)) g r c W.heap.size t b m F it s1 s2 := by
  have h1 := blk_lt h.blk
  have h2 := h.fm.lt
  have h3 := blk_lt h.bx
  have h4 := h.bu.size
  exact ⟨h.alloc _, blk_new W _, by omega, by omega, by omega, h4⟩

theorem UF.map {w W W' : World} {g r c d : Nat} {t b m : Int} {F F' : Fm} {it : Int × Int} {s1 s2 : Int} (h : UF w W g r c d t b m F it s1 s2) (hf : MapI W' r F') (ho : OnlyB W W' r) : UF w W' g r c d t b m F' it s1 s2 :=
  ⟨h.ul.map hf ho, (ho.block d h.dr).trans h.sx, h.dg, h.dr, h.dc, h.dw⟩

set_option maxHeartbeats 8000000 in
set_option maxRecDepth 100000 in
theorem fail_known (g r : Nat) (t b m : Int) (hb : okBud t b m) (F : Fm) (it : Int × Int) (hit : okI it) (now : Int) (w : World) (hI : IsU w g r t b m F) (s1 s2 : Int) (hF : F it = some (s1, s2)) (h1 : 0 ≤ s1) (h2 : s1 ≤ 64) (h3 : 0 ≤ s2) (h4 : s2 ≤ 1024) (hn : 0 ≤ now ∧ now ≤ 9007199254740992) :
    Calls Try.prog 15 #[.pointer (some ⟨g, 0, none⟩), .agg #[.int .i64 it.1, .int .i64 it.2], .int .i64 now] w fun e w' => e = .returned (.tuple #[.int .i64 (failF t b m F it now).2.1, .int .i64 (failF t b m F it now).2.2]) ∧ IsU w' g r t b m (failF t b m F it now).1 ∧ But2 w w' g r := by
  have hs := UL.start g r t b m F it w hI
  have n1 : decide (now < 0) = false := by simp; omega
  have n2 : decide (9007199254740992 < now) = false := by simp; omega
  have hk0 := fun (W : World) (h : UL w W g r w.heap.size t b m F it 1) => h.look hit true
  simp only [hF] at hk0
  have HK := Aside0.mk hk0
  have HS := Aside0.mk hs
  obtain ⟨q1, q2, q3, q4, q5, q6⟩ := hb
  obtain ⟨mv, hmv⟩ : ∃ v, min (2 * s2) m = v := ⟨_, rfl⟩
  have hv : failF t b m F it now = if s1 = t then (F, 0, 100) else if (s1 + 1) = t then ((fun x => if x = it then some ((s1 + 1), mv) else F x), 0, 100) else ((fun x => if x = it then some ((s1 + 1), mv) else F x), now + s2, 0) := by
    rw [← hmv]
    unfold failF
    rw [if_neg (by omega), hF]
    rfl
  rw [hv]
  have a1 : IntKind.i64.wrap (now + s2) = now + s2 := (i64_w _).trans (Go.IntWalk.wrap64_in _ (by omega))
  have a2 : IntKind.i64.wrap (s1 + 1) = (s1 + 1) := (i64_w _).trans (Go.IntWalk.wrap64_in _ (by omega))
  have a3 : IntKind.i64.wrap (2 * s2) = 2 * s2 := (i64_w _).trans (Go.IntWalk.wrap64_in _ (by omega))
  clear hs hI hk0 hv hF
  by_cases e1 : s1 = t
  · rw [if_pos e1]
    have e1b : (s1 == t) = true := by simpa using e1
    clear e1
    go_enter_defers Try.func15, Try.ntmps15
    go_wp2_with fail
    generalize w.alloc (.cells #[.int .i64 it.1, .int .i64 it.2] 35) = w1 at *
    generalize w.heap.size = c at *
    have c0 : w1.cell? ⟨g, 0, none⟩ = some (.int .i32 0) := blk_cell HS.out.blk 0
    have f0 : w1.frozen? ⟨g, 0, none⟩ = false := blk_frozen HS.out.blk 0
    go_wp2_with (go_at_call 34; refine (lock_free muLib ⟨g, 0, none⟩ _ c0 f0).mono ?_; rintro e w' ⟨rfl, rfl⟩)
    have HL := Aside0.mk (HS.out.lock 1)
    generalize w1.setCell ⟨g, 0, none⟩ (.int .i32 1) = w2 at *
    clear c0 f0 HS
    have c5 : w2.cell? ⟨g, 5, none⟩ = some (.map (some r)) := blk_cell HL.out.blk 5
    have x0 := blk_cell HL.out.bx 0
    have x1 := blk_cell HL.out.bx 1
    have l1 : (Instr.lookup 78 (.map (some r)) (.agg #[.int .i64 it.1, .int .i64 it.2]) true).run Try.prog w2.drew = .ok (.tuple #[.agg #[.int .i64 s1, .int .i64 s2], .bool true]) w2.drew := HK.out _ HL.out.drew
    have l3 : (Instr.lookup 78 (.map (some r)) (.agg #[.int .i64 it.1, .int .i64 it.2]) true).run Try.prog ((w2.alloc (.cells #[.int .i64 0, .int .i64 0] 89)).drew) = .ok (.tuple #[.agg #[.int .i64 s1, .int .i64 s2], .bool true]) ((w2.alloc (.cells #[.int .i64 0, .int .i64 0] 89)).drew) := HK.out _ (HL.out.alloc _).drew
    have ea := Aside0.mk (HL.out.alloc (.cells #[.int .i64 0, .int .i64 0] 89))
    have c5a : (w2.alloc (.cells #[.int .i64 0, .int .i64 0] 89)).cell? ⟨g, 5, none⟩ = some (.map (some r)) := blk_cell ea.out.blk 5
    have x0a := blk_cell ea.out.bx 0
    have x1a := blk_cell ea.out.bx 1
    have HU := Aside0.mk (HL.out.hand s1 s2).drew
    go_region
    all_goals
      generalize (w2.alloc (.cells #[.int .i64 s1, .int .i64 s2] 89)).drew = w3 at *
      generalize w2.heap.size = d at *
      clear c5 x0 x1 l1 l3 ea c5a x0a x1a HL HK
      have y0 := blk_cell HU.out.sx 0
      have y1 := blk_cell HU.out.sx 1
      have z0 := blk_frozen HU.out.sx 0
      have z1 := blk_frozen HU.out.sx 1
      have u2 : w3.cell? ⟨g, 2, none⟩ = some (.int .i64 t) := blk_cell HU.out.ul.blk 2
      have u3 : w3.cell? ⟨g, 3, none⟩ = some (.int .i64 b) := blk_cell HU.out.ul.blk 3
      go_wp2_with fail
      have HV := HU
      clear y0 y1 z0 z1 u2 u3 HU
      generalize w3 = w4 at *
      have y0 := blk_cell HV.out.sx 0
      have u2 : w4.cell? ⟨g, 2, none⟩ = some (.int .i64 t) := blk_cell HV.out.ul.blk 2
      go_quiet (fail)
      have HW := Aside0.mk (HV.out.drewN nq)
      generalize w4.drewN nq = w5 at *
      clear y0 u2 HV
      have y0 := blk_cell HW.out.sx 0
      have y1 := blk_cell HW.out.sx 1
      have z0 := blk_frozen HW.out.sx 0
      go_wp2_with fail
      refine leaves_cons (f := 35) (args := #[.pointer (some ⟨g, 0, none⟩)]) (by simp) (by simp [go_sem]) ?_
      refine (unlock_deferred muLib ⟨g, 0, none⟩ .returning _ ?_ ?_).mono ?_
      · exact blk_cell HW.out.ul.blk 0
      · exact blk_frozen HW.out.ul.blk 0
      rintro e u' w'' ⟨rfl, rfl, rfl⟩
      exact ⟨_, results_tmp2 rfl _ _ _, rfl, (HW.out.ul.lock 0).done⟩
  rw [if_neg e1]
  have e1b : (s1 == t) = false := by simpa using e1
  clear e1
  by_cases e3 : m < 2 * s2
  · have hm2 : mv = m := by rw [← hmv]; omega
    rw [hm2]
    clear hm2
    have e3p : (m < 2 * s2) = True := eq_true e3
    clear e3 hmv
    by_cases e2 : (s1 + 1) = t
    · rw [if_pos e2]
      have e2b : ((s1 + 1) == t) = true := by simpa using e2
      clear e2
      go_enter_defers Try.func15, Try.ntmps15
      go_wp2_with fail
      generalize w.alloc (.cells #[.int .i64 it.1, .int .i64 it.2] 35) = w1 at *
      generalize w.heap.size = c at *
      have c0 : w1.cell? ⟨g, 0, none⟩ = some (.int .i32 0) := blk_cell HS.out.blk 0
      have f0 : w1.frozen? ⟨g, 0, none⟩ = false := blk_frozen HS.out.blk 0
      go_wp2_with (go_at_call 34; refine (lock_free muLib ⟨g, 0, none⟩ _ c0 f0).mono ?_; rintro e w' ⟨rfl, rfl⟩)
      have HL := Aside0.mk (HS.out.lock 1)
      generalize w1.setCell ⟨g, 0, none⟩ (.int .i32 1) = w2 at *
      clear c0 f0 HS
      have c5 : w2.cell? ⟨g, 5, none⟩ = some (.map (some r)) := blk_cell HL.out.blk 5
      have x0 := blk_cell HL.out.bx 0
      have x1 := blk_cell HL.out.bx 1
      have l1 : (Instr.lookup 78 (.map (some r)) (.agg #[.int .i64 it.1, .int .i64 it.2]) true).run Try.prog w2.drew = .ok (.tuple #[.agg #[.int .i64 s1, .int .i64 s2], .bool true]) w2.drew := HK.out _ HL.out.drew
      have l3 : (Instr.lookup 78 (.map (some r)) (.agg #[.int .i64 it.1, .int .i64 it.2]) true).run Try.prog ((w2.alloc (.cells #[.int .i64 0, .int .i64 0] 89)).drew) = .ok (.tuple #[.agg #[.int .i64 s1, .int .i64 s2], .bool true]) ((w2.alloc (.cells #[.int .i64 0, .int .i64 0] 89)).drew) := HK.out _ (HL.out.alloc _).drew
      have ea := Aside0.mk (HL.out.alloc (.cells #[.int .i64 0, .int .i64 0] 89))
      have c5a : (w2.alloc (.cells #[.int .i64 0, .int .i64 0] 89)).cell? ⟨g, 5, none⟩ = some (.map (some r)) := blk_cell ea.out.blk 5
      have x0a := blk_cell ea.out.bx 0
      have x1a := blk_cell ea.out.bx 1
      have HU := Aside0.mk (HL.out.hand s1 s2).drew
      go_region
      all_goals
        generalize (w2.alloc (.cells #[.int .i64 s1, .int .i64 s2] 89)).drew = w3 at *
        generalize w2.heap.size = d at *
        clear c5 x0 x1 l1 l3 ea c5a x0a x1a HL HK
        have y0 := blk_cell HU.out.sx 0
        have y1 := blk_cell HU.out.sx 1
        have z0 := blk_frozen HU.out.sx 0
        have z1 := blk_frozen HU.out.sx 1
        have u2 : w3.cell? ⟨g, 2, none⟩ = some (.int .i64 t) := blk_cell HU.out.ul.blk 2
        have u3 : w3.cell? ⟨g, 3, none⟩ = some (.int .i64 b) := blk_cell HU.out.ul.blk 3
        go_wp2_with fail
        have HV := HU
        clear y0 y1 z0 z1 u2 u3 HU
        generalize w3 = w4 at *
        have y0 := blk_cell HV.out.sx 0
        have u2 : w4.cell? ⟨g, 2, none⟩ = some (.int .i64 t) := blk_cell HV.out.ul.blk 2
        go_quiet (fail)
        have HW := Aside0.mk (HV.out.drewN nq)
        generalize w4.drewN nq = w5 at *
        clear y0 u2 HV
        have y0 := blk_cell HW.out.sx 0
        have y1 := blk_cell HW.out.sx 1
        have z0 := blk_frozen HW.out.sx 0
        go_wp2_with fail
        have HX := Aside0.mk (HW.out.set0 (s1 + 1))
        generalize w5.setCell ⟨d, 0, none⟩ (.int .i64 (s1 + 1)) = w6 at *
        clear y0 y1 z0 HW
        have y1 := blk_cell HX.out.sx 1
        have z1 := blk_frozen HX.out.sx 1
        have u4 : w6.cell? ⟨g, 4, none⟩ = some (.int .i64 m) := blk_cell HX.out.ul.blk 4
        refine wp_region_still_tail 9 (by kernel_rfl) (tail14' _ (by kernel_rfl)) ?_
        refine still_of_quiet _ _ ?_
        simp only [List.take_succ_cons, List.take_zero, List.drop_succ_cons, List.drop_zero]
        repeat (go_big_quiet_step (fail))
        refine wpQuiet_nil ?_
        change wpList _ _ _ _ _ w6.drew
        go_wp2_with fail
        have HY := Aside0.mk (HX.out.set1 (m)).drew
        generalize (w6.setCell ⟨d, 1, none⟩ (.int .i64 ((m)))).drew = w7 at *
        clear y1 z1 u4 HX
        have y0 := blk_cell HY.out.sx 0
        have y1 := blk_cell HY.out.sx 1
        have x0 := blk_cell HY.out.ul.bx 0
        have x1 := blk_cell HY.out.ul.bx 1
        have u5 : w7.cell? ⟨g, 5, none⟩ = some (.map (some r)) := blk_cell HY.out.ul.blk 5
        refine wp_region_still_tail 6 (by kernel_rfl) (tail15' _ (by kernel_rfl)) ?_
        refine still_of_quiet _ _ ?_
        simp only [List.take_succ_cons, List.take_zero, List.drop_succ_cons, List.drop_zero]
        repeat (go_big_quiet_step (fail))
        refine wpQuiet_nil ?_
        change wpList _ _ _ _ _ w7.drew
        have HZ := Aside0.mk HY.out.drew
        generalize w7.drew = w8 at *
        clear y0 y1 x0 x1 u5 HY
        go_wp2_with (at_mapUpdate; refine Go.FM.wpList_fm_put _ rfl _ _ _ 78 rfl 35 89 keysI Try.underlying78 r F rfl HZ.out.ul.fm it rfl hit ((s1 + 1), (m)) rfl ?_; intro w9 hfm hob; have HA := Aside0.mk (HZ.out.map hfm hob); clear hfm hob HZ; have y0 := blk_cell HA.out.sx 0; have u2 : w9.cell? ⟨g, 2, none⟩ = some (.int .i64 t) := blk_cell HA.out.ul.blk 2)
        go_quiet (fail)
        have HB := Aside0.mk (HA.out.drewN nq)
        generalize w9.drewN nq = w10 at *
        clear y0 u2 HA
        go_wp2_with fail
        refine leaves_cons (f := 35) (args := #[.pointer (some ⟨g, 0, none⟩)]) (by simp) (by simp [go_sem]) ?_
        refine (unlock_deferred muLib ⟨g, 0, none⟩ .returning _ ?_ ?_).mono ?_
        · exact blk_cell HB.out.ul.blk 0
        · exact blk_frozen HB.out.ul.blk 0
        rintro e u' w'' ⟨rfl, rfl, rfl⟩
        exact ⟨_, results_tmp2 rfl _ _ _, rfl, (HB.out.ul.lock 0).done⟩
    · rw [if_neg e2]
      have e2b : ((s1 + 1) == t) = false := by simpa using e2
      clear e2
      go_enter_defers Try.func15, Try.ntmps15
      go_wp2_with fail
      generalize w.alloc (.cells #[.int .i64 it.1, .int .i64 it.2] 35) = w1 at *
      generalize w.heap.size = c at *
      have c0 : w1.cell? ⟨g, 0, none⟩ = some (.int .i32 0) := blk_cell HS.out.blk 0
      have f0 : w1.frozen? ⟨g, 0, none⟩ = false := blk_frozen HS.out.blk 0
      go_wp2_with (go_at_call 34; refine (lock_free muLib ⟨g, 0, none⟩ _ c0 f0).mono ?_; rintro e w' ⟨rfl, rfl⟩)
      have HL := Aside0.mk (HS.out.lock 1)
      generalize w1.setCell ⟨g, 0, none⟩ (.int .i32 1) = w2 at *
      clear c0 f0 HS
      have c5 : w2.cell? ⟨g, 5, none⟩ = some (.map (some r)) := blk_cell HL.out.blk 5
      have x0 := blk_cell HL.out.bx 0
      have x1 := blk_cell HL.out.bx 1
      have l1 : (Instr.lookup 78 (.map (some r)) (.agg #[.int .i64 it.1, .int .i64 it.2]) true).run Try.prog w2.drew = .ok (.tuple #[.agg #[.int .i64 s1, .int .i64 s2], .bool true]) w2.drew := HK.out _ HL.out.drew
      have l3 : (Instr.lookup 78 (.map (some r)) (.agg #[.int .i64 it.1, .int .i64 it.2]) true).run Try.prog ((w2.alloc (.cells #[.int .i64 0, .int .i64 0] 89)).drew) = .ok (.tuple #[.agg #[.int .i64 s1, .int .i64 s2], .bool true]) ((w2.alloc (.cells #[.int .i64 0, .int .i64 0] 89)).drew) := HK.out _ (HL.out.alloc _).drew
      have ea := Aside0.mk (HL.out.alloc (.cells #[.int .i64 0, .int .i64 0] 89))
      have c5a : (w2.alloc (.cells #[.int .i64 0, .int .i64 0] 89)).cell? ⟨g, 5, none⟩ = some (.map (some r)) := blk_cell ea.out.blk 5
      have x0a := blk_cell ea.out.bx 0
      have x1a := blk_cell ea.out.bx 1
      have HU := Aside0.mk (HL.out.hand s1 s2).drew
      go_region
      all_goals
        generalize (w2.alloc (.cells #[.int .i64 s1, .int .i64 s2] 89)).drew = w3 at *
        generalize w2.heap.size = d at *
        clear c5 x0 x1 l1 l3 ea c5a x0a x1a HL HK
        have y0 := blk_cell HU.out.sx 0
        have y1 := blk_cell HU.out.sx 1
        have z0 := blk_frozen HU.out.sx 0
        have z1 := blk_frozen HU.out.sx 1
        have u2 : w3.cell? ⟨g, 2, none⟩ = some (.int .i64 t) := blk_cell HU.out.ul.blk 2
        have u3 : w3.cell? ⟨g, 3, none⟩ = some (.int .i64 b) := blk_cell HU.out.ul.blk 3
        go_wp2_with fail
        have HV := HU
        clear y0 y1 z0 z1 u2 u3 HU
        generalize w3 = w4 at *
        have y0 := blk_cell HV.out.sx 0
        have u2 : w4.cell? ⟨g, 2, none⟩ = some (.int .i64 t) := blk_cell HV.out.ul.blk 2
        go_quiet (fail)
        have HW := Aside0.mk (HV.out.drewN nq)
        generalize w4.drewN nq = w5 at *
        clear y0 u2 HV
        have y0 := blk_cell HW.out.sx 0
        have y1 := blk_cell HW.out.sx 1
        have z0 := blk_frozen HW.out.sx 0
        go_wp2_with fail
        have HX := Aside0.mk (HW.out.set0 (s1 + 1))
        generalize w5.setCell ⟨d, 0, none⟩ (.int .i64 (s1 + 1)) = w6 at *
        clear y0 y1 z0 HW
        have y1 := blk_cell HX.out.sx 1
        have z1 := blk_frozen HX.out.sx 1
        have u4 : w6.cell? ⟨g, 4, none⟩ = some (.int .i64 m) := blk_cell HX.out.ul.blk 4
        refine wp_region_still_tail 9 (by kernel_rfl) (tail14' _ (by kernel_rfl)) ?_
        refine still_of_quiet _ _ ?_
        simp only [List.take_succ_cons, List.take_zero, List.drop_succ_cons, List.drop_zero]
        repeat (go_big_quiet_step (fail))
        refine wpQuiet_nil ?_
        change wpList _ _ _ _ _ w6.drew
        go_wp2_with fail
        have HY := Aside0.mk (HX.out.set1 (m)).drew
        generalize (w6.setCell ⟨d, 1, none⟩ (.int .i64 ((m)))).drew = w7 at *
        clear y1 z1 u4 HX
        have y0 := blk_cell HY.out.sx 0
        have y1 := blk_cell HY.out.sx 1
        have x0 := blk_cell HY.out.ul.bx 0
        have x1 := blk_cell HY.out.ul.bx 1
        have u5 : w7.cell? ⟨g, 5, none⟩ = some (.map (some r)) := blk_cell HY.out.ul.blk 5
        refine wp_region_still_tail 6 (by kernel_rfl) (tail15' _ (by kernel_rfl)) ?_
        refine still_of_quiet _ _ ?_
        simp only [List.take_succ_cons, List.take_zero, List.drop_succ_cons, List.drop_zero]
        repeat (go_big_quiet_step (fail))
        refine wpQuiet_nil ?_
        change wpList _ _ _ _ _ w7.drew
        have HZ := Aside0.mk HY.out.drew
        generalize w7.drew = w8 at *
        clear y0 y1 x0 x1 u5 HY
        go_wp2_with (at_mapUpdate; refine Go.FM.wpList_fm_put _ rfl _ _ _ 78 rfl 35 89 keysI Try.underlying78 r F rfl HZ.out.ul.fm it rfl hit ((s1 + 1), (m)) rfl ?_; intro w9 hfm hob; have HA := Aside0.mk (HZ.out.map hfm hob); clear hfm hob HZ; have y0 := blk_cell HA.out.sx 0; have u2 : w9.cell? ⟨g, 2, none⟩ = some (.int .i64 t) := blk_cell HA.out.ul.blk 2)
        go_quiet (fail)
        have HB := Aside0.mk (HA.out.drewN nq)
        generalize w9.drewN nq = w10 at *
        clear y0 u2 HA
        go_wp2_with fail
        refine leaves_cons (f := 35) (args := #[.pointer (some ⟨g, 0, none⟩)]) (by simp) (by simp [go_sem]) ?_
        refine (unlock_deferred muLib ⟨g, 0, none⟩ .returning _ ?_ ?_).mono ?_
        · exact blk_cell HB.out.ul.blk 0
        · exact blk_frozen HB.out.ul.blk 0
        rintro e u' w'' ⟨rfl, rfl, rfl⟩
        exact ⟨_, results_tmp2 rfl _ _ _, rfl, (HB.out.ul.lock 0).done⟩
  · have hm2 : mv = 2 * s2 := by rw [← hmv]; omega
    rw [hm2]
    clear hm2
    have e3p : (m < 2 * s2) = False := eq_false e3
    clear e3 hmv
    by_cases e2 : (s1 + 1) = t
    · rw [if_pos e2]
      have e2b : ((s1 + 1) == t) = true := by simpa using e2
      clear e2
      go_enter_defers Try.func15, Try.ntmps15
      go_wp2_with fail
      generalize w.alloc (.cells #[.int .i64 it.1, .int .i64 it.2] 35) = w1 at *
      generalize w.heap.size = c at *
      have c0 : w1.cell? ⟨g, 0, none⟩ = some (.int .i32 0) := blk_cell HS.out.blk 0
      have f0 : w1.frozen? ⟨g, 0, none⟩ = false := blk_frozen HS.out.blk 0
      go_wp2_with (go_at_call 34; refine (lock_free muLib ⟨g, 0, none⟩ _ c0 f0).mono ?_; rintro e w' ⟨rfl, rfl⟩)
      have HL := Aside0.mk (HS.out.lock 1)
      generalize w1.setCell ⟨g, 0, none⟩ (.int .i32 1) = w2 at *
      clear c0 f0 HS
      have c5 : w2.cell? ⟨g, 5, none⟩ = some (.map (some r)) := blk_cell HL.out.blk 5
      have x0 := blk_cell HL.out.bx 0
      have x1 := blk_cell HL.out.bx 1
      have l1 : (Instr.lookup 78 (.map (some r)) (.agg #[.int .i64 it.1, .int .i64 it.2]) true).run Try.prog w2.drew = .ok (.tuple #[.agg #[.int .i64 s1, .int .i64 s2], .bool true]) w2.drew := HK.out _ HL.out.drew
      have l3 : (Instr.lookup 78 (.map (some r)) (.agg #[.int .i64 it.1, .int .i64 it.2]) true).run Try.prog ((w2.alloc (.cells #[.int .i64 0, .int .i64 0] 89)).drew) = .ok (.tuple #[.agg #[.int .i64 s1, .int .i64 s2], .bool true]) ((w2.alloc (.cells #[.int .i64 0, .int .i64 0] 89)).drew) := HK.out _ (HL.out.alloc _).drew
      have ea := Aside0.mk (HL.out.alloc (.cells #[.int .i64 0, .int .i64 0] 89))
      have c5a : (w2.alloc (.cells #[.int .i64 0, .int .i64 0] 89)).cell? ⟨g, 5, none⟩ = some (.map (some r)) := blk_cell ea.out.blk 5
      have x0a := blk_cell ea.out.bx 0
      have x1a := blk_cell ea.out.bx 1
      have HU := Aside0.mk (HL.out.hand s1 s2).drew
      go_region
      all_goals
        generalize (w2.alloc (.cells #[.int .i64 s1, .int .i64 s2] 89)).drew = w3 at *
        generalize w2.heap.size = d at *
        clear c5 x0 x1 l1 l3 ea c5a x0a x1a HL HK
        have y0 := blk_cell HU.out.sx 0
        have y1 := blk_cell HU.out.sx 1
        have z0 := blk_frozen HU.out.sx 0
        have z1 := blk_frozen HU.out.sx 1
        have u2 : w3.cell? ⟨g, 2, none⟩ = some (.int .i64 t) := blk_cell HU.out.ul.blk 2
        have u3 : w3.cell? ⟨g, 3, none⟩ = some (.int .i64 b) := blk_cell HU.out.ul.blk 3
        go_wp2_with fail
        have HV := HU
        clear y0 y1 z0 z1 u2 u3 HU
        generalize w3 = w4 at *
        have y0 := blk_cell HV.out.sx 0
        have u2 : w4.cell? ⟨g, 2, none⟩ = some (.int .i64 t) := blk_cell HV.out.ul.blk 2
        go_quiet (fail)
        have HW := Aside0.mk (HV.out.drewN nq)
        generalize w4.drewN nq = w5 at *
        clear y0 u2 HV
        have y0 := blk_cell HW.out.sx 0
        have y1 := blk_cell HW.out.sx 1
        have z0 := blk_frozen HW.out.sx 0
        go_wp2_with fail
        have HX := Aside0.mk (HW.out.set0 (s1 + 1))
        generalize w5.setCell ⟨d, 0, none⟩ (.int .i64 (s1 + 1)) = w6 at *
        clear y0 y1 z0 HW
        have y1 := blk_cell HX.out.sx 1
        have z1 := blk_frozen HX.out.sx 1
        have u4 : w6.cell? ⟨g, 4, none⟩ = some (.int .i64 m) := blk_cell HX.out.ul.blk 4
        refine wp_region_still_tail 9 (by kernel_rfl) (tail14' _ (by kernel_rfl)) ?_
        refine still_of_quiet _ _ ?_
        simp only [List.take_succ_cons, List.take_zero, List.drop_succ_cons, List.drop_zero]
        repeat (go_big_quiet_step (fail))
        refine wpQuiet_nil ?_
        change wpList _ _ _ _ _ w6.drew
        go_wp2_with fail
        have HY := Aside0.mk (HX.out.set1 (2 * s2)).drew
        generalize (w6.setCell ⟨d, 1, none⟩ (.int .i64 ((2 * s2)))).drew = w7 at *
        clear y1 z1 u4 HX
        have y0 := blk_cell HY.out.sx 0
        have y1 := blk_cell HY.out.sx 1
        have x0 := blk_cell HY.out.ul.bx 0
        have x1 := blk_cell HY.out.ul.bx 1
        have u5 : w7.cell? ⟨g, 5, none⟩ = some (.map (some r)) := blk_cell HY.out.ul.blk 5
        refine wp_region_still_tail 6 (by kernel_rfl) (tail15' _ (by kernel_rfl)) ?_
        refine still_of_quiet _ _ ?_
        simp only [List.take_succ_cons, List.take_zero, List.drop_succ_cons, List.drop_zero]
        repeat (go_big_quiet_step (fail))
        refine wpQuiet_nil ?_
        change wpList _ _ _ _ _ w7.drew
        have HZ := Aside0.mk HY.out.drew
        generalize w7.drew = w8 at *
        clear y0 y1 x0 x1 u5 HY
        go_wp2_with (at_mapUpdate; refine Go.FM.wpList_fm_put _ rfl _ _ _ 78 rfl 35 89 keysI Try.underlying78 r F rfl HZ.out.ul.fm it rfl hit ((s1 + 1), (2 * s2)) rfl ?_; intro w9 hfm hob; have HA := Aside0.mk (HZ.out.map hfm hob); clear hfm hob HZ; have y0 := blk_cell HA.out.sx 0; have u2 : w9.cell? ⟨g, 2, none⟩ = some (.int .i64 t) := blk_cell HA.out.ul.blk 2)
        go_quiet (fail)
        have HB := Aside0.mk (HA.out.drewN nq)
        generalize w9.drewN nq = w10 at *
        clear y0 u2 HA
        go_wp2_with fail
        refine leaves_cons (f := 35) (args := #[.pointer (some ⟨g, 0, none⟩)]) (by simp) (by simp [go_sem]) ?_
        refine (unlock_deferred muLib ⟨g, 0, none⟩ .returning _ ?_ ?_).mono ?_
        · exact blk_cell HB.out.ul.blk 0
        · exact blk_frozen HB.out.ul.blk 0
        rintro e u' w'' ⟨rfl, rfl, rfl⟩
        exact ⟨_, results_tmp2 rfl _ _ _, rfl, (HB.out.ul.lock 0).done⟩
    · rw [if_neg e2]
      have e2b : ((s1 + 1) == t) = false := by simpa using e2
      clear e2
      go_enter_defers Try.func15, Try.ntmps15
      go_wp2_with fail
      generalize w.alloc (.cells #[.int .i64 it.1, .int .i64 it.2] 35) = w1 at *
      generalize w.heap.size = c at *
      have c0 : w1.cell? ⟨g, 0, none⟩ = some (.int .i32 0) := blk_cell HS.out.blk 0
      have f0 : w1.frozen? ⟨g, 0, none⟩ = false := blk_frozen HS.out.blk 0
      go_wp2_with (go_at_call 34; refine (lock_free muLib ⟨g, 0, none⟩ _ c0 f0).mono ?_; rintro e w' ⟨rfl, rfl⟩)
      have HL := Aside0.mk (HS.out.lock 1)
      generalize w1.setCell ⟨g, 0, none⟩ (.int .i32 1) = w2 at *
      clear c0 f0 HS
      have c5 : w2.cell? ⟨g, 5, none⟩ = some (.map (some r)) := blk_cell HL.out.blk 5
      have x0 := blk_cell HL.out.bx 0
      have x1 := blk_cell HL.out.bx 1
      have l1 : (Instr.lookup 78 (.map (some r)) (.agg #[.int .i64 it.1, .int .i64 it.2]) true).run Try.prog w2.drew = .ok (.tuple #[.agg #[.int .i64 s1, .int .i64 s2], .bool true]) w2.drew := HK.out _ HL.out.drew
      have l3 : (Instr.lookup 78 (.map (some r)) (.agg #[.int .i64 it.1, .int .i64 it.2]) true).run Try.prog ((w2.alloc (.cells #[.int .i64 0, .int .i64 0] 89)).drew) = .ok (.tuple #[.agg #[.int .i64 s1, .int .i64 s2], .bool true]) ((w2.alloc (.cells #[.int .i64 0, .int .i64 0] 89)).drew) := HK.out _ (HL.out.alloc _).drew
      have ea := Aside0.mk (HL.out.alloc (.cells #[.int .i64 0, .int .i64 0] 89))
      have c5a : (w2.alloc (.cells #[.int .i64 0, .int .i64 0] 89)).cell? ⟨g, 5, none⟩ = some (.map (some r)) := blk_cell ea.out.blk 5
      have x0a := blk_cell ea.out.bx 0
      have x1a := blk_cell ea.out.bx 1
      have HU := Aside0.mk (HL.out.hand s1 s2).drew
      go_region
      all_goals
        generalize (w2.alloc (.cells #[.int .i64 s1, .int .i64 s2] 89)).drew = w3 at *
        generalize w2.heap.size = d at *
        clear c5 x0 x1 l1 l3 ea c5a x0a x1a HL HK
        have y0 := blk_cell HU.out.sx 0
        have y1 := blk_cell HU.out.sx 1
        have z0 := blk_frozen HU.out.sx 0
        have z1 := blk_frozen HU.out.sx 1
        have u2 : w3.cell? ⟨g, 2, none⟩ = some (.int .i64 t) := blk_cell HU.out.ul.blk 2
        have u3 : w3.cell? ⟨g, 3, none⟩ = some (.int .i64 b) := blk_cell HU.out.ul.blk 3
        go_wp2_with fail
        have HV := HU
        clear y0 y1 z0 z1 u2 u3 HU
        generalize w3 = w4 at *
        have y0 := blk_cell HV.out.sx 0
        have u2 : w4.cell? ⟨g, 2, none⟩ = some (.int .i64 t) := blk_cell HV.out.ul.blk 2
        go_quiet (fail)
        have HW := Aside0.mk (HV.out.drewN nq)
        generalize w4.drewN nq = w5 at *
        clear y0 u2 HV
        have y0 := blk_cell HW.out.sx 0
        have y1 := blk_cell HW.out.sx 1
        have z0 := blk_frozen HW.out.sx 0
        go_wp2_with fail
        have HX := Aside0.mk (HW.out.set0 (s1 + 1))
        generalize w5.setCell ⟨d, 0, none⟩ (.int .i64 (s1 + 1)) = w6 at *
        clear y0 y1 z0 HW
        have y1 := blk_cell HX.out.sx 1
        have z1 := blk_frozen HX.out.sx 1
        have u4 : w6.cell? ⟨g, 4, none⟩ = some (.int .i64 m) := blk_cell HX.out.ul.blk 4
        refine wp_region_still_tail 9 (by kernel_rfl) (tail14' _ (by kernel_rfl)) ?_
        refine still_of_quiet _ _ ?_
        simp only [List.take_succ_cons, List.take_zero, List.drop_succ_cons, List.drop_zero]
        repeat (go_big_quiet_step (fail))
        refine wpQuiet_nil ?_
        change wpList _ _ _ _ _ w6.drew
        go_wp2_with fail
        have HY := Aside0.mk (HX.out.set1 (2 * s2)).drew
        generalize (w6.setCell ⟨d, 1, none⟩ (.int .i64 ((2 * s2)))).drew = w7 at *
        clear y1 z1 u4 HX
        have y0 := blk_cell HY.out.sx 0
        have y1 := blk_cell HY.out.sx 1
        have x0 := blk_cell HY.out.ul.bx 0
        have x1 := blk_cell HY.out.ul.bx 1
        have u5 : w7.cell? ⟨g, 5, none⟩ = some (.map (some r)) := blk_cell HY.out.ul.blk 5
        refine wp_region_still_tail 6 (by kernel_rfl) (tail15' _ (by kernel_rfl)) ?_
        refine still_of_quiet _ _ ?_
        simp only [List.take_succ_cons, List.take_zero, List.drop_succ_cons, List.drop_zero]
        repeat (go_big_quiet_step (fail))
        refine wpQuiet_nil ?_
        change wpList _ _ _ _ _ w7.drew
        have HZ := Aside0.mk HY.out.drew
        generalize w7.drew = w8 at *
        clear y0 y1 x0 x1 u5 HY
        go_wp2_with (at_mapUpdate; refine Go.FM.wpList_fm_put _ rfl _ _ _ 78 rfl 35 89 keysI Try.underlying78 r F rfl HZ.out.ul.fm it rfl hit ((s1 + 1), (2 * s2)) rfl ?_; intro w9 hfm hob; have HA := Aside0.mk (HZ.out.map hfm hob); clear hfm hob HZ; have y0 := blk_cell HA.out.sx 0; have u2 : w9.cell? ⟨g, 2, none⟩ = some (.int .i64 t) := blk_cell HA.out.ul.blk 2)
        go_quiet (fail)
        have HB := Aside0.mk (HA.out.drewN nq)
        generalize w9.drewN nq = w10 at *
        clear y0 u2 HA
        go_wp2_with fail
        refine leaves_cons (f := 35) (args := #[.pointer (some ⟨g, 0, none⟩)]) (by simp) (by simp [go_sem]) ?_
        refine (unlock_deferred muLib ⟨g, 0, none⟩ .returning _ ?_ ?_).mono ?_
        · exact blk_cell HB.out.ul.blk 0
        · exact blk_frozen HB.out.ul.blk 0
        rintro e u' w'' ⟨rfl, rfl, rfl⟩
        exact ⟨_, results_tmp2 rfl _ _ _, rfl, (HB.out.ul.lock 0).done⟩

set_option maxHeartbeats 8000000 in
set_option maxRecDepth 100000 in
theorem fail_fresh (g r : Nat) (t b m : Int) (hb : okBud t b m) (F : Fm) (it : Int × Int) (hit : okI it) (now : Int) (w : World) (hI : IsU w g r t b m F) (hF : F it = none) (hn : 0 ≤ now ∧ now ≤ 9007199254740992) :
    Calls Try.prog 15 #[.pointer (some ⟨g, 0, none⟩), .agg #[.int .i64 it.1, .int .i64 it.2], .int .i64 now] w fun e w' => e = .returned (.tuple #[.int .i64 (failF t b m F it now).2.1, .int .i64 (failF t b m F it now).2.2]) ∧ IsU w' g r t b m (failF t b m F it now).1 ∧ But2 w w' g r := by
  have hs := UL.start g r t b m F it w hI
  have n1 : decide (now < 0) = false := by simp; omega
  have n2 : decide (9007199254740992 < now) = false := by simp; omega
  have hk0 := fun (W : World) (h : UL w W g r w.heap.size t b m F it 1) => h.look hit true
  simp only [hF] at hk0
  have HK := Aside0.mk hk0
  have HS := Aside0.mk hs
  obtain ⟨q1, q2, q3, q4, q5, q6⟩ := hb
  obtain ⟨mv, hmv⟩ : ∃ v, min (2 * b) m = v := ⟨_, rfl⟩
  have hv : failF t b m F it now = if 0 = t then (F, 0, 100) else if 1 = t then ((fun x => if x = it then some (1, mv) else F x), 0, 100) else ((fun x => if x = it then some (1, mv) else F x), now + b, 0) := by
    rw [← hmv]
    unfold failF
    rw [if_neg (by omega), hF]
    rfl
  rw [hv]
  have a1 : IntKind.i64.wrap (now + b) = now + b := (i64_w _).trans (Go.IntWalk.wrap64_in _ (by omega))
  have a2 : IntKind.i64.wrap (0 + 1) = 1 := (i64_w _).trans (Go.IntWalk.wrap64_in _ (by omega))
  have a3 : IntKind.i64.wrap (2 * b) = 2 * b := (i64_w _).trans (Go.IntWalk.wrap64_in _ (by omega))
  clear hs hI hk0 hv hF
  by_cases e1 : 0 = t
  · rw [if_pos e1]
    have e1b : (0 == t) = true := by simpa using e1
    clear e1
    go_enter_defers Try.func15, Try.ntmps15
    go_wp2_with fail
    generalize w.alloc (.cells #[.int .i64 it.1, .int .i64 it.2] 35) = w1 at *
    generalize w.heap.size = c at *
    have c0 : w1.cell? ⟨g, 0, none⟩ = some (.int .i32 0) := blk_cell HS.out.blk 0
    have f0 : w1.frozen? ⟨g, 0, none⟩ = false := blk_frozen HS.out.blk 0
    go_wp2_with (go_at_call 34; refine (lock_free muLib ⟨g, 0, none⟩ _ c0 f0).mono ?_; rintro e w' ⟨rfl, rfl⟩)
    have HL := Aside0.mk (HS.out.lock 1)
    generalize w1.setCell ⟨g, 0, none⟩ (.int .i32 1) = w2 at *
    clear c0 f0 HS
    have c5 : w2.cell? ⟨g, 5, none⟩ = some (.map (some r)) := blk_cell HL.out.blk 5
    have x0 := blk_cell HL.out.bx 0
    have x1 := blk_cell HL.out.bx 1
    have l1 : (Instr.lookup 78 (.map (some r)) (.agg #[.int .i64 it.1, .int .i64 it.2]) true).run Try.prog w2.drew = .ok (.tuple #[.agg #[.int .i64 0, .int .i64 0], .bool false]) w2.drew := HK.out _ HL.out.drew
    have l3 : (Instr.lookup 78 (.map (some r)) (.agg #[.int .i64 it.1, .int .i64 it.2]) true).run Try.prog ((w2.alloc (.cells #[.int .i64 0, .int .i64 0] 89)).drew) = .ok (.tuple #[.agg #[.int .i64 0, .int .i64 0], .bool false]) ((w2.alloc (.cells #[.int .i64 0, .int .i64 0] 89)).drew) := HK.out _ (HL.out.alloc _).drew
    have ea := Aside0.mk (HL.out.alloc (.cells #[.int .i64 0, .int .i64 0] 89))
    have c5a : (w2.alloc (.cells #[.int .i64 0, .int .i64 0] 89)).cell? ⟨g, 5, none⟩ = some (.map (some r)) := blk_cell ea.out.blk 5
    have x0a := blk_cell ea.out.bx 0
    have x1a := blk_cell ea.out.bx 1
    have HU := Aside0.mk (HL.out.hand 0 0).drew
    go_region
    all_goals
      generalize (w2.alloc (.cells #[.int .i64 0, .int .i64 0] 89)).drew = w3 at *
      generalize w2.heap.size = d at *
      clear c5 x0 x1 l1 l3 ea c5a x0a x1a HL HK
      have y0 := blk_cell HU.out.sx 0
      have y1 := blk_cell HU.out.sx 1
      have z0 := blk_frozen HU.out.sx 0
      have z1 := blk_frozen HU.out.sx 1
      have u2 : w3.cell? ⟨g, 2, none⟩ = some (.int .i64 t) := blk_cell HU.out.ul.blk 2
      have u3 : w3.cell? ⟨g, 3, none⟩ = some (.int .i64 b) := blk_cell HU.out.ul.blk 3
      go_wp2_with fail
      have HV := Aside0.mk (HU.out.set1 b)
      generalize w3.setCell ⟨d, 1, none⟩ (.int .i64 b) = w4 at *
      clear y0 y1 z0 z1 u2 u3 HU
      have y0 := blk_cell HV.out.sx 0
      have u2 : w4.cell? ⟨g, 2, none⟩ = some (.int .i64 t) := blk_cell HV.out.ul.blk 2
      go_quiet (fail)
      have HW := Aside0.mk (HV.out.drewN nq)
      generalize w4.drewN nq = w5 at *
      clear y0 u2 HV
      have y0 := blk_cell HW.out.sx 0
      have y1 := blk_cell HW.out.sx 1
      have z0 := blk_frozen HW.out.sx 0
      go_wp2_with fail
      refine leaves_cons (f := 35) (args := #[.pointer (some ⟨g, 0, none⟩)]) (by simp) (by simp [go_sem]) ?_
      refine (unlock_deferred muLib ⟨g, 0, none⟩ .returning _ ?_ ?_).mono ?_
      · exact blk_cell HW.out.ul.blk 0
      · exact blk_frozen HW.out.ul.blk 0
      rintro e u' w'' ⟨rfl, rfl, rfl⟩
      exact ⟨_, results_tmp2 rfl _ _ _, rfl, (HW.out.ul.lock 0).done⟩
  rw [if_neg e1]
  have e1b : (0 == t) = false := by simpa using e1
  clear e1
  by_cases e3 : m < 2 * b
  · have hm2 : mv = m := by rw [← hmv]; omega
    rw [hm2]
    clear hm2
    have e3p : (m < 2 * b) = True := eq_true e3
    clear e3 hmv
    by_cases e2 : 1 = t
    · rw [if_pos e2]
      have e2b : (1 == t) = true := by simpa using e2
      clear e2
      go_enter_defers Try.func15, Try.ntmps15
      go_wp2_with fail
      generalize w.alloc (.cells #[.int .i64 it.1, .int .i64 it.2] 35) = w1 at *
      generalize w.heap.size = c at *
      have c0 : w1.cell? ⟨g, 0, none⟩ = some (.int .i32 0) := blk_cell HS.out.blk 0
      have f0 : w1.frozen? ⟨g, 0, none⟩ = false := blk_frozen HS.out.blk 0
      go_wp2_with (go_at_call 34; refine (lock_free muLib ⟨g, 0, none⟩ _ c0 f0).mono ?_; rintro e w' ⟨rfl, rfl⟩)
      have HL := Aside0.mk (HS.out.lock 1)
      generalize w1.setCell ⟨g, 0, none⟩ (.int .i32 1) = w2 at *
      clear c0 f0 HS
      have c5 : w2.cell? ⟨g, 5, none⟩ = some (.map (some r)) := blk_cell HL.out.blk 5
      have x0 := blk_cell HL.out.bx 0
      have x1 := blk_cell HL.out.bx 1
      have l1 : (Instr.lookup 78 (.map (some r)) (.agg #[.int .i64 it.1, .int .i64 it.2]) true).run Try.prog w2.drew = .ok (.tuple #[.agg #[.int .i64 0, .int .i64 0], .bool false]) w2.drew := HK.out _ HL.out.drew
      have l3 : (Instr.lookup 78 (.map (some r)) (.agg #[.int .i64 it.1, .int .i64 it.2]) true).run Try.prog ((w2.alloc (.cells #[.int .i64 0, .int .i64 0] 89)).drew) = .ok (.tuple #[.agg #[.int .i64 0, .int .i64 0], .bool false]) ((w2.alloc (.cells #[.int .i64 0, .int .i64 0] 89)).drew) := HK.out _ (HL.out.alloc _).drew
      have ea := Aside0.mk (HL.out.alloc (.cells #[.int .i64 0, .int .i64 0] 89))
      have c5a : (w2.alloc (.cells #[.int .i64 0, .int .i64 0] 89)).cell? ⟨g, 5, none⟩ = some (.map (some r)) := blk_cell ea.out.blk 5
      have x0a := blk_cell ea.out.bx 0
      have x1a := blk_cell ea.out.bx 1
      have HU := Aside0.mk (HL.out.hand 0 0).drew
      go_region
      all_goals
        generalize (w2.alloc (.cells #[.int .i64 0, .int .i64 0] 89)).drew = w3 at *
        generalize w2.heap.size = d at *
        clear c5 x0 x1 l1 l3 ea c5a x0a x1a HL HK
        have y0 := blk_cell HU.out.sx 0
        have y1 := blk_cell HU.out.sx 1
        have z0 := blk_frozen HU.out.sx 0
        have z1 := blk_frozen HU.out.sx 1
        have u2 : w3.cell? ⟨g, 2, none⟩ = some (.int .i64 t) := blk_cell HU.out.ul.blk 2
        have u3 : w3.cell? ⟨g, 3, none⟩ = some (.int .i64 b) := blk_cell HU.out.ul.blk 3
        go_wp2_with fail
        have HV := Aside0.mk (HU.out.set1 b)
        generalize w3.setCell ⟨d, 1, none⟩ (.int .i64 b) = w4 at *
        clear y0 y1 z0 z1 u2 u3 HU
        have y0 := blk_cell HV.out.sx 0
        have u2 : w4.cell? ⟨g, 2, none⟩ = some (.int .i64 t) := blk_cell HV.out.ul.blk 2
        go_quiet (fail)
        have HW := Aside0.mk (HV.out.drewN nq)
        generalize w4.drewN nq = w5 at *
        clear y0 u2 HV
        have y0 := blk_cell HW.out.sx 0
        have y1 := blk_cell HW.out.sx 1
        have z0 := blk_frozen HW.out.sx 0
        go_wp2_with fail
        have HX := Aside0.mk (HW.out.set0 1)
        generalize w5.setCell ⟨d, 0, none⟩ (.int .i64 1) = w6 at *
        clear y0 y1 z0 HW
        have y1 := blk_cell HX.out.sx 1
        have z1 := blk_frozen HX.out.sx 1
        have u4 : w6.cell? ⟨g, 4, none⟩ = some (.int .i64 m) := blk_cell HX.out.ul.blk 4
        refine wp_region_still_tail 9 (by kernel_rfl) (tail14' _ (by kernel_rfl)) ?_
        refine still_of_quiet _ _ ?_
        simp only [List.take_succ_cons, List.take_zero, List.drop_succ_cons, List.drop_zero]
        repeat (go_big_quiet_step (fail))
        refine wpQuiet_nil ?_
        change wpList _ _ _ _ _ w6.drew
        go_wp2_with fail
        have HY := Aside0.mk (HX.out.set1 (m)).drew
        generalize (w6.setCell ⟨d, 1, none⟩ (.int .i64 ((m)))).drew = w7 at *
        clear y1 z1 u4 HX
        have y0 := blk_cell HY.out.sx 0
        have y1 := blk_cell HY.out.sx 1
        have x0 := blk_cell HY.out.ul.bx 0
        have x1 := blk_cell HY.out.ul.bx 1
        have u5 : w7.cell? ⟨g, 5, none⟩ = some (.map (some r)) := blk_cell HY.out.ul.blk 5
        refine wp_region_still_tail 6 (by kernel_rfl) (tail15' _ (by kernel_rfl)) ?_
        refine still_of_quiet _ _ ?_
        simp only [List.take_succ_cons, List.take_zero, List.drop_succ_cons, List.drop_zero]
        repeat (go_big_quiet_step (fail))
        refine wpQuiet_nil ?_
        change wpList _ _ _ _ _ w7.drew
        have HZ := Aside0.mk HY.out.drew
        generalize w7.drew = w8 at *
        clear y0 y1 x0 x1 u5 HY
        go_wp2_with (at_mapUpdate; refine Go.FM.wpList_fm_put _ rfl _ _ _ 78 rfl 35 89 keysI Try.underlying78 r F rfl HZ.out.ul.fm it rfl hit (1, (m)) rfl ?_; intro w9 hfm hob; have HA := Aside0.mk (HZ.out.map hfm hob); clear hfm hob HZ; have y0 := blk_cell HA.out.sx 0; have u2 : w9.cell? ⟨g, 2, none⟩ = some (.int .i64 t) := blk_cell HA.out.ul.blk 2)
        go_quiet (fail)
        have HB := Aside0.mk (HA.out.drewN nq)
        generalize w9.drewN nq = w10 at *
        clear y0 u2 HA
        go_wp2_with fail
        refine leaves_cons (f := 35) (args := #[.pointer (some ⟨g, 0, none⟩)]) (by simp) (by simp [go_sem]) ?_
        refine (unlock_deferred muLib ⟨g, 0, none⟩ .returning _ ?_ ?_).mono ?_
        · exact blk_cell HB.out.ul.blk 0
        · exact blk_frozen HB.out.ul.blk 0
        rintro e u' w'' ⟨rfl, rfl, rfl⟩
        exact ⟨_, results_tmp2 rfl _ _ _, rfl, (HB.out.ul.lock 0).done⟩
    · rw [if_neg e2]
      have e2b : (1 == t) = false := by simpa using e2
      clear e2
      go_enter_defers Try.func15, Try.ntmps15
      go_wp2_with fail
      generalize w.alloc (.cells #[.int .i64 it.1, .int .i64 it.2] 35) = w1 at *
      generalize w.heap.size = c at *
      have c0 : w1.cell? ⟨g, 0, none⟩ = some (.int .i32 0) := blk_cell HS.out.blk 0
      have f0 : w1.frozen? ⟨g, 0, none⟩ = false := blk_frozen HS.out.blk 0
      go_wp2_with (go_at_call 34; refine (lock_free muLib ⟨g, 0, none⟩ _ c0 f0).mono ?_; rintro e w' ⟨rfl, rfl⟩)
      have HL := Aside0.mk (HS.out.lock 1)
      generalize w1.setCell ⟨g, 0, none⟩ (.int .i32 1) = w2 at *
      clear c0 f0 HS
      have c5 : w2.cell? ⟨g, 5, none⟩ = some (.map (some r)) := blk_cell HL.out.blk 5
      have x0 := blk_cell HL.out.bx 0
      have x1 := blk_cell HL.out.bx 1
      have l1 : (Instr.lookup 78 (.map (some r)) (.agg #[.int .i64 it.1, .int .i64 it.2]) true).run Try.prog w2.drew = .ok (.tuple #[.agg #[.int .i64 0, .int .i64 0], .bool false]) w2.drew := HK.out _ HL.out.drew
      have l3 : (Instr.lookup 78 (.map (some r)) (.agg #[.int .i64 it.1, .int .i64 it.2]) true).run Try.prog ((w2.alloc (.cells #[.int .i64 0, .int .i64 0] 89)).drew) = .ok (.tuple #[.agg #[.int .i64 0, .int .i64 0], .bool false]) ((w2.alloc (.cells #[.int .i64 0, .int .i64 0] 89)).drew) := HK.out _ (HL.out.alloc _).drew
      have ea := Aside0.mk (HL.out.alloc (.cells #[.int .i64 0, .int .i64 0] 89))
      have c5a : (w2.alloc (.cells #[.int .i64 0, .int .i64 0] 89)).cell? ⟨g, 5, none⟩ = some (.map (some r)) := blk_cell ea.out.blk 5
      have x0a := blk_cell ea.out.bx 0
      have x1a := blk_cell ea.out.bx 1
      have HU := Aside0.mk (HL.out.hand 0 0).drew
      go_region
      all_goals
        generalize (w2.alloc (.cells #[.int .i64 0, .int .i64 0] 89)).drew = w3 at *
        generalize w2.heap.size = d at *
        clear c5 x0 x1 l1 l3 ea c5a x0a x1a HL HK
        have y0 := blk_cell HU.out.sx 0
        have y1 := blk_cell HU.out.sx 1
        have z0 := blk_frozen HU.out.sx 0
        have z1 := blk_frozen HU.out.sx 1
        have u2 : w3.cell? ⟨g, 2, none⟩ = some (.int .i64 t) := blk_cell HU.out.ul.blk 2
        have u3 : w3.cell? ⟨g, 3, none⟩ = some (.int .i64 b) := blk_cell HU.out.ul.blk 3
        go_wp2_with fail
        have HV := Aside0.mk (HU.out.set1 b)
        generalize w3.setCell ⟨d, 1, none⟩ (.int .i64 b) = w4 at *
        clear y0 y1 z0 z1 u2 u3 HU
        have y0 := blk_cell HV.out.sx 0
        have u2 : w4.cell? ⟨g, 2, none⟩ = some (.int .i64 t) := blk_cell HV.out.ul.blk 2
        go_quiet (fail)
        have HW := Aside0.mk (HV.out.drewN nq)
        generalize w4.drewN nq = w5 at *
        clear y0 u2 HV
        have y0 := blk_cell HW.out.sx 0
        have y1 := blk_cell HW.out.sx 1
        have z0 := blk_frozen HW.out.sx 0
        go_wp2_with fail
        have HX := Aside0.mk (HW.out.set0 1)
        generalize w5.setCell ⟨d, 0, none⟩ (.int .i64 1) = w6 at *
        clear y0 y1 z0 HW
        have y1 := blk_cell HX.out.sx 1
        have z1 := blk_frozen HX.out.sx 1
        have u4 : w6.cell? ⟨g, 4, none⟩ = some (.int .i64 m) := blk_cell HX.out.ul.blk 4
        refine wp_region_still_tail 9 (by kernel_rfl) (tail14' _ (by kernel_rfl)) ?_
        refine still_of_quiet _ _ ?_
        simp only [List.take_succ_cons, List.take_zero, List.drop_succ_cons, List.drop_zero]
        repeat (go_big_quiet_step (fail))
        refine wpQuiet_nil ?_
        change wpList _ _ _ _ _ w6.drew
        go_wp2_with fail
        have HY := Aside0.mk (HX.out.set1 (m)).drew
        generalize (w6.setCell ⟨d, 1, none⟩ (.int .i64 ((m)))).drew = w7 at *
        clear y1 z1 u4 HX
        have y0 := blk_cell HY.out.sx 0
        have y1 := blk_cell HY.out.sx 1
        have x0 := blk_cell HY.out.ul.bx 0
        have x1 := blk_cell HY.out.ul.bx 1
        have u5 : w7.cell? ⟨g, 5, none⟩ = some (.map (some r)) := blk_cell HY.out.ul.blk 5
        refine wp_region_still_tail 6 (by kernel_rfl) (tail15' _ (by kernel_rfl)) ?_
        refine still_of_quiet _ _ ?_
        simp only [List.take_succ_cons, List.take_zero, List.drop_succ_cons, List.drop_zero]
        repeat (go_big_quiet_step (fail))
        refine wpQuiet_nil ?_
        change wpList _ _ _ _ _ w7.drew
        have HZ := Aside0.mk HY.out.drew
        generalize w7.drew = w8 at *
        clear y0 y1 x0 x1 u5 HY
        go_wp2_with (at_mapUpdate; refine Go.FM.wpList_fm_put _ rfl _ _ _ 78 rfl 35 89 keysI Try.underlying78 r F rfl HZ.out.ul.fm it rfl hit (1, (m)) rfl ?_; intro w9 hfm hob; have HA := Aside0.mk (HZ.out.map hfm hob); clear hfm hob HZ; have y0 := blk_cell HA.out.sx 0; have u2 : w9.cell? ⟨g, 2, none⟩ = some (.int .i64 t) := blk_cell HA.out.ul.blk 2)
        go_quiet (fail)
        have HB := Aside0.mk (HA.out.drewN nq)
        generalize w9.drewN nq = w10 at *
        clear y0 u2 HA
        go_wp2_with fail
        refine leaves_cons (f := 35) (args := #[.pointer (some ⟨g, 0, none⟩)]) (by simp) (by simp [go_sem]) ?_
        refine (unlock_deferred muLib ⟨g, 0, none⟩ .returning _ ?_ ?_).mono ?_
        · exact blk_cell HB.out.ul.blk 0
        · exact blk_frozen HB.out.ul.blk 0
        rintro e u' w'' ⟨rfl, rfl, rfl⟩
        exact ⟨_, results_tmp2 rfl _ _ _, rfl, (HB.out.ul.lock 0).done⟩
  · have hm2 : mv = 2 * b := by rw [← hmv]; omega
    rw [hm2]
    clear hm2
    have e3p : (m < 2 * b) = False := eq_false e3
    clear e3 hmv
    by_cases e2 : 1 = t
    · rw [if_pos e2]
      have e2b : (1 == t) = true := by simpa using e2
      clear e2
      go_enter_defers Try.func15, Try.ntmps15
      go_wp2_with fail
      generalize w.alloc (.cells #[.int .i64 it.1, .int .i64 it.2] 35) = w1 at *
      generalize w.heap.size = c at *
      have c0 : w1.cell? ⟨g, 0, none⟩ = some (.int .i32 0) := blk_cell HS.out.blk 0
      have f0 : w1.frozen? ⟨g, 0, none⟩ = false := blk_frozen HS.out.blk 0
      go_wp2_with (go_at_call 34; refine (lock_free muLib ⟨g, 0, none⟩ _ c0 f0).mono ?_; rintro e w' ⟨rfl, rfl⟩)
      have HL := Aside0.mk (HS.out.lock 1)
      generalize w1.setCell ⟨g, 0, none⟩ (.int .i32 1) = w2 at *
      clear c0 f0 HS
      have c5 : w2.cell? ⟨g, 5, none⟩ = some (.map (some r)) := blk_cell HL.out.blk 5
      have x0 := blk_cell HL.out.bx 0
      have x1 := blk_cell HL.out.bx 1
      have l1 : (Instr.lookup 78 (.map (some r)) (.agg #[.int .i64 it.1, .int .i64 it.2]) true).run Try.prog w2.drew = .ok (.tuple #[.agg #[.int .i64 0, .int .i64 0], .bool false]) w2.drew := HK.out _ HL.out.drew
      have l3 : (Instr.lookup 78 (.map (some r)) (.agg #[.int .i64 it.1, .int .i64 it.2]) true).run Try.prog ((w2.alloc (.cells #[.int .i64 0, .int .i64 0] 89)).drew) = .ok (.tuple #[.agg #[.int .i64 0, .int .i64 0], .bool false]) ((w2.alloc (.cells #[.int .i64 0, .int .i64 0] 89)).drew) := HK.out _ (HL.out.alloc _).drew
      have ea := Aside0.mk (HL.out.alloc (.cells #[.int .i64 0, .int .i64 0] 89))
      have c5a : (w2.alloc (.cells #[.int .i64 0, .int .i64 0] 89)).cell? ⟨g, 5, none⟩ = some (.map (some r)) := blk_cell ea.out.blk 5
      have x0a := blk_cell ea.out.bx 0
      have x1a := blk_cell ea.out.bx 1
      have HU := Aside0.mk (HL.out.hand 0 0).drew
      go_region
      all_goals
        generalize (w2.alloc (.cells #[.int .i64 0, .int .i64 0] 89)).drew = w3 at *
        generalize w2.heap.size = d at *
        clear c5 x0 x1 l1 l3 ea c5a x0a x1a HL HK
        have y0 := blk_cell HU.out.sx 0
        have y1 := blk_cell HU.out.sx 1
        have z0 := blk_frozen HU.out.sx 0
        have z1 := blk_frozen HU.out.sx 1
        have u2 : w3.cell? ⟨g, 2, none⟩ = some (.int .i64 t) := blk_cell HU.out.ul.blk 2
        have u3 : w3.cell? ⟨g, 3, none⟩ = some (.int .i64 b) := blk_cell HU.out.ul.blk 3
        go_wp2_with fail
        have HV := Aside0.mk (HU.out.set1 b)
        generalize w3.setCell ⟨d, 1, none⟩ (.int .i64 b) = w4 at *
        clear y0 y1 z0 z1 u2 u3 HU
        have y0 := blk_cell HV.out.sx 0
        have u2 : w4.cell? ⟨g, 2, none⟩ = some (.int .i64 t) := blk_cell HV.out.ul.blk 2
        go_quiet (fail)
        have HW := Aside0.mk (HV.out.drewN nq)
        generalize w4.drewN nq = w5 at *
        clear y0 u2 HV
        have y0 := blk_cell HW.out.sx 0
        have y1 := blk_cell HW.out.sx 1
        have z0 := blk_frozen HW.out.sx 0
        go_wp2_with fail
        have HX := Aside0.mk (HW.out.set0 1)
        generalize w5.setCell ⟨d, 0, none⟩ (.int .i64 1) = w6 at *
        clear y0 y1 z0 HW
        have y1 := blk_cell HX.out.sx 1
        have z1 := blk_frozen HX.out.sx 1
        have u4 : w6.cell? ⟨g, 4, none⟩ = some (.int .i64 m) := blk_cell HX.out.ul.blk 4
        refine wp_region_still_tail 9 (by kernel_rfl) (tail14' _ (by kernel_rfl)) ?_
        refine still_of_quiet _ _ ?_
        simp only [List.take_succ_cons, List.take_zero, List.drop_succ_cons, List.drop_zero]
        repeat (go_big_quiet_step (fail))
        refine wpQuiet_nil ?_
        change wpList _ _ _ _ _ w6.drew
        go_wp2_with fail
        have HY := Aside0.mk (HX.out.set1 (2 * b)).drew
        generalize (w6.setCell ⟨d, 1, none⟩ (.int .i64 ((2 * b)))).drew = w7 at *
        clear y1 z1 u4 HX
        have y0 := blk_cell HY.out.sx 0
        have y1 := blk_cell HY.out.sx 1
        have x0 := blk_cell HY.out.ul.bx 0
        have x1 := blk_cell HY.out.ul.bx 1
        have u5 : w7.cell? ⟨g, 5, none⟩ = some (.map (some r)) := blk_cell HY.out.ul.blk 5
        refine wp_region_still_tail 6 (by kernel_rfl) (tail15' _ (by kernel_rfl)) ?_
        refine still_of_quiet _ _ ?_
        simp only [List.take_succ_cons, List.take_zero, List.drop_succ_cons, List.drop_zero]
        repeat (go_big_quiet_step (fail))
        refine wpQuiet_nil ?_
        change wpList _ _ _ _ _ w7.drew
        have HZ := Aside0.mk HY.out.drew
        generalize w7.drew = w8 at *
        clear y0 y1 x0 x1 u5 HY
        go_wp2_with (at_mapUpdate; refine Go.FM.wpList_fm_put _ rfl _ _ _ 78 rfl 35 89 keysI Try.underlying78 r F rfl HZ.out.ul.fm it rfl hit (1, (2 * b)) rfl ?_; intro w9 hfm hob; have HA := Aside0.mk (HZ.out.map hfm hob); clear hfm hob HZ; have y0 := blk_cell HA.out.sx 0; have u2 : w9.cell? ⟨g, 2, none⟩ = some (.int .i64 t) := blk_cell HA.out.ul.blk 2)
        go_quiet (fail)
        have HB := Aside0.mk (HA.out.drewN nq)
        generalize w9.drewN nq = w10 at *
        clear y0 u2 HA
        go_wp2_with fail
        refine leaves_cons (f := 35) (args := #[.pointer (some ⟨g, 0, none⟩)]) (by simp) (by simp [go_sem]) ?_
        refine (unlock_deferred muLib ⟨g, 0, none⟩ .returning _ ?_ ?_).mono ?_
        · exact blk_cell HB.out.ul.blk 0
        · exact blk_frozen HB.out.ul.blk 0
        rintro e u' w'' ⟨rfl, rfl, rfl⟩
        exact ⟨_, results_tmp2 rfl _ _ _, rfl, (HB.out.ul.lock 0).done⟩
    · rw [if_neg e2]
      have e2b : (1 == t) = false := by simpa using e2
      clear e2
      go_enter_defers Try.func15, Try.ntmps15
      go_wp2_with fail
      generalize w.alloc (.cells #[.int .i64 it.1, .int .i64 it.2] 35) = w1 at *
      generalize w.heap.size = c at *
      have c0 : w1.cell? ⟨g, 0, none⟩ = some (.int .i32 0) := blk_cell HS.out.blk 0
      have f0 : w1.frozen? ⟨g, 0, none⟩ = false := blk_frozen HS.out.blk 0
      go_wp2_with (go_at_call 34; refine (lock_free muLib ⟨g, 0, none⟩ _ c0 f0).mono ?_; rintro e w' ⟨rfl, rfl⟩)
      have HL := Aside0.mk (HS.out.lock 1)
      generalize w1.setCell ⟨g, 0, none⟩ (.int .i32 1) = w2 at *
      clear c0 f0 HS
      have c5 : w2.cell? ⟨g, 5, none⟩ = some (.map (some r)) := blk_cell HL.out.blk 5
      have x0 := blk_cell HL.out.bx 0
      have x1 := blk_cell HL.out.bx 1
      have l1 : (Instr.lookup 78 (.map (some r)) (.agg #[.int .i64 it.1, .int .i64 it.2]) true).run Try.prog w2.drew = .ok (.tuple #[.agg #[.int .i64 0, .int .i64 0], .bool false]) w2.drew := HK.out _ HL.out.drew
      have l3 : (Instr.lookup 78 (.map (some r)) (.agg #[.int .i64 it.1, .int .i64 it.2]) true).run Try.prog ((w2.alloc (.cells #[.int .i64 0, .int .i64 0] 89)).drew) = .ok (.tuple #[.agg #[.int .i64 0, .int .i64 0], .bool false]) ((w2.alloc (.cells #[.int .i64 0, .int .i64 0] 89)).drew) := HK.out _ (HL.out.alloc _).drew
      have ea := Aside0.mk (HL.out.alloc (.cells #[.int .i64 0, .int .i64 0] 89))
      have c5a : (w2.alloc (.cells #[.int .i64 0, .int .i64 0] 89)).cell? ⟨g, 5, none⟩ = some (.map (some r)) := blk_cell ea.out.blk 5
      have x0a := blk_cell ea.out.bx 0
      have x1a := blk_cell ea.out.bx 1
      have HU := Aside0.mk (HL.out.hand 0 0).drew
      go_region
      all_goals
        generalize (w2.alloc (.cells #[.int .i64 0, .int .i64 0] 89)).drew = w3 at *
        generalize w2.heap.size = d at *
        clear c5 x0 x1 l1 l3 ea c5a x0a x1a HL HK
        have y0 := blk_cell HU.out.sx 0
        have y1 := blk_cell HU.out.sx 1
        have z0 := blk_frozen HU.out.sx 0
        have z1 := blk_frozen HU.out.sx 1
        have u2 : w3.cell? ⟨g, 2, none⟩ = some (.int .i64 t) := blk_cell HU.out.ul.blk 2
        have u3 : w3.cell? ⟨g, 3, none⟩ = some (.int .i64 b) := blk_cell HU.out.ul.blk 3
        go_wp2_with fail
        have HV := Aside0.mk (HU.out.set1 b)
        generalize w3.setCell ⟨d, 1, none⟩ (.int .i64 b) = w4 at *
        clear y0 y1 z0 z1 u2 u3 HU
        have y0 := blk_cell HV.out.sx 0
        have u2 : w4.cell? ⟨g, 2, none⟩ = some (.int .i64 t) := blk_cell HV.out.ul.blk 2
        go_quiet (fail)
        have HW := Aside0.mk (HV.out.drewN nq)
        generalize w4.drewN nq = w5 at *
        clear y0 u2 HV
        have y0 := blk_cell HW.out.sx 0
        have y1 := blk_cell HW.out.sx 1
        have z0 := blk_frozen HW.out.sx 0
        go_wp2_with fail
        have HX := Aside0.mk (HW.out.set0 1)
        generalize w5.setCell ⟨d, 0, none⟩ (.int .i64 1) = w6 at *
        clear y0 y1 z0 HW
        have y1 := blk_cell HX.out.sx 1
        have z1 := blk_frozen HX.out.sx 1
        have u4 : w6.cell? ⟨g, 4, none⟩ = some (.int .i64 m) := blk_cell HX.out.ul.blk 4
        refine wp_region_still_tail 9 (by kernel_rfl) (tail14' _ (by kernel_rfl)) ?_
        refine still_of_quiet _ _ ?_
        simp only [List.take_succ_cons, List.take_zero, List.drop_succ_cons, List.drop_zero]
        repeat (go_big_quiet_step (fail))
        refine wpQuiet_nil ?_
        change wpList _ _ _ _ _ w6.drew
        go_wp2_with fail
        have HY := Aside0.mk (HX.out.set1 (2 * b)).drew
        generalize (w6.setCell ⟨d, 1, none⟩ (.int .i64 ((2 * b)))).drew = w7 at *
        clear y1 z1 u4 HX
        have y0 := blk_cell HY.out.sx 0
        have y1 := blk_cell HY.out.sx 1
        have x0 := blk_cell HY.out.ul.bx 0
        have x1 := blk_cell HY.out.ul.bx 1
        have u5 : w7.cell? ⟨g, 5, none⟩ = some (.map (some r)) := blk_cell HY.out.ul.blk 5
        refine wp_region_still_tail 6 (by kernel_rfl) (tail15' _ (by kernel_rfl)) ?_
        refine still_of_quiet _ _ ?_
        simp only [List.take_succ_cons, List.take_zero, List.drop_succ_cons, List.drop_zero]
        repeat (go_big_quiet_step (fail))
        refine wpQuiet_nil ?_
        change wpList _ _ _ _ _ w7.drew
        have HZ := Aside0.mk HY.out.drew
        generalize w7.drew = w8 at *
        clear y0 y1 x0 x1 u5 HY
        go_wp2_with (at_mapUpdate; refine Go.FM.wpList_fm_put _ rfl _ _ _ 78 rfl 35 89 keysI Try.underlying78 r F rfl HZ.out.ul.fm it rfl hit (1, (2 * b)) rfl ?_; intro w9 hfm hob; have HA := Aside0.mk (HZ.out.map hfm hob); clear hfm hob HZ; have y0 := blk_cell HA.out.sx 0; have u2 : w9.cell? ⟨g, 2, none⟩ = some (.int .i64 t) := blk_cell HA.out.ul.blk 2)
        go_quiet (fail)
        have HB := Aside0.mk (HA.out.drewN nq)
        generalize w9.drewN nq = w10 at *
        clear y0 u2 HA
        go_wp2_with fail
        refine leaves_cons (f := 35) (args := #[.pointer (some ⟨g, 0, none⟩)]) (by simp) (by simp [go_sem]) ?_
        refine (unlock_deferred muLib ⟨g, 0, none⟩ .returning _ ?_ ?_).mono ?_
        · exact blk_cell HB.out.ul.blk 0
        · exact blk_frozen HB.out.ul.blk 0
        rintro e u' w'' ⟨rfl, rfl, rfl⟩
        exact ⟨_, results_tmp2 rfl _ _ _, rfl, (HB.out.ul.lock 0).done⟩

end Go.Proofs.Ythajekcjgkidhaa.Q
