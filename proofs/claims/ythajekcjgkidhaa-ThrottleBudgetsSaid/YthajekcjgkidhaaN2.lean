/- Contract of (*throttle.Budget).Clear. Condition: as for Left. -/
import Derived.Test.YthajekcjgkidhaaProg
import Derived.Below
import Derived.Deep.Draws
import Derived.Deep.AppendLies
import Derived.Maps.AppendAt
import Derived.OwnWalk
import Derived.Laws.BytesArg
import Derived.Laws.MakeOwn
import Derived.Laws.OwnMore
import Derived.Deep.OwnRows
import Derived.Tactics
import Derived.Lib.ConvBytes
import Derived.Laws.Slices
import Derived.WalkKit
import Derived.KernelRfl
import Derived.RowKit3
import Derived.Deep.LoopGhost
import Derived.Deep.QuietTactic
import Derived.BigQuiet
import Derived.WideLaws
import Derived.Deep.DeepCutAuto
import Derived.Deep.CutBlock
import Derived.Deep.RegionHeld3
import Derived.Laws.Rows
import Derived.Lib.AppendStr
import Derived.ArgAppend
import Derived.Laws.IdiomCopy
import Derived.OrdersHeld
import Derived.Laws.BitsLemmas
import Derived.RowKit
import Derived.Test.YthajekcjgkidhaaWWords
import Derived.Test.YthajekcjgkidhaaWLast
import Derived.Test.YthajekcjgkidhaaWTab
import Derived.Test.YthajekcjgkidhaaWFour
import Derived.Test.YthajekcjgkidhaaWQPut
import Derived.Test.YthajekcjgkidhaaWApart
import Derived.Test.YthajekcjgkidhaaWArr
import Derived.Test.YthajekcjgkidhaaWZeros
import Derived.Test.YthajekcjgkidhaaWFoot
import Derived.Test.YthajekcjgkidhaaWKept
import Derived.Test.YthajekcjgkidhaaWShare
import Derived.Test.YthajekcjgkidhaaWN
import Derived.Test.YthajekcjgkidhaaWFootNe
import Derived.Test.YthajekcjgkidhaaWAt
import Derived.Test.YthajekcjgkidhaaWEqStruct
import Derived.Test.YthajekcjgkidhaaWRepsOne
import Derived.Test.YthajekcjgkidhaaWInv
import Derived.Test.YthajekcjgkidhaaWInvWords
import Derived.Test.YthajekcjgkidhaaWGuard
import Derived.Test.YthajekcjgkidhaaWNEv
import Derived.Test.YthajekcjgkidhaaWMore
import Derived.Test.YthajekcjgkidhaaLocks
import Derived.Conc.MuLone
import Derived.Test.YthajekcjgkidhaaN1
import Derived.Test.YthajekcjgkidhaaR0
set_option linter.unusedVariables false
set_option linter.unusedSimpArgs false
namespace Go.Proofs.Ythajekcjgkidhaa.Q
open Go.RowKit Go.Proofs.YthajekcjgkidhaaW.PrintWords Go.Proofs.YthajekcjgkidhaaW.PrintLast Go.Proofs.YthajekcjgkidhaaW.PrintMore
open Go.MuLone Go.FM

theorem tail17 : Region.lexTailB .any (opsOf Try.f17 5) 5 = true := by kernel_rfl
theorem tail17' (ops : Array Oper) (h : opsOf Try.f17 5 = ops) : Region.lexTailB .any ops 5 = true := h ▸ tail17
theorem UL.map {w W W' : World} {g r c : Nat} {t b m l : Int} {F F' : Fm} {it : Int × Int} (h : UL w W g r c t b m F it l) (hf : MapI W' r F') (ho : OnlyB W W' r) : UL w W' g r c t b m F' it l :=
  ⟨(ho.block g h.gr).trans h.blk, hf, h.gr, (ho.block c h.cr).trans h.bx, h.bu.only ho, h.cg, h.cr⟩

set_option maxHeartbeats 4000000 in
set_option maxRecDepth 100000 in
theorem clear_calls (g r : Nat) (t b m : Int) (F : Fm) (it : Int × Int) (hit : okI it) (w : World) (hI : IsU w g r t b m F) :
    Calls Try.prog 17 #[.pointer (some ⟨g, 0, none⟩), .agg #[.int .i64 it.1, .int .i64 it.2]] w fun e w' => e = .returned (.int .i64 0) ∧ IsU w' g r t b m (fun x => if x = it then none else F x) ∧ But2 w w' g r := by
  have hs := UL.start g r t b m F it w hI
  have HS := Aside0.mk hs
  clear hs hI
  go_enter_defers Try.func17, Try.ntmps17
  go_wp2_with fail
  generalize w.alloc (.cells #[.int .i64 it.1, .int .i64 it.2] 35) = w1 at *
  generalize w.heap.size = c at *
  have c0 : w1.cell? ⟨g, 0, none⟩ = some (.int .i32 0) := blk_cell HS.out.blk 0
  have f0 : w1.frozen? ⟨g, 0, none⟩ = false := blk_frozen HS.out.blk 0
  go_wp2_with (go_at_call 34; refine (lock_free muLib ⟨g, 0, none⟩ _ c0 f0).mono ?_; rintro e w' ⟨rfl, rfl⟩)
  have HL := Aside0.mk (HS.out.lock 1)
  generalize w1.setCell ⟨g, 0, none⟩ (.int .i32 1) = w2 at *
  clear c0 f0 HS
  have c5 : w2.cell? ⟨g, 5, none⟩ = some (.map (some r)) := blk_cell HL.out.blk 5
  have x0 := blk_cell HL.out.bx 0
  have x1 := blk_cell HL.out.bx 1
  refine wp_region_still_tail 5 (by kernel_rfl) (tail17' _ (by kernel_rfl)) ?_
  refine still_of_quiet _ _ ?_
  simp only [List.take_succ_cons, List.take_zero, List.drop_succ_cons, List.drop_zero]
  repeat (go_big_quiet_step (fail))
  refine wpQuiet_nil ?_
  change wpList _ _ _ _ _ w2.drew
  have HD := Aside0.mk HL.out.drew
  generalize w2.drew = w3 at *
  clear c5 x0 x1 HL
  go_wp2_with (at_delete; refine Go.FM.wpList_fm_drop _ rfl _ _ 78 35 rfl 89 keysI Try.underlying78 r F rfl HD.out.fm it rfl hit ?_; intro w4 hfm hob; have HE := Aside0.mk (HD.out.map hfm hob); clear hfm hob HD)
  refine leaves_cons (f := 35) (args := #[.pointer (some ⟨g, 0, none⟩)]) (by simp) (by simp [go_sem]) ?_
  refine (unlock_deferred muLib ⟨g, 0, none⟩ .returning _ ?_ ?_).mono ?_
  · exact blk_cell HE.out.blk 0
  · exact blk_frozen HE.out.blk 0
  rintro e u' w'' ⟨rfl, rfl, rfl⟩
  exact ⟨_, results_tmp rfl _ _ _, rfl, (HE.out.lock 0).done⟩

end Go.Proofs.Ythajekcjgkidhaa.Q
