/- Contract of (*purses).plays at a place that holds a pair of budgets, and at one that holds nothing: the answers are alike. Condition: the two budgets say the same. -/
import Derived.Test.YthajekcjgkidhaaProg
import Derived.Below
import Derived.Deep.Draws
import Derived.Deep.AppendLies
import Derived.Maps.AppendAt
import Derived.OwnWalk
import Derived.Laws.BytesArg
import Derived.Laws.MakeOwn
import Derived.Laws.OwnMore
import Derived.Deep.OwnRows
import Derived.Tactics
import Derived.Lib.ConvBytes
import Derived.Laws.Slices
import Derived.WalkKit
import Derived.KernelRfl
import Derived.RowKit3
import Derived.Deep.LoopGhost
import Derived.Deep.QuietTactic
import Derived.BigQuiet
import Derived.WideLaws
import Derived.Deep.DeepCutAuto
import Derived.Deep.CutBlock
import Derived.Deep.RegionHeld3
import Derived.Laws.Rows
import Derived.Lib.AppendStr
import Derived.ArgAppend
import Derived.Laws.IdiomCopy
import Derived.OrdersHeld
import Derived.Laws.BitsLemmas
import Derived.RowKit
import Derived.Test.YthajekcjgkidhaaWWords
import Derived.Test.YthajekcjgkidhaaWLast
import Derived.Test.YthajekcjgkidhaaWTab
import Derived.Test.YthajekcjgkidhaaWFour
import Derived.Test.YthajekcjgkidhaaWQPut
import Derived.Test.YthajekcjgkidhaaWApart
import Derived.Test.YthajekcjgkidhaaWArr
import Derived.Test.YthajekcjgkidhaaWZeros
import Derived.Test.YthajekcjgkidhaaWFoot
import Derived.Test.YthajekcjgkidhaaWKept
import Derived.Test.YthajekcjgkidhaaWShare
import Derived.Test.YthajekcjgkidhaaWN
import Derived.Test.YthajekcjgkidhaaWFootNe
import Derived.Test.YthajekcjgkidhaaWAt
import Derived.Test.YthajekcjgkidhaaWEqStruct
import Derived.Test.YthajekcjgkidhaaWRepsOne
import Derived.Test.YthajekcjgkidhaaWInv
import Derived.Test.YthajekcjgkidhaaWInvWords
import Derived.Test.YthajekcjgkidhaaWGuard
import Derived.Test.YthajekcjgkidhaaWNEv
import Derived.Test.YthajekcjgkidhaaWMore
import Derived.Test.YthajekcjgkidhaaLocks
import Derived.Conc.MuLone
import Derived.Test.YthajekcjgkidhaaU4
set_option linter.unusedVariables false
set_option linter.unusedSimpArgs false
namespace Go.Proofs.Ythajekcjgkidhaa.Q
open Go.RowKit Go.Proofs.YthajekcjgkidhaaW.PrintWords Go.Proofs.YthajekcjgkidhaaW.PrintLast Go.Proofs.YthajekcjgkidhaaW.PrintMore
open Go.MuLone Go.FM Go.Plan

/-- What a step of plays reads where the place holds no budget. -/
structure PZ (w W : World) (m ix c : Nat) (o : Op5) : Prop where
  bx : W.heap[c]? = some (.cells #[.int .i64 o.k, .int .i64 o.a, .int .i64 o.n, .int .i64 o.d, .int .i64 o.f] 37 (0, 0))
  a0 : W.cell? ⟨m, ix, none⟩ = some (.pointer none)
  a2 : W.cell? ⟨m, 2 + ix, none⟩ = some (.pointer none)
  bu : Below w.heap.size w W
theorem PZ.drewN {w W : World} {m ix c : Nat} {o : Op5} (h : PZ w W m ix c o) (n : Nat) : PZ w (W.drewN n) m ix c o := ⟨h.bx, h.a0, h.a2, pw_below_drewN h.bu n⟩
theorem PZ.drew {w W : World} {m ix c : Nat} {o : Op5} (h : PZ w W m ix c o) : PZ w W.drew m ix c o := ⟨h.bx, h.a0, h.a2, ⟨h.bu.1, h.bu.2, h.bu.3, h.bu.4, h.bu.5⟩⟩
theorem PZ.grow {w W W' : World} {m ix c : Nat} {o : Op5} (h : PZ w W m ix c o) (hb : Below W.heap.size W W') : PZ w W' m ix c o := ⟨blk_below h.bx hb, pw_cell_below hb h.a0, pw_cell_below hb h.a2, below_step h.bu hb⟩
theorem PZ.start {m ix : Nat} {o : Op5} {w : World} (h0 : w.cell? ⟨m, ix, none⟩ = some (.pointer none)) (h2 : w.cell? ⟨m, 2 + ix, none⟩ = some (.pointer none)) : PZ w (w.alloc (.cells #[.int .i64 o.k, .int .i64 o.a, .int .i64 o.n, .int .i64 o.d, .int .i64 o.f] 37)) m ix w.heap.size o :=
  ⟨blk_new w _, pw_cell_below ((Below.refl _ _).alloc (Nat.le_refl _) _) h0, pw_cell_below ((Below.refl _ _).alloc (Nat.le_refl _) _) h2, (Below.refl _ _).alloc (Nat.le_refl _) _⟩
theorem goodF_drop {t : Int} {F : Fm} (h : GoodF t F) (it : Int × Int) : GoodF t (fun x => if x = it then none else F x) := by
  intro k s hk
  dsimp only at hk
  by_cases e : k = it
  · rw [if_pos e] at hk; cases hk
  · rw [if_neg e] at hk; exact h k s hk
theorem lk_le {t b m : Int} {F : Fm} {L : List It} (h : Lk t b m F L) (it : It) : (cnt it L : Int) ≤ t := (h it).2

set_option maxHeartbeats 4000000 in
set_option maxRecDepth 100000 in
theorem bplays_fail0 (B m : Nat) (x : Pb) (o : Op5) (hoi : okI (o.d, o.f)) (w : World) (hi : x.In B w) (s : x.St B) (hB : B ≤ w.heap.size) (hL : x.L.length + 1 ≤ 8796093022208) (hp : plc o.a = 0) (k5 : (o.k == 5) = true)
    (h0 : w.cell? ⟨m, 0, none⟩ = some (.pointer (some ⟨x.g, 0, none⟩))) (h2 : w.cell? ⟨m, 2, none⟩ = some (.pointer (some ⟨x.k, 0, none⟩))) (hm : ¬ x.S m) :
    Calls Try.prog 11 #[.pointer (some ⟨m, 0, none⟩), .agg #[.int .i64 o.k, .int .i64 o.a, .int .i64 o.n, .int .i64 o.d, .int .i64 o.f]] w (BPlayed B x w) := by
  have hs := PB.start (ix := 0) (o := o) hi h0 h2 hm
  have HST := Aside0.mk s
  have HB := Aside0.mk hB
  have HL := Aside0.mk hL
  have HM := Aside0.mk hm
  clear hi s hB hL hm
  go_enter Try.func11, Try.ntmps11
  go_wp2_with fail
  generalize hw1 : w.alloc (.cells #[.int .i64 o.k, .int .i64 o.a, .int .i64 o.n, .int .i64 o.d, .int .i64 o.f] 37) = w1 at *
  generalize hwc : w.heap.size = c at *
  have HWC := Aside0.mk hwc
  clear hw1 hwc
  have x1 := blk_cell hs.bx 1
  have a0 := hs.a0
  have HS := Aside0.mk hs
  clear h0 h2 hs
  go_quiet (first | (go_at_call 30; refine Calls.quiet_of_same (place0 o.a hp _)))
  have hs := HS.out.drewN nq
  generalize w1.drewN nq = w2 at *
  clear a0 x1 HS
  have x1 := blk_cell hs.bx 1
  have a2 : w2.cell? ⟨m, 2, none⟩ = some (.pointer (some ⟨x.k, 0, none⟩)) := hs.a2
  have HS := Aside0.mk hs
  clear hs
  go_wp2_with fail
  go_quiet (first | (go_at_call 30; refine Calls.quiet_of_same (place0 o.a hp _)))
  have hs := HS.out.drewN nq
  generalize w2.drewN nq = w3 at *
  clear a2 x1 HS
  have x0 := blk_cell hs.bx 0
  have HS := Aside0.mk hs
  clear hs
  have x2 := blk_cell HS.out.bx 2
  have x3 := blk_cell HS.out.bx 3
  have x4 := blk_cell HS.out.bx 4
  have HQ := Aside0.mk (HST.out.lk.fail (o.d, o.f) o.n)
  have z1 : ((failF x.t x.b x.m x.F (o.d, o.f) o.n).2.1 == (failF x.t x.b x.m x.F (o.d, o.f) o.n).2.1) = true := by simp
  have z2 : ((failF x.t x.b x.m x.F (o.d, o.f) o.n).2.2 == (failF x.t x.b x.m x.F (o.d, o.f) o.n).2.2) = true := by simp
  go_wp2_with (first
    | (go_at_call 15; (with_reducible refine (fail_calls x.g x.r x.t x.b x.m HST.out.ok x.F HST.out.good (o.d, o.f) hoi o.n _ HS.out.inn.u).mono ?_); rintro e w4 ⟨rfl, hu, hb⟩; have HO := Aside0.mk (HS.out.own HST.out hu hb); clear hu hb HS x0 x2 x3 x4; have x2 := blk_cell HO.out.bx 2; have x3 := blk_cell HO.out.bx 3; have x4 := blk_cell HO.out.bx 4)
    | (go_at_call 31; (with_reducible refine (rfail_calls B x.k x.A x.cap x.t x.b x.m x.L (o.d, o.f) o.n _ HO.out.inn.v (Nat.le_trans HB.out (by have := HO.out.fr.size; have := HWC.out; omega)) HL.out HST.out.ok (lk_le HST.out.lk _)).mono ?_); rintro e w5 ⟨rfl, A', cap', hv, hf, hr⟩; rw [← HQ.out.1]; have HV := Aside0.mk hv; have HF := Aside0.mk hf; have HR := Aside0.mk hr; clear hv hf hr x2 x3 x4)
    | (go_at_call 14; refine (num_calls _ _).mono ?_; rintro e w' ⟨rfl, rfl⟩))
  go_ret
  exact ⟨rfl, HO.out.done HST.out ⟨rfl, rfl, rfl, rfl, rfl, rfl, rfl, rfl⟩ (failF_good x.t x.b x.m HST.out.ok x.F HST.out.good (o.d, o.f) o.n) HV.out HF.out (HR.out.imp id .inr) HQ.out.2 (failR_len _ _ _ _ _ _)⟩

set_option maxHeartbeats 4000000 in
set_option maxRecDepth 100000 in
theorem bplaysn_fail0 (m : Nat) (o : Op5) (w : World) (hp : plc o.a = 0) (k5 : (o.k == 5) = true)
    (h0 : w.cell? ⟨m, 0, none⟩ = some (.pointer none)) (h2 : w.cell? ⟨m, 2, none⟩ = some (.pointer none)) :
    Calls Try.prog 11 #[.pointer (some ⟨m, 0, none⟩), .agg #[.int .i64 o.k, .int .i64 o.a, .int .i64 o.n, .int .i64 o.d, .int .i64 o.f]] w fun e w' => e = .returned (.bool true) ∧ Below w.heap.size w w' := by
  have hs := PZ.start (ix := 0) (o := o) h0 h2
  go_enter Try.func11, Try.ntmps11
  go_wp2_with fail
  generalize hw1 : w.alloc (.cells #[.int .i64 o.k, .int .i64 o.a, .int .i64 o.n, .int .i64 o.d, .int .i64 o.f] 37) = w1 at *
  generalize hwc : w.heap.size = c at *
  have HWC := Aside0.mk hwc
  clear hw1 hwc
  have x1 := blk_cell hs.bx 1
  have a0 := hs.a0
  have HS := Aside0.mk hs
  clear h0 h2 hs
  go_quiet (first | (go_at_call 30; refine Calls.quiet_of_same (place0 o.a hp _)))
  have hs := HS.out.drewN nq
  generalize w1.drewN nq = w2 at *
  clear a0 x1 HS
  have x1 := blk_cell hs.bx 1
  have a2 : w2.cell? ⟨m, 2, none⟩ = some (.pointer none) := hs.a2
  have HS := Aside0.mk hs
  clear hs
  go_wp2_with fail
  go_quiet (first | (go_at_call 30; refine Calls.quiet_of_same (place0 o.a hp _)))
  have hs := HS.out.drewN nq
  generalize w2.drewN nq = w3 at *
  clear a2 x1 HS
  have x0 := blk_cell hs.bx 0
  have HS := Aside0.mk hs
  clear hs
  have x2 := blk_cell HS.out.bx 2
  have x3 := blk_cell HS.out.bx 3
  have x4 := blk_cell HS.out.bx 4
  go_wp2_with (first
    | (go_at_call 15; (with_reducible refine (fail_nil (o.d, o.f) o.n _).mono ?_); rintro e w4 ⟨rfl, hb⟩; have HO := Aside0.mk (HS.out.grow hb); clear hb HS x0 x2 x3 x4; have x2 := blk_cell HO.out.bx 2; have x3 := blk_cell HO.out.bx 3; have x4 := blk_cell HO.out.bx 4)
    | (go_at_call 31; (with_reducible refine (rfail_nil (o.d, o.f) o.n _).mono ?_); rintro e w5 ⟨rfl, hb⟩; have HE := Aside0.mk (HO.out.grow hb); clear hb x2 x3 x4)
    | (go_at_call 14; refine (num_calls _ _).mono ?_; rintro e w' ⟨rfl, rfl⟩))
  go_ret
  exact ⟨rfl, by have := HE.out.bu; have e := HWC.out; exact this⟩

set_option maxHeartbeats 4000000 in
set_option maxRecDepth 100000 in
theorem bplays_left0 (B m : Nat) (x : Pb) (o : Op5) (hoi : okI (o.d, o.f)) (w : World) (hi : x.In B w) (s : x.St B) (hB : B ≤ w.heap.size) (hL : x.L.length + 1 ≤ 8796093022208) (hp : plc o.a = 0) (k5 : (o.k == 5) = false) (k6 : (o.k == 6) = true)
    (h0 : w.cell? ⟨m, 0, none⟩ = some (.pointer (some ⟨x.g, 0, none⟩))) (h2 : w.cell? ⟨m, 2, none⟩ = some (.pointer (some ⟨x.k, 0, none⟩))) (hm : ¬ x.S m) :
    Calls Try.prog 11 #[.pointer (some ⟨m, 0, none⟩), .agg #[.int .i64 o.k, .int .i64 o.a, .int .i64 o.n, .int .i64 o.d, .int .i64 o.f]] w (BPlayed B x w) := by
  have hs := PB.start (ix := 0) (o := o) hi h0 h2 hm
  have HST := Aside0.mk s
  have HB := Aside0.mk hB
  have HL := Aside0.mk hL
  have HM := Aside0.mk hm
  clear hi s hB hL hm
  go_enter Try.func11, Try.ntmps11
  go_wp2_with fail
  generalize hw1 : w.alloc (.cells #[.int .i64 o.k, .int .i64 o.a, .int .i64 o.n, .int .i64 o.d, .int .i64 o.f] 37) = w1 at *
  generalize hwc : w.heap.size = c at *
  have HWC := Aside0.mk hwc
  clear hw1 hwc
  have x1 := blk_cell hs.bx 1
  have a0 := hs.a0
  have HS := Aside0.mk hs
  clear h0 h2 hs
  go_quiet (first | (go_at_call 30; refine Calls.quiet_of_same (place0 o.a hp _)))
  have hs := HS.out.drewN nq
  generalize w1.drewN nq = w2 at *
  clear a0 x1 HS
  have x1 := blk_cell hs.bx 1
  have a2 : w2.cell? ⟨m, 2, none⟩ = some (.pointer (some ⟨x.k, 0, none⟩)) := hs.a2
  have HS := Aside0.mk hs
  clear hs
  go_wp2_with fail
  go_quiet (first | (go_at_call 30; refine Calls.quiet_of_same (place0 o.a hp _)))
  have hs := HS.out.drewN nq
  generalize w2.drewN nq = w3 at *
  clear a2 x1 HS
  have x0 := blk_cell hs.bx 0
  have HS := Aside0.mk hs
  clear hs
  have HQ := Aside0.mk (HST.out.lk.getD0 (o.d, o.f))
  have ht64 := Aside0.mk (And.intro HST.out.ok.1 HST.out.ok.2.1)
  obtain ⟨v, hv⟩ : ∃ v : Int, x.t - (cnt (o.d, o.f) x.L : Int) = v := ⟨_, rfl⟩
  have HV := Aside0.mk hv
  clear hv
  have z1 : (v == v) = true := by simp
  go_wp2_with fail
  refine wp_region_plan (quiets [0, 1, 2, 4, 5, 6] ++ ((true, 3) :: ((true, 7) :: (quiets [8, 9] ++ [])))) (fun W => W.heap[c]? = some (.cells #[.int .i64 o.k, .int .i64 o.a, .int .i64 o.n, .int .i64 o.d, .int .i64 o.f] 37 (0, 0))) (by kernel_rfl) (by kernel_rfl) HS.out.bx ?_
  clear x0
  apply mix_quiets [0, 1, 2, 4, 5, 6] _ (by kernel_rfl) HS.out.bx
  case h =>
    intro W hW
    have e3 := blk_cell hW 3
    have e4 := blk_cell hW 4
    clear hW
    refine still_of_quiet _ _ ?_
    simp only [segOps, List.getElem?_toArray, List.getElem?_cons_zero, List.getElem?_cons_succ, Option.toList_some, List.nil_append, List.cons_append, List.append_nil]
    repeat (go_big_quiet_step (fail))
    exact wpQuiet_nil rfl
  refine mix_writes 3 ⟨some 65, _, _, _, _, _⟩ rfl _ ?_
  change wpList _ _ _ _ _ w3.drew
  have H3 := Aside0.mk HS.out.drew
  clear HS
  generalize w3.drew = w4 at *
  go_wp2_with (go_at_call 16; (with_reducible refine (left_calls x.g x.r x.t x.b x.m x.F (o.d, o.f) hoi _ H3.out.inn.u HST.out.good ht64.out).mono ?_); rintro e w5 ⟨rfl, hu, hb⟩; rw [HQ.out, HV.out]; have HO := Aside0.mk (H3.out.own HST.out hu hb); clear hu hb H3)
  refine ⟨HO.out.bx, ?_⟩
  refine mix_writes 7 ⟨some 69, _, _, _, _, _⟩ rfl _ ?_
  go_wp2_with (go_at_call 32; (with_reducible refine (rleft_calls B x.k x.A x.cap x.t x.b x.m x.L (o.d, o.f) _ HO.out.inn.v (by have := HL.out; omega) ht64.out (lk_le HST.out.lk _)).mono ?_); rintro e w6 ⟨rfl, hb⟩; rw [HV.out]; have HBW := Aside0.mk hb; have HX := Aside0.mk (blk_below HO.out.bx hb); clear hb)
  refine ⟨HX.out, ?_⟩
  apply mix_quiets [8, 9] _ (by kernel_rfl) HX.out
  case h =>
    intro W hW
    clear hW
    refine still_of_quiet _ _ ?_
    simp only [segOps, List.getElem?_toArray, List.getElem?_cons_zero, List.getElem?_cons_succ, Option.toList_some, List.nil_append, List.cons_append, List.append_nil]
    repeat (go_big_quiet_step (fail))
    exact wpQuiet_nil rfl
  refine mix_done ?_
  go_wp2_with fail
  go_ret
  exact ⟨rfl, HO.out.done HST.out ⟨rfl, rfl, rfl, rfl, rfl, rfl, rfl, rfl⟩ HST.out.good (HO.out.inn.v.below HBW.out) (FrV.of_below HBW.out) (.inl rfl) HST.out.lk (by show x.L.length ≤ x.L.length + 1; omega)⟩

set_option maxHeartbeats 4000000 in
set_option maxRecDepth 100000 in
theorem bplaysn_left0 (m : Nat) (o : Op5) (w : World) (hp : plc o.a = 0) (k5 : (o.k == 5) = false) (k6 : (o.k == 6) = true)
    (h0 : w.cell? ⟨m, 0, none⟩ = some (.pointer none)) (h2 : w.cell? ⟨m, 2, none⟩ = some (.pointer none)) :
    Calls Try.prog 11 #[.pointer (some ⟨m, 0, none⟩), .agg #[.int .i64 o.k, .int .i64 o.a, .int .i64 o.n, .int .i64 o.d, .int .i64 o.f]] w fun e w' => e = .returned (.bool true) ∧ Below w.heap.size w w' := by
  have hs := PZ.start (ix := 0) (o := o) h0 h2
  go_enter Try.func11, Try.ntmps11
  go_wp2_with fail
  generalize hw1 : w.alloc (.cells #[.int .i64 o.k, .int .i64 o.a, .int .i64 o.n, .int .i64 o.d, .int .i64 o.f] 37) = w1 at *
  generalize hwc : w.heap.size = c at *
  have HWC := Aside0.mk hwc
  clear hw1 hwc
  have x1 := blk_cell hs.bx 1
  have a0 := hs.a0
  have HS := Aside0.mk hs
  clear h0 h2 hs
  go_quiet (first | (go_at_call 30; refine Calls.quiet_of_same (place0 o.a hp _)))
  have hs := HS.out.drewN nq
  generalize w1.drewN nq = w2 at *
  clear a0 x1 HS
  have x1 := blk_cell hs.bx 1
  have a2 : w2.cell? ⟨m, 2, none⟩ = some (.pointer none) := hs.a2
  have HS := Aside0.mk hs
  clear hs
  go_wp2_with fail
  go_quiet (first | (go_at_call 30; refine Calls.quiet_of_same (place0 o.a hp _)))
  have hs := HS.out.drewN nq
  generalize w2.drewN nq = w3 at *
  clear a2 x1 HS
  have x0 := blk_cell hs.bx 0
  have HS := Aside0.mk hs
  clear hs
  go_wp2_with fail
  refine wp_region_plan (quiets [0, 1, 2, 4, 5, 6] ++ ((true, 3) :: ((true, 7) :: (quiets [8, 9] ++ [])))) (fun W => W.heap[c]? = some (.cells #[.int .i64 o.k, .int .i64 o.a, .int .i64 o.n, .int .i64 o.d, .int .i64 o.f] 37 (0, 0))) (by kernel_rfl) (by kernel_rfl) HS.out.bx ?_
  clear x0
  apply mix_quiets [0, 1, 2, 4, 5, 6] _ (by kernel_rfl) HS.out.bx
  case h =>
    intro W hW
    have e3 := blk_cell hW 3
    have e4 := blk_cell hW 4
    clear hW
    refine still_of_quiet _ _ ?_
    simp only [segOps, List.getElem?_toArray, List.getElem?_cons_zero, List.getElem?_cons_succ, Option.toList_some, List.nil_append, List.cons_append, List.append_nil]
    repeat (go_big_quiet_step (fail))
    exact wpQuiet_nil rfl
  refine mix_writes 3 ⟨some 65, _, _, _, _, _⟩ rfl _ ?_
  change wpList _ _ _ _ _ w3.drew
  have H3 := Aside0.mk HS.out.drew
  clear HS
  generalize w3.drew = w4 at *
  go_wp2_with (go_at_call 16; (with_reducible refine (left_nil (o.d, o.f) _).mono ?_); rintro e w5 ⟨rfl, hb⟩; have HO := Aside0.mk (H3.out.grow hb); clear hb H3)
  refine ⟨HO.out.bx, ?_⟩
  refine mix_writes 7 ⟨some 69, _, _, _, _, _⟩ rfl _ ?_
  go_wp2_with (go_at_call 32; (with_reducible refine (rleft_nil (o.d, o.f) _).mono ?_); rintro e w6 ⟨rfl, hb⟩; have HE := Aside0.mk (HO.out.grow hb); clear hb HO)
  refine ⟨HE.out.bx, ?_⟩
  apply mix_quiets [8, 9] _ (by kernel_rfl) HE.out.bx
  case h =>
    intro W hW
    clear hW
    refine still_of_quiet _ _ ?_
    simp only [segOps, List.getElem?_toArray, List.getElem?_cons_zero, List.getElem?_cons_succ, Option.toList_some, List.nil_append, List.cons_append, List.append_nil]
    repeat (go_big_quiet_step (fail))
    exact wpQuiet_nil rfl
  refine mix_done ?_
  go_wp2_with fail
  go_ret
  exact ⟨rfl, HE.out.bu⟩

set_option maxHeartbeats 4000000 in
set_option maxRecDepth 100000 in
theorem bplays_clear0 (B m : Nat) (x : Pb) (o : Op5) (hoi : okI (o.d, o.f)) (w : World) (hi : x.In B w) (s : x.St B) (hB : B ≤ w.heap.size) (hL : x.L.length + 1 ≤ 8796093022208) (hp : plc o.a = 0) (k5 : (o.k == 5) = false) (k6 : (o.k == 6) = false) (k7 : (o.k == 7) = true)
    (h0 : w.cell? ⟨m, 0, none⟩ = some (.pointer (some ⟨x.g, 0, none⟩))) (h2 : w.cell? ⟨m, 2, none⟩ = some (.pointer (some ⟨x.k, 0, none⟩))) (hm : ¬ x.S m) :
    Calls Try.prog 11 #[.pointer (some ⟨m, 0, none⟩), .agg #[.int .i64 o.k, .int .i64 o.a, .int .i64 o.n, .int .i64 o.d, .int .i64 o.f]] w (BPlayed B x w) := by
  have hs := PB.start (ix := 0) (o := o) hi h0 h2 hm
  have HST := Aside0.mk s
  have HB := Aside0.mk hB
  have HL := Aside0.mk hL
  have HM := Aside0.mk hm
  clear hi s hB hL hm
  go_enter Try.func11, Try.ntmps11
  go_wp2_with fail
  generalize hw1 : w.alloc (.cells #[.int .i64 o.k, .int .i64 o.a, .int .i64 o.n, .int .i64 o.d, .int .i64 o.f] 37) = w1 at *
  generalize hwc : w.heap.size = c at *
  have HWC := Aside0.mk hwc
  clear hw1 hwc
  have x1 := blk_cell hs.bx 1
  have a0 := hs.a0
  have HS := Aside0.mk hs
  clear h0 h2 hs
  go_quiet (first | (go_at_call 30; refine Calls.quiet_of_same (place0 o.a hp _)))
  have hs := HS.out.drewN nq
  generalize w1.drewN nq = w2 at *
  clear a0 x1 HS
  have x1 := blk_cell hs.bx 1
  have a2 : w2.cell? ⟨m, 2, none⟩ = some (.pointer (some ⟨x.k, 0, none⟩)) := hs.a2
  have HS := Aside0.mk hs
  clear hs
  go_wp2_with fail
  go_quiet (first | (go_at_call 30; refine Calls.quiet_of_same (place0 o.a hp _)))
  have hs := HS.out.drewN nq
  generalize w2.drewN nq = w3 at *
  clear a2 x1 HS
  have x0 := blk_cell hs.bx 0
  have HS := Aside0.mk hs
  clear hs
  have x3 := blk_cell HS.out.bx 3
  have x4 := blk_cell HS.out.bx 4
  have ht0 := Aside0.mk (show 0 ≤ x.t by have := HST.out.ok.1; omega)
  go_wp2_with (first
    | (go_at_call 17; (with_reducible refine (clear_calls x.g x.r x.t x.b x.m x.F (o.d, o.f) hoi _ HS.out.inn.u).mono ?_); rintro e w4 ⟨rfl, hu, hb⟩; have HO := Aside0.mk (HS.out.own HST.out hu hb); clear hu hb HS x0 x3 x4; have x3 := blk_cell HO.out.bx 3; have x4 := blk_cell HO.out.bx 4)
    | (go_at_call 33; (with_reducible refine (rclear_calls B x.k x.A x.cap x.t x.b x.m x.L (o.d, o.f) _ HO.out.inn.v (Nat.le_trans HB.out (by have := HO.out.fr.size; have := HWC.out; omega)) HL.out).mono ?_); rintro e w5 ⟨rfl, A', cap', hv, hf, hr⟩; have HV := Aside0.mk hv; have HF := Aside0.mk hf; have HR := Aside0.mk hr; clear hv hf hr x3 x4)
    | (go_at_call 14; refine (num_calls _ _).mono ?_; rintro e w' ⟨rfl, rfl⟩))
  go_ret
  exact ⟨rfl, HO.out.done HST.out ⟨rfl, rfl, rfl, rfl, rfl, rfl, rfl, rfl⟩ (goodF_drop HST.out.good (o.d, o.f)) HV.out HF.out HR.out (HST.out.lk.drop ht0.out (o.d, o.f)) (by have := rem_length (o.d, o.f) x.L; show (rem (o.d, o.f) x.L).length ≤ x.L.length + 1; omega)⟩

set_option maxHeartbeats 4000000 in
set_option maxRecDepth 100000 in
theorem bplaysn_clear0 (m : Nat) (o : Op5) (w : World) (hp : plc o.a = 0) (k5 : (o.k == 5) = false) (k6 : (o.k == 6) = false) (k7 : (o.k == 7) = true)
    (h0 : w.cell? ⟨m, 0, none⟩ = some (.pointer none)) (h2 : w.cell? ⟨m, 2, none⟩ = some (.pointer none)) :
    Calls Try.prog 11 #[.pointer (some ⟨m, 0, none⟩), .agg #[.int .i64 o.k, .int .i64 o.a, .int .i64 o.n, .int .i64 o.d, .int .i64 o.f]] w fun e w' => e = .returned (.bool true) ∧ Below w.heap.size w w' := by
  have hs := PZ.start (ix := 0) (o := o) h0 h2
  go_enter Try.func11, Try.ntmps11
  go_wp2_with fail
  generalize hw1 : w.alloc (.cells #[.int .i64 o.k, .int .i64 o.a, .int .i64 o.n, .int .i64 o.d, .int .i64 o.f] 37) = w1 at *
  generalize hwc : w.heap.size = c at *
  have HWC := Aside0.mk hwc
  clear hw1 hwc
  have x1 := blk_cell hs.bx 1
  have a0 := hs.a0
  have HS := Aside0.mk hs
  clear h0 h2 hs
  go_quiet (first | (go_at_call 30; refine Calls.quiet_of_same (place0 o.a hp _)))
  have hs := HS.out.drewN nq
  generalize w1.drewN nq = w2 at *
  clear a0 x1 HS
  have x1 := blk_cell hs.bx 1
  have a2 : w2.cell? ⟨m, 2, none⟩ = some (.pointer none) := hs.a2
  have HS := Aside0.mk hs
  clear hs
  go_wp2_with fail
  go_quiet (first | (go_at_call 30; refine Calls.quiet_of_same (place0 o.a hp _)))
  have hs := HS.out.drewN nq
  generalize w2.drewN nq = w3 at *
  clear a2 x1 HS
  have x0 := blk_cell hs.bx 0
  have HS := Aside0.mk hs
  clear hs
  have x2 := blk_cell HS.out.bx 2
  have x3 := blk_cell HS.out.bx 3
  have x4 := blk_cell HS.out.bx 4
  go_wp2_with (first
    | (go_at_call 17; (with_reducible refine (clear_nil (o.d, o.f) _).mono ?_); rintro e w4 ⟨rfl, hb⟩; have HO := Aside0.mk (HS.out.grow hb); clear hb HS x0 x2 x3 x4; have x2 := blk_cell HO.out.bx 2; have x3 := blk_cell HO.out.bx 3; have x4 := blk_cell HO.out.bx 4)
    | (go_at_call 33; (with_reducible refine (rclear_nil (o.d, o.f) _).mono ?_); rintro e w5 ⟨rfl, hb⟩; have HE := Aside0.mk (HO.out.grow hb); clear hb x2 x3 x4)
    | (go_at_call 14; refine (num_calls _ _).mono ?_; rintro e w' ⟨rfl, rfl⟩))
  go_ret
  exact ⟨rfl, by have := HE.out.bu; have e := HWC.out; exact this⟩

set_option maxHeartbeats 4000000 in
set_option maxRecDepth 100000 in
theorem bplays_idle0 (B m : Nat) (x : Pb) (o : Op5) (hoi : okI (o.d, o.f)) (w : World) (hi : x.In B w) (s : x.St B) (hB : B ≤ w.heap.size) (hL : x.L.length + 1 ≤ 8796093022208) (hp : plc o.a = 0) (k5 : (o.k == 5) = false) (k6 : (o.k == 6) = false) (k7 : (o.k == 7) = false)
    (h0 : w.cell? ⟨m, 0, none⟩ = some (.pointer (some ⟨x.g, 0, none⟩))) (h2 : w.cell? ⟨m, 2, none⟩ = some (.pointer (some ⟨x.k, 0, none⟩))) (hm : ¬ x.S m) :
    Calls Try.prog 11 #[.pointer (some ⟨m, 0, none⟩), .agg #[.int .i64 o.k, .int .i64 o.a, .int .i64 o.n, .int .i64 o.d, .int .i64 o.f]] w (BPlayed B x w) := by
  have hs := PB.start (ix := 0) (o := o) hi h0 h2 hm
  have HST := Aside0.mk s
  have HB := Aside0.mk hB
  have HL := Aside0.mk hL
  have HM := Aside0.mk hm
  clear hi s hB hL hm
  go_enter Try.func11, Try.ntmps11
  go_wp2_with fail
  generalize hw1 : w.alloc (.cells #[.int .i64 o.k, .int .i64 o.a, .int .i64 o.n, .int .i64 o.d, .int .i64 o.f] 37) = w1 at *
  generalize hwc : w.heap.size = c at *
  have HWC := Aside0.mk hwc
  clear hw1 hwc
  have x1 := blk_cell hs.bx 1
  have a0 := hs.a0
  have HS := Aside0.mk hs
  clear h0 h2 hs
  go_quiet (first | (go_at_call 30; refine Calls.quiet_of_same (place0 o.a hp _)))
  have hs := HS.out.drewN nq
  generalize w1.drewN nq = w2 at *
  clear a0 x1 HS
  have x1 := blk_cell hs.bx 1
  have a2 : w2.cell? ⟨m, 2, none⟩ = some (.pointer (some ⟨x.k, 0, none⟩)) := hs.a2
  have HS := Aside0.mk hs
  clear hs
  go_wp2_with fail
  go_quiet (first | (go_at_call 30; refine Calls.quiet_of_same (place0 o.a hp _)))
  have hs := HS.out.drewN nq
  generalize w2.drewN nq = w3 at *
  clear a2 x1 HS
  have x0 := blk_cell hs.bx 0
  have HS := Aside0.mk hs
  clear hs
  go_wp2_with fail
  go_ret
  exact ⟨rfl, HS.out.done HST.out ⟨rfl, rfl, rfl, rfl, rfl, rfl, rfl, rfl⟩ HST.out.good HS.out.inn.v (FrV.of_below (Below.refl _ _)) (.inl rfl) HST.out.lk (by omega)⟩

set_option maxHeartbeats 4000000 in
set_option maxRecDepth 100000 in
theorem bplaysn_idle0 (m : Nat) (o : Op5) (w : World) (hp : plc o.a = 0) (k5 : (o.k == 5) = false) (k6 : (o.k == 6) = false) (k7 : (o.k == 7) = false)
    (h0 : w.cell? ⟨m, 0, none⟩ = some (.pointer none)) (h2 : w.cell? ⟨m, 2, none⟩ = some (.pointer none)) :
    Calls Try.prog 11 #[.pointer (some ⟨m, 0, none⟩), .agg #[.int .i64 o.k, .int .i64 o.a, .int .i64 o.n, .int .i64 o.d, .int .i64 o.f]] w fun e w' => e = .returned (.bool true) ∧ Below w.heap.size w w' := by
  have hs := PZ.start (ix := 0) (o := o) h0 h2
  go_enter Try.func11, Try.ntmps11
  go_wp2_with fail
  generalize hw1 : w.alloc (.cells #[.int .i64 o.k, .int .i64 o.a, .int .i64 o.n, .int .i64 o.d, .int .i64 o.f] 37) = w1 at *
  generalize hwc : w.heap.size = c at *
  have HWC := Aside0.mk hwc
  clear hw1 hwc
  have x1 := blk_cell hs.bx 1
  have a0 := hs.a0
  have HS := Aside0.mk hs
  clear h0 h2 hs
  go_quiet (first | (go_at_call 30; refine Calls.quiet_of_same (place0 o.a hp _)))
  have hs := HS.out.drewN nq
  generalize w1.drewN nq = w2 at *
  clear a0 x1 HS
  have x1 := blk_cell hs.bx 1
  have a2 : w2.cell? ⟨m, 2, none⟩ = some (.pointer none) := hs.a2
  have HS := Aside0.mk hs
  clear hs
  go_wp2_with fail
  go_quiet (first | (go_at_call 30; refine Calls.quiet_of_same (place0 o.a hp _)))
  have hs := HS.out.drewN nq
  generalize w2.drewN nq = w3 at *
  clear a2 x1 HS
  have x0 := blk_cell hs.bx 0
  have HS := Aside0.mk hs
  clear hs
  go_wp2_with fail
  go_ret
  exact ⟨rfl, HS.out.bu⟩

set_option maxHeartbeats 4000000 in
set_option maxRecDepth 100000 in
theorem bplays_fail1 (B m : Nat) (x : Pb) (o : Op5) (hoi : okI (o.d, o.f)) (w : World) (hi : x.In B w) (s : x.St B) (hB : B ≤ w.heap.size) (hL : x.L.length + 1 ≤ 8796093022208) (hp : plc o.a = 1) (k5 : (o.k == 5) = true)
    (h0 : w.cell? ⟨m, 1, none⟩ = some (.pointer (some ⟨x.g, 0, none⟩))) (h2 : w.cell? ⟨m, 3, none⟩ = some (.pointer (some ⟨x.k, 0, none⟩))) (hm : ¬ x.S m) :
    Calls Try.prog 11 #[.pointer (some ⟨m, 0, none⟩), .agg #[.int .i64 o.k, .int .i64 o.a, .int .i64 o.n, .int .i64 o.d, .int .i64 o.f]] w (BPlayed B x w) := by
  have hs := PB.start (ix := 1) (o := o) hi h0 h2 hm
  have HST := Aside0.mk s
  have HB := Aside0.mk hB
  have HL := Aside0.mk hL
  have HM := Aside0.mk hm
  clear hi s hB hL hm
  go_enter Try.func11, Try.ntmps11
  go_wp2_with fail
  generalize hw1 : w.alloc (.cells #[.int .i64 o.k, .int .i64 o.a, .int .i64 o.n, .int .i64 o.d, .int .i64 o.f] 37) = w1 at *
  generalize hwc : w.heap.size = c at *
  have HWC := Aside0.mk hwc
  clear hw1 hwc
  have x1 := blk_cell hs.bx 1
  have a0 := hs.a0
  have HS := Aside0.mk hs
  clear h0 h2 hs
  go_quiet (first | (go_at_call 30; refine Calls.quiet_of_same (place1 o.a hp _)))
  have hs := HS.out.drewN nq
  generalize w1.drewN nq = w2 at *
  clear a0 x1 HS
  have x1 := blk_cell hs.bx 1
  have a2 : w2.cell? ⟨m, 3, none⟩ = some (.pointer (some ⟨x.k, 0, none⟩)) := hs.a2
  have HS := Aside0.mk hs
  clear hs
  go_wp2_with fail
  go_quiet (first | (go_at_call 30; refine Calls.quiet_of_same (place1 o.a hp _)))
  have hs := HS.out.drewN nq
  generalize w2.drewN nq = w3 at *
  clear a2 x1 HS
  have x0 := blk_cell hs.bx 0
  have HS := Aside0.mk hs
  clear hs
  have x2 := blk_cell HS.out.bx 2
  have x3 := blk_cell HS.out.bx 3
  have x4 := blk_cell HS.out.bx 4
  have HQ := Aside0.mk (HST.out.lk.fail (o.d, o.f) o.n)
  have z1 : ((failF x.t x.b x.m x.F (o.d, o.f) o.n).2.1 == (failF x.t x.b x.m x.F (o.d, o.f) o.n).2.1) = true := by simp
  have z2 : ((failF x.t x.b x.m x.F (o.d, o.f) o.n).2.2 == (failF x.t x.b x.m x.F (o.d, o.f) o.n).2.2) = true := by simp
  go_wp2_with (first
    | (go_at_call 15; (with_reducible refine (fail_calls x.g x.r x.t x.b x.m HST.out.ok x.F HST.out.good (o.d, o.f) hoi o.n _ HS.out.inn.u).mono ?_); rintro e w4 ⟨rfl, hu, hb⟩; have HO := Aside0.mk (HS.out.own HST.out hu hb); clear hu hb HS x0 x2 x3 x4; have x2 := blk_cell HO.out.bx 2; have x3 := blk_cell HO.out.bx 3; have x4 := blk_cell HO.out.bx 4)
    | (go_at_call 31; (with_reducible refine (rfail_calls B x.k x.A x.cap x.t x.b x.m x.L (o.d, o.f) o.n _ HO.out.inn.v (Nat.le_trans HB.out (by have := HO.out.fr.size; have := HWC.out; omega)) HL.out HST.out.ok (lk_le HST.out.lk _)).mono ?_); rintro e w5 ⟨rfl, A', cap', hv, hf, hr⟩; rw [← HQ.out.1]; have HV := Aside0.mk hv; have HF := Aside0.mk hf; have HR := Aside0.mk hr; clear hv hf hr x2 x3 x4)
    | (go_at_call 14; refine (num_calls _ _).mono ?_; rintro e w' ⟨rfl, rfl⟩))
  go_ret
  exact ⟨rfl, HO.out.done HST.out ⟨rfl, rfl, rfl, rfl, rfl, rfl, rfl, rfl⟩ (failF_good x.t x.b x.m HST.out.ok x.F HST.out.good (o.d, o.f) o.n) HV.out HF.out (HR.out.imp id .inr) HQ.out.2 (failR_len _ _ _ _ _ _)⟩

set_option maxHeartbeats 4000000 in
set_option maxRecDepth 100000 in
theorem bplaysn_fail1 (m : Nat) (o : Op5) (w : World) (hp : plc o.a = 1) (k5 : (o.k == 5) = true)
    (h0 : w.cell? ⟨m, 1, none⟩ = some (.pointer none)) (h2 : w.cell? ⟨m, 3, none⟩ = some (.pointer none)) :
    Calls Try.prog 11 #[.pointer (some ⟨m, 0, none⟩), .agg #[.int .i64 o.k, .int .i64 o.a, .int .i64 o.n, .int .i64 o.d, .int .i64 o.f]] w fun e w' => e = .returned (.bool true) ∧ Below w.heap.size w w' := by
  have hs := PZ.start (ix := 1) (o := o) h0 h2
  go_enter Try.func11, Try.ntmps11
  go_wp2_with fail
  generalize hw1 : w.alloc (.cells #[.int .i64 o.k, .int .i64 o.a, .int .i64 o.n, .int .i64 o.d, .int .i64 o.f] 37) = w1 at *
  generalize hwc : w.heap.size = c at *
  have HWC := Aside0.mk hwc
  clear hw1 hwc
  have x1 := blk_cell hs.bx 1
  have a0 := hs.a0
  have HS := Aside0.mk hs
  clear h0 h2 hs
  go_quiet (first | (go_at_call 30; refine Calls.quiet_of_same (place1 o.a hp _)))
  have hs := HS.out.drewN nq
  generalize w1.drewN nq = w2 at *
  clear a0 x1 HS
  have x1 := blk_cell hs.bx 1
  have a2 : w2.cell? ⟨m, 3, none⟩ = some (.pointer none) := hs.a2
  have HS := Aside0.mk hs
  clear hs
  go_wp2_with fail
  go_quiet (first | (go_at_call 30; refine Calls.quiet_of_same (place1 o.a hp _)))
  have hs := HS.out.drewN nq
  generalize w2.drewN nq = w3 at *
  clear a2 x1 HS
  have x0 := blk_cell hs.bx 0
  have HS := Aside0.mk hs
  clear hs
  have x2 := blk_cell HS.out.bx 2
  have x3 := blk_cell HS.out.bx 3
  have x4 := blk_cell HS.out.bx 4
  go_wp2_with (first
    | (go_at_call 15; (with_reducible refine (fail_nil (o.d, o.f) o.n _).mono ?_); rintro e w4 ⟨rfl, hb⟩; have HO := Aside0.mk (HS.out.grow hb); clear hb HS x0 x2 x3 x4; have x2 := blk_cell HO.out.bx 2; have x3 := blk_cell HO.out.bx 3; have x4 := blk_cell HO.out.bx 4)
    | (go_at_call 31; (with_reducible refine (rfail_nil (o.d, o.f) o.n _).mono ?_); rintro e w5 ⟨rfl, hb⟩; have HE := Aside0.mk (HO.out.grow hb); clear hb x2 x3 x4)
    | (go_at_call 14; refine (num_calls _ _).mono ?_; rintro e w' ⟨rfl, rfl⟩))
  go_ret
  exact ⟨rfl, by have := HE.out.bu; have e := HWC.out; exact this⟩

set_option maxHeartbeats 4000000 in
set_option maxRecDepth 100000 in
theorem bplays_left1 (B m : Nat) (x : Pb) (o : Op5) (hoi : okI (o.d, o.f)) (w : World) (hi : x.In B w) (s : x.St B) (hB : B ≤ w.heap.size) (hL : x.L.length + 1 ≤ 8796093022208) (hp : plc o.a = 1) (k5 : (o.k == 5) = false) (k6 : (o.k == 6) = true)
    (h0 : w.cell? ⟨m, 1, none⟩ = some (.pointer (some ⟨x.g, 0, none⟩))) (h2 : w.cell? ⟨m, 3, none⟩ = some (.pointer (some ⟨x.k, 0, none⟩))) (hm : ¬ x.S m) :
    Calls Try.prog 11 #[.pointer (some ⟨m, 0, none⟩), .agg #[.int .i64 o.k, .int .i64 o.a, .int .i64 o.n, .int .i64 o.d, .int .i64 o.f]] w (BPlayed B x w) := by
  have hs := PB.start (ix := 1) (o := o) hi h0 h2 hm
  have HST := Aside0.mk s
  have HB := Aside0.mk hB
  have HL := Aside0.mk hL
  have HM := Aside0.mk hm
  clear hi s hB hL hm
  go_enter Try.func11, Try.ntmps11
  go_wp2_with fail
  generalize hw1 : w.alloc (.cells #[.int .i64 o.k, .int .i64 o.a, .int .i64 o.n, .int .i64 o.d, .int .i64 o.f] 37) = w1 at *
  generalize hwc : w.heap.size = c at *
  have HWC := Aside0.mk hwc
  clear hw1 hwc
  have x1 := blk_cell hs.bx 1
  have a0 := hs.a0
  have HS := Aside0.mk hs
  clear h0 h2 hs
  go_quiet (first | (go_at_call 30; refine Calls.quiet_of_same (place1 o.a hp _)))
  have hs := HS.out.drewN nq
  generalize w1.drewN nq = w2 at *
  clear a0 x1 HS
  have x1 := blk_cell hs.bx 1
  have a2 : w2.cell? ⟨m, 3, none⟩ = some (.pointer (some ⟨x.k, 0, none⟩)) := hs.a2
  have HS := Aside0.mk hs
  clear hs
  go_wp2_with fail
  go_quiet (first | (go_at_call 30; refine Calls.quiet_of_same (place1 o.a hp _)))
  have hs := HS.out.drewN nq
  generalize w2.drewN nq = w3 at *
  clear a2 x1 HS
  have x0 := blk_cell hs.bx 0
  have HS := Aside0.mk hs
  clear hs
  have HQ := Aside0.mk (HST.out.lk.getD0 (o.d, o.f))
  have ht64 := Aside0.mk (And.intro HST.out.ok.1 HST.out.ok.2.1)
  obtain ⟨v, hv⟩ : ∃ v : Int, x.t - (cnt (o.d, o.f) x.L : Int) = v := ⟨_, rfl⟩
  have HV := Aside0.mk hv
  clear hv
  have z1 : (v == v) = true := by simp
  go_wp2_with fail
  refine wp_region_plan (quiets [0, 1, 2, 4, 5, 6] ++ ((true, 3) :: ((true, 7) :: (quiets [8, 9] ++ [])))) (fun W => W.heap[c]? = some (.cells #[.int .i64 o.k, .int .i64 o.a, .int .i64 o.n, .int .i64 o.d, .int .i64 o.f] 37 (0, 0))) (by kernel_rfl) (by kernel_rfl) HS.out.bx ?_
  clear x0
  apply mix_quiets [0, 1, 2, 4, 5, 6] _ (by kernel_rfl) HS.out.bx
  case h =>
    intro W hW
    have e3 := blk_cell hW 3
    have e4 := blk_cell hW 4
    clear hW
    refine still_of_quiet _ _ ?_
    simp only [segOps, List.getElem?_toArray, List.getElem?_cons_zero, List.getElem?_cons_succ, Option.toList_some, List.nil_append, List.cons_append, List.append_nil]
    repeat (go_big_quiet_step (fail))
    exact wpQuiet_nil rfl
  refine mix_writes 3 ⟨some 65, _, _, _, _, _⟩ rfl _ ?_
  change wpList _ _ _ _ _ w3.drew
  have H3 := Aside0.mk HS.out.drew
  clear HS
  generalize w3.drew = w4 at *
  go_wp2_with (go_at_call 16; (with_reducible refine (left_calls x.g x.r x.t x.b x.m x.F (o.d, o.f) hoi _ H3.out.inn.u HST.out.good ht64.out).mono ?_); rintro e w5 ⟨rfl, hu, hb⟩; rw [HQ.out, HV.out]; have HO := Aside0.mk (H3.out.own HST.out hu hb); clear hu hb H3)
  refine ⟨HO.out.bx, ?_⟩
  refine mix_writes 7 ⟨some 69, _, _, _, _, _⟩ rfl _ ?_
  go_wp2_with (go_at_call 32; (with_reducible refine (rleft_calls B x.k x.A x.cap x.t x.b x.m x.L (o.d, o.f) _ HO.out.inn.v (by have := HL.out; omega) ht64.out (lk_le HST.out.lk _)).mono ?_); rintro e w6 ⟨rfl, hb⟩; rw [HV.out]; have HBW := Aside0.mk hb; have HX := Aside0.mk (blk_below HO.out.bx hb); clear hb)
  refine ⟨HX.out, ?_⟩
  apply mix_quiets [8, 9] _ (by kernel_rfl) HX.out
  case h =>
    intro W hW
    clear hW
    refine still_of_quiet _ _ ?_
    simp only [segOps, List.getElem?_toArray, List.getElem?_cons_zero, List.getElem?_cons_succ, Option.toList_some, List.nil_append, List.cons_append, List.append_nil]
    repeat (go_big_quiet_step (fail))
    exact wpQuiet_nil rfl
  refine mix_done ?_
  go_wp2_with fail
  go_ret
  exact ⟨rfl, HO.out.done HST.out ⟨rfl, rfl, rfl, rfl, rfl, rfl, rfl, rfl⟩ HST.out.good (HO.out.inn.v.below HBW.out) (FrV.of_below HBW.out) (.inl rfl) HST.out.lk (by show x.L.length ≤ x.L.length + 1; omega)⟩

set_option maxHeartbeats 4000000 in
set_option maxRecDepth 100000 in
theorem bplaysn_left1 (m : Nat) (o : Op5) (w : World) (hp : plc o.a = 1) (k5 : (o.k == 5) = false) (k6 : (o.k == 6) = true)
    (h0 : w.cell? ⟨m, 1, none⟩ = some (.pointer none)) (h2 : w.cell? ⟨m, 3, none⟩ = some (.pointer none)) :
    Calls Try.prog 11 #[.pointer (some ⟨m, 0, none⟩), .agg #[.int .i64 o.k, .int .i64 o.a, .int .i64 o.n, .int .i64 o.d, .int .i64 o.f]] w fun e w' => e = .returned (.bool true) ∧ Below w.heap.size w w' := by
  have hs := PZ.start (ix := 1) (o := o) h0 h2
  go_enter Try.func11, Try.ntmps11
  go_wp2_with fail
  generalize hw1 : w.alloc (.cells #[.int .i64 o.k, .int .i64 o.a, .int .i64 o.n, .int .i64 o.d, .int .i64 o.f] 37) = w1 at *
  generalize hwc : w.heap.size = c at *
  have HWC := Aside0.mk hwc
  clear hw1 hwc
  have x1 := blk_cell hs.bx 1
  have a0 := hs.a0
  have HS := Aside0.mk hs
  clear h0 h2 hs
  go_quiet (first | (go_at_call 30; refine Calls.quiet_of_same (place1 o.a hp _)))
  have hs := HS.out.drewN nq
  generalize w1.drewN nq = w2 at *
  clear a0 x1 HS
  have x1 := blk_cell hs.bx 1
  have a2 : w2.cell? ⟨m, 3, none⟩ = some (.pointer none) := hs.a2
  have HS := Aside0.mk hs
  clear hs
  go_wp2_with fail
  go_quiet (first | (go_at_call 30; refine Calls.quiet_of_same (place1 o.a hp _)))
  have hs := HS.out.drewN nq
  generalize w2.drewN nq = w3 at *
  clear a2 x1 HS
  have x0 := blk_cell hs.bx 0
  have HS := Aside0.mk hs
  clear hs
  go_wp2_with fail
  refine wp_region_plan (quiets [0, 1, 2, 4, 5, 6] ++ ((true, 3) :: ((true, 7) :: (quiets [8, 9] ++ [])))) (fun W => W.heap[c]? = some (.cells #[.int .i64 o.k, .int .i64 o.a, .int .i64 o.n, .int .i64 o.d, .int .i64 o.f] 37 (0, 0))) (by kernel_rfl) (by kernel_rfl) HS.out.bx ?_
  clear x0
  apply mix_quiets [0, 1, 2, 4, 5, 6] _ (by kernel_rfl) HS.out.bx
  case h =>
    intro W hW
    have e3 := blk_cell hW 3
    have e4 := blk_cell hW 4
    clear hW
    refine still_of_quiet _ _ ?_
    simp only [segOps, List.getElem?_toArray, List.getElem?_cons_zero, List.getElem?_cons_succ, Option.toList_some, List.nil_append, List.cons_append, List.append_nil]
    repeat (go_big_quiet_step (fail))
    exact wpQuiet_nil rfl
  refine mix_writes 3 ⟨some 65, _, _, _, _, _⟩ rfl _ ?_
  change wpList _ _ _ _ _ w3.drew
  have H3 := Aside0.mk HS.out.drew
  clear HS
  generalize w3.drew = w4 at *
  go_wp2_with (go_at_call 16; (with_reducible refine (left_nil (o.d, o.f) _).mono ?_); rintro e w5 ⟨rfl, hb⟩; have HO := Aside0.mk (H3.out.grow hb); clear hb H3)
  refine ⟨HO.out.bx, ?_⟩
  refine mix_writes 7 ⟨some 69, _, _, _, _, _⟩ rfl _ ?_
  go_wp2_with (go_at_call 32; (with_reducible refine (rleft_nil (o.d, o.f) _).mono ?_); rintro e w6 ⟨rfl, hb⟩; have HE := Aside0.mk (HO.out.grow hb); clear hb HO)
  refine ⟨HE.out.bx, ?_⟩
  apply mix_quiets [8, 9] _ (by kernel_rfl) HE.out.bx
  case h =>
    intro W hW
    clear hW
    refine still_of_quiet _ _ ?_
    simp only [segOps, List.getElem?_toArray, List.getElem?_cons_zero, List.getElem?_cons_succ, Option.toList_some, List.nil_append, List.cons_append, List.append_nil]
    repeat (go_big_quiet_step (fail))
    exact wpQuiet_nil rfl
  refine mix_done ?_
  go_wp2_with fail
  go_ret
  exact ⟨rfl, HE.out.bu⟩

set_option maxHeartbeats 4000000 in
set_option maxRecDepth 100000 in
theorem bplays_clear1 (B m : Nat) (x : Pb) (o : Op5) (hoi : okI (o.d, o.f)) (w : World) (hi : x.In B w) (s : x.St B) (hB : B ≤ w.heap.size) (hL : x.L.length + 1 ≤ 8796093022208) (hp : plc o.a = 1) (k5 : (o.k == 5) = false) (k6 : (o.k == 6) = false) (k7 : (o.k == 7) = true)
    (h0 : w.cell? ⟨m, 1, none⟩ = some (.pointer (some ⟨x.g, 0, none⟩))) (h2 : w.cell? ⟨m, 3, none⟩ = some (.pointer (some ⟨x.k, 0, none⟩))) (hm : ¬ x.S m) :
    Calls Try.prog 11 #[.pointer (some ⟨m, 0, none⟩), .agg #[.int .i64 o.k, .int .i64 o.a, .int .i64 o.n, .int .i64 o.d, .int .i64 o.f]] w (BPlayed B x w) := by
  have hs := PB.start (ix := 1) (o := o) hi h0 h2 hm
  have HST := Aside0.mk s
  have HB := Aside0.mk hB
  have HL := Aside0.mk hL
  have HM := Aside0.mk hm
  clear hi s hB hL hm
  go_enter Try.func11, Try.ntmps11
  go_wp2_with fail
  generalize hw1 : w.alloc (.cells #[.int .i64 o.k, .int .i64 o.a, .int .i64 o.n, .int .i64 o.d, .int .i64 o.f] 37) = w1 at *
  generalize hwc : w.heap.size = c at *
  have HWC := Aside0.mk hwc
  clear hw1 hwc
  have x1 := blk_cell hs.bx 1
  have a0 := hs.a0
  have HS := Aside0.mk hs
  clear h0 h2 hs
  go_quiet (first | (go_at_call 30; refine Calls.quiet_of_same (place1 o.a hp _)))
  have hs := HS.out.drewN nq
  generalize w1.drewN nq = w2 at *
  clear a0 x1 HS
  have x1 := blk_cell hs.bx 1
  have a2 : w2.cell? ⟨m, 3, none⟩ = some (.pointer (some ⟨x.k, 0, none⟩)) := hs.a2
  have HS := Aside0.mk hs
  clear hs
  go_wp2_with fail
  go_quiet (first | (go_at_call 30; refine Calls.quiet_of_same (place1 o.a hp _)))
  have hs := HS.out.drewN nq
  generalize w2.drewN nq = w3 at *
  clear a2 x1 HS
  have x0 := blk_cell hs.bx 0
  have HS := Aside0.mk hs
  clear hs
  have x3 := blk_cell HS.out.bx 3
  have x4 := blk_cell HS.out.bx 4
  have ht0 := Aside0.mk (show 0 ≤ x.t by have := HST.out.ok.1; omega)
  go_wp2_with (first
    | (go_at_call 17; (with_reducible refine (clear_calls x.g x.r x.t x.b x.m x.F (o.d, o.f) hoi _ HS.out.inn.u).mono ?_); rintro e w4 ⟨rfl, hu, hb⟩; have HO := Aside0.mk (HS.out.own HST.out hu hb); clear hu hb HS x0 x3 x4; have x3 := blk_cell HO.out.bx 3; have x4 := blk_cell HO.out.bx 4)
    | (go_at_call 33; (with_reducible refine (rclear_calls B x.k x.A x.cap x.t x.b x.m x.L (o.d, o.f) _ HO.out.inn.v (Nat.le_trans HB.out (by have := HO.out.fr.size; have := HWC.out; omega)) HL.out).mono ?_); rintro e w5 ⟨rfl, A', cap', hv, hf, hr⟩; have HV := Aside0.mk hv; have HF := Aside0.mk hf; have HR := Aside0.mk hr; clear hv hf hr x3 x4)
    | (go_at_call 14; refine (num_calls _ _).mono ?_; rintro e w' ⟨rfl, rfl⟩))
  go_ret
  exact ⟨rfl, HO.out.done HST.out ⟨rfl, rfl, rfl, rfl, rfl, rfl, rfl, rfl⟩ (goodF_drop HST.out.good (o.d, o.f)) HV.out HF.out HR.out (HST.out.lk.drop ht0.out (o.d, o.f)) (by have := rem_length (o.d, o.f) x.L; show (rem (o.d, o.f) x.L).length ≤ x.L.length + 1; omega)⟩

set_option maxHeartbeats 4000000 in
set_option maxRecDepth 100000 in
theorem bplaysn_clear1 (m : Nat) (o : Op5) (w : World) (hp : plc o.a = 1) (k5 : (o.k == 5) = false) (k6 : (o.k == 6) = false) (k7 : (o.k == 7) = true)
    (h0 : w.cell? ⟨m, 1, none⟩ = some (.pointer none)) (h2 : w.cell? ⟨m, 3, none⟩ = some (.pointer none)) :
    Calls Try.prog 11 #[.pointer (some ⟨m, 0, none⟩), .agg #[.int .i64 o.k, .int .i64 o.a, .int .i64 o.n, .int .i64 o.d, .int .i64 o.f]] w fun e w' => e = .returned (.bool true) ∧ Below w.heap.size w w' := by
  have hs := PZ.start (ix := 1) (o := o) h0 h2
  go_enter Try.func11, Try.ntmps11
  go_wp2_with fail
  generalize hw1 : w.alloc (.cells #[.int .i64 o.k, .int .i64 o.a, .int .i64 o.n, .int .i64 o.d, .int .i64 o.f] 37) = w1 at *
  generalize hwc : w.heap.size = c at *
  have HWC := Aside0.mk hwc
  clear hw1 hwc
  have x1 := blk_cell hs.bx 1
  have a0 := hs.a0
  have HS := Aside0.mk hs
  clear h0 h2 hs
  go_quiet (first | (go_at_call 30; refine Calls.quiet_of_same (place1 o.a hp _)))
  have hs := HS.out.drewN nq
  generalize w1.drewN nq = w2 at *
  clear a0 x1 HS
  have x1 := blk_cell hs.bx 1
  have a2 : w2.cell? ⟨m, 3, none⟩ = some (.pointer none) := hs.a2
  have HS := Aside0.mk hs
  clear hs
  go_wp2_with fail
  go_quiet (first | (go_at_call 30; refine Calls.quiet_of_same (place1 o.a hp _)))
  have hs := HS.out.drewN nq
  generalize w2.drewN nq = w3 at *
  clear a2 x1 HS
  have x0 := blk_cell hs.bx 0
  have HS := Aside0.mk hs
  clear hs
  have x2 := blk_cell HS.out.bx 2
  have x3 := blk_cell HS.out.bx 3
  have x4 := blk_cell HS.out.bx 4
  go_wp2_with (first
    | (go_at_call 17; (with_reducible refine (clear_nil (o.d, o.f) _).mono ?_); rintro e w4 ⟨rfl, hb⟩; have HO := Aside0.mk (HS.out.grow hb); clear hb HS x0 x2 x3 x4; have x2 := blk_cell HO.out.bx 2; have x3 := blk_cell HO.out.bx 3; have x4 := blk_cell HO.out.bx 4)
    | (go_at_call 33; (with_reducible refine (rclear_nil (o.d, o.f) _).mono ?_); rintro e w5 ⟨rfl, hb⟩; have HE := Aside0.mk (HO.out.grow hb); clear hb x2 x3 x4)
    | (go_at_call 14; refine (num_calls _ _).mono ?_; rintro e w' ⟨rfl, rfl⟩))
  go_ret
  exact ⟨rfl, by have := HE.out.bu; have e := HWC.out; exact this⟩

set_option maxHeartbeats 4000000 in
set_option maxRecDepth 100000 in
theorem bplays_idle1 (B m : Nat) (x : Pb) (o : Op5) (hoi : okI (o.d, o.f)) (w : World) (hi : x.In B w) (s : x.St B) (hB : B ≤ w.heap.size) (hL : x.L.length + 1 ≤ 8796093022208) (hp : plc o.a = 1) (k5 : (o.k == 5) = false) (k6 : (o.k == 6) = false) (k7 : (o.k == 7) = false)
    (h0 : w.cell? ⟨m, 1, none⟩ = some (.pointer (some ⟨x.g, 0, none⟩))) (h2 : w.cell? ⟨m, 3, none⟩ = some (.pointer (some ⟨x.k, 0, none⟩))) (hm : ¬ x.S m) :
    Calls Try.prog 11 #[.pointer (some ⟨m, 0, none⟩), .agg #[.int .i64 o.k, .int .i64 o.a, .int .i64 o.n, .int .i64 o.d, .int .i64 o.f]] w (BPlayed B x w) := by
  have hs := PB.start (ix := 1) (o := o) hi h0 h2 hm
  have HST := Aside0.mk s
  have HB := Aside0.mk hB
  have HL := Aside0.mk hL
  have HM := Aside0.mk hm
  clear hi s hB hL hm
  go_enter Try.func11, Try.ntmps11
  go_wp2_with fail
  generalize hw1 : w.alloc (.cells #[.int .i64 o.k, .int .i64 o.a, .int .i64 o.n, .int .i64 o.d, .int .i64 o.f] 37) = w1 at *
  generalize hwc : w.heap.size = c at *
  have HWC := Aside0.mk hwc
  clear hw1 hwc
  have x1 := blk_cell hs.bx 1
  have a0 := hs.a0
  have HS := Aside0.mk hs
  clear h0 h2 hs
  go_quiet (first | (go_at_call 30; refine Calls.quiet_of_same (place1 o.a hp _)))
  have hs := HS.out.drewN nq
  generalize w1.drewN nq = w2 at *
  clear a0 x1 HS
  have x1 := blk_cell hs.bx 1
  have a2 : w2.cell? ⟨m, 3, none⟩ = some (.pointer (some ⟨x.k, 0, none⟩)) := hs.a2
  have HS := Aside0.mk hs
  clear hs
  go_wp2_with fail
  go_quiet (first | (go_at_call 30; refine Calls.quiet_of_same (place1 o.a hp _)))
  have hs := HS.out.drewN nq
  generalize w2.drewN nq = w3 at *
  clear a2 x1 HS
  have x0 := blk_cell hs.bx 0
  have HS := Aside0.mk hs
  clear hs
  go_wp2_with fail
  go_ret
  exact ⟨rfl, HS.out.done HST.out ⟨rfl, rfl, rfl, rfl, rfl, rfl, rfl, rfl⟩ HST.out.good HS.out.inn.v (FrV.of_below (Below.refl _ _)) (.inl rfl) HST.out.lk (by omega)⟩

set_option maxHeartbeats 4000000 in
set_option maxRecDepth 100000 in
theorem bplaysn_idle1 (m : Nat) (o : Op5) (w : World) (hp : plc o.a = 1) (k5 : (o.k == 5) = false) (k6 : (o.k == 6) = false) (k7 : (o.k == 7) = false)
    (h0 : w.cell? ⟨m, 1, none⟩ = some (.pointer none)) (h2 : w.cell? ⟨m, 3, none⟩ = some (.pointer none)) :
    Calls Try.prog 11 #[.pointer (some ⟨m, 0, none⟩), .agg #[.int .i64 o.k, .int .i64 o.a, .int .i64 o.n, .int .i64 o.d, .int .i64 o.f]] w fun e w' => e = .returned (.bool true) ∧ Below w.heap.size w w' := by
  have hs := PZ.start (ix := 1) (o := o) h0 h2
  go_enter Try.func11, Try.ntmps11
  go_wp2_with fail
  generalize hw1 : w.alloc (.cells #[.int .i64 o.k, .int .i64 o.a, .int .i64 o.n, .int .i64 o.d, .int .i64 o.f] 37) = w1 at *
  generalize hwc : w.heap.size = c at *
  have HWC := Aside0.mk hwc
  clear hw1 hwc
  have x1 := blk_cell hs.bx 1
  have a0 := hs.a0
  have HS := Aside0.mk hs
  clear h0 h2 hs
  go_quiet (first | (go_at_call 30; refine Calls.quiet_of_same (place1 o.a hp _)))
  have hs := HS.out.drewN nq
  generalize w1.drewN nq = w2 at *
  clear a0 x1 HS
  have x1 := blk_cell hs.bx 1
  have a2 : w2.cell? ⟨m, 3, none⟩ = some (.pointer none) := hs.a2
  have HS := Aside0.mk hs
  clear hs
  go_wp2_with fail
  go_quiet (first | (go_at_call 30; refine Calls.quiet_of_same (place1 o.a hp _)))
  have hs := HS.out.drewN nq
  generalize w2.drewN nq = w3 at *
  clear a2 x1 HS
  have x0 := blk_cell hs.bx 0
  have HS := Aside0.mk hs
  clear hs
  go_wp2_with fail
  go_ret
  exact ⟨rfl, HS.out.bu⟩

end Go.Proofs.Ythajekcjgkidhaa.Q
