/- Contracts of the document's Send, Deliver, Drop, Copy, Cut, Heal (printed by gen_b8.py). Condition: both mails are as one. -/
import Derived.Test.YtadbcekglcmccaaProg
import Derived.Below
import Derived.Deep.Draws
import Derived.Deep.AppendLies
import Derived.Maps.AppendAt
import Derived.OwnWalk
import Derived.Laws.BytesArg
import Derived.Laws.MakeOwn
import Derived.Laws.OwnMore
import Derived.Deep.OwnRows
import Derived.Tactics
import Derived.Lib.ConvBytes
import Derived.Laws.Slices
import Derived.WalkKit
import Derived.KernelRfl
import Derived.RowKit3
import Derived.Deep.LoopGhost
import Derived.Deep.QuietTactic
import Derived.BigQuiet
import Derived.WideLaws
import Derived.Deep.DeepCutAuto
import Derived.Deep.CutBlock
import Derived.Deep.RegionHeld3
import Derived.Laws.Rows
import Derived.Lib.AppendStr
import Derived.ArgAppend
import Derived.Laws.IdiomCopy
import Derived.OrdersHeld
import Derived.Laws.BitsLemmas
import Derived.RowKit
import Derived.Test.YtadbcekglcmccaaWWords
import Derived.Test.YtadbcekglcmccaaWLast
import Derived.Test.YtadbcekglcmccaaWTab
import Derived.Test.YtadbcekglcmccaaWFour
import Derived.Test.YtadbcekglcmccaaWQPut
import Derived.Test.YtadbcekglcmccaaWApart
import Derived.Test.YtadbcekglcmccaaWArr
import Derived.Test.YtadbcekglcmccaaWZeros
import Derived.Test.YtadbcekglcmccaaWFoot
import Derived.Test.YtadbcekglcmccaaWKept
import Derived.Test.YtadbcekglcmccaaWShare
import Derived.Test.YtadbcekglcmccaaWN
import Derived.Test.YtadbcekglcmccaaWFootNe
import Derived.Test.YtadbcekglcmccaaWAt
import Derived.Test.YtadbcekglcmccaaWEqStruct
import Derived.Test.YtadbcekglcmccaaWRepsOne
import Derived.Test.YtadbcekglcmccaaWInv
import Derived.Test.YtadbcekglcmccaaWInvWords
import Derived.Test.YtadbcekglcmccaaWGuard
import Derived.Test.YtadbcekglcmccaaWNEv
import Derived.Test.YtadbcekglcmccaaWMore
import Derived.Test.YtadbcekglcmccaaB7
set_option linter.unusedVariables false
set_option linter.unusedSimpArgs false
namespace Go.Proofs.Ytadbcekglcmccaa.Q
open Go.RowKit Go.Proofs.YtadbcekglcmccaaW.PrintWords Go.Proofs.YtadbcekglcmccaaW.PrintLast Go.Proofs.YtadbcekglcmccaaW.PrintMore
open Go.FM Go.Plan

set_option maxHeartbeats 4000000 in
set_option maxRecDepth 100000 in
theorem rsend_arg (B : Nat) (r : Rm) (f t : Int) (s : ByteArray) (w : World) (h : r.In B w) (hc : (adB f && adB t) = false) :
    Calls Try.prog 39 #[.pointer (some ⟨r.m, 0, none⟩), .int .i64 f, .int .i64 t, .string s] w (RRes B r r.Ls r.Bs r.Ts (.tuple #[.int .i64 0, .int .i64 1]) w) := by
  have H := Aside0.mk h
  clear h
  by_cases k : adB f = true
  · have k2 : adB t = false := by simpa [k] using hc
    clear hc
    go_enter Try.func39, Try.ntmps39
    go_wp2_with (first
      | (go_at_call 55; (with_reducible refine (raddress_calls f _).mono ?_); rintro e w' ⟨rfl, rfl⟩; rw [k])
      | (go_at_call 55; (with_reducible refine (raddress_calls t _).mono ?_); rintro e w' ⟨rfl, rfl⟩; rw [k2]))
    go_ret2
    exact RRes.same rfl H.out (Below.refl _ _)
  · have k1 : adB f = false := by simpa using k
    clear hc k
    go_enter Try.func39, Try.ntmps39
    go_wp2_with (go_at_call 55; (with_reducible refine (raddress_calls f _).mono ?_); rintro e w' ⟨rfl, rfl⟩; rw [k1])
    go_ret2
    exact RRes.same rfl H.out (Below.refl _ _)

set_option maxHeartbeats 4000000 in
set_option maxRecDepth 100000 in
theorem rsend_cut (B : Nat) (r : Rm) (f t : Int) (s : ByteArray) (w : World) (h : r.In B w) (hT : r.Ts.length ≤ 2999999999999) (hf : adB f = true) (ht : adB t = true) (hc : cutT r.Ts f t = true) :
    Calls Try.prog 39 #[.pointer (some ⟨r.m, 0, none⟩), .int .i64 f, .int .i64 t, .string s] w (RRes B r r.Ls r.Bs r.Ts (.tuple #[.int .i64 0, .int .i64 132]) w) := by
  have H := Aside0.mk h
  have HT := Aside0.mk (show r.Ts.length ≤ 4611686018427387904 by omega)
  have HC := Aside0.mk hc
  clear h hT hc
  go_enter Try.func39, Try.ntmps39
  go_wp2_with (first
    | (go_at_call 55; (with_reducible refine (raddress_calls f _).mono ?_); rintro e w' ⟨rfl, rfl⟩; rw [hf])
    | (go_at_call 55; (with_reducible refine (raddress_calls t _).mono ?_); rintro e w' ⟨rfl, rfl⟩; rw [ht])
    | (go_at_call 56; (with_reducible refine (rcut_calls_ B r f t _ H.out HT.out).mono ?_); rintro e w2 ⟨rfl, hb⟩; rw [HC.out]; have HB := Aside0.mk hb; clear hb))
  go_ret2
  exact RRes.same rfl H.out HB.out

set_option maxHeartbeats 4000000 in
set_option maxRecDepth 100000 in
theorem rsend_full (B : Nat) (r : Rm) (f t : Int) (s : ByteArray) (w : World) (h : r.In B w) (hl : r.Bs.length = r.Ls.length) (hL : r.Ls.length ≤ 2999999999999) (hT : r.Ts.length ≤ 2999999999999) (hf : adB f = true) (ht : adB t = true) (hc : cutT r.Ts f t = false) (hx : r.lim ≤ ((leftL r.Ls r.Bs).length : Int)) :
    Calls Try.prog 39 #[.pointer (some ⟨r.m, 0, none⟩), .int .i64 f, .int .i64 t, .string s] w (RRes B r r.Ls r.Bs r.Ts (.tuple #[.int .i64 0, .int .i64 130]) w) := by
  have H := Aside0.mk h
  have HE := Aside0.mk hl
  have HL := Aside0.mk (show r.Ls.length ≤ 3000000000000 by omega)
  have HT := Aside0.mk (show r.Ts.length ≤ 4611686018427387904 by omega)
  have HC := Aside0.mk hc
  have b1 : decide (r.lim ≤ ((leftL r.Ls r.Bs).length : Int)) = true := decide_eq_true hx
  clear h hl hL hT hc hx
  go_enter Try.func39, Try.ntmps39
  go_wp2_with (first
    | (go_at_call 55; (with_reducible refine (raddress_calls f _).mono ?_); rintro e w' ⟨rfl, rfl⟩; rw [hf])
    | (go_at_call 55; (with_reducible refine (raddress_calls t _).mono ?_); rintro e w' ⟨rfl, rfl⟩; rw [ht])
    | (go_at_call 56; (with_reducible refine (rcut_calls_ B r f t _ H.out HT.out).mono ?_); rintro e w2 ⟨rfl, hb⟩; rw [HC.out]; have HB := Aside0.mk hb; have H2 := Aside0.mk (H.out.below hb); clear hb))
  refine wp_region_plan (quiets [0, 2, 3, 4, 5] ++ ((true, 1) :: (quiets [6] ++ []))) (fun W => r.In B W) (by kernel_rfl) (by kernel_rfl) (H2.out.below (below_drew _)) ?_
  apply mix_quiets [0, 2, 3, 4, 5] _ (by kernel_rfl) (H2.out.below (below_drew _))
  case h =>
    intro W hW
    have e0 := blk_cell hW.blk 0
    clear hW
    refine still_of_quiet _ _ ?_
    simp only [segOps, List.getElem?_toArray, List.getElem?_cons_zero, List.getElem?_cons_succ, Option.toList_some, List.nil_append, List.cons_append, List.append_nil]
    repeat (go_big_quiet_step (fail))
    exact wpQuiet_nil rfl
  refine mix_writes 1 ⟨some 25, _, _, _, _, _⟩ rfl _ ?_
  change wpList _ _ _ _ _ w2.drew
  go_wp2_with (go_at_call 45; (with_reducible refine (rcount_calls B r _ (H2.out.below (below_drew _)) HE.out HL.out).mono ?_); rintro e w5 ⟨rfl, hb⟩; have H5 := Aside0.mk ((H2.out.below (below_drew _)).below hb); have HB5 := Aside0.mk (below_step (below_drew w2) hb); clear hb)
  refine ⟨H5.out, ?_⟩
  apply mix_quiets [6] _ (by kernel_rfl) H5.out
  case h =>
    intro W hW
    clear hW
    refine still_of_quiet _ _ ?_
    simp only [segOps, List.getElem?_toArray, List.getElem?_cons_zero, List.getElem?_cons_succ, Option.toList_some, List.nil_append, List.cons_append, List.append_nil]
    repeat (go_big_quiet_step (fail))
    exact wpQuiet_nil rfl
  refine mix_done ?_
  go_wp2_with fail
  go_ret2
  exact RRes.same rfl H.out (below_step HB.out HB5.out)

set_option maxHeartbeats 4000000 in
set_option maxRecDepth 100000 in
theorem rsend_ok (B : Nat) (r : Rm) (f t : Int) (s : ByteArray) (w : World) (h : r.In B w) (hl : r.Bs.length = r.Ls.length) (hL : r.Ls.length ≤ 2999999999999) (hT : r.Ts.length ≤ 2999999999999) (hf : adB f = true) (ht : adB t = true) (hc : cutT r.Ts f t = false) (hB : B ≤ w.heap.size) (hx : ((leftL r.Ls r.Bs).length : Int) < r.lim) :
    Calls Try.prog 39 #[.pointer (some ⟨r.m, 0, none⟩), .int .i64 f, .int .i64 t, .string s] w (RRes B r (r.Ls ++ [⟨(r.Ls.length : Int) + 1, f, t, s⟩]) (r.Bs ++ [false]) r.Ts (.tuple #[.int .i64 ((r.Ls.length : Int) + 1), .int .i64 0]) w) := by
  have H := Aside0.mk h
  have HE := Aside0.mk hl
  have HL := Aside0.mk (show r.Ls.length ≤ 3000000000000 by omega)
  have HT := Aside0.mk (show r.Ts.length ≤ 4611686018427387904 by omega)
  have HC := Aside0.mk hc
  have b1 : decide (r.lim ≤ ((leftL r.Ls r.Bs).length : Int)) = false := decide_eq_false (by omega)
  have HBB := Aside0.mk hB
  clear h hl hL hT hc hx hB
  go_enter Try.func39, Try.ntmps39
  go_wp2_with (first
    | (go_at_call 55; (with_reducible refine (raddress_calls f _).mono ?_); rintro e w' ⟨rfl, rfl⟩; rw [hf])
    | (go_at_call 55; (with_reducible refine (raddress_calls t _).mono ?_); rintro e w' ⟨rfl, rfl⟩; rw [ht])
    | (go_at_call 56; (with_reducible refine (rcut_calls_ B r f t _ H.out HT.out).mono ?_); rintro e w2 ⟨rfl, hb⟩; rw [HC.out]; have HB := Aside0.mk hb; have H2 := Aside0.mk (H.out.below hb); clear hb))
  refine wp_region_plan (quiets [0, 2, 3, 4, 5] ++ ((true, 1) :: (quiets [6] ++ []))) (fun W => r.In B W) (by kernel_rfl) (by kernel_rfl) (H2.out.below (below_drew _)) ?_
  apply mix_quiets [0, 2, 3, 4, 5] _ (by kernel_rfl) (H2.out.below (below_drew _))
  case h =>
    intro W hW
    have e0 := blk_cell hW.blk 0
    clear hW
    refine still_of_quiet _ _ ?_
    simp only [segOps, List.getElem?_toArray, List.getElem?_cons_zero, List.getElem?_cons_succ, Option.toList_some, List.nil_append, List.cons_append, List.append_nil]
    repeat (go_big_quiet_step (fail))
    exact wpQuiet_nil rfl
  refine mix_writes 1 ⟨some 25, _, _, _, _, _⟩ rfl _ ?_
  change wpList _ _ _ _ _ w2.drew
  go_wp2_with (go_at_call 45; (with_reducible refine (rcount_calls B r _ (H2.out.below (below_drew _)) HE.out HL.out).mono ?_); rintro e w5 ⟨rfl, hb⟩; have H5 := Aside0.mk ((H2.out.below (below_drew _)).below hb); have HB5 := Aside0.mk (below_step (below_drew w2) hb); clear hb)
  refine ⟨H5.out, ?_⟩
  apply mix_quiets [6] _ (by kernel_rfl) H5.out
  case h =>
    intro W hW
    clear hW
    refine still_of_quiet _ _ ?_
    simp only [segOps, List.getElem?_toArray, List.getElem?_cons_zero, List.getElem?_cons_succ, Option.toList_some, List.nil_append, List.cons_append, List.append_nil]
    repeat (go_big_quiet_step (fail))
    exact wpQuiet_nil rfl
  refine mix_done ?_
  go_wp2_with (go_at_call 57; (with_reducible refine (rsets_calls B r f t s _ H5.out (Nat.le_trans HBB.out (below_step HB.out HB5.out).size) HE.out HL.out).mono ?_); rintro e w6 ⟨rfl, A6, c6, A7, c7, A8, c8, hd⟩; have HD := Aside0.mk (RDone.pre (below_step HB.out HB5.out) H.out hd); clear hd)
  go_ret2
  exact ⟨rfl, _, _, _, _, _, _, HD.out⟩

theorem rsend_calls (B n : Nat) (x : Pm) (r : Rm) (f t : Int) (s : ByteArray) (w : World) (h : r.In B w) (hB : B ≤ w.heap.size) (hj : J n x r) (hn : n ≤ 2999999999999) :
    Calls Try.prog 39 #[.pointer (some ⟨r.m, 0, none⟩), .int .i64 f, .int .i64 t, .string s] w (RRes B r (rsLs x r f t s) (rsBs x r f t) r.Ts (.tuple #[.int .i64 (if sendB x f t = 0 then x.sent + 1 else 0), .int .i64 (sendB x f t)]) w) := by
  have hL := Nat.le_trans hj.le hn
  have hT := Nat.le_trans hj.ts hn
  have hlen : ((leftL r.Ls r.Bs).length : Int) = (x.L.length : Int) := by rw [hj.left]
  unfold rsLs rsBs
  by_cases h1 : (adB f && adB t) = false
  · have e : sendB x f t = 1 := by unfold sendB; rw [if_pos h1]
    rw [e]
    exact rsend_arg B r f t s w h h1
  have hf : adB f = true := by cases k : adB f with | true => rfl | false => exact absurd (by rw [k]; rfl) h1
  have ht : adB t = true := by cases k : adB t with | true => rfl | false => exact absurd (by rw [k]; exact Bool.and_false _) h1
  by_cases h2 : 0 < cutN x.F f t
  · have e : sendB x f t = 132 := by unfold sendB; rw [if_neg h1, if_pos h2]
    rw [e]
    exact rsend_cut B r f t s w h hT hf ht (by rw [hj.cuts]; exact decide_eq_true h2)
  have hc : cutT r.Ts f t = false := by rw [hj.cuts]; exact decide_eq_false h2
  by_cases h3 : x.lim ≤ (x.L.length : Int)
  · have e : sendB x f t = 130 := by unfold sendB; rw [if_neg h1, if_neg h2, if_pos h3]
    rw [e]
    exact rsend_full B r f t s w h hj.len hL hT hf ht hc (by rw [hlen, ← hj.lim]; exact h3)
  · have e : sendB x f t = 0 := by unfold sendB; rw [if_neg h1, if_neg h2, if_neg h3]
    rw [e, hj.sent]
    exact rsend_ok B r f t s w h hj.len hL hT hf ht hc hB (by rw [hlen, ← hj.lim]; omega)

set_option maxHeartbeats 4000000 in
set_option maxRecDepth 100000 in
theorem rdeliver_no (B : Nat) (r : Rm) (i : Int) (w : World) (h : r.In B w) (hl : r.Bs.length = r.Ls.length) (hL : r.Ls.length ≤ 2999999999999) (hT : r.Ts.length ≤ 2999999999999) (hi : i ≤ 9223372036854775807) (hp : atV r.Bs i = -1) :
    Calls Try.prog 40 #[.pointer (some ⟨r.m, 0, none⟩), .int .i64 i] w (RRes B r r.Ls r.Bs r.Ts (.tuple #[(.agg #[.int .i64 0, .int .i64 0, .int .i64 0, .string ⟨#[]⟩]), .int .i64 131]) w) := by
  have H := Aside0.mk h
  have HE := Aside0.mk hl
  have HL := Aside0.mk (show r.Ls.length ≤ 3000000000000 by omega)
  have HT := Aside0.mk (show r.Ts.length ≤ 4611686018427387904 by omega)
  have HI := Aside0.mk hi
  have HP := Aside0.mk hp
  have H1 := Aside0.mk (h.below (below2a w O0))
  have HX := Aside0.mk (blk_new w O0)
  clear h hl hL hT hi hp
  go_enter Try.func40, Try.ntmps40
  go_wp2_with (go_at_call 58; (with_reducible refine (rat_calls B r i _ H1.out HE.out HL.out HI.out).mono ?_); rintro e w2 ⟨rfl, rfl⟩; rw [HP.out]; have y0 := blk_cell HX.out 0; have y1 := blk_cell HX.out 1; have y2 := blk_cell HX.out 2; have y3 := blk_cell HX.out 3; have f0 := blk_frozen HX.out 0; have f1 := blk_frozen HX.out 1; have f2 := blk_frozen HX.out 2; have f3 := blk_frozen HX.out 3)
  exact bodyPost_ret (v := .tuple #[(.agg #[.int .i64 0, .int .i64 0, .int .i64 0, .string ⟨#[]⟩]), .int .i64 131]) (by simp [results, Try.results40, go_sem]) rfl (RRes.same rfl H.out (below2a w _))

theorem RDone.only {w W W' : World} {B c : Nat} {r r' : Rm} (k : RDone w W B r r') (h : r.In B w) (hs : ∀ i, r'.S i → r.S i) (ho : OnlyB W W' c) (hc : w.heap.size ≤ c) : RDone w W' B r r' := by
  have hne : ∀ i, r'.S i → i ≠ c := fun i hi e => by have := h.lt i (hs i hi); omega
  exact ⟨k.inn.keep fun i hi => ho.block i (hne i hi), ⟨ho.os.trans k.fr.os, ho.tape.trans k.fr.tape, ho.output.trans k.fr.output, by rw [ho.size]; exact k.fr.size, fun i hi hS => (ho.block i (by omega)).trans (k.fr.block i hi hS)⟩, k.m, k.sub⟩

set_option maxHeartbeats 4000000 in
set_option maxRecDepth 100000 in
theorem rdeliver_cut (B : Nat) (r : Rm) (i : Int) (j : Nat) (y : Lt) (w : World) (h : r.In B w) (hl : r.Bs.length = r.Ls.length) (hL : r.Ls.length ≤ 2999999999999) (hT : r.Ts.length ≤ 2999999999999) (hi : i ≤ 9223372036854775807) (hp : atV r.Bs i = (j : Int)) (hj : r.Ls[j]? = some y) (hbj : r.Bs[j]? = some false) (hc : cutT r.Ts y.f y.t = true) :
    Calls Try.prog 40 #[.pointer (some ⟨r.m, 0, none⟩), .int .i64 i] w (RRes B r r.Ls r.Bs r.Ts (.tuple #[(.agg #[.int .i64 0, .int .i64 0, .int .i64 0, .string ⟨#[]⟩]), .int .i64 132]) w) := by
  have H := Aside0.mk h
  have HE := Aside0.mk hl
  have HL := Aside0.mk (show r.Ls.length ≤ 3000000000000 by omega)
  have HT := Aside0.mk (show r.Ts.length ≤ 4611686018427387904 by omega)
  have HI := Aside0.mk hi
  have HP := Aside0.mk hp
  have HJ := Aside0.mk hj
  have H1 := Aside0.mk (h.below (below2a w O0))
  have HX := Aside0.mk (blk_new w O0)
  have HB1 := Aside0.mk (below2a w O0)
  have HD1 := Aside0.mk (show w.heap.size < (w.alloc O0).heap.size by simp)
  have hlt := (List.getElem?_eq_some_iff.1 hj).1
  have b1 : decide ((j : Int) < 0) = false := decide_eq_false (by omega)
  have b3 : decide (0 ≤ (j : Int)) = true := decide_eq_true (by omega)
  have b4 : decide ((j : Int) < (r.Ls.length : Int)) = true := decide_eq_true (by omega)
  have b5 : decide (j < r.Ls.length) = true := decide_eq_true (by omega)
  have p2 : (0 ≤ (j : Int)) = True := eq_true (by omega)
  have p3 : ((j : Int) < (r.Ls.length : Int)) = True := eq_true (by omega)
  have HLT := Aside0.mk hlt
  have HC := Aside0.mk hc
  have HJ := Aside0.mk hj
  have HBJ := Aside0.mk hbj
  clear h hl hL hT hi hp hj hc hlt hbj
  go_enter Try.func40, Try.ntmps40
  go_upto_region 1 with fail
  generalize w.alloc O0 = w1 at *
  obtain ⟨ad, hA, x0, x1, x2, x3⟩ := OwnL.adr H1.out.rowL j y HJ.out
  have a1 := blk_cell H1.out.blk 1
  rw [hA] at a1
  clear hA
  go_upto_region 7 with (go_at_call 58; (with_reducible refine (rat_calls B r i _ H1.out HE.out HL.out HI.out).mono ?_); rintro e w2 ⟨rfl, rfl⟩; rw [HP.out])
  have HY := Aside0.mk (blk_new w1 (.cells #[.int .i64 y.i, .int .i64 y.f, .int .i64 y.t, .string y.s] 33))
  have HX2 := Aside0.mk (blk_below HX.out (below2a w1 (.cells #[.int .i64 y.i, .int .i64 y.f, .int .i64 y.t, .string y.s] 33)))
  have H2 := Aside0.mk (H1.out.below (below2a w1 (.cells #[.int .i64 y.i, .int .i64 y.f, .int .i64 y.t, .string y.s] 33)))
  have HB2 := Aside0.mk (below_step HB1.out (below2a w1 (.cells #[.int .i64 y.i, .int .i64 y.f, .int .i64 y.t, .string y.s] 33)))
  clear x0 x1 x2 x3 a1 H1 HX
  generalize w1.heap.size = d at *
  generalize w1.alloc (.cells #[.int .i64 y.i, .int .i64 y.f, .int .i64 y.t, .string y.s] 33) = w3 at *
  have x0 := blk_cell HY.out 0
  have x1 := blk_cell HY.out 1
  have x2 := blk_cell HY.out 2
  have x3 := blk_cell HY.out 3
  go_wp2_with (go_at_call 56; (with_reducible refine (rcut_calls_ B r y.f y.t _ H2.out HT.out).mono ?_); rintro e w4 ⟨rfl, hb⟩; rw [HC.out]; have HB4 := Aside0.mk (below_step HB2.out hb); have HX4 := Aside0.mk (blk_below HX2.out hb); have v0 := blk_cell HX4.out 0; have v1 := blk_cell HX4.out 1; have v2 := blk_cell HX4.out 2; have v3 := blk_cell HX4.out 3; have f0 := blk_frozen HX4.out 0; have f1 := blk_frozen HX4.out 1; have f2 := blk_frozen HX4.out 2; have f3 := blk_frozen HX4.out 3; clear hb)
  have hE := blk_four HX4.out rfl lt0
  have hBE := below_four HB4.out (Nat.le_refl w.heap.size) (.int .i64 lt0.i) (.int .i64 lt0.f) (.int .i64 lt0.t) (.string lt0.s)
  have z0 := blk_cell hE 0
  have z1 := blk_cell hE 1
  have z2 := blk_cell hE 2
  have z3 := blk_cell hE 3
  refine bodyPost_ret (v := .tuple #[(.agg #[.int .i64 0, .int .i64 0, .int .i64 0, .string ⟨#[]⟩]), .int .i64 132]) ?_ rfl (RRes.same rfl H.out hBE)
  dsimp only [lt0] at z0 z1 z2 z3
  simp [results, Try.results40, go_sem, z0, z1, z2, z3]

set_option maxHeartbeats 4000000 in
set_option maxRecDepth 100000 in
theorem rdeliver_ok (B : Nat) (r : Rm) (i : Int) (j : Nat) (y : Lt) (w : World) (h : r.In B w) (hl : r.Bs.length = r.Ls.length) (hL : r.Ls.length ≤ 2999999999999) (hT : r.Ts.length ≤ 2999999999999) (hi : i ≤ 9223372036854775807) (hp : atV r.Bs i = (j : Int)) (hj : r.Ls[j]? = some y) (hbj : r.Bs[j]? = some false) (hc : cutT r.Ts y.f y.t = false) :
    Calls Try.prog 40 #[.pointer (some ⟨r.m, 0, none⟩), .int .i64 i] w (RRes B r r.Ls (r.Bs.set j true) r.Ts (.tuple #[(.agg #[.int .i64 y.i, .int .i64 y.f, .int .i64 y.t, .string y.s]), .int .i64 0]) w) := by
  have H := Aside0.mk h
  have HE := Aside0.mk hl
  have HL := Aside0.mk (show r.Ls.length ≤ 3000000000000 by omega)
  have HT := Aside0.mk (show r.Ts.length ≤ 4611686018427387904 by omega)
  have HI := Aside0.mk hi
  have HP := Aside0.mk hp
  have HJ := Aside0.mk hj
  have H1 := Aside0.mk (h.below (below2a w O0))
  have HX := Aside0.mk (blk_new w O0)
  have HB1 := Aside0.mk (below2a w O0)
  have HD1 := Aside0.mk (show w.heap.size < (w.alloc O0).heap.size by simp)
  have hlt := (List.getElem?_eq_some_iff.1 hj).1
  have b1 : decide ((j : Int) < 0) = false := decide_eq_false (by omega)
  have b3 : decide (0 ≤ (j : Int)) = true := decide_eq_true (by omega)
  have b4 : decide ((j : Int) < (r.Ls.length : Int)) = true := decide_eq_true (by omega)
  have b5 : decide (j < r.Ls.length) = true := decide_eq_true (by omega)
  have p2 : (0 ≤ (j : Int)) = True := eq_true (by omega)
  have p3 : ((j : Int) < (r.Ls.length : Int)) = True := eq_true (by omega)
  have HLT := Aside0.mk hlt
  have HC := Aside0.mk hc
  have HJ := Aside0.mk hj
  have p4 : ((j : Int) < (r.Bs.length : Int)) = True := eq_true (by omega)
  have HBJ := Aside0.mk hbj
  clear h hl hL hT hi hp hj hc hlt hbj
  go_enter Try.func40, Try.ntmps40
  go_upto_region 1 with fail
  generalize w.alloc O0 = w1 at *
  obtain ⟨ad, hA, x0, x1, x2, x3⟩ := OwnL.adr H1.out.rowL j y HJ.out
  have a1 := blk_cell H1.out.blk 1
  rw [hA] at a1
  clear hA
  go_upto_region 7 with (go_at_call 58; (with_reducible refine (rat_calls B r i _ H1.out HE.out HL.out HI.out).mono ?_); rintro e w2 ⟨rfl, rfl⟩; rw [HP.out])
  have HY := Aside0.mk (blk_new w1 (.cells #[.int .i64 y.i, .int .i64 y.f, .int .i64 y.t, .string y.s] 33))
  have HX2 := Aside0.mk (blk_below HX.out (below2a w1 (.cells #[.int .i64 y.i, .int .i64 y.f, .int .i64 y.t, .string y.s] 33)))
  have H2 := Aside0.mk (H1.out.below (below2a w1 (.cells #[.int .i64 y.i, .int .i64 y.f, .int .i64 y.t, .string y.s] 33)))
  have HB2 := Aside0.mk (below_step HB1.out (below2a w1 (.cells #[.int .i64 y.i, .int .i64 y.f, .int .i64 y.t, .string y.s] 33)))
  clear x0 x1 x2 x3 a1 H1 HX
  generalize w1.heap.size = d at *
  generalize w1.alloc (.cells #[.int .i64 y.i, .int .i64 y.f, .int .i64 y.t, .string y.s] 33) = w3 at *
  have x0 := blk_cell HY.out 0
  have x1 := blk_cell HY.out 1
  have x2 := blk_cell HY.out 2
  have x3 := blk_cell HY.out 3
  go_upto_region 9 with (go_at_call 56; (with_reducible refine (rcut_calls_ B r y.f y.t _ H2.out HT.out).mono ?_); rintro e w4 ⟨rfl, hb⟩; rw [HC.out]; have HB4 := Aside0.mk (below_step HB2.out hb); have HX4 := Aside0.mk (blk_below HX2.out hb); have HY4 := Aside0.mk (blk_below HY.out hb); have H4 := Aside0.mk (H2.out.below hb); clear hb)
  clear x0 x1 x2 x3
  obtain ⟨q, hq⟩ := ownsRow_addr H4.out.rowB (show 0 < r.Bs.length by rw [HE.out]; have := HLT.out; omega)
  have hqlt : q < w.heap.size := H.out.lt q (.inr (.inr (.inl (by rw [hq]; rfl))))
  have HQL := Aside0.mk hqlt
  have a2 := blk_cell H4.out.blk 2
  rw [hq] at a2
  have hst := H4.out.rowB
  rw [hq] at hst
  have xb : w4.cell? ⟨q, j, none⟩ = some (.bool false) := by
    rw [hst.cellAt j (by rw [HE.out]; have := HLT.out; omega)]
    unfold bcells
    rw [List.getElem?_map, HBJ.out]
    rfl
  have xf := hst.frozenAt j
  have HM := Aside0.mk (Rm.In.mark (w := w) H4.out HB4.out hq j)
  have HX5 := Aside0.mk ((Below.heap_setCell w4 ⟨q, j, none⟩ (.bool true) w.heap.size (by show w.heap.size ≠ q; omega)).trans HX4.out)
  have HY5 := Aside0.mk ((Below.heap_setCell w4 ⟨q, j, none⟩ (.bool true) d (by show d ≠ q; have := HD1.out; omega)).trans HY4.out)
  clear hst hq hqlt
  go_upto_region 10 with fail
  clear xb xf a2
  generalize w4.setCell ⟨q, j, none⟩ (.bool true) = w5 at *
  have v0 := blk_cell HX5.out 0; have v1 := blk_cell HX5.out 1; have v2 := blk_cell HX5.out 2; have v3 := blk_cell HX5.out 3; have f0 := blk_frozen HX5.out 0; have f1 := blk_frozen HX5.out 1; have f2 := blk_frozen HX5.out 2; have f3 := blk_frozen HX5.out 3
  have x0 := blk_cell HY5.out 0
  have x1 := blk_cell HY5.out 1
  have x2 := blk_cell HY5.out 2
  have x3 := blk_cell HY5.out 3
  go_wp2_with fail
  clear x0 x1 x2 x3
  have hE := blk_four HX5.out rfl y
  have z0 := blk_cell hE 0
  have z1 := blk_cell hE 1
  have z2 := blk_cell hE 2
  have z3 := blk_cell hE 3
  have HDE := HM.out.only H.out (fun i hi => hi) (onlyB_four (c := w.heap.size) (.int .i64 y.i) (.int .i64 y.f) (.int .i64 y.t) (.string y.s)) (Nat.le_refl _)
  refine bodyPost_ret (v := .tuple #[(.agg #[.int .i64 y.i, .int .i64 y.f, .int .i64 y.t, .string y.s]), .int .i64 0]) ?_ rfl ⟨rfl, _, _, _, _, _, _, HDE⟩
  simp [results, Try.results40, go_sem, z0, z1, z2, z3]

theorem rdeliver_calls (B n : Nat) (x : Pm) (r : Rm) (i : Int) (w : World) (h : r.In B w) (hj : J n x r) (hn : n ≤ 2999999999999) (hi : i ≤ 9223372036854775807) :
    Calls Try.prog 40 #[.pointer (some ⟨r.m, 0, none⟩), .int .i64 i] w (RRes B r r.Ls (rdBs x r i) r.Ts (.tuple #[.agg #[.int .i64 (delB x i).1.i, .int .i64 (delB x i).1.f, .int .i64 (delB x i).1.t, .string (delB x i).1.s], .int .i64 (delB x i).2]) w) := by
  have hL := Nat.le_trans hj.le hn
  have hT := Nat.le_trans hj.ts hn
  unfold rdBs
  cases hp : pick x.L i with
  | none =>
    have e : delB x i = (lt0, 131) := by unfold delB; rw [hp]
    rw [e]
    exact rdeliver_no B r i w h hj.len hL hT hi (hj.at_none hp)
  | some y =>
    obtain ⟨m, rfl, hm⟩ := pick_some hp
    obtain ⟨j, h1, h2, h3, h4, h5⟩ := hj.at_some hm
    by_cases c : 0 < cutN x.F y.f y.t
    · have e : delB x m = (lt0, 132) := by unfold delB; rw [hp]; dsimp only; rw [if_pos c]
      rw [e]
      exact rdeliver_cut B r m j y w h hj.len hL hT hi h1 h2 h3 (by rw [hj.cuts]; exact decide_eq_true c)
    · have e : delB x m = (y, 0) := by unfold delB; rw [hp]; dsimp only; rw [if_neg c]
      rw [e, h4]
      exact rdeliver_ok B r m j y w h hj.len hL hT hi h1 h2 h3 (by rw [hj.cuts]; exact decide_eq_false c)

set_option maxHeartbeats 4000000 in
set_option maxRecDepth 100000 in
theorem rdrop_no (B : Nat) (r : Rm) (i : Int) (w : World) (h : r.In B w) (hl : r.Bs.length = r.Ls.length) (hL : r.Ls.length ≤ 2999999999999) (hT : r.Ts.length ≤ 2999999999999) (hi : i ≤ 9223372036854775807) (hp : atV r.Bs i = -1) :
    Calls Try.prog 41 #[.pointer (some ⟨r.m, 0, none⟩), .int .i64 i] w (RRes B r r.Ls r.Bs r.Ts (.int .i64 131) w) := by
  have H := Aside0.mk h
  have HE := Aside0.mk hl
  have HL := Aside0.mk (show r.Ls.length ≤ 3000000000000 by omega)
  have HT := Aside0.mk (show r.Ts.length ≤ 4611686018427387904 by omega)
  have HI := Aside0.mk hi
  have HP := Aside0.mk hp
  clear h hl hL hT hi hp
  go_enter Try.func41, Try.ntmps41
  go_wp2_with (go_at_call 58; (with_reducible refine (rat_calls B r i _ H.out HE.out HL.out HI.out).mono ?_); rintro e w2 ⟨rfl, rfl⟩; rw [HP.out])
  go_ret
  exact RRes.same rfl H.out (Below.refl _ _)

set_option maxHeartbeats 4000000 in
set_option maxRecDepth 100000 in
theorem rdrop_ok (B : Nat) (r : Rm) (i : Int) (j : Nat) (y : Lt) (w : World) (h : r.In B w) (hl : r.Bs.length = r.Ls.length) (hL : r.Ls.length ≤ 2999999999999) (hT : r.Ts.length ≤ 2999999999999) (hi : i ≤ 9223372036854775807) (hp : atV r.Bs i = (j : Int)) (hj : r.Ls[j]? = some y) (hbj : r.Bs[j]? = some false) :
    Calls Try.prog 41 #[.pointer (some ⟨r.m, 0, none⟩), .int .i64 i] w (RRes B r r.Ls (r.Bs.set j true) r.Ts (.int .i64 0) w) := by
  have H := Aside0.mk h
  have HE := Aside0.mk hl
  have HL := Aside0.mk (show r.Ls.length ≤ 3000000000000 by omega)
  have HT := Aside0.mk (show r.Ts.length ≤ 4611686018427387904 by omega)
  have HI := Aside0.mk hi
  have HP := Aside0.mk hp
  have hlt := (List.getElem?_eq_some_iff.1 hj).1
  have b1 : decide ((j : Int) < 0) = false := decide_eq_false (by omega)
  have p2 : (0 ≤ (j : Int)) = True := eq_true (by omega)
  have p4 : ((j : Int) < (r.Bs.length : Int)) = True := eq_true (by omega)
  obtain ⟨q, hq⟩ := ownsRow_addr h.rowB (show 0 < r.Bs.length by omega)
  have a2 := blk_cell h.blk 2
  rw [hq] at a2
  have hst := h.rowB
  rw [hq] at hst
  have xb : w.cell? ⟨q, j, none⟩ = some (.bool false) := by
    rw [hst.cellAt j (by omega)]
    unfold bcells
    rw [List.getElem?_map, hbj]
    rfl
  have xf := hst.frozenAt j
  have HM := Aside0.mk (Rm.In.mark (w := w) h (Below.refl _ _) hq j)
  clear hst hq h hl hL hT hi hp hj hbj hlt
  go_enter Try.func41, Try.ntmps41
  go_wp2_with (go_at_call 58; (with_reducible refine (rat_calls B r i _ H.out HE.out HL.out HI.out).mono ?_); rintro e w2 ⟨rfl, rfl⟩; rw [HP.out])
  go_ret
  exact ⟨rfl, _, _, _, _, _, _, HM.out⟩

theorem rdrop_calls (B n : Nat) (x : Pm) (r : Rm) (i : Int) (w : World) (h : r.In B w) (hj : J n x r) (hn : n ≤ 2999999999999) (hi : i ≤ 9223372036854775807) :
    Calls Try.prog 41 #[.pointer (some ⟨r.m, 0, none⟩), .int .i64 i] w (RRes B r r.Ls (rpBs x r i) r.Ts (.int .i64 (dropB x i)) w) := by
  have hL := Nat.le_trans hj.le hn
  have hT := Nat.le_trans hj.ts hn
  unfold rpBs dropB
  cases hp : pick x.L i with
  | none => exact rdrop_no B r i w h hj.len hL hT hi (hj.at_none hp)
  | some y =>
    obtain ⟨m, rfl, hm⟩ := pick_some hp
    obtain ⟨j, h1, h2, h3, h4, h5⟩ := hj.at_some hm
    rw [h4]
    exact rdrop_ok B r m j y w h hj.len hL hT hi h1 h2 h3

set_option maxHeartbeats 4000000 in
set_option maxRecDepth 100000 in
theorem rcopy_no (B : Nat) (r : Rm) (i : Int) (w : World) (h : r.In B w) (hl : r.Bs.length = r.Ls.length) (hL : r.Ls.length ≤ 2999999999999) (hT : r.Ts.length ≤ 2999999999999) (hi : i ≤ 9223372036854775807) (hp : atV r.Bs i = -1) :
    Calls Try.prog 42 #[.pointer (some ⟨r.m, 0, none⟩), .int .i64 i] w (RRes B r r.Ls r.Bs r.Ts (.int .i64 131) w) := by
  have H := Aside0.mk h
  have HE := Aside0.mk hl
  have HL := Aside0.mk (show r.Ls.length ≤ 3000000000000 by omega)
  have HT := Aside0.mk (show r.Ts.length ≤ 4611686018427387904 by omega)
  have HI := Aside0.mk hi
  have HP := Aside0.mk hp
  clear h hl hL hT hi hp
  go_enter Try.func42, Try.ntmps42
  go_wp2_with (go_at_call 58; (with_reducible refine (rat_calls B r i _ H.out HE.out HL.out HI.out).mono ?_); rintro e w2 ⟨rfl, rfl⟩; rw [HP.out])
  go_ret
  exact RRes.same rfl H.out (Below.refl _ _)

set_option maxHeartbeats 4000000 in
set_option maxRecDepth 100000 in
theorem rcopy_full (B : Nat) (r : Rm) (i : Int) (j : Nat) (y : Lt) (w : World) (h : r.In B w) (hl : r.Bs.length = r.Ls.length) (hL : r.Ls.length ≤ 2999999999999) (hT : r.Ts.length ≤ 2999999999999) (hi : i ≤ 9223372036854775807) (hp : atV r.Bs i = (j : Int)) (hj : r.Ls[j]? = some y) (hx : r.lim ≤ ((leftL r.Ls r.Bs).length : Int)) :
    Calls Try.prog 42 #[.pointer (some ⟨r.m, 0, none⟩), .int .i64 i] w (RRes B r r.Ls r.Bs r.Ts (.int .i64 130) w) := by
  have H := Aside0.mk h
  have HE := Aside0.mk hl
  have HL := Aside0.mk (show r.Ls.length ≤ 3000000000000 by omega)
  have HT := Aside0.mk (show r.Ts.length ≤ 4611686018427387904 by omega)
  have HI := Aside0.mk hi
  have HP := Aside0.mk hp
  have HJ := Aside0.mk hj
  have b1 : decide (r.lim ≤ ((leftL r.Ls r.Bs).length : Int)) = true := decide_eq_true hx
  have hlt := (List.getElem?_eq_some_iff.1 hj).1
  have b2 : decide ((j : Int) < 0) = false := decide_eq_false (by omega)
  have b3 : decide (0 ≤ (j : Int)) = true := decide_eq_true (by omega)
  have p2 : (0 ≤ (j : Int)) = True := eq_true (by omega)
  have p3 : ((j : Int) < (r.Ls.length : Int)) = True := eq_true (by omega)
  clear hlt
  clear h hl hL hT hx hi hp hj
  go_enter Try.func42, Try.ntmps42
  go_upto_region 6 with (go_at_call 58; (with_reducible refine (rat_calls B r i _ H.out HE.out HL.out HI.out).mono ?_); rintro e w2 ⟨rfl, rfl⟩; rw [HP.out])
  refine wp_region_plan (quiets [0, 2, 3, 4, 5] ++ ((true, 1) :: (quiets [6] ++ []))) (fun W => r.In B W) (by kernel_rfl) (by kernel_rfl) (H.out.below (below_drew _)) ?_
  apply mix_quiets [0, 2, 3, 4, 5] _ (by kernel_rfl) (H.out.below (below_drew _))
  case h =>
    intro W hW
    have e0 := blk_cell hW.blk 0
    clear hW
    refine still_of_quiet _ _ ?_
    simp only [segOps, List.getElem?_toArray, List.getElem?_cons_zero, List.getElem?_cons_succ, Option.toList_some, List.nil_append, List.cons_append, List.append_nil]
    repeat (go_big_quiet_step (fail))
    exact wpQuiet_nil rfl
  refine mix_writes 1 ⟨some 15, _, _, _, _, _⟩ rfl _ ?_
  change wpList _ _ _ _ _ w.drew
  go_wp2_with (go_at_call 45; (with_reducible refine (rcount_calls B r _ (H.out.below (below_drew _)) HE.out HL.out).mono ?_); rintro e w5 ⟨rfl, hb⟩; have H5 := Aside0.mk ((H.out.below (below_drew _)).below hb); have HB5 := Aside0.mk (below_step (below_drew w) hb); clear hb)
  refine ⟨H5.out, ?_⟩
  apply mix_quiets [6] _ (by kernel_rfl) H5.out
  case h =>
    intro W hW
    clear hW
    refine still_of_quiet _ _ ?_
    simp only [segOps, List.getElem?_toArray, List.getElem?_cons_zero, List.getElem?_cons_succ, Option.toList_some, List.nil_append, List.cons_append, List.append_nil]
    repeat (go_big_quiet_step (fail))
    exact wpQuiet_nil rfl
  refine mix_done ?_
  go_wp2_with fail
  go_ret
  exact RRes.same rfl H.out HB5.out

set_option maxHeartbeats 4000000 in
set_option maxRecDepth 100000 in
theorem rcopy_ok (B : Nat) (r : Rm) (i : Int) (j : Nat) (y : Lt) (w : World) (h : r.In B w) (hl : r.Bs.length = r.Ls.length) (hL : r.Ls.length ≤ 2999999999999) (hT : r.Ts.length ≤ 2999999999999) (hi : i ≤ 9223372036854775807) (hp : atV r.Bs i = (j : Int)) (hj : r.Ls[j]? = some y) (hB : B ≤ w.heap.size) (hx : ((leftL r.Ls r.Bs).length : Int) < r.lim) :
    Calls Try.prog 42 #[.pointer (some ⟨r.m, 0, none⟩), .int .i64 i] w (RRes B r (r.Ls ++ [⟨(r.Ls.length : Int) + 1, y.f, y.t, y.s⟩]) (r.Bs ++ [false]) r.Ts (.int .i64 0) w) := by
  have H := Aside0.mk h
  have HE := Aside0.mk hl
  have HL := Aside0.mk (show r.Ls.length ≤ 3000000000000 by omega)
  have HT := Aside0.mk (show r.Ts.length ≤ 4611686018427387904 by omega)
  have HI := Aside0.mk hi
  have HP := Aside0.mk hp
  have HJ := Aside0.mk hj
  have b1 : decide (r.lim ≤ ((leftL r.Ls r.Bs).length : Int)) = false := decide_eq_false (by omega)
  have hlt := (List.getElem?_eq_some_iff.1 hj).1
  have b2 : decide ((j : Int) < 0) = false := decide_eq_false (by omega)
  have b3 : decide (0 ≤ (j : Int)) = true := decide_eq_true (by omega)
  have p2 : (0 ≤ (j : Int)) = True := eq_true (by omega)
  have p3 : ((j : Int) < (r.Ls.length : Int)) = True := eq_true (by omega)
  have HBB := Aside0.mk hB
  clear h hl hL hT hx hi hp hj hB
  go_enter Try.func42, Try.ntmps42
  go_upto_region 6 with (go_at_call 58; (with_reducible refine (rat_calls B r i _ H.out HE.out HL.out HI.out).mono ?_); rintro e w2 ⟨rfl, rfl⟩; rw [HP.out])
  refine wp_region_plan (quiets [0, 2, 3, 4, 5] ++ ((true, 1) :: (quiets [6] ++ []))) (fun W => r.In B W) (by kernel_rfl) (by kernel_rfl) (H.out.below (below_drew _)) ?_
  apply mix_quiets [0, 2, 3, 4, 5] _ (by kernel_rfl) (H.out.below (below_drew _))
  case h =>
    intro W hW
    have e0 := blk_cell hW.blk 0
    clear hW
    refine still_of_quiet _ _ ?_
    simp only [segOps, List.getElem?_toArray, List.getElem?_cons_zero, List.getElem?_cons_succ, Option.toList_some, List.nil_append, List.cons_append, List.append_nil]
    repeat (go_big_quiet_step (fail))
    exact wpQuiet_nil rfl
  refine mix_writes 1 ⟨some 15, _, _, _, _, _⟩ rfl _ ?_
  change wpList _ _ _ _ _ w.drew
  go_wp2_with (go_at_call 45; (with_reducible refine (rcount_calls B r _ (H.out.below (below_drew _)) HE.out HL.out).mono ?_); rintro e w5 ⟨rfl, hb⟩; have H5 := Aside0.mk ((H.out.below (below_drew _)).below hb); have HB5 := Aside0.mk (below_step (below_drew w) hb); clear hb)
  refine ⟨H5.out, ?_⟩
  apply mix_quiets [6] _ (by kernel_rfl) H5.out
  case h =>
    intro W hW
    clear hW
    refine still_of_quiet _ _ ?_
    simp only [segOps, List.getElem?_toArray, List.getElem?_cons_zero, List.getElem?_cons_succ, Option.toList_some, List.nil_append, List.cons_append, List.append_nil]
    repeat (go_big_quiet_step (fail))
    exact wpQuiet_nil rfl
  refine mix_done ?_
  have HLT := Aside0.mk hlt
  obtain ⟨ad, hA, x0, x1, x2, x3⟩ := OwnL.adr H5.out.rowL j y HJ.out
  have a1 := blk_cell H5.out.blk 1
  rw [hA] at a1
  clear hA hlt
  go_upto_region 9 with fail
  have HY := Aside0.mk (blk_new w5 (.cells #[.int .i64 y.i, .int .i64 y.f, .int .i64 y.t, .string y.s] 33))
  have H6 := Aside0.mk (H5.out.below (below2a w5 (.cells #[.int .i64 y.i, .int .i64 y.f, .int .i64 y.t, .string y.s] 33)))
  have HB6 := Aside0.mk (below_step HB5.out (below2a w5 (.cells #[.int .i64 y.i, .int .i64 y.f, .int .i64 y.t, .string y.s] 33)))
  clear x0 x1 x2 x3 a1
  generalize w5.heap.size = d at *
  generalize w5.alloc (.cells #[.int .i64 y.i, .int .i64 y.f, .int .i64 y.t, .string y.s] 33) = w6 at *
  have x1 := blk_cell HY.out 1
  have x2 := blk_cell HY.out 2
  have x3 := blk_cell HY.out 3
  go_wp2_with (go_at_call 57; (with_reducible refine (rsets_calls B r y.f y.t y.s _ H6.out (Nat.le_trans HBB.out HB6.out.size) HE.out HL.out).mono ?_); rintro e w7 ⟨rfl, A6, c6, A7, c7, A8, c8, hd⟩; have HD := Aside0.mk (RDone.pre HB6.out H.out hd); clear hd)
  go_ret
  exact ⟨rfl, _, _, _, _, _, _, HD.out⟩

theorem rcopy_calls (B n : Nat) (x : Pm) (r : Rm) (i : Int) (w : World) (h : r.In B w) (hB : B ≤ w.heap.size) (hj : J n x r) (hn : n ≤ 2999999999999) (hi : i ≤ 9223372036854775807) :
    Calls Try.prog 42 #[.pointer (some ⟨r.m, 0, none⟩), .int .i64 i] w (RRes B r (rcLs x r i) (rcBs x r i) r.Ts (.int .i64 (copyB x i)) w) := by
  have hL := Nat.le_trans hj.le hn
  have hT := Nat.le_trans hj.ts hn
  have hlen : ((leftL r.Ls r.Bs).length : Int) = (x.L.length : Int) := by rw [hj.left]
  unfold rcLs rcBs
  cases hp : pick x.L i with
  | none =>
    have e : copyB x i = 131 := by unfold copyB; rw [hp]
    rw [e]
    exact rcopy_no B r i w h hj.len hL hT hi (hj.at_none hp)
  | some y =>
    obtain ⟨m, rfl, hm⟩ := pick_some hp
    obtain ⟨j, h1, h2, h3, h4, h5⟩ := hj.at_some hm
    by_cases c : x.lim ≤ (x.L.length : Int)
    · have e : copyB x m = 130 := by unfold copyB; rw [hp]; dsimp only; rw [if_pos c]
      rw [e]
      exact rcopy_full B r m j y w h hj.len hL hT hi h1 h2 (by rw [hlen, ← hj.lim]; exact c)
    · have e : copyB x m = 0 := by unfold copyB; rw [hp]; dsimp only; rw [if_neg c]
      rw [e]
      exact rcopy_ok B r m j y w h hj.len hL hT hi h1 h2 hB (by rw [hlen, ← hj.lim]; omega)

set_option maxHeartbeats 4000000 in
set_option maxRecDepth 100000 in
theorem rcut_calls (B n : Nat) (x : Pm) (r : Rm) (a b : Int) (w : World) (h : r.In B w) (hB : B ≤ w.heap.size) (hj : J n x r) (hn : n ≤ 2999999999999) :
    Calls Try.prog 43 #[.pointer (some ⟨r.m, 0, none⟩), .int .i64 a, .int .i64 b] w (RRes B r r.Ls r.Bs (rtTs r a b true) (.int .i64 (linkV a b)) w) := by
  have H := Aside0.mk h
  have HB := Aside0.mk hB
  have HT := Aside0.mk (show r.Ts.length ≤ 3000000000000 by have := hj.ts; omega)
  unfold rtTs linkV
  cases hl : linkB a b with
  | true =>
    rw [if_pos rfl, if_pos rfl]
    have HK := Aside0.mk hl
    clear h hB hj hn hl
    go_enter Try.func43, Try.ntmps43
    go_wp2_with (go_at_call 59; (with_reducible refine (rturn_ok B r a b true _ H.out HB.out HT.out HK.out).mono ?_); rintro e w2 ⟨rfl, A6, c6, A7, c7, A8, c8, hd⟩; have HD := Aside0.mk hd; clear hd)
    go_ret
    exact ⟨rfl, _, _, _, _, _, _, HD.out⟩
  | false =>
    rw [if_neg (by decide), if_neg (by decide)]
    have HK := Aside0.mk hl
    clear h hB hj hn hl
    go_enter Try.func43, Try.ntmps43
    go_wp2_with (go_at_call 59; (with_reducible refine (rturn_no B r a b true _ HK.out).mono ?_); rintro e w2 ⟨rfl, rfl⟩)
    go_ret
    exact RRes.same rfl H.out (Below.refl _ _)

set_option maxHeartbeats 4000000 in
set_option maxRecDepth 100000 in
theorem rheal_calls (B n : Nat) (x : Pm) (r : Rm) (a b : Int) (w : World) (h : r.In B w) (hB : B ≤ w.heap.size) (hj : J n x r) (hn : n ≤ 2999999999999) :
    Calls Try.prog 44 #[.pointer (some ⟨r.m, 0, none⟩), .int .i64 a, .int .i64 b] w (RRes B r r.Ls r.Bs (rtTs r a b false) (.int .i64 (linkV a b)) w) := by
  have H := Aside0.mk h
  have HB := Aside0.mk hB
  have HT := Aside0.mk (show r.Ts.length ≤ 3000000000000 by have := hj.ts; omega)
  unfold rtTs linkV
  cases hl : linkB a b with
  | true =>
    rw [if_pos rfl, if_pos rfl]
    have HK := Aside0.mk hl
    clear h hB hj hn hl
    go_enter Try.func44, Try.ntmps44
    go_wp2_with (go_at_call 59; (with_reducible refine (rturn_ok B r a b false _ H.out HB.out HT.out HK.out).mono ?_); rintro e w2 ⟨rfl, A6, c6, A7, c7, A8, c8, hd⟩; have HD := Aside0.mk hd; clear hd)
    go_ret
    exact ⟨rfl, _, _, _, _, _, _, HD.out⟩
  | false =>
    rw [if_neg (by decide), if_neg (by decide)]
    have HK := Aside0.mk hl
    clear h hB hj hn hl
    go_enter Try.func44, Try.ntmps44
    go_wp2_with (go_at_call 59; (with_reducible refine (rturn_no B r a b false _ HK.out).mono ?_); rintro e w2 ⟨rfl, rfl⟩)
    go_ret
    exact RRes.same rfl H.out (Below.refl _ _)

end Go.Proofs.Ytadbcekglcmccaa.Q
