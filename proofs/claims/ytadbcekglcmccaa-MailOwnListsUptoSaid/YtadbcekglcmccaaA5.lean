/- Contract of (*mail.Mail).Deliver. Condition: block g is a mail, its letters bear addresses. -/
import Derived.Test.YtadbcekglcmccaaProg
import Derived.Below
import Derived.Deep.Draws
import Derived.Deep.AppendLies
import Derived.Maps.AppendAt
import Derived.OwnWalk
import Derived.Laws.BytesArg
import Derived.Laws.MakeOwn
import Derived.Laws.OwnMore
import Derived.Deep.OwnRows
import Derived.Tactics
import Derived.Lib.ConvBytes
import Derived.Laws.Slices
import Derived.WalkKit
import Derived.KernelRfl
import Derived.RowKit3
import Derived.Deep.LoopGhost
import Derived.Deep.QuietTactic
import Derived.BigQuiet
import Derived.WideLaws
import Derived.Deep.DeepCutAuto
import Derived.Deep.CutBlock
import Derived.Deep.RegionHeld3
import Derived.Laws.Rows
import Derived.Lib.AppendStr
import Derived.ArgAppend
import Derived.Laws.IdiomCopy
import Derived.OrdersHeld
import Derived.Laws.BitsLemmas
import Derived.RowKit
import Derived.Test.YtadbcekglcmccaaWWords
import Derived.Test.YtadbcekglcmccaaWLast
import Derived.Test.YtadbcekglcmccaaWTab
import Derived.Test.YtadbcekglcmccaaWFour
import Derived.Test.YtadbcekglcmccaaWQPut
import Derived.Test.YtadbcekglcmccaaWApart
import Derived.Test.YtadbcekglcmccaaWArr
import Derived.Test.YtadbcekglcmccaaWZeros
import Derived.Test.YtadbcekglcmccaaWFoot
import Derived.Test.YtadbcekglcmccaaWKept
import Derived.Test.YtadbcekglcmccaaWShare
import Derived.Test.YtadbcekglcmccaaWN
import Derived.Test.YtadbcekglcmccaaWFootNe
import Derived.Test.YtadbcekglcmccaaWAt
import Derived.Test.YtadbcekglcmccaaWEqStruct
import Derived.Test.YtadbcekglcmccaaWRepsOne
import Derived.Test.YtadbcekglcmccaaWInv
import Derived.Test.YtadbcekglcmccaaWInvWords
import Derived.Test.YtadbcekglcmccaaWGuard
import Derived.Test.YtadbcekglcmccaaWNEv
import Derived.Test.YtadbcekglcmccaaWMore
import Derived.Test.YtadbcekglcmccaaA4
set_option linter.unusedVariables false
set_option linter.unusedSimpArgs false
namespace Go.Proofs.Ytadbcekglcmccaa.Q
open Go.RowKit Go.Proofs.YtadbcekglcmccaaW.PrintWords Go.Proofs.YtadbcekglcmccaaW.PrintLast Go.Proofs.YtadbcekglcmccaaW.PrintMore
open Go.FM Go.Plan

abbrev O0 : Obj := .cells #[.int .i64 0, .int .i64 0, .int .i64 0, .string ⟨#[]⟩] 33
abbrev OL (y : Lt) : Obj := .cells #[.int .i64 y.i, .int .i64 y.f, .int .i64 y.t, .string y.s] 33
theorem blk_four {W : World} {c : Nat} {cs : Array Value} (h : W.heap[c]? = some (.cells cs 33 (0, 0))) (hs : cs.size = 4) (y : Lt) :
    ((((W.setCell ⟨c, 0, none⟩ (.int .i64 y.i)).setCell ⟨c, 1, none⟩ (.int .i64 y.f)).setCell ⟨c, 2, none⟩ (.int .i64 y.t)).setCell ⟨c, 3, none⟩ (.string y.s)).heap[c]? = some (.cells #[.int .i64 y.i, .int .i64 y.f, .int .i64 y.t, .string y.s] 33 (0, 0)) := by
  rw [blk_set (blk_set (blk_set (blk_set h 0 _) 1 _) 2 _) 3 _]
  match cs, hs with
  | ⟨[a, b, c, d]⟩, _ => rfl
theorem below_four {B : Nat} {w W : World} {c : Nat} (h : Below B w W) (hc : B ≤ c) (a b d e : Value) : Below B w ((((W.setCell ⟨c, 0, none⟩ a).setCell ⟨c, 1, none⟩ b).setCell ⟨c, 2, none⟩ d).setCell ⟨c, 3, none⟩ e) :=
  (((h.setCell (p := ⟨c, 0, none⟩) hc a).setCell (p := ⟨c, 1, none⟩) hc b).setCell (p := ⟨c, 2, none⟩) hc d).setCell (p := ⟨c, 3, none⟩) hc e

/-- The letter at a place. -/
def pick (L : List Lt) (i : Int) : Option Lt := if i < 0 then none else L[i.toNat]?
theorem pick_none {L : List Lt} {i : Int} (h : pick L i = none) : i < 0 ∨ (L.length : Int) ≤ i := by
  unfold pick at h
  by_cases c : i < 0
  · exact .inl c
  · rw [if_neg c] at h
    have := List.getElem?_eq_none_iff.1 h
    omega
theorem pick_some {L : List Lt} {i : Int} {y : Lt} (h : pick L i = some y) : ∃ n : Nat, i = (n : Int) ∧ L[n]? = some y := by
  unfold pick at h
  by_cases c : i < 0
  · rw [if_pos c] at h; cases h
  · rw [if_neg c] at h
    exact ⟨i.toNat, by omega, h⟩

theorem deliver_nil (i : Int) (w : World) : Calls Try.prog 13 #[.pointer none, .int .i64 i] w fun e w' => e = .returned (.tuple #[(.agg #[.int .i64 0, .int .i64 0, .int .i64 0, .string ⟨#[]⟩]), .int .i64 2]) ∧ Below w.heap.size w w' := by
  go_enter Try.func13, Try.ntmps13
  go_wp2
  exact bodyPost_ret (v := .tuple #[(.agg #[.int .i64 0, .int .i64 0, .int .i64 0, .string ⟨#[]⟩]), .int .i64 2]) (by simp [results, Try.results13, go_sem]) rfl ⟨rfl, below2a w _⟩

set_option maxHeartbeats 4000000 in
set_option maxRecDepth 100000 in
theorem deliver_no (B : Nat) (x : Pm) (i : Int) (w : World) (h : x.In B w) (hi : pick x.L i = none) :
    Calls Try.prog 13 #[.pointer (some ⟨x.g, 0, none⟩), .int .i64 i] w (MRes B x x.sent x.L x.F (.tuple #[(.agg #[.int .i64 0, .int .i64 0, .int .i64 0, .string ⟨#[]⟩]), .int .i64 131]) w) := by
  have H := Aside0.mk h
  have H1 := Aside0.mk (IsM.below h (below2a w O0))
  have HX := Aside0.mk (blk_new w O0)
  have HP := Aside0.mk (pick_none hi)
  clear h hi
  go_enter Try.func13, Try.ntmps13
  go_wp2_with (go_at_call 35; (with_reducible refine (at_no B x.g x.r x.A x.cap x.lim x.sent x.L x.F i _ H1.out HP.out).mono ?_); rintro e w2 ⟨rfl, hb⟩; have HY := Aside0.mk (blk_below HX.out hb); have HB2 := Aside0.mk (below_step (below2a w O0) hb); have y0 := blk_cell (blk_alloc HY.out O0) 0; have y1 := blk_cell (blk_alloc HY.out O0) 1; have y2 := blk_cell (blk_alloc HY.out O0) 2; have y3 := blk_cell (blk_alloc HY.out O0) 3; have f0 := blk_frozen (blk_alloc HY.out O0) 0; have f1 := blk_frozen (blk_alloc HY.out O0) 1; have f2 := blk_frozen (blk_alloc HY.out O0) 2; have f3 := blk_frozen (blk_alloc HY.out O0) 3; clear hb)
  have hE := blk_four (blk_alloc HY.out O0) rfl lt0
  have hBE := below_four (HB2.out.alloc HB2.out.size O0) (Nat.le_refl w.heap.size) (.int .i64 lt0.i) (.int .i64 lt0.f) (.int .i64 lt0.t) (.string lt0.s)
  have z0 := blk_cell hE 0
  have z1 := blk_cell hE 1
  have z2 := blk_cell hE 2
  have z3 := blk_cell hE 3
  refine bodyPost_ret (v := .tuple #[(.agg #[.int .i64 0, .int .i64 0, .int .i64 0, .string ⟨#[]⟩]), .int .i64 131]) ?_ rfl (MRes.same rfl H.out hBE)
  dsimp only [lt0] at z0 z1 z2 z3
  simp [results, Try.results13, go_sem, z0, z1, z2, z3]

theorem onlyB_four {W : World} {c : Nat} (a b d e : Value) : OnlyB W ((((W.setCell ⟨c, 0, none⟩ a).setCell ⟨c, 1, none⟩ b).setCell ⟨c, 2, none⟩ d).setCell ⟨c, 3, none⟩ e) c :=
  ⟨rfl, rfl, rfl, by simp [World.setCell], fun i hi => (Below.heap_setCell _ ⟨c, 3, none⟩ e i hi).trans ((Below.heap_setCell _ ⟨c, 2, none⟩ d i hi).trans ((Below.heap_setCell _ ⟨c, 1, none⟩ b i hi).trans (Below.heap_setCell W ⟨c, 0, none⟩ a i hi)))⟩
theorem MDone.S {w W : World} {B : Nat} {x x' : Pm} (d : MDone w W B x x') : ∀ i, x'.S i → x.S i ∨ w.heap.size ≤ i := by
  intro i hi
  rcases hi with e | e | e
  · exact .inl (.inl (e.trans d.g))
  · exact .inl (.inr (.inl (e.trans d.r)))
  · rcases d.row with h | ⟨q, h, hle⟩
    · exact .inl (.inr (.inr (h ▸ e)))
    · rw [h] at e; obtain rfl := Option.some.inj e; exact .inr hle
theorem MDone.only {w W W' W'' : World} {B c : Nat} {x x' : Pm} (k : MDone W W' B x x') (hb : Below w.heap.size w W) (h : x.In B w) (ho : OnlyB W' W'' c) (hc : w.heap.size ≤ c) (hc2 : c < W.heap.size) : MDone w W'' B x x' := by
  have k0 : MDone w W' B x x' := MDone.pre hb (IsM.below h hb) k
  refine ⟨Pm.keep k.inn fun i hi => ho.block i ?_, ⟨ho.os.trans k0.fr.os, ho.tape.trans k0.fr.tape, ho.output.trans k0.fr.output, by rw [ho.size]; exact k0.fr.size, fun i hi hs => (ho.block i (by omega)).trans (k0.fr.block i hi hs)⟩, k0.g, k0.r, k0.lim, k0.row⟩
  rintro rfl
  rcases k.S i hi with h1 | h1
  · have := Pm.lt h i h1
    omega
  · omega

set_option maxHeartbeats 8000000 in
set_option maxRecDepth 100000 in
theorem deliver_cut (B : Nat) (x : Pm) (n : Nat) (y : Lt) (w : World) (h : x.In B w) (hi : x.L[n]? = some y) (hf : adB y.f = true) (ht : adB y.t = true) (hc : 0 < cutN x.F y.f y.t) :
    Calls Try.prog 13 #[.pointer (some ⟨x.g, 0, none⟩), .int .i64 (n : Int)] w (MRes B x x.sent x.L x.F (.tuple #[(.agg #[.int .i64 0, .int .i64 0, .int .i64 0, .string ⟨#[]⟩]), .int .i64 132]) w) := by
  have H := Aside0.mk h
  have H1 := Aside0.mk (IsM.below h (below2a w O0))
  have HX := Aside0.mk (blk_new w O0)
  have HP := Aside0.mk hi
  have HK := Aside0.mk (okL_lk (adB_iff hf) (adB_iff ht))
  have b1 : decide (0 < cutN x.F y.f y.t) = true := by simpa using hc
  clear h hi hc
  go_enter Try.func13, Try.ntmps13
  go_wp2_with (go_at_call 35; (with_reducible refine (at_yes B x.g x.r x.A x.cap x.lim x.sent x.L x.F n y _ H1.out HP.out).mono ?_); rintro e w2 ⟨rfl, hb⟩; have HY := Aside0.mk (blk_alloc (blk_below HX.out hb) (OL y)); have HB2 := Aside0.mk ((below_step (below2a w O0) hb).alloc (below_step (below2a w O0) hb).size (OL y)); have H2 := Aside0.mk (IsM.below H1.out (below_step hb (below2a w2 (OL y)))); have HZ := Aside0.mk (blk_new w2 (OL y)); clear hb)
  generalize w2.heap.size = d at *
  generalize w2.alloc (OL y) = w3 at *
  refine wp_region_plan (quiets [0, 1, 2, 3, 4, 5, 6, 7] ++ ((true, 8) :: (quiets [9, 10, 11] ++ []))) (fun W => x.In B W ∧ W.heap[d]? = some (.cells #[.int .i64 y.i, .int .i64 y.f, .int .i64 y.t, .string y.s] 33 (0, 0))) (by kernel_rfl) (by kernel_rfl) ⟨IsM.drew H2.out, HZ.out⟩ ?_
  apply mix_quiets [0, 1, 2, 3, 4, 5, 6, 7] _ (by kernel_rfl) ⟨IsM.drew H2.out, HZ.out⟩
  case h =>
    intro W hW
    have e3 := hW.1.c3
    have e4 := blk_cell hW.2 1
    have e5 := blk_cell hW.2 2
    clear hW
    refine still_of_quiet _ _ ?_
    simp only [segOps, List.getElem?_toArray, List.getElem?_cons_zero, List.getElem?_cons_succ, Option.toList_some, List.nil_append, List.cons_append, List.append_nil]
    repeat (go_big_quiet_step (fail))
    exact wpQuiet_nil rfl
  refine mix_writes 8 ⟨some 32, _, _, _, _, _⟩ rfl _ ?_
  change wpList _ _ _ _ _ w3.drew
  go_wp2_with (go_at_call 33; (with_reducible refine (link_calls y.f y.t _).mono ?_); rintro e w4 ⟨rfl, hb⟩; have hb3 := below_step (below_drew w3) hb; have H4 := Aside0.mk (IsM.below H2.out hb3); have HZ4 := Aside0.mk (blk_below HZ.out hb3); have HY4 := Aside0.mk (blk_below HY.out hb3); have HB4 := Aside0.mk (below_step HB2.out hb3); clear hb hb3)
  refine ⟨⟨H4.out, HZ4.out⟩, ?_⟩
  apply mix_quiets [9, 10, 11] _ (by kernel_rfl) ⟨H4.out, HZ4.out⟩
  case h =>
    intro W hW
    have hlo := look_of hW.1.fm HK.out
    clear hW
    refine still_of_quiet _ _ ?_
    simp only [segOps, List.getElem?_toArray, List.getElem?_cons_zero, List.getElem?_cons_succ, Option.toList_some, List.nil_append, List.cons_append, List.append_nil]
    repeat (go_big_quiet_step (fail))
    exact wpQuiet_nil rfl
  refine mix_done ?_
  have y0 := blk_cell HY4.out 0
  have y1 := blk_cell HY4.out 1
  have y2 := blk_cell HY4.out 2
  have y3 := blk_cell HY4.out 3
  have f0 := blk_frozen HY4.out 0
  have f1 := blk_frozen HY4.out 1
  have f2 := blk_frozen HY4.out 2
  have f3 := blk_frozen HY4.out 3
  go_wp2_with fail
  have hE := blk_four HY4.out rfl lt0
  have hBE := below_four HB4.out (Nat.le_refl w.heap.size) (.int .i64 lt0.i) (.int .i64 lt0.f) (.int .i64 lt0.t) (.string lt0.s)
  have z0 := blk_cell hE 0
  have z1 := blk_cell hE 1
  have z2 := blk_cell hE 2
  have z3 := blk_cell hE 3
  refine bodyPost_ret (v := .tuple #[(.agg #[.int .i64 0, .int .i64 0, .int .i64 0, .string ⟨#[]⟩]), .int .i64 132]) ?_ rfl (MRes.same rfl H.out hBE)
  dsimp only [lt0] at z0 z1 z2 z3
  simp [results, Try.results13, go_sem, z0, z1, z2, z3]

set_option maxHeartbeats 8000000 in
set_option maxRecDepth 100000 in
theorem deliver_ok (B : Nat) (x : Pm) (n : Nat) (y : Lt) (w : World) (h : x.In B w) (hi : x.L[n]? = some y) (hL : x.L.length ≤ 1024) (hf : adB y.f = true) (ht : adB y.t = true) (hc : ¬ 0 < cutN x.F y.f y.t) :
    Calls Try.prog 13 #[.pointer (some ⟨x.g, 0, none⟩), .int .i64 (n : Int)] w (MRes B x x.sent (x.L.eraseIdx n) x.F (.tuple #[(.agg #[.int .i64 y.i, .int .i64 y.f, .int .i64 y.t, .string y.s]), .int .i64 0]) w) := by
  have H := Aside0.mk h
  have H1 := Aside0.mk (IsM.below h (below2a w O0))
  have HX := Aside0.mk (blk_new w O0)
  have HP := Aside0.mk hi
  have HL := Aside0.mk hL
  have HK := Aside0.mk (okL_lk (adB_iff hf) (adB_iff ht))
  have b1 : decide (0 < cutN x.F y.f y.t) = false := by simpa using hc
  have HSl := Aside0.mk (Pm.lt h)
  clear h hi hc hL
  go_enter Try.func13, Try.ntmps13
  go_wp2_with (go_at_call 35; (with_reducible refine (at_yes B x.g x.r x.A x.cap x.lim x.sent x.L x.F n y _ H1.out HP.out).mono ?_); rintro e w2 ⟨rfl, hb⟩; have HY := Aside0.mk (blk_alloc (blk_below HX.out hb) (OL y)); have HB2 := Aside0.mk ((below_step (below2a w O0) hb).alloc (below_step (below2a w O0) hb).size (OL y)); have H2 := Aside0.mk (IsM.below H1.out (below_step hb (below2a w2 (OL y)))); have HZ := Aside0.mk (blk_new w2 (OL y)); have HD := Aside0.mk (show w.heap.size < w2.heap.size ∧ w2.heap.size < (w2.alloc (OL y)).heap.size from ⟨by have := hb.size; simp at this; omega, by simp⟩); clear hb)
  generalize w2.heap.size = d at *
  generalize w2.alloc (OL y) = w3 at *
  refine wp_region_plan (quiets [0, 1, 2, 3, 4, 5, 6, 7] ++ ((true, 8) :: (quiets [9, 10, 11] ++ []))) (fun W => x.In B W ∧ W.heap[d]? = some (.cells #[.int .i64 y.i, .int .i64 y.f, .int .i64 y.t, .string y.s] 33 (0, 0))) (by kernel_rfl) (by kernel_rfl) ⟨IsM.drew H2.out, HZ.out⟩ ?_
  apply mix_quiets [0, 1, 2, 3, 4, 5, 6, 7] _ (by kernel_rfl) ⟨IsM.drew H2.out, HZ.out⟩
  case h =>
    intro W hW
    have e3 := hW.1.c3
    have e4 := blk_cell hW.2 1
    have e5 := blk_cell hW.2 2
    clear hW
    refine still_of_quiet _ _ ?_
    simp only [segOps, List.getElem?_toArray, List.getElem?_cons_zero, List.getElem?_cons_succ, Option.toList_some, List.nil_append, List.cons_append, List.append_nil]
    repeat (go_big_quiet_step (fail))
    exact wpQuiet_nil rfl
  refine mix_writes 8 ⟨some 32, _, _, _, _, _⟩ rfl _ ?_
  change wpList _ _ _ _ _ w3.drew
  go_wp2_with (go_at_call 33; (with_reducible refine (link_calls y.f y.t _).mono ?_); rintro e w4 ⟨rfl, hb⟩; have hb3 := below_step (below_drew w3) hb; have H4 := Aside0.mk (IsM.below H2.out hb3); have HZ4 := Aside0.mk (blk_below HZ.out hb3); have HY4 := Aside0.mk (blk_below HY.out hb3); have HB4 := Aside0.mk (below_step HB2.out hb3); clear hb hb3)
  refine ⟨⟨H4.out, HZ4.out⟩, ?_⟩
  apply mix_quiets [9, 10, 11] _ (by kernel_rfl) ⟨H4.out, HZ4.out⟩
  case h =>
    intro W hW
    have hlo := look_of hW.1.fm HK.out
    clear hW
    refine still_of_quiet _ _ ?_
    simp only [segOps, List.getElem?_toArray, List.getElem?_cons_zero, List.getElem?_cons_succ, Option.toList_some, List.nil_append, List.cons_append, List.append_nil]
    repeat (go_big_quiet_step (fail))
    exact wpQuiet_nil rfl
  refine mix_done ?_
  have hil : n < x.L.length := (List.getElem?_eq_some_iff.1 HP.out).1
  have hnS : ∀ i, w.heap.size ≤ i → ¬ x.S i := fun i hi hs => by have := HSl.out i hs; omega
  have HNS := Aside0.mk hnS
  have c1lt : w.heap.size < w4.heap.size := blk_lt HY4.out
  have d1lt : d < w4.heap.size := blk_lt HZ4.out
  have HLT := Aside0.mk (And.intro c1lt d1lt)
  clear hnS c1lt d1lt
  go_wp2_with (go_at_call 36; (with_reducible refine (take_calls B x n _ H4.out hil HL.out).mono ?_); rintro e w5 ⟨rfl, A', cap', hd⟩; have HD5 := Aside0.mk hd; have HY5 := Aside0.mk ((hd.fr.block _ HLT.out.1 (HNS.out _ (Nat.le_refl _))).trans HY4.out); have HZ5 := Aside0.mk ((hd.fr.block _ HLT.out.2 (HNS.out _ (Nat.le_of_lt HD.out.1))).trans HZ4.out); clear hd; have y0 := blk_cell HY5.out 0; have y1 := blk_cell HY5.out 1; have y2 := blk_cell HY5.out 2; have y3 := blk_cell HY5.out 3; have f0 := blk_frozen HY5.out 0; have f1 := blk_frozen HY5.out 1; have f2 := blk_frozen HY5.out 2; have f3 := blk_frozen HY5.out 3; have z0 := blk_cell HZ5.out 0; have z1 := blk_cell HZ5.out 1; have z2 := blk_cell HZ5.out 2; have z3 := blk_cell HZ5.out 3)
  have hE := blk_four HY5.out rfl y
  have hDE := MDone.only HD5.out HB4.out H.out (onlyB_four (c := w.heap.size) (.int .i64 y.i) (.int .i64 y.f) (.int .i64 y.t) (.string y.s)) (Nat.le_refl _) HLT.out.1
  have z0 := blk_cell hE 0
  have z1 := blk_cell hE 1
  have z2 := blk_cell hE 2
  have z3 := blk_cell hE 3
  refine bodyPost_ret (v := .tuple #[(.agg #[.int .i64 y.i, .int .i64 y.f, .int .i64 y.t, .string y.s]), .int .i64 0]) ?_ rfl ⟨rfl, A', cap', hDE⟩
  simp [results, Try.results13, go_sem, z0, z1, z2, z3]

end Go.Proofs.Ytadbcekglcmccaa.Q
