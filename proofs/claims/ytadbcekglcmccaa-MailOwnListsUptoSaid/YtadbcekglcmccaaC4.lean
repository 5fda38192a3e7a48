/- The walk of granarylaw13.untouched: it answers true. Condition: the script is read and not too long. -/
import Derived.Test.YtadbcekglcmccaaProg
import Derived.Below
import Derived.Deep.Draws
import Derived.Deep.AppendLies
import Derived.Maps.AppendAt
import Derived.OwnWalk
import Derived.Laws.BytesArg
import Derived.Laws.MakeOwn
import Derived.Laws.OwnMore
import Derived.Deep.OwnRows
import Derived.Tactics
import Derived.Lib.ConvBytes
import Derived.Laws.Slices
import Derived.WalkKit
import Derived.KernelRfl
import Derived.RowKit3
import Derived.Deep.LoopGhost
import Derived.Deep.QuietTactic
import Derived.BigQuiet
import Derived.WideLaws
import Derived.Deep.DeepCutAuto
import Derived.Deep.CutBlock
import Derived.Deep.RegionHeld3
import Derived.Laws.Rows
import Derived.Lib.AppendStr
import Derived.ArgAppend
import Derived.Laws.IdiomCopy
import Derived.OrdersHeld
import Derived.Laws.BitsLemmas
import Derived.RowKit
import Derived.Test.YtadbcekglcmccaaWWords
import Derived.Test.YtadbcekglcmccaaWLast
import Derived.Test.YtadbcekglcmccaaWTab
import Derived.Test.YtadbcekglcmccaaWFour
import Derived.Test.YtadbcekglcmccaaWQPut
import Derived.Test.YtadbcekglcmccaaWApart
import Derived.Test.YtadbcekglcmccaaWArr
import Derived.Test.YtadbcekglcmccaaWZeros
import Derived.Test.YtadbcekglcmccaaWFoot
import Derived.Test.YtadbcekglcmccaaWKept
import Derived.Test.YtadbcekglcmccaaWShare
import Derived.Test.YtadbcekglcmccaaWN
import Derived.Test.YtadbcekglcmccaaWFootNe
import Derived.Test.YtadbcekglcmccaaWAt
import Derived.Test.YtadbcekglcmccaaWEqStruct
import Derived.Test.YtadbcekglcmccaaWRepsOne
import Derived.Test.YtadbcekglcmccaaWInv
import Derived.Test.YtadbcekglcmccaaWInvWords
import Derived.Test.YtadbcekglcmccaaWGuard
import Derived.Test.YtadbcekglcmccaaWNEv
import Derived.Test.YtadbcekglcmccaaWMore
import Derived.Test.YtadbcekglcmccaaC3
set_option linter.unusedVariables false
set_option linter.unusedSimpArgs false
namespace Go.Proofs.Ytadbcekglcmccaa.Q
open Go.RowKit Go.Proofs.YtadbcekglcmccaaW.PrintWords Go.Proofs.YtadbcekglcmccaaW.PrintLast Go.Proofs.YtadbcekglcmccaaW.PrintMore
open Go.FM Go.Plan

abbrev ZB : Obj := .cells #[.pointer none, .pointer none, .pointer none, .pointer none] 50
/-- A list and its copy, as they are put into the book. -/
theorem EnR.two {W1 W2 : World} {L : List Lt} {A1 A2 : Option Addr} {c1 c2 : Nat} {B1 B2 : Nat} (h1 : OwnL W1 B1 A1 c1 L) (hb : Below W1.heap.size W1 W2) (h2 : OwnL W2 B2 A2 c2 L) (hL : L.length ≤ 1024) : EnR W2 ⟨A1, c1, none, 0, A2, c2, none, 0, L, []⟩ :=
  ⟨(RdL.of h1).below hb, RdL.nil _, RdL.of h2, RdL.nil _, ⟨hL, Nat.zero_le _⟩⟩

theorem UQ.rowAt {w W W1 : World} {n m g k k' : Nat} {x0 : Pm} {r0 : Rm} {s : Option (Pm × Rm)} {cap : Nat} {E : List En} {e : En} (h : UQ w W n m x0 r0 s (some ⟨g, 0, none⟩) cap E k') (he : E[k]? = some e) {B : Nat} {L L' M : List Lt} {A1 A2 A3 : Option Addr} (d : MkDone W W1 B e.la L L' M A1 A2 A3) :
    W1.cell? ⟨g, k * 4, none⟩ = some (.slice e.la e.L.length e.lq) ∧ W1.cell? ⟨g, k * 4 + 1, none⟩ = some (.slice e.ma e.M.length e.mq) ∧ W1.cell? ⟨g, k * 4 + 2, none⟩ = some (.slice e.wa e.L.length e.wq) ∧ W1.cell? ⟨g, k * 4 + 3, none⟩ = some (.slice e.va e.M.length e.vq) ∧ (∀ j, W1.frozen? ⟨g, j, none⟩ = false) := by
  have hr : OwnE W1 w.heap.size (some ⟨g, 0, none⟩) cap E := ownsRow_keep h.bk.row fun q hq => d.fr.block q (h.bk.lt q (.inl hq)) (fun hh => h.rw_ e (List.mem_of_getElem? he) q (.inl hh) hq)
  obtain ⟨g', hg, hc⟩ := own_at (c := ec) (by decide) ec_length hr k e he
  simp only [Option.some.injEq, Addr.mk.injEq, and_true] at hg
  subst hg
  exact ⟨hc 0 _ rfl, hc 1 _ rfl, hc 2 _ rfl, hc 3 _ rfl, fun j => hr.frozenAt j⟩

set_option maxHeartbeats 16000000 in
set_option maxRecDepth 100000 in
theorem untouched_calls (a0 : Int) (A : Option Addr) (cA : Nat) (l : List Mo) (w0 w : World) (hA : RMop w0 A l) (hb : Below w0.heap.size w0 w) (hl : l.length ≤ 1048576) :
    Calls Try.prog 23 #[.int .i64 a0, .slice A l.length cA] w fun e w' => e = .returned (.bool true) ∧ Below w.heap.size w w' := by
  have HA := Aside0.mk hA
  have HL := Aside0.mk hl
  have HB0 := Aside0.mk hb
  have HX := Aside0.mk (blk_new w ZB)
  have HB := Aside0.mk (below2a w ZB)
  have hplc := plc_lt
  have HPL := Aside0.mk hplc
  clear hA hl hb hplc
  go_enter Try.func23, Try.ntmps23
  go_upto_region 2 with fail
  generalize w.alloc ZB = w1 at *
  go_upto_region 7 with (go_at_call 20; (with_reducible refine (begins_calls w.heap.size a0 w _ HX.out HB.out (Nat.le_refl _)).mono ?_); rintro e w2 ⟨rfl, hs⟩; have H2 := Aside0.mk (UI.start hs 0); clear hs)
  go_loopg [7, 8] l.length (fun kq v7 v8 w' => ∃ (i : Nat) (K : Option Addr) (cap : Nat) (E : List En), v7 = .slice K E.length cap ∧ v8 = .int .i64 (i : Int) ∧ Aside0 (i + kq = l.length) ∧ Aside0 (E.length ≤ 3 * i) ∧ Aside0 (UI w w' i w.heap.size K cap E 0))
  case atStart => exact ⟨0, none, 0, [], rfl, rfl, ⟨by omega⟩, ⟨Nat.zero_le _⟩, H2⟩
  case round =>
    obtain ⟨i, K, cap, E, rfl, rfl, HK, HE, HU⟩ := hrel
    by_cases ci : (i : Int) < (l.length : Int)
    · cases gk with
      | zero => exact absurd HK.out (by omega)
      | succ k1 =>
      have cb : decide ((i : Int) < (l.length : Int)) = true := decide_eq_true ci
      have cb2 : decide (i < l.length) = true := decide_eq_true (by omega)
      have p2 : (0 ≤ (i : Int)) = True := eq_true (by omega)
      have p3 : ((i : Int) < (l.length : Int)) = True := eq_true ci
      have hwi : wrap64 ((i : Int) + 1) = (i : Int) + 1 := Go.IntWalk.wrap64_in _ (by have := HL.out; omega)
      have HK' := Aside0.mk (show i + 1 + k1 = l.length by have := HK.out; omega)
      obtain ⟨ad, rfl, x0, x1, x2, x3, x4⟩ := HA.out.at_ (below_step HB0.out HU.out.below_) i (by omega)
      have HO := Aside0.mk (HA.out.wf i (by omega))
      generalize l.getD i mo0 = o at *
      clear ci HK
      go_upto_region 10 with fail
      have HX2 := Aside0.mk (blk_new wr (OM o))
      have HU2 := Aside0.mk (HU.out.grow (below2a wr (OM o)))
      have HNK := Aside0.mk (show ¬ KS K E wr.heap.size from fun hh => by have := HU.out.kslt _ hh; omega)
      clear x0 x1 x2 x3 x4 HU
      generalize wr.heap.size = c at *
      generalize wr.alloc (OM o) = w3 at *
      have y1 := blk_cell HX2.out 1
      go_upto_region 12 with (go_at_call 24; refine (place_calls o.a _).mono ?_; rintro e w' ⟨rfl, rfl⟩)
      clear y1
      go_loopg [7, 10, 11] 3 (fun kq v7 v10 v11 w' => ∃ (j p : Nat) (K' : Option Addr) (cap' : Nat) (E' : List En), v7 = .slice K' E'.length cap' ∧ v10 = .int .i64 (p : Int) ∧ v11 = .int .i64 (j : Int) ∧ Aside0 (j + kq = 3) ∧ Aside0 (p < 2) ∧ Aside0 (E'.length ≤ 3 * i + j) ∧ Aside0 (UI w w' i w.heap.size K' cap' E' 0) ∧ Aside0 (w'.heap[c]? = some (.cells #[.int .i64 o.k, .int .i64 o.a, .int .i64 o.n, .int .i64 o.m, .string o.s] 41 (0, 0))) ∧ Aside0 (¬ KS K' E' c))
      case atStart => exact ⟨0, plc o.a, K, cap, E, rfl, rfl, rfl, ⟨by omega⟩, ⟨HPL.out o.a⟩, ⟨by have := HE.out; omega⟩, HU2, HX2, HNK⟩
      case round =>
        obtain ⟨j, p, K', cap', E', rfl, rfl, rfl, HJ, HP, HE', HU3, HX3, HNK3⟩ := hrel
        have y0 := blk_cell HX3.out 0
        by_cases cj : (j : Int) < 3
        · have cj1 : decide ((j : Int) < 3) = true := decide_eq_true cj
          by_cases ck : o.k = 7
          · have ck1 : (o.k == 7) = true := by simp [ck]
            cases gk with
            | zero => exact absurd HJ.out (by omega)
            | succ k2 =>
            have hwj : wrap64 ((j : Int) + 1) = (j : Int) + 1 := Go.IntWalk.wrap64_in _ (by omega)
            have HJ' := Aside0.mk (show j + 1 + k2 = 3 by have := HJ.out; omega)
            have HCK := Aside0.mk ck
            clear cj ck HJ
            go_upto_if 44 with fail
            go_cut [10] (fun v10 wx => (∃ p2 : Nat, v10 = .int .i64 (p2 : Int) ∧ Aside0 (p2 < 2)) ∧ wr = wx)
            case first =>
              by_cases c2 : (j : Int) = 2
              · have d2 : ((j : Int) == 2) = true := by simpa using c2
                have HWP := Aside0.mk (show wrap64 (1 - (p : Int)) = ((1 - p : Nat) : Int) from by rw [Go.IntWalk.wrap64_in _ (by have := HP.out; omega)]; have := HP.out; omega)
                clear c2
                go_wp2_with fail
                go_meet
                exact ⟨⟨1 - p, congrArg (Value.int .i64) HWP.out, ⟨by omega⟩⟩, rfl⟩
              · have d2 : ((j : Int) == 2) = false := by simpa using c2
                clear c2
                go_wp2_with fail
                go_meet
                exact ⟨⟨p, rfl, HP⟩, rfl⟩
            case rest =>
            obtain ⟨⟨p2, rfl, HP2⟩, rfl⟩ := hcut
            obtain ⟨v, v', L, b0, b1, hL, hf, hr⟩ := HU3.out.fly (by have := HL.out; have := HK'.out; omega) p2 HP2.out
            have HLL := Aside0.mk hL
            have HF := Aside0.mk hf
            have HR := Aside0.mk hr
            have HB1 := Aside0.mk b1
            have q2 : (0 ≤ (p2 : Int)) = True := eq_true (by omega)
            have q3 : ((p2 : Int) < 2) = True := eq_true (by have := HP2.out; omega)
            clear y0 hL hf hr b1
            go_upto_region 17 with (go_at_call 25; (with_reducible refine (HF.out _ (Below.refl _ _)).mono ?_); rintro e w4 ⟨A1, c1, rfl, hb, ho⟩; have HB4 := Aside0.mk hb; have HO4 := Aside0.mk ho; clear hb ho)
            have b1 := pw_cell_below HB4.out HB1.out
            go_upto_region 19 with (first
              | (go_at_call 27; (with_reducible refine (HR.out _ HB4.out).mono ?_); rintro e w5 ⟨A2, c2, rfl, hb, ho⟩; have HB5 := Aside0.mk (below_step HB4.out hb); have HO5 := Aside0.mk ho; have HO45 := Aside0.mk (ownsRow_keep HO4.out (fun q hq => hb.block q (ownsRow_lt HO4.out q hq).2)); clear hb ho)
              | (go_at_call 26; (with_reducible refine (same_quiet A1 A2 c1 c2 L _ (RdL.of HO45.out) (RdL.of HO5.out) (by have := HLL.out; omega)).mono ?_); rintro e w6 ⟨rfl, n6, hw6⟩; have hb6 : Below w5.heap.size w5 w6 := (by rw [hw6]; exact below_drewN w5 n6); have HB6 := Aside0.mk (below_step HB5.out hb6); have HO46 := Aside0.mk (ownsRow_keep HO45.out (fun q hq => hb6.block q (ownsRow_lt HO45.out q hq).2)); clear hb6 hw6))
            clear b0 b1 HO4 HO5 HO45 HB4 HB5 HB1 HR HF
            have D := Aside0.mk (show E'.length + 1 ≤ maxLen ∧ (E'.length + 1) * 96 ≤ 140737488355328 from ⟨by unfold maxLen; have := HE'.out; have := HL.out; have := HK'.out; have := HJ'.out; omega, by have := HE'.out; have := HL.out; have := HK'.out; have := HJ'.out; omega⟩)
            obtain ⟨i0, hi, hz0, hz1, hz2⟩ := info_parts info61
            have HI4 := Aside0.mk (And.intro hi (And.intro hz0 (And.intro hz1 hz2)))
            clear hi hz0 hz1 hz2
            go_wp2_with (first
              | (go_at_call 47; (with_reducible refine (letters_calls A1 c1 L _ (RdL.of HO46.out) (by have := HLL.out; omega)).mono ?_); rintro e w7 ⟨A3, c3, rfl, hb, ho⟩; have HB7 := Aside0.mk (below_step HB6.out hb); have HO47 := Aside0.mk (ownsRow_keep HO46.out (fun q hq => hb.block q (ownsRow_lt HO46.out q hq).2)); have HO7 := Aside0.mk ho; have HBL := Aside0.mk hb.size; clear hb ho)
              | (at_builtin; refine wpList_append_own_at _ rfl _ _ 55 rfl w.heap.size 61 i0 (.agg #[.slice none 0 0, .slice none 0 0, .slice none 0 0, .slice none 0 0]) 4 96 Try.underlying55 HI4.out.1 HI4.out.2.1 HI4.out.2.2.1 HI4.out.2.2.2 rfl (by decide) (.slice K' E'.length cap') E'.length (ecells E') rfl ((HU3.out.grow (below_step HB7.out (below2a w7 _))).bk.row) ⟨w7.heap.size, 0, none⟩ 1 1 (ec ⟨A1, c1, none, 0, A3, c3, none, 0, L, []⟩) rfl rfl (new_cells _ _ _) (ec_one _) D.out.1 D.out.2 (le_alloc (Nat.le_trans HU3.out.below_.size HB7.out.size)) ?_; intro v' w8 hown hgrow _ hat; obtain ⟨A8, c8, rfl⟩ := own_form hown; have HOwn := Aside0.mk hown; have HG := Aside0.mk hgrow; have HAT := Aside0.mk hat; clear hown hgrow hat))
            have hb7 : Below wr.heap.size wr (w7.alloc (.cells (ec ⟨A1, c1, none, 0, A3, c3, none, 0, L, []⟩).toArray 61)) := below_step HB7.out (below2a w7 _)
            have hg := HG.out
            rw [rowB_own] at hg
            have hat := HAT.out
            rw [rowB_own, rowB_own] at hat
            have hr : OwnE w8 w.heap.size A8 c8 (E' ++ [⟨A1, c1, none, 0, A3, c3, none, 0, L, []⟩]) := by
              unfold OwnE
              rw [ecells_app, List.length_append]
              exact HOwn.out
            have hadd := HU3.out.add hb7 (e := ⟨A1, c1, none, 0, A3, c3, none, 0, L, []⟩) hr hg hat ((EnR.two HO47.out (Below.refl _ _) HO7.out HLL.out).keep (fun q hq => (below2a w7 _).block q ((EnR.two HO47.out (Below.refl _ _) HO7.out HLL.out).lt q hq)) (below2a w7 _).size) (fun _ => own_less (World.ownsRow.alloc HO47.out _) HU3.out.below_.size) (fun q hq => by
              rcases hq with hq | hq | hq | hq
              · exact (ownsRow_lt HO47.out q hq).1
              · cases hq
              · exact Nat.le_trans HB6.out.size (ownsRow_lt HO7.out q hq).1
              · cases hq)
            have hcl : c < wr.heap.size := blk_lt HX3.out
            have hx8 : w8.heap[c]? = _ := (hg.block c (Nat.lt_of_lt_of_le hcl hb7.size) (fun hh => HNK3.out (.inl hh.symm))).trans (blk_below HX3.out hb7)
            have HX8 := Aside0.mk hx8
            have HU8 := Aside0.mk hadd.1
            have HNK8 := Aside0.mk (show ¬ KS A8 (E' ++ [⟨A1, c1, none, 0, A3, c3, none, 0, L, []⟩]) c from fun hh => by
              rcases hadd.2 c hh with h1 | h1
              · exact HNK3.out h1
              · omega)
            clear hb7 hg hat hr hadd hcl hx8 HOwn HG HAT
            go_roundg k2
            case measure => have := HJ'.out; omega
            case rel => exact ⟨j + 1, p2, A8, c8, E' ++ [⟨A1, c1, none, 0, A3, c3, none, 0, L, []⟩], by rw [List.length_append]; rfl, rfl, congrArg (Value.int .i64) (by rw [hwj]; omega), HJ', HP2, ⟨by rw [List.length_append]; have := HE'.out; simp; omega⟩, HU8, HX8, HNK8⟩
          · have ck1 : (o.k == 7) = false := by simp [ck]
            clear cj ck
            have y1 := blk_cell HX3.out 1
            have y2 := blk_cell HX3.out 2
            have y3 := blk_cell HX3.out 3
            have y4 := blk_cell HX3.out 4
            go_upto_region 21 with (go_at_call 22; (with_reducible refine (HU3.out.step o (by have := HL.out; have := HK'.out; omega) HO.out).mono ?_); rintro e w4 ⟨rfl, hs⟩; have HU4 := Aside0.mk hs; clear hs)
            clear y0 y1 y2 y3 y4
            go_wp2_with (go_at_call 48; (with_reducible refine (HU4.out.still (by have := HE'.out; have := HL.out; have := HK'.out; have := HJ.out; omega)).mono ?_); rintro e w5 ⟨rfl, hs⟩; have HU5 := Aside0.mk hs; clear hs)
            go_roundg k1
            case measure => have := HK'.out; omega
            case rel => exact ⟨i + 1, K', cap', E', rfl, congrArg (Value.int .i64) (by omega), HK', ⟨by have := HE'.out; have := HJ.out; omega⟩, HU5⟩
        · have cj1 : decide ((j : Int) < 3) = false := decide_eq_false cj
          clear cj
          have y1 := blk_cell HX3.out 1
          have y2 := blk_cell HX3.out 2
          have y3 := blk_cell HX3.out 3
          have y4 := blk_cell HX3.out 4
          go_upto_region 21 with (go_at_call 22; (with_reducible refine (HU3.out.step o (by have := HL.out; have := HK'.out; omega) HO.out).mono ?_); rintro e w4 ⟨rfl, hs⟩; have HU4 := Aside0.mk hs; clear hs)
          clear y0 y1 y2 y3 y4
          go_wp2_with (go_at_call 48; (with_reducible refine (HU4.out.still (by have := HE'.out; have := HL.out; have := HK'.out; have := HJ.out; omega)).mono ?_); rintro e w5 ⟨rfl, hs⟩; have HU5 := Aside0.mk hs; clear hs)
          go_roundg k1
          case measure => have := HK'.out; omega
          case rel => exact ⟨i + 1, K', cap', E', rfl, congrArg (Value.int .i64) (by omega), HK', ⟨by have := HE'.out; have := HJ.out; omega⟩, HU5⟩
    · have cb : decide ((i : Int) < (l.length : Int)) = false := decide_eq_false ci
      have cb2 : decide (i < l.length) = false := decide_eq_false (by omega)
      have hi : i = l.length := by have := HK.out; omega
      have HN := Aside0.mk (show i ≤ 1048576 by have := HL.out; omega)
      clear ci hi HK
      go_upto_region 24 with fail
      go_loopg [13] E.length (fun kq v13 w' => ∃ (k : Nat) (E' : List En), v13 = .int .i64 (k : Int) ∧ Aside0 (k + kq = E.length) ∧ Aside0 (E'.length = E.length) ∧ Aside0 (UI w w' i w.heap.size K cap E' k))
      case atStart => exact ⟨0, E, rfl, ⟨by omega⟩, ⟨rfl⟩, HU⟩
      case round =>
        obtain ⟨k, E', rfl, HK, HEE, HU2⟩ := hrel
        by_cases ck : (k : Int) < (E.length : Int)
        · cases gk with
          | zero => exact absurd HK.out (by omega)
          | succ k1 =>
          have dk : decide ((k : Int) < (E.length : Int)) = true := decide_eq_true ck
          have dk2 : decide (k < E.length) = true := decide_eq_true (by omega)
          have p2 : (0 ≤ (k : Int)) = True := eq_true (by omega)
          have p3 : ((k : Int) < (E.length : Int)) = True := eq_true ck
          have hwk : wrap64 ((k : Int) + 1) = (k : Int) + 1 := Go.IntWalk.wrap64_in _ (by have := HE.out; have := HN.out; omega)
          have HK' := Aside0.mk (show k + 1 + k1 = E.length by have := HK.out; omega)
          obtain ⟨e, he⟩ : ∃ e, E'[k]? = some e := ⟨_, List.getElem?_eq_getElem (show k < E'.length by rw [HEE.out]; omega)⟩
          have HEK := Aside0.mk he
          obtain ⟨x0, r0, s, hq⟩ := HU2.out
          obtain ⟨g, rfl, x0', x1', x2', x3'⟩ := hq.bk.at_ k e he
          have HQ := Aside0.mk hq
          have HUN := Aside0.mk (hq.un k e (Nat.le_refl _) he)
          have HSM := Aside0.mk (hq.bk.en e (List.mem_of_getElem? he)).sm
          clear ck he hq HK x1' x2' x3'
          go_upto_region 25 with (go_at_call 28; (with_reducible refine (marked_calls w.heap.size e.la e.lq e.L _ _ HUN.out HQ.out.bel.size HSM.out.1).mono ?_); rintro e' w4 ⟨L', M, A1, c1, A2, c2, A3, c3, rfl, hd⟩; have HD := Aside0.mk hd; have hrow := HQ.out.rowAt HEK.out hd; have t0 := hrow.1; have t1 := hrow.2.1; have t2 := hrow.2.2.1; have t3 := hrow.2.2.2.1; have f0 := hrow.2.2.2.2 (k * 4); have f1 := hrow.2.2.2.2 (k * 4 + 1); have f2 := hrow.2.2.2.2 (k * 4 + 2); have f3 := hrow.2.2.2.2 (k * 4 + 3); clear hd hrow)
          have HM := Aside0.mk (HQ.out.mark HEK.out HD.out rfl c1 c2 c3)
          clear t0 t1 t2 t3 f0 f1 f2 f3 x0'
          go_wp2_with fail
          go_roundg k1
          case measure => have := HK'.out; omega
          case rel => exact ⟨k + 1, _, congrArg (Value.int .i64) (by omega), HK', ⟨(List.length_set ..).trans HEE.out⟩, ⟨x0, r0, s, HM.out⟩⟩
        · have dk : decide ((k : Int) < (E.length : Int)) = false := decide_eq_false ck
          have dk2 : decide (k < E.length) = false := decide_eq_false (by omega)
          have HEL := Aside0.mk (show E'.length ≤ 4611686018427387904 by rw [HEE.out]; have := HE.out; have := HN.out; omega)
          have hee := HEE.out
          rw [← hee] at dk dk2 ⊢
          clear ck hee
          go_wp2_with (first
            | (go_at_call 48; (with_reducible refine (HU2.out.still HEL.out).mono ?_); rintro e w4 ⟨rfl, hs⟩; have HU4 := Aside0.mk hs; clear hs)
            | (go_at_call 22; (with_reducible refine (HU4.out.fly7 (by have := HN.out; omega) 0).mono ?_); rintro e w5 ⟨rfl, hs⟩; have HU5 := Aside0.mk hs; clear hs)
            | (go_at_call 22; (with_reducible refine (HU5.out.fly7 (by have := HN.out; omega) 1).mono ?_); rintro e w6 ⟨rfl, hs⟩; have HU6 := Aside0.mk hs; clear hs)
            | (go_at_call 48; (with_reducible refine (HU6.out.still HEL.out).mono ?_); rintro e w7 ⟨rfl, hs⟩; have HU7 := Aside0.mk hs; clear hs))
          go_ret
          exact ⟨rfl, HU7.out.below_⟩

end Go.Proofs.Ytadbcekglcmccaa.Q
