/- The walk of granarylaw13.MailOwnLists: it answers true. Condition: the script is read and not too long. -/
import Derived.Test.YtadbcekglcmccaaProg
import Derived.Below
import Derived.Deep.Draws
import Derived.Deep.AppendLies
import Derived.Maps.AppendAt
import Derived.OwnWalk
import Derived.Laws.BytesArg
import Derived.Laws.MakeOwn
import Derived.Laws.OwnMore
import Derived.Deep.OwnRows
import Derived.Tactics
import Derived.Lib.ConvBytes
import Derived.Laws.Slices
import Derived.WalkKit
import Derived.KernelRfl
import Derived.RowKit3
import Derived.Deep.LoopGhost
import Derived.Deep.QuietTactic
import Derived.BigQuiet
import Derived.WideLaws
import Derived.Deep.DeepCutAuto
import Derived.Deep.CutBlock
import Derived.Deep.RegionHeld3
import Derived.Laws.Rows
import Derived.Lib.AppendStr
import Derived.ArgAppend
import Derived.Laws.IdiomCopy
import Derived.OrdersHeld
import Derived.Laws.BitsLemmas
import Derived.RowKit
import Derived.Test.YtadbcekglcmccaaWWords
import Derived.Test.YtadbcekglcmccaaWLast
import Derived.Test.YtadbcekglcmccaaWTab
import Derived.Test.YtadbcekglcmccaaWFour
import Derived.Test.YtadbcekglcmccaaWQPut
import Derived.Test.YtadbcekglcmccaaWApart
import Derived.Test.YtadbcekglcmccaaWArr
import Derived.Test.YtadbcekglcmccaaWZeros
import Derived.Test.YtadbcekglcmccaaWFoot
import Derived.Test.YtadbcekglcmccaaWKept
import Derived.Test.YtadbcekglcmccaaWShare
import Derived.Test.YtadbcekglcmccaaWN
import Derived.Test.YtadbcekglcmccaaWFootNe
import Derived.Test.YtadbcekglcmccaaWAt
import Derived.Test.YtadbcekglcmccaaWEqStruct
import Derived.Test.YtadbcekglcmccaaWRepsOne
import Derived.Test.YtadbcekglcmccaaWInv
import Derived.Test.YtadbcekglcmccaaWInvWords
import Derived.Test.YtadbcekglcmccaaWGuard
import Derived.Test.YtadbcekglcmccaaWNEv
import Derived.Test.YtadbcekglcmccaaWMore
import Derived.Test.YtadbcekglcmccaaC4
set_option linter.unusedVariables false
set_option linter.unusedSimpArgs false
namespace Go.Proofs.Ytadbcekglcmccaa.Q
open Go.RowKit Go.Proofs.YtadbcekglcmccaaW.PrintWords Go.Proofs.YtadbcekglcmccaaW.PrintLast Go.Proofs.YtadbcekglcmccaaW.PrintMore
open Go.FM Go.Plan

theorem UQ.more {w W : World} {n m : Nat} {x0 : Pm} {r0 : Rm} {s : Option (Pm × Rm)} {A : Option Addr} {cap : Nat} {E : List En} {k : Nat} (h : UQ w W n m x0 r0 s A cap E k) : UQ w W (n + 1) m x0 r0 s A cap E k :=
  ⟨h.bs.more (by omega), h.bel, h.ge, h.bk, h.kge, h.ap, h.rw_, h.un, h.pw⟩

set_option maxHeartbeats 16000000 in
set_option maxRecDepth 100000 in
theorem ownlists_calls (a0 : Int) (A : Option Addr) (cA : Nat) (l : List Mo) (w : World) (hA : RMop w A l) (hl : l.length ≤ 1048576) :
    Calls Try.prog 8 #[.int .i64 a0, .slice A l.length cA] w fun e w' => e = .returned (.bool true) ∧ Below w.heap.size w w' := by
  have HA := Aside0.mk hA
  have HL := Aside0.mk hl
  have HX := Aside0.mk (blk_new w ZB)
  have HB := Aside0.mk (below2a w ZB)
  have hplc := plc_lt
  have HPL := Aside0.mk hplc
  clear hA hl hplc
  go_enter Try.func8, Try.ntmps8
  go_upto_region 2 with fail
  generalize w.alloc ZB = w1 at *
  go_upto_region 7 with (first
    | (go_at_call 20; (with_reducible refine (begins_calls w.heap.size a0 w _ HX.out HB.out (Nat.le_refl _)).mono ?_); rintro e w2 ⟨rfl, hs⟩; have H2 := Aside0.mk hs; clear hs)
    | (go_at_call 23; (with_reducible refine (untouched_calls a0 A cA l w _ HA.out H2.out.below_ HL.out).mono ?_); rintro e w3 ⟨rfl, hb⟩; have H3 := Aside0.mk (UI.start (H2.out.grow hb) 4611686018427387904); clear hb))
  go_loopg [7, 8] l.length (fun kq v7 v8 w' => ∃ (i : Nat) (K : Option Addr) (cap : Nat) (E : List En), v7 = .slice K E.length cap ∧ v8 = .int .i64 (i : Int) ∧ Aside0 (i + kq = l.length) ∧ Aside0 (E.length ≤ i) ∧ Aside0 (UI w w' i w.heap.size K cap E 4611686018427387904))
  case atStart => exact ⟨0, none, 0, [], rfl, rfl, ⟨by omega⟩, ⟨Nat.zero_le _⟩, H3⟩
  case round =>
    obtain ⟨i, K, cap, E, rfl, rfl, HK, HE, HU⟩ := hrel
    by_cases ci : (i : Int) < (l.length : Int)
    · cases gk with
      | zero => exact absurd HK.out (by omega)
      | succ k1 =>
      have cb : decide ((i : Int) < (l.length : Int)) = true := decide_eq_true ci
      have cb2 : decide (i < l.length) = true := decide_eq_true (by omega)
      have p2 : (0 ≤ (i : Int)) = True := eq_true (by omega)
      have p3 : ((i : Int) < (l.length : Int)) = True := eq_true ci
      have hwi : wrap64 ((i : Int) + 1) = (i : Int) + 1 := Go.IntWalk.wrap64_in _ (by have := HL.out; omega)
      have HK' := Aside0.mk (show i + 1 + k1 = l.length by have := HK.out; omega)
      obtain ⟨ad, rfl, x0, x1, x2, x3, x4⟩ := HA.out.at_ HU.out.below_ i (by omega)
      have HO := Aside0.mk (HA.out.wf i (by omega))
      generalize l.getD i mo0 = o at *
      clear ci HK
      go_upto_region 10 with fail
      have HX2 := Aside0.mk (blk_new wr (OM o))
      have HU2 := Aside0.mk (HU.out.grow (below2a wr (OM o)))
      clear x0 x1 x2 x3 x4 HU
      generalize wr.heap.size = c at *
      generalize wr.alloc (OM o) = w3 at *
      have y0 := blk_cell HX2.out 0
      have y1 := blk_cell HX2.out 1
      go_upto_if 41 with (go_at_call 24; refine (place_calls o.a _).mono ?_; rintro e w' ⟨rfl, hh⟩; obtain rfl : w3 = w' := hh.symm)
      clear y1
      go_cut [7] (fun v7 wx => ∃ (K' : Option Addr) (cap' : Nat) (E' : List En), v7 = .slice K' E'.length cap' ∧ Aside0 (E'.length ≤ i + 1) ∧ Aside0 (UI w wx (i + 1) w.heap.size K' cap' E' 4611686018427387904))
      case first =>
        by_cases ck : o.k = 7
        · have ck1 : (o.k == 7) = true := by simp [ck]
          have HP2 := Aside0.mk (HPL.out o.a)
          generalize plc o.a = p2 at *
          obtain ⟨v, v', L, b0, b1, hL, hf, hr⟩ := HU2.out.fly (by have := HL.out; have := HK'.out; omega) p2 HP2.out
          have HLL := Aside0.mk hL
          have HF := Aside0.mk hf
          have HR := Aside0.mk hr
          have HB1 := Aside0.mk b1
          have q2 : (0 ≤ (p2 : Int)) = True := eq_true (by omega)
          have q3 : ((p2 : Int) < 2) = True := eq_true (by have := HP2.out; omega)
          clear y0 hL hf hr b1 ck
          go_upto_region 13 with (go_at_call 25; (with_reducible refine (HF.out _ (Below.refl _ _)).mono ?_); rintro e w4 ⟨A1, c1, rfl, hb, ho⟩; have HB4 := Aside0.mk hb; have HO4 := Aside0.mk ho; clear hb ho)
          have b1 := pw_cell_below HB4.out HB1.out
          go_upto_region 15 with (first
            | (go_at_call 27; (with_reducible refine (HR.out _ HB4.out).mono ?_); rintro e w5 ⟨A2, c2, rfl, hb, ho⟩; have HB5 := Aside0.mk (below_step HB4.out hb); have HO5 := Aside0.mk ho; have HO45 := Aside0.mk (ownsRow_keep HO4.out (fun q hq => hb.block q (ownsRow_lt HO4.out q hq).2)); clear hb ho)
            | (go_at_call 26; (with_reducible refine (same_quiet A1 A2 c1 c2 L _ (RdL.of HO45.out) (RdL.of HO5.out) (by have := HLL.out; omega)).mono ?_); rintro e w6 ⟨rfl, n6, hw6⟩; have hb6 : Below w5.heap.size w5 w6 := (by rw [hw6]; exact below_drewN w5 n6); have HB6 := Aside0.mk (below_step HB5.out hb6); have HO46 := Aside0.mk (ownsRow_keep HO45.out (fun q hq => hb6.block q (ownsRow_lt HO45.out q hq).2)); clear hb6 hw6))
          clear b0 b1 HO4 HO5 HO45 HB4 HB5 HB1 HR HF
          have D := Aside0.mk (show E.length + 1 ≤ maxLen ∧ (E.length + 1) * 96 ≤ 140737488355328 from ⟨by unfold maxLen; have := HE.out; have := HL.out; have := HK'.out; omega, by have := HE.out; have := HL.out; have := HK'.out; omega⟩)
          obtain ⟨i0, hi, hz0, hz1, hz2⟩ := info_parts info61
          have HI4 := Aside0.mk (And.intro hi (And.intro hz0 (And.intro hz1 hz2)))
          clear hi hz0 hz1 hz2
          go_wp2_with (first
            | (go_at_call 28; (with_reducible refine (marked_calls w3.heap.size A1 c1 L _ _ HO46.out HB6.out.size HLL.out).mono ?_); rintro e' w7 ⟨L', M, Am, cm, Aw, cw, Av, cv, rfl, hd⟩; have HD := Aside0.mk hd; have HB7 := Aside0.mk (hd.fr.below HB6.out (fun q hq => (ownsRow_lt HO46.out q hq).1) HB6.out.size); clear hd)
            | (at_builtin; refine wpList_append_own_at _ rfl _ _ 55 rfl w.heap.size 61 i0 (.agg #[.slice none 0 0, .slice none 0 0, .slice none 0 0, .slice none 0 0]) 4 96 Try.underlying55 HI4.out.1 HI4.out.2.1 HI4.out.2.2.1 HI4.out.2.2.2 rfl (by decide) (.slice K E.length cap) E.length (ecells E) rfl ((HU2.out.grow (below_step HB7.out (below2a w7 _))).bk.row) ⟨w7.heap.size, 0, none⟩ 1 1 (ec ⟨A1, c1, Am, cm, Aw, cw, Av, cv, L', M⟩) rfl rfl (new_cells _ _ _) (ec_one _) D.out.1 D.out.2 (le_alloc (Nat.le_trans HU2.out.below_.size HB7.out.size)) ?_; intro v' w8 hown hgrow _ hat; obtain ⟨A8, c8, rfl⟩ := own_form hown; have HOwn := Aside0.mk hown; have HG := Aside0.mk hgrow; have HAT := Aside0.mk hat; clear hown hgrow hat))
          have hb7 : Below w3.heap.size w3 (w7.alloc (.cells (ec ⟨A1, c1, Am, cm, Aw, cw, Av, cv, L', M⟩).toArray 61)) := below_step HB7.out (below2a w7 _)
          have hg := HG.out
          rw [rowB_own] at hg
          have hat := HAT.out
          rw [rowB_own, rowB_own] at hat
          have hr : OwnE w8 w.heap.size A8 c8 (E ++ [⟨A1, c1, Am, cm, Aw, cw, Av, cv, L', M⟩]) := by
            unfold OwnE
            rw [ecells_app, List.length_append]
            exact HOwn.out
          have hen : EnR w7 ⟨A1, c1, Am, cm, Aw, cw, Av, cv, L', M⟩ := ⟨HD.out.l, HD.out.m, HD.out.wl, HD.out.wm, ⟨by show L'.length ≤ 1024; rw [HD.out.len.1]; exact HLL.out, by show M.length ≤ 1088; rw [HD.out.len.2]; have := HLL.out; omega⟩⟩
          have hadd := HU2.out.add hb7 (e := ⟨A1, c1, Am, cm, Aw, cw, Av, cv, L', M⟩) hr hg hat (hen.keep (fun q hq => (below2a w7 _).block q (hen.lt q hq)) (below2a w7 _).size) (fun hh => absurd hh (by have := HE.out; have := HL.out; have := HK'.out; omega)) (fun q hq => by
            rcases hq with hq | hq | hq | hq
            · exact (ownsRow_lt HO46.out q hq).1
            · rcases HD.out.a1 q hq with h1 | h1
              · exact (ownsRow_lt HO46.out q h1).1
              · exact Nat.le_trans HB6.out.size h1
            · exact Nat.le_trans HB6.out.size (HD.out.a2 q hq)
            · exact Nat.le_trans HB6.out.size (HD.out.a3 q hq))
          have HU8 := Aside0.mk hadd.1
          clear hb7 hg hat hr hadd hen HOwn HG HAT
          go_meet
          obtain ⟨x0, r0, s, hq⟩ := HU8.out
          exact ⟨A8, c8, E ++ [⟨A1, c1, Am, cm, Aw, cw, Av, cv, L', M⟩], by rw [List.length_append]; rfl, ⟨by rw [List.length_append]; have := HE.out; simp; omega⟩, ⟨x0, r0, s, hq.more⟩⟩
        · have ck1 : (o.k == 7) = false := by simp [ck]
          have y1 := blk_cell HX2.out 1
          have y2 := blk_cell HX2.out 2
          have y3 := blk_cell HX2.out 3
          have y4 := blk_cell HX2.out 4
          clear ck
          go_wp2_with (go_at_call 22; (with_reducible refine (HU2.out.step o (by have := HL.out; have := HK'.out; omega) HO.out).mono ?_); rintro e w4 ⟨rfl, hs⟩; have HU4 := Aside0.mk hs; clear hs)
          go_meet
          exact ⟨K, cap, E, rfl, ⟨by have := HE.out; omega⟩, HU4⟩
      case rest =>
      obtain ⟨K', cap', E', rfl, HE', HU3⟩ := hcut
      clear y0 HX2 HU2
      go_upto_region 18 with fail
      go_loopg [12] E'.length (fun kq v12 w' => ∃ (j : Nat), v12 = .int .i64 (j : Int) ∧ Aside0 (j + kq = E'.length) ∧ Aside0 (UI w w' (i + 1) w.heap.size K' cap' E' 4611686018427387904))
      case atStart => exact ⟨0, rfl, ⟨by omega⟩, HU3⟩
      case round =>
        obtain ⟨j, rfl, HJ, HUj⟩ := hrel
        by_cases cj : (j : Int) < (E'.length : Int)
        · cases gk with
          | zero => exact absurd HJ.out (by omega)
          | succ k2 =>
          have cj1 : decide ((j : Int) < (E'.length : Int)) = true := decide_eq_true cj
          have cj2 : decide (j < E'.length) = true := decide_eq_true (by omega)
          have q2 : (0 ≤ (j : Int)) = True := eq_true (by omega)
          have q3 : ((j : Int) < (E'.length : Int)) = True := eq_true cj
          have hwj : wrap64 ((j : Int) + 1) = (j : Int) + 1 := Go.IntWalk.wrap64_in _ (by have := HL.out; have := HE'.out; have := HK'.out; omega)
          have HJ' := Aside0.mk (show j + 1 + k2 = E'.length by have := HJ.out; omega)
          obtain ⟨e, he⟩ : ∃ e, E'[j]? = some e := ⟨_, List.getElem?_eq_getElem (show j < E'.length by omega)⟩
          have HEn := Aside0.mk (HUj.out.bk.en e (List.mem_of_getElem? he))
          obtain ⟨g, rfl, z0, z1, z2, z3⟩ := HUj.out.bk.at_ j e he
          have HS1 := Aside0.mk (fun n => same_quiet e.la e.wa e.lq e.wq e.L (wr.drewN n) (HEn.out.l.keep (fun q hq => rfl) (Nat.le_refl _)) (HEn.out.w.keep (fun q hq => rfl) (Nat.le_refl _)) (by have := HEn.out.sm; omega))
          have HS2 := Aside0.mk (fun n => same_quiet e.ma e.va e.mq e.vq e.M (wr.drewN n) (HEn.out.m.keep (fun q hq => rfl) (Nat.le_refl _)) (HEn.out.v.keep (fun q hq => rfl) (Nat.le_refl _)) (by have := HEn.out.sm; omega))
          clear cj he HJ
          go_wp2_with fail
          go_quiet (first
            | (go_at_call 26; with_reducible exact Calls.quiet_of (HS1.out _))
            | (go_at_call 26; with_reducible exact Calls.quiet_of (HS2.out _)))
          have HU5 := Aside0.mk (HUj.out.grow (below_drewN wr nq))
          go_wp2_with fail
          go_roundg k2
          case measure => have := HJ'.out; omega
          case rel => exact ⟨j + 1, congrArg (Value.int .i64) (by omega), HJ', HU5⟩
        · have cj1 : decide ((j : Int) < (E'.length : Int)) = false := decide_eq_false cj
          have cj2 : decide (j < E'.length) = false := decide_eq_false (by omega)
          clear cj
          go_wp2_with fail
          go_roundg k1
          case measure => have := HK'.out; omega
          case rel => exact ⟨i + 1, K', cap', E', rfl, congrArg (Value.int .i64) (by omega), HK', HE', HUj⟩
    · have cb : decide ((i : Int) < (l.length : Int)) = false := decide_eq_false ci
      have cb2 : decide (i < l.length) = false := decide_eq_false (by omega)
      have HN := Aside0.mk (show i ≤ 1048576 by have := HL.out; have := HK.out; omega)
      clear ci HK
      go_wp2_with (first
        | (go_at_call 22; (with_reducible refine (HU.out.fly7 (by have := HN.out; omega) 0).mono ?_); rintro e w5 ⟨rfl, hs⟩; have HU5 := Aside0.mk hs; clear hs)
        | (go_at_call 22; (with_reducible refine (HU5.out.one_ (by have := HN.out; omega)).mono ?_); rintro e w6 ⟨rfl, hs⟩; have HU6 := Aside0.mk hs; clear hs)
        | (go_at_call 22; (with_reducible refine (HU6.out.fly7 (by have := HN.out; omega) 0).mono ?_); rintro e w7 ⟨rfl, hs⟩; have HU7 := Aside0.mk hs; clear hs))
      go_ret
      exact ⟨rfl, HU7.out.below_⟩

end Go.Proofs.Ytadbcekglcmccaa.Q
