/- The walk of granarylaw10.ThrottleTries where a budget may be made: it answers true. Condition: a shape that NewBudget takes. -/
import Derived.Test.YthajekcjgkidhaaProg
import Derived.Below
import Derived.Deep.Draws
import Derived.Deep.AppendLies
import Derived.Maps.AppendAt
import Derived.OwnWalk
import Derived.Laws.BytesArg
import Derived.Laws.MakeOwn
import Derived.Laws.OwnMore
import Derived.Deep.OwnRows
import Derived.Tactics
import Derived.Lib.ConvBytes
import Derived.Laws.Slices
import Derived.WalkKit
import Derived.KernelRfl
import Derived.RowKit3
import Derived.Deep.LoopGhost
import Derived.Deep.QuietTactic
import Derived.BigQuiet
import Derived.WideLaws
import Derived.Deep.DeepCutAuto
import Derived.Deep.CutBlock
import Derived.Deep.RegionHeld3
import Derived.Laws.Rows
import Derived.Lib.AppendStr
import Derived.ArgAppend
import Derived.Laws.IdiomCopy
import Derived.OrdersHeld
import Derived.Laws.BitsLemmas
import Derived.RowKit
import Derived.Test.YthajekcjgkidhaaWWords
import Derived.Test.YthajekcjgkidhaaWLast
import Derived.Test.YthajekcjgkidhaaWTab
import Derived.Test.YthajekcjgkidhaaWFour
import Derived.Test.YthajekcjgkidhaaWQPut
import Derived.Test.YthajekcjgkidhaaWApart
import Derived.Test.YthajekcjgkidhaaWArr
import Derived.Test.YthajekcjgkidhaaWZeros
import Derived.Test.YthajekcjgkidhaaWFoot
import Derived.Test.YthajekcjgkidhaaWKept
import Derived.Test.YthajekcjgkidhaaWShare
import Derived.Test.YthajekcjgkidhaaWN
import Derived.Test.YthajekcjgkidhaaWFootNe
import Derived.Test.YthajekcjgkidhaaWAt
import Derived.Test.YthajekcjgkidhaaWEqStruct
import Derived.Test.YthajekcjgkidhaaWRepsOne
import Derived.Test.YthajekcjgkidhaaWInv
import Derived.Test.YthajekcjgkidhaaWInvWords
import Derived.Test.YthajekcjgkidhaaWGuard
import Derived.Test.YthajekcjgkidhaaWNEv
import Derived.Test.YthajekcjgkidhaaWMore
import Derived.Test.YthajekcjgkidhaaLocks
import Derived.Conc.MuLone
import Derived.Test.YthajekcjgkidhaaN6p
set_option linter.unusedVariables false
set_option linter.unusedSimpArgs false
namespace Go.Proofs.Ythajekcjgkidhaa.Q
open Go.RowKit Go.Proofs.YthajekcjgkidhaaW.PrintWords Go.Proofs.YthajekcjgkidhaaW.PrintLast Go.Proofs.YthajekcjgkidhaaW.PrintMore
open Go.MuLone Go.FM Go.Plan

set_option maxHeartbeats 16000000 in
set_option maxRecDepth 100000 in
theorem tries_ok (n : Nat) (B C : Int) (hs : okBud n B C) (it : Int × Int) (hit : okI it) (Ao : Option Addr) (co : Nat) (l : List (Int × Int)) (hl : ∀ x ∈ l, okI x) (now0 : Int) (w : World) (hr : RItems w Ao l) (hc : l.length ≤ co) :
    Calls Try.prog 4 #[.agg #[.int .i64 n, .int .i64 B, .int .i64 C], .agg #[.int .i64 it.1, .int .i64 it.2], .slice Ao l.length co, .int .i64 now0] w fun e w' => e = .returned (.bool true) ∧ Below w.heap.size w w' := by
  have hlen := hr.2.1
  have HR := Aside0.mk hr
  have HC := Aside0.mk hc
  have HS := Aside0.mk hs
  have HL := Aside0.mk hl
  have HN := Aside0.mk hlen
  clear hr hc hl hlen
  go_enter Try.func4, Try.ntmps4
  go_upto_region 1 with fail
  go_cut [24] (fun v24 wx => v24 = .bool (decide (now0 < 0 ∨ 9007199254740992 < now0)) ∧ (w.alloc (.cells #[.int .i64 n, .int .i64 B, .int .i64 C] 23)).alloc (.cells #[.int .i64 it.1, .int .i64 it.2] 35) = wx)
  case first =>
    by_cases k1 : now0 < 0
    · have n1 : decide (now0 < 0) = true := by simp; omega
      have nb := Aside0.mk (show Value.bool true = .bool (decide (now0 < 0 ∨ 9007199254740992 < now0)) by simp; omega)
      clear k1
      go_wp2_with fail
      go_meet
      exact ⟨nb.out, rfl⟩
    by_cases k2 : 9007199254740992 < now0
    · have n1 : decide (now0 < 0) = false := by simp; omega
      have n2 : decide (9007199254740992 < now0) = true := by simp; omega
      have nb := Aside0.mk (show Value.bool true = .bool (decide (now0 < 0 ∨ 9007199254740992 < now0)) by simp; omega)
      clear k1 k2
      go_wp2_with fail
      go_meet
      exact ⟨nb.out, rfl⟩
    · have n1 : decide (now0 < 0) = false := by simp; omega
      have n2 : decide (9007199254740992 < now0) = false := by simp; omega
      have nb := Aside0.mk (show Value.bool false = .bool (decide (now0 < 0 ∨ 9007199254740992 < now0)) by simp; omega)
      clear k1 k2
      go_wp2_with fail
      go_meet
      exact ⟨nb.out, rfl⟩
  case rest =>
  obtain ⟨rfl, rfl⟩ := hcut
  go_upto_if 24 with fail
  go_cut [3] (fun v3 wx => (∃ now : Int, v3 = .int .i64 now ∧ Aside0 (0 ≤ now ∧ now ≤ 9007199254740992)) ∧ (w.alloc (.cells #[.int .i64 n, .int .i64 B, .int .i64 C] 23)).alloc (.cells #[.int .i64 it.1, .int .i64 it.2] 35) = wx)
  case first =>
    by_cases k1 : now0 < 0 ∨ 9007199254740992 < now0
    · have n1 : decide (now0 < 0 ∨ 9007199254740992 < now0) = true := by simpa using k1
      generalize decide (now0 < 0 ∨ 9007199254740992 < now0) = bb at *
      subst n1
      clear k1
      go_wp2_with fail
      go_meet
      exact ⟨⟨0, rfl, ⟨by omega, by omega⟩⟩, rfl⟩
    · have n1 : decide (now0 < 0 ∨ 9007199254740992 < now0) = false := by simpa using k1
      generalize decide (now0 < 0 ∨ 9007199254740992 < now0) = bb at *
      subst n1
      have k2 := Aside0.mk (show 0 ≤ now0 ∧ now0 ≤ 9007199254740992 by omega)
      clear k1
      go_wp2_with fail
      go_meet
      exact ⟨⟨now0, rfl, k2⟩, rfl⟩
  case rest =>
  obtain ⟨⟨now, rfl, HNW⟩, rfl⟩ := hcut
  have hn := HNW.out
  go_wp2_with (first
    | (go_at_call 12; refine (unew_some n B C _ hs).mono ?_; rintro e w3 ⟨g, r, rfl, hu, hb, hg, hr⟩; have HI := Aside0.mk (IT.start w w3 n B C it g r hu hb hg hr); clear hu hb hg hr; have d0 := blk_cell HI.out.shp 0; have d1 := blk_cell HI.out.shp 1; have d2 := blk_cell HI.out.shp 2)
    | (go_at_call 13; refine (purse_yes n B C _ hs).mono ?_; rintro e w4 ⟨rfl, hb4⟩; have HJ := Aside0.mk (HI.out.grow hb4); clear hb4 HI d0 d1 d2)
    | (go_at_call 14; refine (num_calls _ _).mono ?_; rintro e w5 ⟨rfl, rfl⟩))
  generalize w.heap.size + 1 = c at *
  generalize w.heap.size = h at *
  go_loopg [11, 12] n (fun kq v11 v12 w' => ∃ (f : Nat) (last wv : Int) (F : Fm), v11 = .int .i64 last ∧ v12 = .int .i64 (f : Int) ∧ Aside0 (f + kq = n + 1) ∧ Aside0 (IT w w' h c g r n B C it F) ∧ Aside0 (Sf n f B C it last wv F) ∧ Aside0 (OthersF (f - 1) l it F))
  case atStart => exact ⟨1, 0, B, fun _ => none, rfl, rfl, ⟨by have := HS.out.1; omega⟩, HJ, ⟨⟨by omega, by have := HS.out.1; omega, by have := HS.out.2.2.1; omega, by have := HS.out.2.2.2.1; omega, fun _ => ⟨rfl, rfl, rfl⟩, fun k => by omega⟩⟩, ⟨fun j hj => by omega⟩⟩
  case round =>
    clear HJ
    obtain ⟨f, last, wv, F, rfl, rfl, HK, HJ, HF, HO⟩ := hrel
    have d0 := blk_cell HJ.out.shp 0
    have fle : decide ((f : Int) ≤ (n : Int)) = true := by have := HF.out.fn; simp; omega
    have fle2 : decide (f ≤ n) = true := by have := HF.out.fn; simp; omega
    have fle3 : ((f : Int) ≤ (n : Int)) = True := eq_true (by have := HF.out.fn; omega)
    cases gk with
    | zero => exact absurd HK.out (by have := HF.out.fn; omega)
    | succ k1 =>
    go_upto_region 12 with fail
    go_cut [70] (fun v70 wx => (∃ bb : Bool, v70 = .bool bb ∧ Aside0 (bb = true ↔ f ≤ l.length ∧ l.getD (f - 1) (0, 0) ≠ it)) ∧ Aside0 (IT w wx h c g r n B C it F))
    case first =>
      by_cases p1 : (f : Int) ≤ (l.length : Int)
      · have p1b : decide ((f : Int) ≤ (l.length : Int)) = true := by simpa using p1
        have p1l : f ≤ l.length := by omega
        obtain ⟨ad, rfl, hx0, hx1⟩ := HR.out.at_ HJ.out.below (f - 1) (by have := HF.out.f1; omega)
        have hj : IntKind.i64.wrap ((f : Int) - 1) = ((f - 1 : Nat) : Int) := by rw [i64_w, Go.IntWalk.wrap64_in _ (by have := HN.out; have := HF.out.f1; omega)]; have := HF.out.f1; omega
        have p2 : (0 ≤ ((f - 1 : Nat) : Int)) = True := eq_true (by omega)
        have p3 : (((f - 1 : Nat) : Int) < (l.length : Int)) = True := eq_true (by have := HF.out.f1; omega)
        have i0 := blk_cell HJ.out.itb 0
        have i1 := blk_cell HJ.out.itb 1
        generalize hxv : l.getD (f - 1) (0, 0) = x at *
        generalize hjv : f - 1 = j at *
        by_cases hx : x = it
        · have hne := fun W => itemNeq x.1 x.2 it.1 it.2 W
          have hbb : (!(x.1 == it.1 && x.2 == it.2)) = false := by rw [hx]; simp
          simp only [hbb] at hne
          have hgd := fun p q W => itemGuard x.1 x.2 it.1 it.2 p q W
          go_wp2_with fail
          go_quiet (fail)
          go_wp2_with fail
          go_meet
          exact ⟨⟨false, rfl, ⟨⟨(by intro e; cases e), fun e => absurd hx e.2⟩⟩⟩, ⟨HJ.out.drewN nq⟩⟩
        · have hne := fun W => itemNeq x.1 x.2 it.1 it.2 W
          have hbb : (!(x.1 == it.1 && x.2 == it.2)) = true := by
            obtain ⟨x1, x2⟩ := x
            obtain ⟨y1, y2⟩ := it
            simp only [Prod.mk.injEq, not_and] at hx
            simp only [Bool.not_eq_true', Bool.and_eq_false_imp, beq_iff_eq, beq_eq_false_iff_ne]
            exact hx
          simp only [hbb] at hne
          have hgd := fun p q W => itemGuard x.1 x.2 it.1 it.2 p q W
          have hx' := Aside0.mk hx
          clear hx
          go_wp2_with fail
          go_quiet (fail)
          go_wp2_with fail
          go_meet
          exact ⟨⟨true, rfl, ⟨⟨fun _ => ⟨p1l, hx'.out⟩, fun _ => rfl⟩⟩⟩, ⟨HJ.out.drewN nq⟩⟩
      · have p1b : decide ((f : Int) ≤ (l.length : Int)) = false := by simpa using p1
        have p1c : decide (f ≤ l.length) = false := by simp; omega
        have p1d := Aside0.mk (show ¬ f ≤ l.length by omega)
        clear p1
        go_wp2_with fail
        go_quiet (fail)
        go_wp2_with fail
        go_meet
        exact ⟨⟨false, rfl, ⟨⟨(by intro e; cases e), fun e => absurd e.1 p1d.out⟩⟩⟩, ⟨HJ.out.drewN nq⟩⟩
    case rest =>
    obtain ⟨⟨bb, rfl, HBB⟩, HA0⟩ := hcut
    clear HJ d0 fle fle2 fle3
    go_upto_if 70 with fail
    go_cut [12] (fun v12 wx => v12 = .int .i64 (f : Int) ∧ ∃ F1 : Fm, Aside0 (IT w wx h c g r n B C it F1) ∧ Aside0 (Sf n f B C it last wv F1) ∧ Aside0 (OthersF f l it F1))
    case first =>
      cases bb with
      | true =>
        obtain ⟨hbl, hbx⟩ := HBB.out.1 rfl
        have HBX := Aside0.mk hbx
        clear hbx HBB
        obtain ⟨ad, rfl, hx0, hx1⟩ := HR.out.at_ HA0.out.below (f - 1) (by have := HF.out.f1; omega)
        have hj : IntKind.i64.wrap ((f : Int) - 1) = ((f - 1 : Nat) : Int) := by rw [i64_w, Go.IntWalk.wrap64_in _ (by have := HN.out; have := HF.out.f1; omega)]; have := HF.out.f1; omega
        have hj2 : wrap64 ((f : Int) - 1) = ((f - 1 : Nat) : Int) := by rw [Go.IntWalk.wrap64_in _ (by have := HN.out; have := HF.out.f1; omega)]; have := HF.out.f1; omega
        have p2 : (0 ≤ ((f - 1 : Nat) : Int)) = True := eq_true (by omega)
        have p3 : (((f - 1 : Nat) : Int) < (l.length : Int)) = True := eq_true (by have := HF.out.f1; omega)
        have hxok : okI (l.getD (f - 1) (0, 0)) := HL.out _ (by rw [List.getD_eq_getElem?_getD, List.getElem?_eq_getElem (show f - 1 < l.length by have := HF.out.f1; omega)]; exact List.getElem_mem _)
        generalize hxv : l.getD (f - 1) (0, 0) = x at *
        generalize hjv : f - 1 = j at *
        have HJV := Aside0.mk hjv
        have HXV := Aside0.mk hxv
        clear hjv hxv hbl
        go_wp2_with (go_at_call 15; refine (fail_calls g r n B C HS.out F HA0.out.good x hxok now _ HA0.out.u).mono ?_; rintro e wA ⟨rfl, hu, hb⟩; have HA := Aside0.mk (HA0.out.turn hu hb (failF_good n B C HS.out F HA0.out.good x now)); clear hu hb)
        go_meet
        refine ⟨rfl, (failF n B C F x now).1, HA, ⟨HF.out.same (failF_other n B C F x it now (fun e => HBX.out e.symm))⟩, ⟨fun i h1 h2 h3 => ?_⟩⟩
        by_cases e : i = j
        · rw [e, HXV.out]; exact failF_makes n B C HS.out F HA0.out.good x now (by omega)
        · obtain ⟨s, y1, y2⟩ := HO.out i (by have := HF.out.f1; have := HJV.out; omega) h2 h3
          exact failF_keeps n B C HS.out F HA0.out.good x _ now s y1 y2
      | false =>
        go_wp2_with fail
        go_meet
        refine ⟨rfl, F, HA0, HF, ⟨fun i h1 h2 h3 => ?_⟩⟩
        by_cases e : i = f - 1
        · subst e
          exact absurd (HBB.out.2 ⟨by omega, h3⟩) (by decide)
        · exact HO.out i (by omega) h2 h3
    case rest =>
    obtain ⟨rfl, F1, HA, HF1, HO1⟩ := hcut
    clear HA0 HF HO HBB
    generalize wc = wA at *
    have hlv : (n : Int) - ((F1 it).getD (0, 0)).1 = (n : Int) - ((f : Int) - 1) := by rw [HF1.out.left]
    obtain ⟨lv, hlv2⟩ : ∃ v, (n : Int) - ((f : Int) - 1) = v := ⟨_, rfl⟩
    rw [hlv2] at hlv
    have hn64 : 1 ≤ (n : Int) ∧ (n : Int) ≤ 64 := ⟨HS.out.1, HS.out.2.1⟩
    have hf0 := HF1.out.f1
    have hfn := HF1.out.fn
    have g1 : IntKind.i64.wrap ((n : Int) - (f : Int)) = lv - 1 := by rw [i64_w, Go.IntWalk.wrap64_in _ (by omega)]; omega
    have g2 : IntKind.i64.wrap (lv - 1 + 1) = lv := by rw [i64_w, Go.IntWalk.wrap64_in _ (by omega)]; omega
    have g2b : IntKind.i64.wrap lv = lv := by rw [i64_w, Go.IntWalk.wrap64_in _ (by omega)]
    have g3 : (lv != lv) = false := by simp
    have HLV := Aside0.mk hlv
    clear hlv hlv2
    go_wp2_with fail
    refine wp_region_plan (quiets [0, 1, 3, 4, 5, 6, 7] ++ ((true, 2) :: (quiets [8] ++ []))) (fun W => IsS W h n B C ∧ W.heap[c]? = some (.cells #[.int .i64 it.1, .int .i64 it.2] 35 (0, 0))) (by kernel_rfl) (by kernel_rfl) ⟨HA.out.shp, HA.out.itb⟩ ?_
    apply mix_quiets [0, 1, 3, 4, 5, 6, 7] _ (by kernel_rfl) ⟨HA.out.shp, HA.out.itb⟩
    case h =>
      intro W hW
      have e0 := blk_cell hW.1 0
      have e3 := blk_cell hW.2 0
      have e4 := blk_cell hW.2 1
      clear hW
      refine still_of_quiet _ _ ?_
      simp only [segOps, List.getElem?_toArray, List.getElem?_cons_zero, List.getElem?_cons_succ, Option.toList_some, List.nil_append, List.cons_append, List.append_nil]
      repeat (go_big_quiet_step (fail))
      exact wpQuiet_nil rfl
    refine mix_writes 2 _ rfl _ ?_
    change wpList _ _ _ _ _ wA.drew
    have HB := Aside0.mk HA.out.drew
    clear HA
    generalize wA.drew = wB at *
    go_wp2_with (go_at_call 16; refine (left_calls g r n B C F1 it hit _ HB.out.u HB.out.good hn64).mono ?_; rintro e wD ⟨rfl, hu, hb⟩; rw [HLV.out]; have HD := Aside0.mk (HB.out.turn hu hb HB.out.good); clear hu hb HB)
    refine ⟨⟨HD.out.shp, HD.out.itb⟩, ?_⟩
    apply mix_quiets [8] _ (by kernel_rfl) ⟨HD.out.shp, HD.out.itb⟩
    case h =>
      intro W hW
      refine still_of_quiet _ _ ?_
      simp only [segOps, List.getElem?_toArray, List.getElem?_cons_zero, List.getElem?_cons_succ, Option.toList_some, List.nil_append, List.cons_append, List.append_nil]
      repeat (go_big_quiet_step (fail))
      exact wpQuiet_nil rfl
    refine mix_done ?_
    obtain ⟨hf2, hfit⟩ := HF1.out.fail now (by omega)
    have HFIT := Aside0.mk hfit
    clear hfit
    by_cases fe : f = n
    · rw [if_pos fe] at hf2
      have fe1 : (failF n B C F1 it now).2.1 = 0 := by rw [hf2]
      have fe2 : (failF n B C F1 it now).2.2 = 100 := by rw [hf2]
      have fb : ((f : Int) == (n : Int)) = true := by simp; omega
      clear hf2
      have q3 := blk_cell HD.out.itb 0
      have q4 := blk_cell HD.out.itb 1
      go_wp2_with fail
      refine (fail_calls g r n B C HS.out F1 HD.out.good it hit now _ HD.out.u).mono ?_
      rintro e wE ⟨rfl, hu, hb⟩
      rw [fe1, fe2]
      have HE := Aside0.mk (HD.out.turn hu hb (failF_good n B C HS.out F1 HD.out.good it now))
      have HO2 : Aside0 (OthersF n l it (failF n B C F1 it now).1) := ⟨fun i h1 h2 h3 => by
        obtain ⟨s, y1, y2⟩ := HO1.out i (by omega) h2 h3
        exact failF_keeps n B C HS.out F1 HD.out.good it _ now s y1 y2⟩
      clear hu hb fe1 fe2 HD HO1 q3 q4
      generalize (failF n B C F1 it now).1 = F2 at *
      have q0 := blk_cell HE.out.shp 0
      have q3 := blk_cell HE.out.itb 0
      have q4 := blk_cell HE.out.itb 1
      have hsp : failF n B C F2 it now = (F2, 0, 100) := by
        unfold failF
        rw [if_neg (by omega), HFIT.out]
        dsimp only [Option.getD_some]
        rw [if_pos (by omega)]
      have hl0 : (n : Int) - ((F2 it).getD (0, 0)).1 = 0 := by rw [HFIT.out]; simp; omega
      go_wp2_with (go_at_call 14; refine (num_calls _ _).mono ?_; rintro e w' ⟨rfl, rfl⟩)
      refine (fail_calls g r n B C HS.out F2 HE.out.good it hit now _ HE.out.u).mono ?_
      rintro e wG ⟨rfl, hu, hb⟩
      rw [hsp] at hu ⊢
      have HG := Aside0.mk (HE.out.turn hu hb HE.out.good)
      clear hu hb hsp HE q0 q3 q4
      go_wp2_with fail
      refine wp_region_plan (quiets [0, 1, 2, 3, 4, 5] ++ ((true, 6) :: (quiets [7, 8, 9, 10, 11] ++ ((true, 12) :: (quiets [13, 14, 15, 16, 17, 18, 20, 21] ++ ((true, 19) :: (quiets [22, 23] ++ []))))))) (fun W => IsS W h n B C ∧ W.heap[c]? = some (.cells #[.int .i64 it.1, .int .i64 it.2] 35 (0, 0))) (by kernel_rfl) (by kernel_rfl) ⟨HG.out.shp, HG.out.itb⟩ ?_
      apply mix_quiets [0, 1, 2, 3, 4, 5] _ (by kernel_rfl) ⟨HG.out.shp, HG.out.itb⟩
      case h =>
        intro W hW
        have e0 := blk_cell hW.1 0
        have e3 := blk_cell hW.2 0
        have e4 := blk_cell hW.2 1
        clear hW
        refine still_of_quiet _ _ ?_
        simp only [segOps, List.getElem?_toArray, List.getElem?_cons_zero, List.getElem?_cons_succ, Option.toList_some, List.nil_append, List.cons_append, List.append_nil]
        repeat (first | go_big_quiet_step (fail) | (go_big_quiet_want; go_big_quiet_op; apply Exists.intro; refine ⟨num_calls _ _, ?_⟩; go_big_quiet_on))
        exact wpQuiet_nil rfl
      refine mix_writes 6 _ rfl _ ?_
      change wpList _ _ _ _ _ wG.drew
      have HB := Aside0.mk HG.out.drew
      clear HG
      generalize wG.drew = wB at *
      go_wp2_with (go_at_call 16; refine (left_calls g r n B C F2 it hit _ HB.out.u HB.out.good hn64).mono ?_; rintro e wI ⟨rfl, hu, hb⟩; rw [hl0]; have HI := Aside0.mk (HB.out.turn hu hb HB.out.good); clear hu hb HB)
      refine ⟨⟨HI.out.shp, HI.out.itb⟩, ?_⟩
      apply mix_quiets [7, 8, 9, 10, 11] _ (by kernel_rfl) ⟨HI.out.shp, HI.out.itb⟩
      case h =>
        intro W hW
        have e0 := blk_cell hW.1 0
        have e3 := blk_cell hW.2 0
        have e4 := blk_cell hW.2 1
        clear hW
        refine still_of_quiet _ _ ?_
        simp only [segOps, List.getElem?_toArray, List.getElem?_cons_zero, List.getElem?_cons_succ, Option.toList_some, List.nil_append, List.cons_append, List.append_nil]
        repeat (go_big_quiet_step (fail))
        exact wpQuiet_nil rfl
      refine mix_writes 12 _ rfl _ ?_
      go_wp2_with (go_at_call 17; refine (clear_calls g r n B C F2 it hit _ HI.out.u).mono ?_; rintro e wM ⟨rfl, hu, hb⟩; have HM := Aside0.mk (HI.out.turn hu hb (HI.out.good.drop it)); clear hu hb)
      refine ⟨⟨HM.out.shp, HM.out.itb⟩, ?_⟩
      have HO3 : Aside0 (OthersF n l it (fun x => if x = it then none else F2 x)) := ⟨fun i h1 h2 h3 => by
        obtain ⟨s, y1, y2⟩ := HO2.out i h1 h2 h3
        exact ⟨s, (if_neg h3).trans y1, y2⟩⟩
      have hl1 : (n : Int) - (((fun x => if x = it then none else F2 x) it : Option (Int × Int)).getD (0, 0)).1 = n := by simp
      generalize (fun x => if x = it then none else F2 x) = F3 at *
      clear HO2 HI
      apply mix_quiets [13, 14, 15, 16, 17, 18, 20, 21] _ (by kernel_rfl) ⟨HM.out.shp, HM.out.itb⟩
      case h =>
        intro W hW
        have e0 := blk_cell hW.1 0
        have e3 := blk_cell hW.2 0
        have e4 := blk_cell hW.2 1
        clear hW
        refine still_of_quiet _ _ ?_
        simp only [segOps, List.getElem?_toArray, List.getElem?_cons_zero, List.getElem?_cons_succ, Option.toList_some, List.nil_append, List.cons_append, List.append_nil]
        repeat (first | go_big_quiet_step (fail) | (go_big_quiet_want; go_big_quiet_op; apply Exists.intro; refine ⟨num_calls _ _, ?_⟩; go_big_quiet_on))
        exact wpQuiet_nil rfl
      refine mix_writes 19 _ rfl _ ?_
      go_wp2_with (go_at_call 16; refine (left_calls g r n B C F3 it hit _ HM.out.u HM.out.good hn64).mono ?_; rintro e wP ⟨rfl, hu, hb⟩; rw [hl1]; have HP := Aside0.mk (HM.out.turn hu hb HM.out.good); clear hu hb HM)
      refine ⟨⟨HP.out.shp, HP.out.itb⟩, ?_⟩
      apply mix_quiets [22, 23] _ (by kernel_rfl) ⟨HP.out.shp, HP.out.itb⟩
      case h =>
        intro W hW
        have e0 := blk_cell hW.1 0
        have e3 := blk_cell hW.2 0
        have e4 := blk_cell hW.2 1
        clear hW
        refine still_of_quiet _ _ ?_
        simp only [segOps, List.getElem?_toArray, List.getElem?_cons_zero, List.getElem?_cons_succ, Option.toList_some, List.nil_append, List.cons_append, List.append_nil]
        repeat (go_big_quiet_step (fail))
        exact wpQuiet_nil rfl
      refine mix_done ?_
      go_wp2_with fail
      go_loopg [18] l.length (fun kq v18 w' => ∃ (i : Nat), v18 = .int .i64 (i : Int) ∧ Aside0 (i + kq = l.length) ∧ Aside0 (IT w w' h c g r n B C it F3))
      case atStart => exact ⟨0, rfl, ⟨by omega⟩, HP⟩
      case round =>
        clear HP
        obtain ⟨i, rfl, HK2, HJ2⟩ := hrel
        have d0 := blk_cell HJ2.out.shp 0
        by_cases c1 : (i : Int) < (l.length : Int)
        · cases gk with
          | zero => exact absurd HK2.out (by omega)
          | succ k2 =>
          have c1b : decide ((i : Int) < (l.length : Int)) = true := by simpa using c1
          have c1c : decide (i < l.length) = true := by simp; omega
          by_cases c2 : (i : Int) < (n : Int)
          · have c2b : decide ((i : Int) < (n : Int)) = true := by simpa using c2
            have c2c : decide (i < n) = true := by simp; omega
            have c2d : ((i : Int) < (n : Int)) = True := eq_true c2
            have hil : i < l.length := by omega
            have hinn : i < n := by omega
            have HXA := Aside0.mk (HR.out.all i hil)
            obtain ⟨ad2, hA2, hx0, hx1⟩ := HR.out.at_ HJ2.out.below i hil
            have p2 : (0 ≤ (i : Int)) = True := eq_true (by omega)
            have p3 : ((i : Int) < (l.length : Int)) = True := eq_true c1
            have hwi : wrap64 ((i : Int) + 1) = ((i + 1 : Nat) : Int) := Go.IntWalk.wrap64_in _ (by have := HN.out; omega)
            have hxok : okI (l.getD i (0, 0)) := HL.out _ (by rw [List.getD_eq_getElem?_getD, List.getElem?_eq_getElem hil]; exact List.getElem_mem _)
            have i0 := blk_cell HJ2.out.itb 0
            have i1 := blk_cell HJ2.out.itb 1
            have HOX := Aside0.mk (HO3.out i hinn hil)
            first | (obtain rfl := Option.some.inj hA2) | subst hA2
            generalize hxv : l.getD i (0, 0) = x at *
            by_cases hx : x = it
            · have hne := fun W => itemNeq x.1 x.2 it.1 it.2 W
              have hbb : (!(x.1 == it.1 && x.2 == it.2)) = false := by rw [hx]; simp
              simp only [hbb] at hne
              have hgd := fun p q W => itemGuard x.1 x.2 it.1 it.2 p q W
              go_wp2_with fail
              refine wp_region_plan (quiets [0, 1, 2, 3, 4, 5, 6, 7, 8, 9, 10, 11, 13, 14, 12, 15, 16] ++ []) (fun W => Below w.heap.size w W ∧ IsS W h n B C ∧ W.heap[c]? = some (.cells #[.int .i64 it.1, .int .i64 it.2] 35 (0, 0))) (by kernel_rfl) (by kernel_rfl) ⟨HJ2.out.drew.below, HJ2.out.shp, HJ2.out.itb⟩ ?_
              clear hx0 hx1 i0 i1 d0
              apply mix_quiets [0, 1, 2, 3, 4, 5, 6, 7, 8, 9, 10, 11, 13, 14, 12, 15, 16] _ (by kernel_rfl) ⟨HJ2.out.drew.below, HJ2.out.shp, HJ2.out.itb⟩
              case h =>
                intro W hW
                have e0 := blk_cell hW.2.1 0
                have e3 := blk_cell hW.2.2 0
                have e4 := blk_cell hW.2.2 1
                obtain ⟨ad3, hA3, hx0, hx1⟩ := HXA.out W hW.1
                rw [← Option.some.inj hA3] at hx0 hx1
                clear hA3
                clear hW
                refine still_of_quiet _ _ ?_
                simp only [segOps, List.getElem?_toArray, List.getElem?_cons_zero, List.getElem?_cons_succ, Option.toList_some, List.nil_append, List.cons_append, List.append_nil]
                repeat (go_big_quiet_step (fail))
                exact wpQuiet_nil rfl
              refine mix_done ?_
              have HA := Aside0.mk HJ2.out.drew
              change Exit.then _ _ _ _ wr.drew
              generalize wr.drew = wA at *
              clear hne hgd hbb hx hxv HXA HOX hl0 hl1 HO3 HR HL hxok p2 p3 c1b c1c c2b c2c c2d HFIT HF1 HLV g1 g2 g2b g3 fb
              go_wp2_with fail
              go_roundg k2
              case measure => have := HK2.out; omega
              case rel => exact ⟨i + 1, congrArg (Value.int .i64) (by omega), ⟨by have := HK2.out; omega⟩, HA⟩
            · have hne := fun W => itemNeq x.1 x.2 it.1 it.2 W
              have hbb : (!(x.1 == it.1 && x.2 == it.2)) = true := by
                obtain ⟨x1, x2⟩ := x
                obtain ⟨y1, y2⟩ := it
                simp only [Prod.mk.injEq, not_and] at hx
                simp only [Bool.not_eq_true', Bool.and_eq_false_imp, beq_iff_eq, beq_eq_false_iff_ne]
                exact hx
              simp only [hbb] at hne
              have hgd := fun p q W => itemGuard x.1 x.2 it.1 it.2 p q W
              obtain ⟨s, hs1, hs2⟩ := HOX.out hx
              have hsg := HJ2.out.good x s hs1
              have hlv : (n : Int) - ((F3 x).getD (0, 0)).1 = (n : Int) - s.1 := by rw [hs1]; rfl
              obtain ⟨v, hv2⟩ : ∃ v, (n : Int) - s.1 = v := ⟨_, rfl⟩
              rw [hv2] at hlv
              have hvn : (v == (n : Int)) = false := by simp; omega
              have HLV := Aside0.mk hlv
              clear hlv hv2 hsg hs1 hs2 HOX
              go_wp2_with fail
              refine wp_region_plan (quiets [0, 1, 2, 3, 4, 5, 6, 7, 8, 9, 10, 11, 13, 14] ++ ((true, 12) :: (quiets [15, 16] ++ []))) (fun W => Below w.heap.size w W ∧ IsS W h n B C ∧ W.heap[c]? = some (.cells #[.int .i64 it.1, .int .i64 it.2] 35 (0, 0))) (by kernel_rfl) (by kernel_rfl) ⟨HJ2.out.drew.below, HJ2.out.shp, HJ2.out.itb⟩ ?_
              clear hx0 hx1 i0 i1 d0
              apply mix_quiets [0, 1, 2, 3, 4, 5, 6, 7, 8, 9, 10, 11, 13, 14] _ (by kernel_rfl) ⟨HJ2.out.drew.below, HJ2.out.shp, HJ2.out.itb⟩
              case h =>
                intro W hW
                have e0 := blk_cell hW.2.1 0
                have e3 := blk_cell hW.2.2 0
                have e4 := blk_cell hW.2.2 1
                obtain ⟨ad3, hA3, hx0, hx1⟩ := HXA.out W hW.1
                rw [← Option.some.inj hA3] at hx0 hx1
                clear hA3
                clear hW
                refine still_of_quiet _ _ ?_
                simp only [segOps, List.getElem?_toArray, List.getElem?_cons_zero, List.getElem?_cons_succ, Option.toList_some, List.nil_append, List.cons_append, List.append_nil]
                repeat (go_big_quiet_step (fail))
                exact wpQuiet_nil rfl
              refine mix_writes 12 _ rfl _ ?_
              change wpList _ _ _ _ _ wr.drew
              have HB := Aside0.mk HJ2.out.drew
              clear HJ2
              generalize wr.drew = wB at *
              go_wp2_with (go_at_call 16; refine (left_calls g r n B C F3 x hxok _ HB.out.u HB.out.good hn64).mono ?_; rintro e wD ⟨rfl, hu, hb⟩; rw [HLV.out]; have HD := Aside0.mk (HB.out.turn hu hb HB.out.good); clear hu hb HB)
              refine ⟨⟨HD.out.below, HD.out.shp, HD.out.itb⟩, ?_⟩
              apply mix_quiets [15, 16] _ (by kernel_rfl) ⟨HD.out.below, HD.out.shp, HD.out.itb⟩
              case h =>
                intro W hW
                refine still_of_quiet _ _ ?_
                simp only [segOps, List.getElem?_toArray, List.getElem?_cons_zero, List.getElem?_cons_succ, Option.toList_some, List.nil_append, List.cons_append, List.append_nil]
                repeat (go_big_quiet_step (fail))
                exact wpQuiet_nil rfl
              refine mix_done ?_
              clear hne hgd hbb hx hxv HXA hl0 hl1 HO3 HR HL hxok p2 p3 c1b c1c c2b c2c c2d HFIT HF1 g1 g2 g2b g3 fb hvn
              go_wp2_with fail
              go_roundg k2
              case measure => have := HK2.out; omega
              case rel => exact ⟨i + 1, congrArg (Value.int .i64) (by omega), ⟨by have := HK2.out; omega⟩, HD⟩
          · have c2b : decide ((i : Int) < (n : Int)) = false := by simpa using c2
            have c2c : decide (i < n) = false := by simp; omega
            have c2d : ((i : Int) < (n : Int)) = False := eq_false c2
            clear hl0 hl1 HO3 HR HL HFIT HF1 HLV g1 g2 g2b g3 fb c2 c1
            go_wp2_with fail
            go_ret
            exact ⟨rfl, HJ2.out.below⟩
        · have c1b : decide ((i : Int) < (l.length : Int)) = false := by simpa using c1
          have c1c : decide (i < l.length) = false := by simp; omega
          go_wp2_with fail
          go_ret
          exact ⟨rfl, HJ2.out.below⟩
    · rw [if_neg fe] at hf2
      have fb : ((f : Int) == (n : Int)) = false := by simp; omega
      have hCb : 1 ≤ C ∧ C ≤ 1024 := ⟨by have := HS.out.2.2.1; have := HS.out.2.2.2.2.1; omega, HS.out.2.2.2.2.2⟩
      have HF2 := Aside0.mk (HF1.out.next hCb (by omega) HFIT.out)
      have hwi : wrap64 ((f : Int) + 1) = ((f + 1 : Nat) : Int) := Go.IntWalk.wrap64_in _ (by omega)
      by_cases k1f : f = 1
      · obtain ⟨_, ew, el⟩ := HF1.out.first k1f
        subst el
        have fa : ((f : Int) == 1) = true := by simp; omega
        have dC : decide (C < B) = false := by have := HS.out.2.2.2.2.1; simp; omega
        have hw1 := HF1.out.w1
        have hw2 := HF1.out.w2
        rw [ew] at hf2 hw1 hw2 HF2
        have fe1 : (failF n B C F1 it now).2.1 = now + B := by rw [hf2]
        have fe2 : (failF n B C F1 it now).2.2 = 0 := by rw [hf2]
        have av : IntKind.i64.wrap (now + B) = now + B := (i64_w _).trans (Go.IntWalk.wrap64_in _ (by omega))
        have m1 : IntKind.i64.wrap (2 * 0) = 2 * 0 := (i64_w _).trans (Go.IntWalk.wrap64_in _ (by omega))
        have nz : (now + B != now + B) = false := by simp
        clear hf2
        have q3 := blk_cell HD.out.itb 0
        have q4 := blk_cell HD.out.itb 1
        go_wp2_with fail
        refine (fail_calls g r n B C HS.out F1 HD.out.good it hit now _ HD.out.u).mono ?_
        rintro e wE ⟨rfl, hu, hb⟩
        rw [fe1, fe2]
        have HE := Aside0.mk (HD.out.turn hu hb (failF_good n B C HS.out F1 HD.out.good it now))
        have HO2 : Aside0 (OthersF (f + 1 - 1) l it (failF n B C F1 it now).1) := ⟨fun i h1 h2 h3 => by
          obtain ⟨s, y1, y2⟩ := HO1.out i (by omega) h2 h3
          exact failF_keeps n B C HS.out F1 HD.out.good it _ now s y1 y2⟩
        clear hu hb fe1 fe2 HD HO1 q3 q4
        generalize (failF n B C F1 it now).1 = F2 at *
        have q0 := blk_cell HE.out.shp 0
        have q1 := blk_cell HE.out.shp 1
        have q2 := blk_cell HE.out.shp 2
        go_wp2_with (go_at_call 14; refine (num_calls _ _).mono ?_; rintro e w' ⟨rfl, rfl⟩)
        go_roundg k1
        case measure => have := HK.out; omega
        case rel => exact ⟨f + 1, B, _, F2, rfl, congrArg (Value.int .i64) (by omega), ⟨by have := HK.out; omega⟩, HE, HF2, HO2⟩
      have fa : ((f : Int) == 1) = false := by simp; omega
      obtain ⟨hlat1, hlat2, hlat3, hlat4⟩ := HF1.out.later (by omega)
      by_cases k2f : C < 2 * last
      · have ew : wv = C := by rw [hlat2]; omega
        have dC : decide (C < 2 * last) = true := by simpa using k2f
        have hw1 := HF1.out.w1
        have hw2 := HF1.out.w2
        rw [ew] at hf2 hw1 hw2 HF2
        have fe1 : (failF n B C F1 it now).2.1 = now + C := by rw [hf2]
        have fe2 : (failF n B C F1 it now).2.2 = 0 := by rw [hf2]
        have av : IntKind.i64.wrap (now + C) = now + C := (i64_w _).trans (Go.IntWalk.wrap64_in _ (by omega))
        have m1 : IntKind.i64.wrap (2 * last) = 2 * last := (i64_w _).trans (Go.IntWalk.wrap64_in _ (by omega))
        have nz : (now + C != now + C) = false := by simp
        clear hf2
        have q3 := blk_cell HD.out.itb 0
        have q4 := blk_cell HD.out.itb 1
        go_wp2_with fail
        refine (fail_calls g r n B C HS.out F1 HD.out.good it hit now _ HD.out.u).mono ?_
        rintro e wE ⟨rfl, hu, hb⟩
        rw [fe1, fe2]
        have HE := Aside0.mk (HD.out.turn hu hb (failF_good n B C HS.out F1 HD.out.good it now))
        have HO2 : Aside0 (OthersF (f + 1 - 1) l it (failF n B C F1 it now).1) := ⟨fun i h1 h2 h3 => by
          obtain ⟨s, y1, y2⟩ := HO1.out i (by omega) h2 h3
          exact failF_keeps n B C HS.out F1 HD.out.good it _ now s y1 y2⟩
        clear hu hb fe1 fe2 HD HO1 q3 q4
        generalize (failF n B C F1 it now).1 = F2 at *
        have q0 := blk_cell HE.out.shp 0
        have q1 := blk_cell HE.out.shp 1
        have q2 := blk_cell HE.out.shp 2
        go_wp2_with (go_at_call 14; refine (num_calls _ _).mono ?_; rintro e w' ⟨rfl, rfl⟩)
        go_roundg k1
        case measure => have := HK.out; omega
        case rel => exact ⟨f + 1, C, _, F2, rfl, congrArg (Value.int .i64) (by omega), ⟨by have := HK.out; omega⟩, HE, HF2, HO2⟩
      · have ew : wv = 2 * last := by rw [hlat2]; omega
        have dC : decide (C < 2 * last) = false := by simpa using k2f
        have hw1 := HF1.out.w1
        have hw2 := HF1.out.w2
        rw [ew] at hf2 hw1 hw2 HF2
        have fe1 : (failF n B C F1 it now).2.1 = now + (2 * last) := by rw [hf2]
        have fe2 : (failF n B C F1 it now).2.2 = 0 := by rw [hf2]
        have av : IntKind.i64.wrap (now + (2 * last)) = now + (2 * last) := (i64_w _).trans (Go.IntWalk.wrap64_in _ (by omega))
        have m1 : IntKind.i64.wrap (2 * last) = 2 * last := (i64_w _).trans (Go.IntWalk.wrap64_in _ (by omega))
        have nz : (now + (2 * last) != now + (2 * last)) = false := by simp
        clear hf2
        have q3 := blk_cell HD.out.itb 0
        have q4 := blk_cell HD.out.itb 1
        go_wp2_with fail
        refine (fail_calls g r n B C HS.out F1 HD.out.good it hit now _ HD.out.u).mono ?_
        rintro e wE ⟨rfl, hu, hb⟩
        rw [fe1, fe2]
        have HE := Aside0.mk (HD.out.turn hu hb (failF_good n B C HS.out F1 HD.out.good it now))
        have HO2 : Aside0 (OthersF (f + 1 - 1) l it (failF n B C F1 it now).1) := ⟨fun i h1 h2 h3 => by
          obtain ⟨s, y1, y2⟩ := HO1.out i (by omega) h2 h3
          exact failF_keeps n B C HS.out F1 HD.out.good it _ now s y1 y2⟩
        clear hu hb fe1 fe2 HD HO1 q3 q4
        generalize (failF n B C F1 it now).1 = F2 at *
        have q0 := blk_cell HE.out.shp 0
        have q1 := blk_cell HE.out.shp 1
        have q2 := blk_cell HE.out.shp 2
        go_wp2_with (go_at_call 14; refine (num_calls _ _).mono ?_; rintro e w' ⟨rfl, rfl⟩)
        go_roundg k1
        case measure => have := HK.out; omega
        case rel => exact ⟨f + 1, (2 * last), _, F2, rfl, congrArg (Value.int .i64) (by omega), ⟨by have := HK.out; omega⟩, HE, HF2, HO2⟩

end Go.Proofs.Ythajekcjgkidhaa.Q
