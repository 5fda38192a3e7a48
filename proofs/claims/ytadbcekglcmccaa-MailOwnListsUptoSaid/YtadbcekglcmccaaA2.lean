/- Contract of slices.Delete of one letter. Condition: the letters lie in a row of the call's own. -/
import Derived.Test.YtadbcekglcmccaaProg
import Derived.Below
import Derived.Deep.Draws
import Derived.Deep.AppendLies
import Derived.Maps.AppendAt
import Derived.OwnWalk
import Derived.Laws.BytesArg
import Derived.Laws.MakeOwn
import Derived.Laws.OwnMore
import Derived.Deep.OwnRows
import Derived.Tactics
import Derived.Lib.ConvBytes
import Derived.Laws.Slices
import Derived.WalkKit
import Derived.KernelRfl
import Derived.RowKit3
import Derived.Deep.LoopGhost
import Derived.Deep.QuietTactic
import Derived.BigQuiet
import Derived.WideLaws
import Derived.Deep.DeepCutAuto
import Derived.Deep.CutBlock
import Derived.Deep.RegionHeld3
import Derived.Laws.Rows
import Derived.Lib.AppendStr
import Derived.ArgAppend
import Derived.Laws.IdiomCopy
import Derived.OrdersHeld
import Derived.Laws.BitsLemmas
import Derived.RowKit
import Derived.Test.YtadbcekglcmccaaWWords
import Derived.Test.YtadbcekglcmccaaWLast
import Derived.Test.YtadbcekglcmccaaWTab
import Derived.Test.YtadbcekglcmccaaWFour
import Derived.Test.YtadbcekglcmccaaWQPut
import Derived.Test.YtadbcekglcmccaaWApart
import Derived.Test.YtadbcekglcmccaaWArr
import Derived.Test.YtadbcekglcmccaaWZeros
import Derived.Test.YtadbcekglcmccaaWFoot
import Derived.Test.YtadbcekglcmccaaWKept
import Derived.Test.YtadbcekglcmccaaWShare
import Derived.Test.YtadbcekglcmccaaWN
import Derived.Test.YtadbcekglcmccaaWFootNe
import Derived.Test.YtadbcekglcmccaaWAt
import Derived.Test.YtadbcekglcmccaaWEqStruct
import Derived.Test.YtadbcekglcmccaaWRepsOne
import Derived.Test.YtadbcekglcmccaaWInv
import Derived.Test.YtadbcekglcmccaaWInvWords
import Derived.Test.YtadbcekglcmccaaWGuard
import Derived.Test.YtadbcekglcmccaaWNEv
import Derived.Test.YtadbcekglcmccaaWMore
import Derived.Test.YtadbcekglcmccaaA1
set_option linter.unusedVariables false
set_option linter.unusedSimpArgs false
namespace Go.Proofs.Ytadbcekglcmccaa.Q
open Go.RowKit Go.Proofs.YtadbcekglcmccaaW.PrintWords Go.Proofs.YtadbcekglcmccaaW.PrintLast Go.Proofs.YtadbcekglcmccaaW.PrintMore
open Go.FM Go.Plan

theorem lcells_len (L : List Lt) : (lcells L).length = L.length * 4 := rc_length lc_length L
theorem lcells_one (L : List Lt) : ∀ u ∈ lcells L, u.oneCell' = true := by
  intro u hu
  obtain ⟨x, _, hx⟩ := List.mem_flatMap.1 hu
  exact lc_one x u hx
theorem lcells_app (L M : List Lt) : lcells (L ++ M) = lcells L ++ lcells M := List.flatMap_append
theorem erase_take_drop (L : List Lt) (i : Nat) : L.eraseIdx i = L.take i ++ L.drop (i + 1) := List.eraseIdx_eq_take_drop_succ L i

set_option maxHeartbeats 4000000 in
set_option maxRecDepth 100000 in
theorem delete_calls (B q cap n : Nat) (L : List Lt) (hn : L.length = n) (i : Nat) (w : World) (h : w.ownsRow B 33 4 (.slice (some ⟨q, 0, none⟩) n cap) n (lcells L)) (hi : i < n) (hL : n ≤ 1024) :
    Calls Try.prog 53 #[.slice (some ⟨q, 0, none⟩) n cap, .int .i64 (i : Int), .int .i64 ((i + 1 : Nat) : Int)] w fun e w' => e = .returned (.slice (some ⟨q, 0, none⟩) (n - 1) cap) ∧ w'.ownsRow B 33 4 (.slice (some ⟨q, 0, none⟩) (n - 1) cap) (n - 1) (lcells (L.eraseIdx i)) ∧ w.grownBy w' (some q) := by
  have hcap := ownsRow_cap h
  have HN := Aside0.mk hn
  have H1 : Aside0 (w.drew.ownsRow B 33 4 (.slice (some ⟨q, 0, none⟩) i cap) i (lcells (L.take i))) := ⟨by
    have := ownsRow_less h (m := i) (by omega) (by intro e; cases e)
    rw [lcells, rc_take lc_length] at this
    exact this⟩
  have H2 : Aside0 ((lcells (L.drop (i + 1))).length = (n - (i + 1)) * 4) := ⟨by rw [lcells_len, List.length_drop, hn]⟩
  have H3 : Aside0 (∀ j u, (lcells (L.drop (i + 1)))[j]? = some u → w.drew.cell? ((⟨q, (i + 1) * 4, none⟩ : Addr).add j) = some u) := ⟨fun j u hu => by
    rw [lcells, ← rc_drop lc_length, List.getElem?_drop] at hu
    have := h.cells (g := q) rfl _ _ hu
    rw [add_plain] at this
    have e : (⟨q, (i + 1) * 4, none⟩ : Addr).add j = ⟨q, (i + 1) * 4 + j, none⟩ := by unfold Addr.add; split <;> simp_all
    rw [e]
    exact this⟩
  have H4 : Aside0 (cap = i + 1 → lcells (L.drop (i + 1)) = []) := ⟨fun e => by rw [List.drop_of_length_le (by omega)]; rfl⟩
  have k1 : i ≤ cap := by omega
  have k2 : i + 1 ≤ cap := by omega
  have k3 : i + 1 ≤ n := by omega
  have k4 : n ≤ cap := hcap.1
  have k5 : ¬ i = i + 1 := by omega
  have k6 : ((i : Int) == ((i + 1 : Nat) : Int)) = false := by simp; omega
  have k7 : ((i : Int) == ((i : Int) + 1)) = false := by simp; omega
  have HE := Aside0.mk (show i + (n - (i + 1)) = n - 1 by omega)
  have HX : Aside0 (lcells (L.take i) ++ lcells (L.drop (i + 1)) = lcells (L.eraseIdx i)) := ⟨by rw [erase_take_drop, lcells_app]⟩
  have HC := Aside0.mk hcap.1
  obtain ⟨i0, hi0, hz0, hz1, hz2⟩ := info_parts info33
  have HI := Aside0.mk (And.intro hi0 hz1)
  clear h hn hcap hi0 hz0 hz1 hz2
  go_enter Try.func53, Try.ntmps53
  go_wp2_with fail
  refine wp_region_plan (quiets [0, 1, 2, 3, 4, 5] ++ ((true, 6) :: (quiets [7] ++ []))) (fun _ => True) (by kernel_rfl) (by kernel_rfl) trivial ?_
  by_cases hc : cap = i + 1
  · obtain rfl : n = i + 1 := by omega
    subst hc
    apply mix_quiets [0, 1, 2, 3, 4, 5] _ (by kernel_rfl) trivial
    case h =>
      intro W hW
      clear hW
      refine still_of_quiet _ _ ?_
      simp only [segOps, List.getElem?_toArray, List.getElem?_cons_zero, List.getElem?_cons_succ, Option.toList_some, List.nil_append, List.cons_append, List.append_nil]
      repeat (go_big_quiet_step (fail))
      exact wpQuiet_nil rfl
    refine mix_writes 6 ⟨some 26, _, _, _, _, _⟩ rfl _ ?_
    change wpList _ _ _ _ _ w.drew
    refine wpList_append_fits_any _ rfl (.tmp 22) (.tmp 25) 57 rfl B 33 i0 4 Try.underlying57 HI.out.1 HI.out.2 q i (i + 1) (lcells (L.take i)) rfl H1.out (some ⟨q, 0, none⟩) 0 0 (lcells (L.drop (i + 1))) rfl (by rw [H4.out rfl]; rfl) (by intro e; cases e) (by intro ad e; cases e; exact fun j u hu => by rw [H4.out rfl] at hu; cases hu) (lcells_one _) (by have := HC.out; omega) ?c1
    case c1 =>
    intro w5 hown hgrow
    have hown : w5.ownsRow B 33 4 (.slice (some ⟨q, 0, none⟩) i (i + 1)) i (lcells (L.eraseIdx i)) := by rw [← HX.out]; exact hown
    have HG := Aside0.mk (show w.grownBy w5 (some q) from ⟨hgrow.os, hgrow.tape, hgrow.output, hgrow.size, hgrow.block⟩)
    obtain ⟨w6, hcl, ho6, hg6⟩ := own_clear_one (c := 1) hown (show i < (i + 1) by have := HC.out; omega) 0
    have HO := Aside0.mk ho6
    have HG6 := Aside0.mk (HG.out.trans hg6)
    clear hown hgrow ho6 hg6 HG
    go_wp2_with fail
    refine ⟨trivial, ?_⟩
    apply mix_quiets [7] _ (by kernel_rfl) trivial
    case h =>
      intro W hW
      clear hW
      refine still_of_quiet _ _ ?_
      simp only [segOps, List.getElem?_toArray, List.getElem?_cons_zero, List.getElem?_cons_succ, Option.toList_some, List.nil_append, List.cons_append, List.append_nil]
      repeat (go_big_quiet_step (fail))
      exact wpQuiet_nil rfl
    refine mix_done ?_
    have k9 : ¬ i + 1 = i := by omega
    have ka : i + 1 - i = 1 := by omega
    go_wp2_with fail
    go_ret
    exact ⟨rfl, HO.out, HG6.out⟩
  · apply mix_quiets [0, 1, 2, 3, 4, 5] _ (by kernel_rfl) trivial
    case h =>
      intro W hW
      clear hW
      refine still_of_quiet _ _ ?_
      simp only [segOps, List.getElem?_toArray, List.getElem?_cons_zero, List.getElem?_cons_succ, Option.toList_some, List.nil_append, List.cons_append, List.append_nil]
      repeat (go_big_quiet_step (fail))
      exact wpQuiet_nil rfl
    refine mix_writes 6 ⟨some 26, _, _, _, _, _⟩ rfl _ ?_
    change wpList _ _ _ _ _ w.drew
    refine wpList_append_fits_any _ rfl (.tmp 22) (.tmp 25) 57 rfl B 33 i0 4 Try.underlying57 HI.out.1 HI.out.2 q i cap (lcells (L.take i)) rfl H1.out (some ⟨q, (i + 1) * 4, none⟩) (n - (i + 1)) (cap - (i + 1)) (lcells (L.drop (i + 1))) rfl H2.out (by intro e; cases e) (by intro ad e; cases e; exact H3.out) (lcells_one _) (by have := HC.out; omega) ?c2
    case c2 =>
    intro w5 hown hgrow
    rw [HE.out, HX.out] at hown
    rw [HE.out]
    have HG := Aside0.mk (show w.grownBy w5 (some q) from ⟨hgrow.os, hgrow.tape, hgrow.output, hgrow.size, hgrow.block⟩)
    obtain ⟨w6, hcl, ho6, hg6⟩ := own_clear_one (c := cap - (n - 1)) hown (show (n - 1) < cap by have := HC.out; omega) 0
    have HO := Aside0.mk ho6
    have HG6 := Aside0.mk (HG.out.trans hg6)
    clear hown hgrow ho6 hg6 HG
    go_wp2_with fail
    refine ⟨trivial, ?_⟩
    apply mix_quiets [7] _ (by kernel_rfl) trivial
    case h =>
      intro W hW
      clear hW
      refine still_of_quiet _ _ ?_
      simp only [segOps, List.getElem?_toArray, List.getElem?_cons_zero, List.getElem?_cons_succ, Option.toList_some, List.nil_append, List.cons_append, List.append_nil]
      repeat (go_big_quiet_step (fail))
      exact wpQuiet_nil rfl
    refine mix_done ?_
    have k8 : n - 1 ≤ n := by omega
    have k9 : ¬ cap = n - 1 := by have := HC.out; omega
    have ka : n - (n - 1) = 1 := by omega
    go_wp2_with fail
    go_ret
    exact ⟨rfl, HO.out, HG6.out⟩

end Go.Proofs.Ytadbcekglcmccaa.Q
