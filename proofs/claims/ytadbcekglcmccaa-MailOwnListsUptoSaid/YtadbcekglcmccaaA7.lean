/- Contracts of (*mail.Mail).Cut and .Heal. Condition: block g is a mail. -/
import Derived.Test.YtadbcekglcmccaaProg
import Derived.Below
import Derived.Deep.Draws
import Derived.Deep.AppendLies
import Derived.Maps.AppendAt
import Derived.OwnWalk
import Derived.Laws.BytesArg
import Derived.Laws.MakeOwn
import Derived.Laws.OwnMore
import Derived.Deep.OwnRows
import Derived.Tactics
import Derived.Lib.ConvBytes
import Derived.Laws.Slices
import Derived.WalkKit
import Derived.KernelRfl
import Derived.RowKit3
import Derived.Deep.LoopGhost
import Derived.Deep.QuietTactic
import Derived.BigQuiet
import Derived.WideLaws
import Derived.Deep.DeepCutAuto
import Derived.Deep.CutBlock
import Derived.Deep.RegionHeld3
import Derived.Laws.Rows
import Derived.Lib.AppendStr
import Derived.ArgAppend
import Derived.Laws.IdiomCopy
import Derived.OrdersHeld
import Derived.Laws.BitsLemmas
import Derived.RowKit
import Derived.Test.YtadbcekglcmccaaWWords
import Derived.Test.YtadbcekglcmccaaWLast
import Derived.Test.YtadbcekglcmccaaWTab
import Derived.Test.YtadbcekglcmccaaWFour
import Derived.Test.YtadbcekglcmccaaWQPut
import Derived.Test.YtadbcekglcmccaaWApart
import Derived.Test.YtadbcekglcmccaaWArr
import Derived.Test.YtadbcekglcmccaaWZeros
import Derived.Test.YtadbcekglcmccaaWFoot
import Derived.Test.YtadbcekglcmccaaWKept
import Derived.Test.YtadbcekglcmccaaWShare
import Derived.Test.YtadbcekglcmccaaWN
import Derived.Test.YtadbcekglcmccaaWFootNe
import Derived.Test.YtadbcekglcmccaaWAt
import Derived.Test.YtadbcekglcmccaaWEqStruct
import Derived.Test.YtadbcekglcmccaaWRepsOne
import Derived.Test.YtadbcekglcmccaaWInv
import Derived.Test.YtadbcekglcmccaaWInvWords
import Derived.Test.YtadbcekglcmccaaWGuard
import Derived.Test.YtadbcekglcmccaaWNEv
import Derived.Test.YtadbcekglcmccaaWMore
import Derived.Test.YtadbcekglcmccaaA6
set_option linter.unusedVariables false
set_option linter.unusedSimpArgs false
namespace Go.Proofs.Ytadbcekglcmccaa.Q
open Go.RowKit Go.Proofs.YtadbcekglcmccaaW.PrintWords Go.Proofs.YtadbcekglcmccaaW.PrintLast Go.Proofs.YtadbcekglcmccaaW.PrintMore
open Go.FM Go.Plan

def cutF (F : Cm) (a b : Int) : Cm := fun z => if z = lk a b then some (cutN F a b + 1) else F z
def healF (F : Cm) (a b : Int) : Cm := fun z => if z = lk a b then none else F z
theorem IsM.map {W W' : World} {B g r : Nat} {A : Option Addr} {cap : Nat} {lim sent : Int} {L : List Lt} {F F' : Cm} (h : IsM W B g r A cap lim sent L F) (hf : MapL W' r F') (ho : OnlyB W W' r) : IsM W' B g r A cap lim sent L F' :=
  ⟨(ho.block g h.gr).trans h.blk, ownsRow_keep h.row (fun q hq => ho.block q (h.qr q hq)), hf, h.gr⟩
theorem linkB_iff {a b : Int} (h : linkB a b = true) : adB a = true ∧ adB b = true := by
  unfold linkB at h
  simp only [Bool.and_eq_true] at h
  exact h.1

theorem cut_no (B : Nat) (x : Pm) (a b : Int) (w : World) (h : x.In B w) (hl : linkB a b = false) :
    Calls Try.prog 15 #[.pointer (some ⟨x.g, 0, none⟩), .int .i64 a, .int .i64 b] w (MRes B x x.sent x.L x.F (.int .i64 1) w) := by
  have H := Aside0.mk h
  clear h
  go_enter Try.func15, Try.ntmps15
  go_wp2_with (go_at_call 37; (with_reducible refine (linked_calls B x a b _).mono ?_); rintro e w' ⟨rfl, rfl⟩; rw [hl, if_neg (by decide)])
  go_ret
  exact MRes.same rfl H.out (Below.refl _ _)
theorem heal_no (B : Nat) (x : Pm) (a b : Int) (w : World) (h : x.In B w) (hl : linkB a b = false) :
    Calls Try.prog 19 #[.pointer (some ⟨x.g, 0, none⟩), .int .i64 a, .int .i64 b] w (MRes B x x.sent x.L x.F (.int .i64 1) w) := by
  have H := Aside0.mk h
  clear h
  go_enter Try.func19, Try.ntmps19
  go_wp2_with (go_at_call 37; (with_reducible refine (linked_calls B x a b _).mono ?_); rintro e w' ⟨rfl, rfl⟩; rw [hl, if_neg (by decide)])
  go_ret
  exact MRes.same rfl H.out (Below.refl _ _)

set_option maxHeartbeats 4000000 in
set_option maxRecDepth 100000 in
theorem heal_ok (B : Nat) (x : Pm) (a b : Int) (w : World) (h : x.In B w) (hl : linkB a b = true) :
    Calls Try.prog 19 #[.pointer (some ⟨x.g, 0, none⟩), .int .i64 a, .int .i64 b] w (MRes B x x.sent x.L (healF x.F a b) (.int .i64 0) w) := by
  have H := Aside0.mk h
  have HK := Aside0.mk (okL_lk (adB_iff (linkB_iff hl).1) (adB_iff (linkB_iff hl).2))
  clear h
  go_enter Try.func19, Try.ntmps19
  go_wp2_with (go_at_call 37; (with_reducible refine (linked_calls B x a b _).mono ?_); rintro e w' ⟨rfl, rfl⟩; rw [hl, if_pos rfl])
  refine wp_region_planF (quiets [0, 1, 2, 3, 4, 5] ++ ((true, 6) :: [])) 7 (fun W => x.In B W) (by kernel_rfl) (by kernel_rfl) (IsM.drew H.out) ?_
  apply mix_quiets [0, 1, 2, 3, 4, 5] _ (by kernel_rfl) (IsM.drew H.out)
  case h =>
    intro W hW
    have e3 := hW.c3
    clear hW
    refine still_of_quiet _ _ ?_
    simp only [segOps, List.getElem?_toArray, List.getElem?_cons_zero, List.getElem?_cons_succ, Option.toList_some, List.nil_append, List.cons_append, List.append_nil]
    repeat (go_big_quiet_step (fail))
    exact wpQuiet_nil rfl
  refine mix_writes 6 ⟨some 21, _, _, _, _, _⟩ rfl _ ?_
  change wpList _ _ _ _ _ w.drew
  go_wp2_with (go_at_call 33; (with_reducible refine (link_calls a b _).mono ?_); rintro e w2 ⟨rfl, hb⟩; have H2 := Aside0.mk (IsM.below (IsM.drew H.out) hb); have HBW := Aside0.mk (below_step (below_drew w) hb); clear hb)
  refine ⟨H2.out, ?_⟩
  refine fin_write 7 ⟨none, _, _, _, _, _⟩ rfl ?_
  refine Go.FM.wpList_fm_drop _ rfl (.tmp 18) (.tmp 21) 67 73 rfl 3 keysL Try.underlying67 x.r x.F rfl H2.out.fm (lk a b) rfl HK.out ?_
  intro w3 hfm hob
  have H3 := Aside0.mk (IsM.map H2.out hfm hob)
  have HO := Aside0.mk hob
  clear hfm hob
  go_wp2_with fail
  refine nq_out ?_
  go_wp2_with fail
  go_ret
  exact ⟨rfl, x.A, x.cap, ⟨H3.out, ((But.of_below HBW.out).only HO.out (.inr (.inl rfl))), rfl, rfl, rfl, .inl rfl⟩⟩

set_option maxHeartbeats 4000000 in
set_option maxRecDepth 100000 in
theorem cut_ok (B : Nat) (x : Pm) (a b : Int) (w : World) (h : x.In B w) (hl : linkB a b = true) (hc : 0 ≤ cutN x.F a b ∧ cutN x.F a b ≤ 4611686018427387904) :
    Calls Try.prog 15 #[.pointer (some ⟨x.g, 0, none⟩), .int .i64 a, .int .i64 b] w (MRes B x x.sent x.L (cutF x.F a b) (.int .i64 0) w) := by
  have H := Aside0.mk h
  have HK := Aside0.mk (okL_lk (adB_iff (linkB_iff hl).1) (adB_iff (linkB_iff hl).2))
  have hw1 : IntKind.i64.wrap (cutN x.F a b + 1) = cutN x.F a b + 1 := (i64_w _).trans (Go.IntWalk.wrap64_in _ (by omega))
  clear h hc
  go_enter Try.func15, Try.ntmps15
  go_wp2_with (go_at_call 37; (with_reducible refine (linked_calls B x a b _).mono ?_); rintro e w' ⟨rfl, rfl⟩; rw [hl, if_pos rfl])
  refine wp_region_planF (quiets [0, 1, 2, 3, 4, 5] ++ ((true, 6) :: (quiets [7, 8] ++ ((true, 9) :: (quiets [10] ++ []))))) 11 (fun W => ∃ F', IsM W B x.g x.r x.A x.cap x.lim x.sent x.L F' ∧ cutN F' a b = cutN x.F a b) (by kernel_rfl) (by kernel_rfl) ⟨_, IsM.drew H.out, rfl⟩ ?_
  apply mix_quiets [0, 1, 2, 3, 4, 5] _ (by kernel_rfl) ⟨_, IsM.drew H.out, rfl⟩
  case h =>
    intro W hW
    obtain ⟨F', hW, _⟩ := hW
    have e3 := hW.c3
    clear hW
    refine still_of_quiet _ _ ?_
    simp only [segOps, List.getElem?_toArray, List.getElem?_cons_zero, List.getElem?_cons_succ, Option.toList_some, List.nil_append, List.cons_append, List.append_nil]
    repeat (go_big_quiet_step (fail))
    exact wpQuiet_nil rfl
  refine mix_writes 6 ⟨some 21, _, _, _, _, _⟩ rfl _ ?_
  change wpList _ _ _ _ _ w.drew
  go_wp2_with (go_at_call 33; (with_reducible refine (link_calls a b _).mono ?_); rintro e w2 ⟨rfl, hb⟩; have H2 := Aside0.mk (IsM.below (IsM.drew H.out) hb); have HBW := Aside0.mk (below_step (below_drew w) hb); clear hb)
  refine ⟨⟨_, H2.out, rfl⟩, ?_⟩
  apply mix_quiets [7, 8] _ (by kernel_rfl) ⟨_, H2.out, rfl⟩
  case h =>
    intro W hW
    obtain ⟨F', hW, hF⟩ := hW
    have hlo := look_of hW.fm HK.out
    rw [hF] at hlo
    clear hW hF
    refine still_of_quiet _ _ ?_
    simp only [segOps, List.getElem?_toArray, List.getElem?_cons_zero, List.getElem?_cons_succ, Option.toList_some, List.nil_append, List.cons_append, List.append_nil]
    repeat (go_big_quiet_step (fail))
    exact wpQuiet_nil rfl
  refine mix_writes 9 ⟨some 24, _, _, _, _, _⟩ rfl _ ?_
  refine Go.FM.wpList_fm_entry _ rfl (.tmp 18) (.tmp 21) 67 rfl 73 3 keysL Try.underlying67 x.r x.F rfl H2.out.fm 0 (zeroL _) (lk a b) rfl HK.out ?_
  intro st w3 hst hob
  have H3 := Aside0.mk (IsM.map H2.out hst.map hob)
  have HO := Aside0.mk hob
  have HS := Aside0.mk hst
  have HCC : Aside0 (cutN (fun z => if z = lk a b then some ((x.F (lk a b)).getD 0) else x.F z) a b = cutN x.F a b) := ⟨by unfold cutN; dsimp only; rw [if_pos rfl]; rfl⟩
  clear hst hob
  go_wp2_with fail
  refine ⟨⟨_, H3.out, HCC.out⟩, ?_⟩
  apply mix_quiets [10] _ (by kernel_rfl) ⟨_, H3.out, HCC.out⟩
  case h =>
    intro W hW
    clear hW
    refine still_of_quiet _ _ ?_
    simp only [segOps, List.getElem?_toArray, List.getElem?_cons_zero, List.getElem?_cons_succ, Option.toList_some, List.nil_append, List.cons_append, List.append_nil]
    repeat (go_big_quiet_step (fail))
    exact wpQuiet_nil rfl
  refine fin_write 11 ⟨none, _, _, _, _, _⟩ rfl ?_
  refine Go.FM.wpList_fm_store _ rfl (.tmp 18) (.tmp 25) (.tmp 23) 67 rfl 73 keysL x.r _ rfl (lk a b) st HS.out rfl HK.out (cutN x.F a b + 1) rfl ?_
  intro w4 hfm hob
  have H4 := Aside0.mk (IsM.map H3.out hfm hob)
  have HO4 := Aside0.mk hob
  clear hfm hob
  go_wp2_with fail
  refine nq_out ?_
  go_wp2_with fail
  have hFF : (fun z => if z = lk a b then some (cutN x.F a b + 1) else (fun z => if z = lk a b then some ((x.F (lk a b)).getD 0) else x.F z) z) = cutF x.F a b := by
    funext z
    unfold cutF
    by_cases c : z = lk a b
    · rw [if_pos c, if_pos c]
    · rw [if_neg c, if_neg c]
      dsimp only
      rw [if_neg c]
  have H5 := H4.out
  rw [hFF] at H5
  go_ret
  exact ⟨rfl, x.A, x.cap, ⟨H5, (((But.of_below HBW.out).only HO.out (.inr (.inl rfl))).only HO4.out (.inr (.inl rfl))), rfl, rfl, rfl, .inl rfl⟩⟩

end Go.Proofs.Ytadbcekglcmccaa.Q
