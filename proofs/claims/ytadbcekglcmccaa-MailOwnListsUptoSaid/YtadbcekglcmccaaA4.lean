/- Contracts of (*mail.Mail).add and .Send. Condition: block g is a mail. -/
import Derived.Test.YtadbcekglcmccaaProg
import Derived.Below
import Derived.Deep.Draws
import Derived.Deep.AppendLies
import Derived.Maps.AppendAt
import Derived.OwnWalk
import Derived.Laws.BytesArg
import Derived.Laws.MakeOwn
import Derived.Laws.OwnMore
import Derived.Deep.OwnRows
import Derived.Tactics
import Derived.Lib.ConvBytes
import Derived.Laws.Slices
import Derived.WalkKit
import Derived.KernelRfl
import Derived.RowKit3
import Derived.Deep.LoopGhost
import Derived.Deep.QuietTactic
import Derived.BigQuiet
import Derived.WideLaws
import Derived.Deep.DeepCutAuto
import Derived.Deep.CutBlock
import Derived.Deep.RegionHeld3
import Derived.Laws.Rows
import Derived.Lib.AppendStr
import Derived.ArgAppend
import Derived.Laws.IdiomCopy
import Derived.OrdersHeld
import Derived.Laws.BitsLemmas
import Derived.RowKit
import Derived.Test.YtadbcekglcmccaaWWords
import Derived.Test.YtadbcekglcmccaaWLast
import Derived.Test.YtadbcekglcmccaaWTab
import Derived.Test.YtadbcekglcmccaaWFour
import Derived.Test.YtadbcekglcmccaaWQPut
import Derived.Test.YtadbcekglcmccaaWApart
import Derived.Test.YtadbcekglcmccaaWArr
import Derived.Test.YtadbcekglcmccaaWZeros
import Derived.Test.YtadbcekglcmccaaWFoot
import Derived.Test.YtadbcekglcmccaaWKept
import Derived.Test.YtadbcekglcmccaaWShare
import Derived.Test.YtadbcekglcmccaaWN
import Derived.Test.YtadbcekglcmccaaWFootNe
import Derived.Test.YtadbcekglcmccaaWAt
import Derived.Test.YtadbcekglcmccaaWEqStruct
import Derived.Test.YtadbcekglcmccaaWRepsOne
import Derived.Test.YtadbcekglcmccaaWInv
import Derived.Test.YtadbcekglcmccaaWInvWords
import Derived.Test.YtadbcekglcmccaaWGuard
import Derived.Test.YtadbcekglcmccaaWNEv
import Derived.Test.YtadbcekglcmccaaWMore
import Derived.Test.YtadbcekglcmccaaA3
set_option linter.unusedVariables false
set_option linter.unusedSimpArgs false
namespace Go.Proofs.Ytadbcekglcmccaa.Q
open Go.RowKit Go.Proofs.YtadbcekglcmccaaW.PrintWords Go.Proofs.YtadbcekglcmccaaW.PrintLast Go.Proofs.YtadbcekglcmccaaW.PrintMore
open Go.FM Go.Plan

theorem below_drew (w : World) : Below w.heap.size w w.drew := ⟨rfl, rfl, rfl, Nat.le_refl _, fun _ _ => rfl⟩
theorem below_drewN (w : World) (n : Nat) : Below w.heap.size w (w.drewN n) := ⟨rfl, rfl, rfl, Nat.le_refl _, fun _ _ => rfl⟩
theorem ret_i64 {a b : Int} (h : b = a) : Ending.returned (.int .i64 a) = .returned (.int .i64 b) := by rw [h]
theorem ret2_i64 {a b c d : Int} (h : b = a) (k : d = c) : Ending.returned (.tuple #[.int .i64 a, .int .i64 c]) = .returned (.tuple #[.int .i64 b, .int .i64 d]) := by rw [h, k]

theorem Pm.setSent {w W : World} {B : Nat} {x : Pm} (h : x.In B W) (hw : But w W x.S) (s : Int) : ({ x with sent := s } : Pm).In B (W.setCell ⟨x.g, 1, none⟩ (.int .i64 s)) ∧ But w (W.setCell ⟨x.g, 1, none⟩ (.int .i64 s)) x.S :=
  ⟨⟨blk_set h.blk 1 _, ownsRow_keep h.row (fun q hq => Below.heap_setCell W ⟨x.g, 1, none⟩ _ q (h.qg q hq)), h.fm.keep (Below.heap_setCell W ⟨x.g, 1, none⟩ _ x.r (Ne.symm h.gr)), h.gr⟩, hw.set (.inl rfl) 1 _⟩

set_option maxHeartbeats 4000000 in
set_option maxRecDepth 100000 in
theorem add_crowd (B : Nat) (x : Pm) (f t : Int) (s : ByteArray) (w : World) (h : x.In B w) (hc : x.lim ≤ (x.L.length : Int)) :
    Calls Try.prog 34 #[.pointer (some ⟨x.g, 0, none⟩), .int .i64 f, .int .i64 t, .string s] w (MRes B x x.sent x.L x.F (.tuple #[.int .i64 0, .int .i64 130]) w) := by
  have c0 := h.c0
  have c2 := h.c2
  have b1 : decide (x.lim ≤ (x.L.length : Int)) = true := by simpa using hc
  have H := Aside0.mk h
  clear h hc
  go_enter Try.func34, Try.ntmps34
  go_wp2_with fail
  go_quiet (fail)
  go_wp2_with fail
  go_ret2
  exact MRes.same rfl H.out (below_drewN w _)

set_option maxHeartbeats 4000000 in
set_option maxRecDepth 100000 in
theorem add_ok (B : Nat) (x : Pm) (f t : Int) (s : ByteArray) (w : World) (h : x.In B w) (hB : B ≤ w.heap.size) (hc : (x.L.length : Int) < x.lim) (hl : x.lim ≤ 1024) (hs : 0 ≤ x.sent ∧ x.sent ≤ 4611686018427387904) :
    Calls Try.prog 34 #[.pointer (some ⟨x.g, 0, none⟩), .int .i64 f, .int .i64 t, .string s] w (MRes B x (x.sent + 1) (x.L ++ [⟨x.sent + 1, f, t, s⟩]) x.F (.tuple #[.int .i64 (x.sent + 1), .int .i64 0]) w) := by
  have c0 := h.c0
  have c2 := h.c2
  have b1 : decide (x.lim ≤ (x.L.length : Int)) = false := by simp; omega
  have hw1 : wrap64 (x.sent + 1) = x.sent + 1 := Go.IntWalk.wrap64_in _ (by omega)
  have H := Aside0.mk h
  have HB := Aside0.mk hB
  have HL := Aside0.mk (show x.L.length + 1 ≤ 1048576 by omega)
  clear h hc hl hs hB
  go_enter Try.func34, Try.ntmps34
  go_wp2_with fail
  go_quiet (fail)
  have H1 := Aside0.mk (IsM.drewN H.out nq)
  have HF1 := Aside0.mk (But.of_below (S := x.S) (below_drewN w nq))
  generalize w.drewN nq = w1 at *
  clear c0 c2
  have c1 := H1.out.c1
  have f1 := blk_frozen H1.out.blk 1
  go_wp2_with fail
  obtain ⟨h2, h3⟩ := Pm.setSent H1.out HF1.out (x.sent + 1)
  have H2 := Aside0.mk h2
  have HF2 := Aside0.mk h3
  clear h2 h3 c1 f1 H1 HF1
  generalize w1.setCell ⟨x.g, 1, none⟩ (.int .i64 (x.sent + 1)) = w2 at *
  refine wp_region_planF (quiets [0, 1, 2, 3, 4, 5, 6, 7, 8, 9, 10] ++ []) 11 (fun W => W.cell? ⟨x.g, 1, none⟩ = some (.int .i64 (x.sent + 1))) (by kernel_rfl) (by kernel_rfl) H2.out.c1 ?_
  apply mix_quiets [0, 1, 2, 3, 4, 5, 6, 7, 8, 9, 10] _ (by kernel_rfl) H2.out.c1
  case h =>
    intro W hW
    refine still_of_quiet _ _ ?_
    simp only [segOps, List.getElem?_toArray, List.getElem?_cons_zero, List.getElem?_cons_succ, Option.toList_some, List.nil_append, List.cons_append, List.append_nil]
    repeat (go_big_quiet_step (fail))
    exact wpQuiet_nil rfl
  refine fin_write 11 _ rfl ?_
  change wpList _ _ _ _ _ w2.drew
  have H3 := Aside0.mk (IsM.drew H2.out)
  have HF3 := Aside0.mk HF2.out.drew
  clear H2 HF2
  generalize w2.drew = w3 at *
  go_wp2_with (go_at_call 52; refine (put_calls B { x with sent := x.sent + 1 } ⟨x.sent + 1, f, t, s⟩ _ H3.out (by have := HB.out; have := HF3.out.size; omega) HL.out).mono ?_; rintro e w4 ⟨rfl, A', cap', hd⟩; have HD := Aside0.mk hd; clear hd)
  refine nq_out ?_
  have c1 := HD.out.inn.c1
  go_wp2_with fail
  go_ret2
  refine ⟨rfl, A', cap', ⟨HD.out.inn, HF3.out.trans HD.out.fr, rfl, rfl, rfl, ?_⟩⟩
  rcases HD.out.row with e | ⟨q, e, hle⟩
  · exact .inl e
  · exact .inr ⟨q, e, Nat.le_trans HF3.out.size hle⟩

/-- How often a link is cut. -/
def cutN (F : Cm) (a b : Int) : Int := (F (lk a b)).getD 0
theorem look_of {W : World} {r : Nat} {F : Cm} (h : MapL W r F) {a b : Int} (hk : okL (lk a b)) : (Instr.lookup 67 (.map (some r)) (.agg #[.int .i64 (lk a b).1, .int .i64 (lk a b).2]) false).run Try.prog W = .ok (.int .i64 (cutN F a b)) W := by
  have := FMap.lookup keysL Try.underlying67 h 0 (zeroL W) (lk a b) hk false
  rw [if_neg (by decide)] at this
  exact this

theorem send_nil (f t : Int) (s : ByteArray) (w : World) : Calls Try.prog 12 #[.pointer none, .int .i64 f, .int .i64 t, .string s] w fun e w' => e = .returned (.tuple #[.int .i64 0, .int .i64 2]) ∧ w = w' := by
  go_enter Try.func12, Try.ntmps12
  go_wp2
  go_ret2
  exact ⟨rfl, rfl⟩

set_option maxHeartbeats 4000000 in
theorem send_arg (B : Nat) (x : Pm) (f t : Int) (s : ByteArray) (w : World) (h : x.In B w) (hc : (adB f && adB t) = false) :
    Calls Try.prog 12 #[.pointer (some ⟨x.g, 0, none⟩), .int .i64 f, .int .i64 t, .string s] w (MRes B x x.sent x.L x.F (.tuple #[.int .i64 0, .int .i64 1]) w) := by
  have H := Aside0.mk h
  clear h
  by_cases k : adB f = true
  · have k2 : adB t = false := by simpa [k] using hc
    clear hc
    go_enter Try.func12, Try.ntmps12
    go_wp2_with (first
      | (go_at_call 32; (with_reducible refine (address_calls f _).mono ?_); rintro e w' ⟨rfl, rfl⟩; rw [k])
      | (go_at_call 32; (with_reducible refine (address_calls t _).mono ?_); rintro e w' ⟨rfl, rfl⟩; rw [k2]))
    go_ret2
    exact MRes.same rfl H.out (Below.refl _ _)
  · have k1 : adB f = false := by simpa using k
    clear hc k
    go_enter Try.func12, Try.ntmps12
    go_wp2_with (go_at_call 32; (with_reducible refine (address_calls f _).mono ?_); rintro e w' ⟨rfl, rfl⟩; rw [k1])
    go_ret2
    exact MRes.same rfl H.out (Below.refl _ _)

theorem adB_iff {n : Int} (h : adB n = true) : 0 ≤ n ∧ n ≤ 67 := by unfold adB at h; simpa using h

set_option maxHeartbeats 4000000 in
set_option maxRecDepth 100000 in
theorem send_cut (B : Nat) (x : Pm) (f t : Int) (s : ByteArray) (w : World) (h : x.In B w) (hf : adB f = true) (ht : adB t = true) (hc : 0 < cutN x.F f t) :
    Calls Try.prog 12 #[.pointer (some ⟨x.g, 0, none⟩), .int .i64 f, .int .i64 t, .string s] w (MRes B x x.sent x.L x.F (.tuple #[.int .i64 0, .int .i64 132]) w) := by
  have H := Aside0.mk h
  have HK := Aside0.mk (okL_lk (adB_iff hf) (adB_iff ht))
  have b1 : decide (0 < cutN x.F f t) = true := by simpa using hc
  clear h hc
  go_enter Try.func12, Try.ntmps12
  go_wp2_with (first
    | (go_at_call 32; (with_reducible refine (address_calls f _).mono ?_); rintro e w' ⟨rfl, rfl⟩; rw [hf])
    | (go_at_call 32; (with_reducible refine (address_calls t _).mono ?_); rintro e w' ⟨rfl, rfl⟩; rw [ht]))
  refine wp_region_plan (quiets [0, 1, 2, 3, 4, 5] ++ ((true, 6) :: (quiets [7, 8, 9] ++ []))) (fun W => x.In B W) (by kernel_rfl) (by kernel_rfl) (IsM.drew H.out) ?_
  apply mix_quiets [0, 1, 2, 3, 4, 5] _ (by kernel_rfl) (IsM.drew H.out)
  case h =>
    intro W hW
    have e3 := hW.c3
    clear hW
    refine still_of_quiet _ _ ?_
    simp only [segOps, List.getElem?_toArray, List.getElem?_cons_zero, List.getElem?_cons_succ, Option.toList_some, List.nil_append, List.cons_append, List.append_nil]
    repeat (go_big_quiet_step (fail))
    exact wpQuiet_nil rfl
  refine mix_writes 6 ⟨some 29, _, _, _, _, _⟩ rfl _ ?_
  change wpList _ _ _ _ _ w.drew
  go_wp2_with (go_at_call 33; (with_reducible refine (link_calls f t _).mono ?_); rintro e w2 ⟨rfl, hb⟩; have H2 := Aside0.mk (IsM.below (IsM.drew H.out) hb); have HBW := Aside0.mk (below_step (below_drew w) hb); clear hb)
  refine ⟨H2.out, ?_⟩
  apply mix_quiets [7, 8, 9] _ (by kernel_rfl) H2.out
  case h =>
    intro W hW
    have hlo := look_of hW.fm HK.out
    clear hW
    refine still_of_quiet _ _ ?_
    simp only [segOps, List.getElem?_toArray, List.getElem?_cons_zero, List.getElem?_cons_succ, Option.toList_some, List.nil_append, List.cons_append, List.append_nil]
    repeat (go_big_quiet_step (fail))
    exact wpQuiet_nil rfl
  refine mix_done ?_
  go_wp2_with fail
  go_ret2
  exact MRes.same rfl H.out HBW.out

theorem MDone.pre {w W W' : World} {B : Nat} {x x' : Pm} (hb : Below w.heap.size w W) (h : x.In B W) (k : MDone W W' B x x') : MDone w W' B x x' :=
  MDone.then ⟨h, But.of_below hb, rfl, rfl, rfl, .inl rfl⟩ k

set_option maxHeartbeats 4000000 in
set_option maxRecDepth 100000 in
/-- Send where the link is whole: it is what add says. -/
theorem send_add (B : Nat) (x : Pm) (f t : Int) (s : ByteArray) (w : World) (h : x.In B w) (hf : adB f = true) (ht : adB t = true) (hc : ¬ 0 < cutN x.F f t) (s' : Int) (L' : List Lt) (r1 r2 : Int)
    (hadd : ∀ W, Below w.heap.size w W → Calls Try.prog 34 #[.pointer (some ⟨x.g, 0, none⟩), .int .i64 f, .int .i64 t, .string s] W (MRes B x s' L' x.F (.tuple #[.int .i64 r1, .int .i64 r2]) W)) :
    Calls Try.prog 12 #[.pointer (some ⟨x.g, 0, none⟩), .int .i64 f, .int .i64 t, .string s] w (MRes B x s' L' x.F (.tuple #[.int .i64 r1, .int .i64 r2]) w) := by
  have H := Aside0.mk h
  have HK := Aside0.mk (okL_lk (adB_iff hf) (adB_iff ht))
  have b1 : decide (0 < cutN x.F f t) = false := by simpa using hc
  have HA := Aside0.mk hadd
  clear h hc hadd
  go_enter Try.func12, Try.ntmps12
  go_wp2_with (first
    | (go_at_call 32; (with_reducible refine (address_calls f _).mono ?_); rintro e w' ⟨rfl, rfl⟩; rw [hf])
    | (go_at_call 32; (with_reducible refine (address_calls t _).mono ?_); rintro e w' ⟨rfl, rfl⟩; rw [ht]))
  refine wp_region_plan (quiets [0, 1, 2, 3, 4, 5] ++ ((true, 6) :: (quiets [7, 8, 9] ++ []))) (fun W => x.In B W) (by kernel_rfl) (by kernel_rfl) (IsM.drew H.out) ?_
  apply mix_quiets [0, 1, 2, 3, 4, 5] _ (by kernel_rfl) (IsM.drew H.out)
  case h =>
    intro W hW
    have e3 := hW.c3
    clear hW
    refine still_of_quiet _ _ ?_
    simp only [segOps, List.getElem?_toArray, List.getElem?_cons_zero, List.getElem?_cons_succ, Option.toList_some, List.nil_append, List.cons_append, List.append_nil]
    repeat (go_big_quiet_step (fail))
    exact wpQuiet_nil rfl
  refine mix_writes 6 ⟨some 29, _, _, _, _, _⟩ rfl _ ?_
  change wpList _ _ _ _ _ w.drew
  go_wp2_with (go_at_call 33; (with_reducible refine (link_calls f t _).mono ?_); rintro e w2 ⟨rfl, hb⟩; have H2 := Aside0.mk (IsM.below (IsM.drew H.out) hb); have HBW := Aside0.mk (below_step (below_drew w) hb); clear hb)
  refine ⟨H2.out, ?_⟩
  apply mix_quiets [7, 8, 9] _ (by kernel_rfl) H2.out
  case h =>
    intro W hW
    have hlo := look_of hW.fm HK.out
    clear hW
    refine still_of_quiet _ _ ?_
    simp only [segOps, List.getElem?_toArray, List.getElem?_cons_zero, List.getElem?_cons_succ, Option.toList_some, List.nil_append, List.cons_append, List.append_nil]
    repeat (go_big_quiet_step (fail))
    exact wpQuiet_nil rfl
  refine mix_done ?_
  go_wp2_with (go_at_call 34; (with_reducible refine (HA.out _ HBW.out).mono ?_); rintro e w4 ⟨rfl, A', cap', hd⟩; have HD := Aside0.mk hd; clear hd)
  go_ret2
  exact ⟨rfl, A', cap', MDone.pre HBW.out H2.out HD.out⟩

/-! ### What Send answers, and what it makes of a mail -/
def sendB (x : Pm) (f t : Int) : Int := if (adB f && adB t) = false then 1 else if 0 < cutN x.F f t then 132 else if x.lim ≤ (x.L.length : Int) then 130 else 0
def sentOf (x : Pm) (f t : Int) : Int := if sendB x f t = 0 then x.sent + 1 else x.sent
def lettersOf (x : Pm) (f t : Int) (s : ByteArray) : List Lt := if sendB x f t = 0 then x.L ++ [⟨x.sent + 1, f, t, s⟩] else x.L
theorem send_calls (B : Nat) (x : Pm) (f t : Int) (s : ByteArray) (w : World) (h : x.In B w) (hB : B ≤ w.heap.size) (hl : x.lim ≤ 1024) (hs : 0 ≤ x.sent ∧ x.sent ≤ 4611686018427387904) :
    Calls Try.prog 12 #[.pointer (some ⟨x.g, 0, none⟩), .int .i64 f, .int .i64 t, .string s] w (MRes B x (sentOf x f t) (lettersOf x f t s) x.F (.tuple #[.int .i64 (if sendB x f t = 0 then x.sent + 1 else 0), .int .i64 (sendB x f t)]) w) := by
  unfold sentOf lettersOf
  by_cases h1 : (adB f && adB t) = false
  · have e : sendB x f t = 1 := by unfold sendB; rw [if_pos h1]
    rw [e]
    exact send_arg B x f t s w h h1
  have hf : adB f = true := by cases k : adB f with | true => rfl | false => exact absurd (by rw [k]; rfl) h1
  have ht : adB t = true := by cases k : adB t with | true => rfl | false => exact absurd (by rw [k]; exact Bool.and_false _) h1
  by_cases h2 : 0 < cutN x.F f t
  · have e : sendB x f t = 132 := by unfold sendB; rw [if_neg h1, if_pos h2]
    rw [e]
    exact send_cut B x f t s w h hf ht h2
  by_cases h3 : x.lim ≤ (x.L.length : Int)
  · have e : sendB x f t = 130 := by unfold sendB; rw [if_neg h1, if_neg h2, if_pos h3]
    rw [e]
    exact send_add B x f t s w h hf ht h2 _ _ _ _ fun W hb => add_crowd B x f t s W (IsM.below h hb) h3
  · have e : sendB x f t = 0 := by unfold sendB; rw [if_neg h1, if_neg h2, if_neg h3]
    rw [e]
    exact send_add B x f t s w h hf ht h2 _ _ _ _ fun W hb => add_ok B x f t s W (IsM.below h hb) (Nat.le_trans hB hb.size) (by omega) hl hs

end Go.Proofs.Ytadbcekglcmccaa.Q
