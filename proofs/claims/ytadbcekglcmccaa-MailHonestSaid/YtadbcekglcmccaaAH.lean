/- The walk of granarylaw13.MailHonest: it answers true at every input. Condition: the script is read. -/
import Derived.Test.YtadbcekglcmccaaProg
import Derived.Below
import Derived.Deep.Draws
import Derived.Deep.AppendLies
import Derived.Maps.AppendAt
import Derived.OwnWalk
import Derived.Laws.BytesArg
import Derived.Laws.MakeOwn
import Derived.Laws.OwnMore
import Derived.Deep.OwnRows
import Derived.Tactics
import Derived.Lib.ConvBytes
import Derived.Laws.Slices
import Derived.WalkKit
import Derived.KernelRfl
import Derived.RowKit3
import Derived.Deep.LoopGhost
import Derived.Deep.QuietTactic
import Derived.BigQuiet
import Derived.WideLaws
import Derived.Deep.DeepCutAuto
import Derived.Deep.CutBlock
import Derived.Deep.RegionHeld3
import Derived.Laws.Rows
import Derived.Lib.AppendStr
import Derived.ArgAppend
import Derived.Laws.IdiomCopy
import Derived.OrdersHeld
import Derived.Laws.BitsLemmas
import Derived.RowKit
import Derived.Test.YtadbcekglcmccaaWWords
import Derived.Test.YtadbcekglcmccaaWLast
import Derived.Test.YtadbcekglcmccaaWTab
import Derived.Test.YtadbcekglcmccaaWFour
import Derived.Test.YtadbcekglcmccaaWQPut
import Derived.Test.YtadbcekglcmccaaWApart
import Derived.Test.YtadbcekglcmccaaWArr
import Derived.Test.YtadbcekglcmccaaWZeros
import Derived.Test.YtadbcekglcmccaaWFoot
import Derived.Test.YtadbcekglcmccaaWKept
import Derived.Test.YtadbcekglcmccaaWShare
import Derived.Test.YtadbcekglcmccaaWN
import Derived.Test.YtadbcekglcmccaaWFootNe
import Derived.Test.YtadbcekglcmccaaWAt
import Derived.Test.YtadbcekglcmccaaWEqStruct
import Derived.Test.YtadbcekglcmccaaWRepsOne
import Derived.Test.YtadbcekglcmccaaWInv
import Derived.Test.YtadbcekglcmccaaWInvWords
import Derived.Test.YtadbcekglcmccaaWGuard
import Derived.Test.YtadbcekglcmccaaWNEv
import Derived.Test.YtadbcekglcmccaaWMore
import Derived.Test.YtadbcekglcmccaaB3
set_option linter.unusedVariables false
set_option linter.unusedSimpArgs false
namespace Go.Proofs.Ytadbcekglcmccaa.Q
open Go.RowKit Go.Proofs.YtadbcekglcmccaaW.PrintWords Go.Proofs.YtadbcekglcmccaaW.PrintLast Go.Proofs.YtadbcekglcmccaaW.PrintMore
open Go.FM Go.Plan

theorem sent_same (B : Nat) (x : Pm) (w : World) (h : x.In B w) : Calls Try.prog 30 #[.pointer (some ⟨x.g, 0, none⟩)] w fun e w' => e = .returned (.int .i64 x.sent) ∧ w' = w :=
  (sent_calls B x w h).mono fun e w' h => ⟨h.1, h.2.symm⟩
def HInv (w W : World) (g b : Nat) (n : Nat) : Prop := ∃ (r : Nat) (A : Option Addr) (cap : Nat) (lim sent : Int) (L : List Lt) (F : Cm) (A1 : Option Addr) (cap1 : Nat) (Ls : List Lt) (A2 : Option Addr) (cap2 : Nat) (Bs : List Bool),
  HW w W ⟨g, r, A, cap, lim, sent, L, F⟩ ⟨b, A1, cap1, Ls, A2, cap2, Bs⟩ ∧ HI n ⟨g, r, A, cap, lim, sent, L, F⟩ ⟨b, A1, cap1, Ls, A2, cap2, Bs⟩
theorem HInv.grow {w W W' : World} {g b n : Nat} (h : HInv w W g b n) (hb : Below W.heap.size W W') : HInv w W' g b n := by
  obtain ⟨r, A, cap, lim, sent, L, F, A1, cap1, Ls, A2, cap2, Bs, h1, h2⟩ := h
  exact ⟨r, A, cap, lim, sent, L, F, A1, cap1, Ls, A2, cap2, Bs, h1.grow hb, h2⟩
theorem SRes.inv {w w' : World} {n : Nat} {x : Pm} {k : Bk} {o : Mo} {e : Ending} (h : SRes w n x k o e w') : e = .returned (.bool true) ∧ HInv w w' x.g k.b (n + 1) := by
  obtain ⟨he, x', k', hg, hb, hw, hi, _⟩ := h
  refine ⟨he, ?_⟩
  rw [← hg, ← hb]
  exact ⟨_, _, _, _, _, _, _, _, _, _, _, _, _, hw, hi⟩

set_option maxHeartbeats 16000000 in
set_option maxRecDepth 100000 in
theorem honest_calls (a0 : Int) (A : Option Addr) (cA : Nat) (l : List Mo) (w : World) (hA : RMop w A l) (hl : l.length ≤ cA) (hc : cA ≤ 2932031007402) :
    Calls Try.prog 9 #[.int .i64 a0, .slice A l.length cA] w fun e w' => e = .returned (.bool true) ∧ Below w.heap.size w w' := by
  have HA := Aside0.mk hA
  have HL := Aside0.mk (show l.length ≤ 2932031007402 by omega)
  clear hA hc hl
  go_enter Try.func9, Try.ntmps9
  go_upto_region 1 with fail
  go_cut [17] (fun v17 wx => (∃ bb : Bool, v17 = .bool bb ∧ Aside0 (bb = false → okLim a0)) ∧ w = wx)
  case first =>
    by_cases c1 : a0 < 1
    · have d1 : decide (a0 < 1) = true := decide_eq_true c1
      clear c1
      go_wp2_with fail
      go_meet
      exact ⟨⟨true, rfl, ⟨fun e => by cases e⟩⟩, rfl⟩
    · have d1 : decide (a0 < 1) = false := decide_eq_false c1
      by_cases c2 : 1024 < a0
      · have d2 : decide (1024 < a0) = true := decide_eq_true c2
        clear c1 c2
        go_wp2_with fail
        go_meet
        exact ⟨⟨true, rfl, ⟨fun e => by cases e⟩⟩, rfl⟩
      · have d2 : decide (1024 < a0) = false := decide_eq_false c2
        have HX := Aside0.mk (show okLim a0 by unfold okLim; omega)
        clear c1 c2
        go_wp2_with fail
        go_meet
        exact ⟨⟨false, rfl, ⟨fun _ => HX.out⟩⟩, rfl⟩
  case rest =>
  obtain ⟨⟨bb, rfl, HB⟩, rfl⟩ := hcut
  go_upto_if 17 with fail
  go_cut [0] (fun v0 wx => (∃ a : Int, v0 = .int .i64 a ∧ Aside0 (okLim a)) ∧ w = wx)
  case first =>
    cases bb with
    | true =>
      go_wp2_with fail
      go_meet
      exact ⟨⟨1024, rfl, ⟨by unfold okLim; omega⟩⟩, rfl⟩
    | false =>
      go_wp2_with fail
      go_meet
      exact ⟨⟨a0, rfl, ⟨by simpa using HB.out⟩⟩, rfl⟩
  case rest =>
  obtain ⟨⟨a, rfl, HLB⟩, rfl⟩ := hcut
  clear HB
  go_upto_region 4 with (go_at_call 10; (with_reducible refine (new_yes a _ HLB.out).mono ?_); rintro e w1 ⟨rfl, hi, hb, hz⟩; have HI1 := Aside0.mk (show (⟨w.heap.size + 1, w.heap.size, none, 0, a, 0, [], fun _ => none⟩ : Pm).Own w w1 from ⟨hi _, hb, by show w.heap.size ≤ w.heap.size + 1; omega, Nat.le_refl _⟩); clear hi hb hz)
  generalize hg : w.heap.size + 1 = g at *
  clear hg
  go_upto_region 7 with (go_at_call 11; refine (num_calls _ _).mono ?_; rintro e w' ⟨rfl, rfl⟩)
  have HW1 := Aside0.mk (show HW w (w1.alloc (.cells #[.slice none 0 0, .slice none 0 0] 65)) ⟨g, w.heap.size, none, 0, a, 0, [], fun _ => none⟩ ⟨w1.heap.size, none, 0, [], none, 0, []⟩ from
    ⟨HI1.out.grow (below2a w1 _), ⟨blk_new w1 _, World.ownsRow_nil _ _ _ _, World.ownsRow_nil _ _ _ _⟩, HI1.out.below.size, fun i hi hk => by
      have h1 := Pm.lt HI1.out.inn i hi
      rcases hk with e | e | e
      · have : i = w1.heap.size := e
        omega
      · cases e
      · cases e⟩)
  have HI0 := Aside0.mk (show HI 0 ⟨g, w.heap.size, none, 0, a, 0, [], fun _ => none⟩ ⟨w1.heap.size, none, 0, [], none, 0, []⟩ from ⟨Pm.Good.new _ _ _ HLB.out, rfl, rfl, rfl, fun j y h => by simp at h⟩)
  clear HI1
  generalize w1.heap.size = b at *
  generalize w1.alloc (.cells #[.slice none 0 0, .slice none 0 0] 65) = w2 at *
  have HSN := Aside0.mk (show sentOf (⟨g, w.heap.size, none, 0, a, 0, [], fun _ => none⟩ : Pm) 1 2 = 1 by
    have hsb : sendB (⟨g, w.heap.size, none, 0, a, 0, [], fun _ => none⟩ : Pm) 1 2 = 0 := by
      unfold sendB
      have := HLB.out
      unfold okLim at this
      rw [if_neg (show ¬ (adB 1 && adB 2) = false by decide), if_neg (by show ¬ (0 : Int) < 0; decide), if_neg (by show ¬ a ≤ ((0 : Nat) : Int); omega)]
    unfold sentOf
    rw [if_pos hsb]
    rfl)
  go_upto_region 8 with (go_at_call 29; (with_reducible refine (step_calls w 0 ⟨g, w.heap.size, none, 0, a, 0, [], fun _ => none⟩ ⟨b, none, 0, [], none, 0, []⟩ ⟨1, 0, 1, 2, ⟨#[102, 105, 114, 115, 116]⟩⟩ _ HW1.out HI0.out (by omega)).mono ?_); rintro e w3 ⟨rfl, x', k', hg, hb, hw, hi, hs⟩; have HZ := Aside0.mk (And.intro hg (And.intro hb (And.intro hw (And.intro hi (hs rfl))))); clear hg hb hw hi hs)
  obtain ⟨g', r, A1, cap1, lim, sent, L, F⟩ := x'
  obtain ⟨b', A2, cap2, Ls, A3, cap3, Bs⟩ := k'
  obtain ⟨hg, hb, hw, hi, hs⟩ := HZ.out
  dsimp only at hg hb hs
  subst hg hb
  have hl1 : Ls.length = 1 := by
    have h1 := hi.sent
    dsimp only at h1
    rw [hs, HSN.out] at h1
    omega
  have c0 := blk_cell hw.inn.blk 0
  dsimp only at c0
  rw [hl1] at c0
  have HJ0 : Aside0 (HInv w w3 g' b' (0 + 1)) := ⟨⟨_, _, _, _, _, _, _, _, _, _, _, _, _, hw, hi⟩⟩
  clear hw hi hs hl1 HZ HW1 HI0 HSN
  go_upto_region 10 with fail
  clear c0
  go_wp2_with fail
  go_loopg [8, 9] l.length (fun kq v8 v9 w' => ∃ (i : Nat), v8 = .bool true ∧ v9 = .int .i64 (i : Int) ∧ Aside0 (i + kq = l.length) ∧ Aside0 (HInv w w' g' b' (i + 1)))
  case atStart => exact ⟨0, rfl, rfl, ⟨by omega⟩, HJ0⟩
  case round =>
    clear HJ0
    obtain ⟨i, rfl, rfl, HK, HJ⟩ := hrel
    by_cases ci : (i : Int) < (l.length : Int)
    · cases gk with
      | zero => exact absurd HK.out (by omega)
      | succ k1 =>
      have cb : decide ((i : Int) < (l.length : Int)) = true := decide_eq_true ci
      have cb2 : decide (i < l.length) = true := decide_eq_true (by omega)
      have p2 : (0 ≤ (i : Int)) = True := eq_true (by omega)
      have p3 : ((i : Int) < (l.length : Int)) = True := eq_true ci
      have hwi : wrap64 ((i : Int) + 1) = (i : Int) + 1 := Go.IntWalk.wrap64_in _ (by have := HL.out; omega)
      have HK' := Aside0.mk (show i + 1 + k1 = l.length by have := HK.out; omega)
      have HIB := Aside0.mk (show i + 1 ≤ 2990000000000 by have := HL.out; omega)
      have HIL := Aside0.mk (show i < l.length by omega)
      obtain ⟨r, A1, cap1, lim, sent, L, F, A2, cap2, Ls, A3, cap3, Bs, hw, hi⟩ := HJ.out
      have HW1 := Aside0.mk hw
      have HI1 := Aside0.mk hi
      obtain ⟨ad, rfl, x0, x1, x2, x3, x4⟩ := HA.out.at_ hw.own.below i (by omega)
      obtain ⟨o, ho⟩ : ∃ o, l.getD i mo0 = o := ⟨_, rfl⟩
      have HOO := Aside0.mk ho
      rw [ho] at x0 x1 x2 x3 x4
      clear ci ho HK HJ hw hi
      go_upto_region 14 with (go_at_call 29; (with_reducible refine (step_calls w (i + 1) ⟨g', r, A1, cap1, lim, sent, L, F⟩ ⟨b', A2, cap2, Ls, A3, cap3, Bs⟩ o _ HW1.out HI1.out HIB.out).mono ?_); rintro e w4 hz; have hz1 := hz.inv; clear hz; obtain ⟨rfl, hz2⟩ := hz1; have HJ4 := Aside0.mk hz2; clear hz2)
      clear x0 x1 x2 x3 x4 HW1 HI1
      obtain ⟨r, A1, cap1, lim, sent, L, F, A2, cap2, Ls, A3, cap3, Bs, hw, hi⟩ := HJ4.out
      have HW1 := Aside0.mk hw
      have HI1 := Aside0.mk hi
      have c0 := blk_cell hw.inn.blk 0
      have hs := hi.sent
      dsimp only at c0 hs
      subst hs
      clear hw hi HJ4
      go_quiet ((go_at_call 30; exact Calls.quiet_of_same (sent_same w.heap.size ⟨g', r, A1, cap1, lim, (Ls.length : Int), L, F⟩ _ (IsM.drewN HW1.out.own.inn _))))
      have HW2 := Aside0.mk (HW1.out.grow (below_drewN w4 nq))
      clear HW1 c0
      generalize w4.drewN nq = w5 at *
      have hlf := HI1.out.left
      dsimp only at hlf
      subst hlf
      have HLL := Aside0.mk (show (leftL Ls Bs).length ≤ 1024 from HI1.out.good.len4)
      have HLE := Aside0.mk (show Ls.length ≤ 3000000000000 by have h1 := HI1.out.le; have := HIB.out; dsimp only at h1; omega)
      obtain ⟨ad2, hA2, x0, x1, x2, x3, x4⟩ := HA.out.at_ HW2.out.own.below i HIL.out
      rw [HOO.out, ← Option.some.inj hA2] at x0
      clear x1 x2 x3 x4 hA2
      by_cases k7 : o.k = 7
      · have kb : (o.k == 7) = true := by simpa using k7
        clear k7
        go_wp2_with (first
          | (go_at_call 31; (with_reducible refine (left_calls w.heap.size ⟨b', A2, cap2, Ls, A3, cap3, Bs⟩ _ HW2.out.inn HI1.out.len HLE.out).mono ?_); rintro e w6 ⟨Al, cl, rfl, hb, ho⟩; dsimp only at ho ⊢; have HW3 := Aside0.mk (HW2.out.grow hb); have HO3 := Aside0.mk ho; clear hb ho)
          | (go_at_call 14; (with_reducible refine (count_calls w.heap.size ⟨g', r, A1, cap1, lim, (Ls.length : Int), leftL Ls Bs, F⟩ _ HW3.out.own.inn).mono ?_); rintro e w' ⟨rfl, rfl⟩; dsimp only)
          | (go_at_call 25; (with_reducible refine (flying_calls w.heap.size ⟨g', r, A1, cap1, lim, (Ls.length : Int), leftL Ls Bs, F⟩ _ HW3.out.own.inn HLL.out).mono ?_); rintro e w7 ⟨Af, cf, rfl, hb, ho⟩; dsimp only at ho ⊢; have HW4 := Aside0.mk (HW3.out.grow hb); have HO4 := Aside0.mk ho; have HO5 := Aside0.mk (ownsRow_keep HO3.out (fun q hq => hb.block q (ownsRow_lt HO3.out q hq).2)); clear hb ho)
          | (go_at_call 26; (with_reducible refine (same_calls _ _ _ _ _ _ (leftL Ls Bs) _ HO4.out HO5.out (by have := HLL.out; omega)).mono ?_); rintro e w8 ⟨rfl, hb⟩; have HW5 := Aside0.mk (HW4.out.grow hb); clear hb))
        go_roundg k1
        case measure => have := HK'.out; omega
        case rel => exact ⟨i + 1, rfl, congrArg (Value.int .i64) (by omega), HK', ⟨⟨_, _, _, _, _, _, _, _, _, _, _, _, _, HW5.out, HI1.out⟩⟩⟩
      · have kb : (o.k == 7) = false := by simpa using k7
        by_cases k8 : o.k = 8
        · have kb : (o.k == 8) = true := by simpa using k8
          clear k7 k8
          go_wp2_with (first
            | (go_at_call 31; (with_reducible refine (left_calls w.heap.size ⟨b', A2, cap2, Ls, A3, cap3, Bs⟩ _ HW2.out.inn HI1.out.len HLE.out).mono ?_); rintro e w6 ⟨Al, cl, rfl, hb, ho⟩; dsimp only at ho ⊢; have HW3 := Aside0.mk (HW2.out.grow hb); have HO3 := Aside0.mk ho; clear hb ho)
            | (go_at_call 14; (with_reducible refine (count_calls w.heap.size ⟨g', r, A1, cap1, lim, (Ls.length : Int), leftL Ls Bs, F⟩ _ HW3.out.own.inn).mono ?_); rintro e w' ⟨rfl, rfl⟩; dsimp only)
            | (go_at_call 25; (with_reducible refine (flying_calls w.heap.size ⟨g', r, A1, cap1, lim, (Ls.length : Int), leftL Ls Bs, F⟩ _ HW3.out.own.inn HLL.out).mono ?_); rintro e w7 ⟨Af, cf, rfl, hb, ho⟩; dsimp only at ho ⊢; have HW4 := Aside0.mk (HW3.out.grow hb); have HO4 := Aside0.mk ho; have HO5 := Aside0.mk (ownsRow_keep HO3.out (fun q hq => hb.block q (ownsRow_lt HO3.out q hq).2)); clear hb ho)
            | (go_at_call 26; (with_reducible refine (same_calls _ _ _ _ _ _ (leftL Ls Bs) _ HO4.out HO5.out (by have := HLL.out; omega)).mono ?_); rintro e w8 ⟨rfl, hb⟩; have HW5 := Aside0.mk (HW4.out.grow hb); clear hb))
          go_roundg k1
          case measure => have := HK'.out; omega
          case rel => exact ⟨i + 1, rfl, congrArg (Value.int .i64) (by omega), HK', ⟨⟨_, _, _, _, _, _, _, _, _, _, _, _, _, HW5.out, HI1.out⟩⟩⟩
        · have kc : (o.k == 8) = false := by simpa using k8
          clear k7 k8
          go_wp2_with fail
          go_roundg k1
          case measure => have := HK'.out; omega
          case rel => exact ⟨i + 1, rfl, congrArg (Value.int .i64) (by omega), HK', ⟨⟨_, _, _, _, _, _, _, _, _, _, _, _, _, HW2.out, HI1.out⟩⟩⟩
    · have cb : decide ((i : Int) < (l.length : Int)) = false := decide_eq_false ci
      have cb2 : decide (i < l.length) = false := decide_eq_false (by omega)
      have HIB := Aside0.mk (show i + 1 ≤ 2990000000000 by have := HL.out; have := HK.out; omega)
      clear ci HK
      obtain ⟨r, A1, cap1, lim, sent, L, F, A2, cap2, Ls, A3, cap3, Bs, hw, hi⟩ := HJ.out
      have hlf := hi.left
      have hs := hi.sent
      dsimp only at hlf hs
      subst hlf hs
      have HW2 := Aside0.mk hw
      have HI1 := Aside0.mk hi
      have HLL := Aside0.mk (show (leftL Ls Bs).length ≤ 1024 from HI1.out.good.len4)
      have HLE := Aside0.mk (show Ls.length ≤ 3000000000000 by have h1 := HI1.out.le; have := HIB.out; dsimp only at h1; omega)
      clear hw hi HJ
      go_wp2_with (first
        | (go_at_call 31; (with_reducible refine (left_calls w.heap.size ⟨b', A2, cap2, Ls, A3, cap3, Bs⟩ _ HW2.out.inn HI1.out.len HLE.out).mono ?_); rintro e w6 ⟨Al, cl, rfl, hb, ho⟩; dsimp only at ho ⊢; have HW3 := Aside0.mk (HW2.out.grow hb); have HO3 := Aside0.mk ho; clear hb ho)
        | (go_at_call 14; (with_reducible refine (count_calls w.heap.size ⟨g', r, A1, cap1, lim, (Ls.length : Int), leftL Ls Bs, F⟩ _ HW3.out.own.inn).mono ?_); rintro e w' ⟨rfl, rfl⟩; dsimp only)
        | (go_at_call 25; (with_reducible refine (flying_calls w.heap.size ⟨g', r, A1, cap1, lim, (Ls.length : Int), leftL Ls Bs, F⟩ _ HW3.out.own.inn HLL.out).mono ?_); rintro e w7 ⟨Af, cf, rfl, hb, ho⟩; dsimp only at ho ⊢; have HW4 := Aside0.mk (HW3.out.grow hb); have HO4 := Aside0.mk ho; have HO5 := Aside0.mk (ownsRow_keep HO3.out (fun q hq => hb.block q (ownsRow_lt HO3.out q hq).2)); clear hb ho)
        | (go_at_call 26; (with_reducible refine (same_calls _ _ _ _ _ _ (leftL Ls Bs) _ HO4.out HO5.out (by have := HLL.out; omega)).mono ?_); rintro e w8 ⟨rfl, hb⟩; have HW5 := Aside0.mk (HW4.out.grow hb); clear hb))
      go_ret
      exact ⟨rfl, HW5.out.own.below⟩

end Go.Proofs.Ytadbcekglcmccaa.Q
