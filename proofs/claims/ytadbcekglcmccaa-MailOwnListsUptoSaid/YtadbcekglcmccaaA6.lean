/- Contracts of the methods at nil, of mail.New, and of Count, Sent, Drop, Copy and linked. Condition: block g is a mail. -/
import Derived.Test.YtadbcekglcmccaaProg
import Derived.Below
import Derived.Deep.Draws
import Derived.Deep.AppendLies
import Derived.Maps.AppendAt
import Derived.OwnWalk
import Derived.Laws.BytesArg
import Derived.Laws.MakeOwn
import Derived.Laws.OwnMore
import Derived.Deep.OwnRows
import Derived.Tactics
import Derived.Lib.ConvBytes
import Derived.Laws.Slices
import Derived.WalkKit
import Derived.KernelRfl
import Derived.RowKit3
import Derived.Deep.LoopGhost
import Derived.Deep.QuietTactic
import Derived.BigQuiet
import Derived.WideLaws
import Derived.Deep.DeepCutAuto
import Derived.Deep.CutBlock
import Derived.Deep.RegionHeld3
import Derived.Laws.Rows
import Derived.Lib.AppendStr
import Derived.ArgAppend
import Derived.Laws.IdiomCopy
import Derived.OrdersHeld
import Derived.Laws.BitsLemmas
import Derived.RowKit
import Derived.Test.YtadbcekglcmccaaWWords
import Derived.Test.YtadbcekglcmccaaWLast
import Derived.Test.YtadbcekglcmccaaWTab
import Derived.Test.YtadbcekglcmccaaWFour
import Derived.Test.YtadbcekglcmccaaWQPut
import Derived.Test.YtadbcekglcmccaaWApart
import Derived.Test.YtadbcekglcmccaaWArr
import Derived.Test.YtadbcekglcmccaaWZeros
import Derived.Test.YtadbcekglcmccaaWFoot
import Derived.Test.YtadbcekglcmccaaWKept
import Derived.Test.YtadbcekglcmccaaWShare
import Derived.Test.YtadbcekglcmccaaWN
import Derived.Test.YtadbcekglcmccaaWFootNe
import Derived.Test.YtadbcekglcmccaaWAt
import Derived.Test.YtadbcekglcmccaaWEqStruct
import Derived.Test.YtadbcekglcmccaaWRepsOne
import Derived.Test.YtadbcekglcmccaaWInv
import Derived.Test.YtadbcekglcmccaaWInvWords
import Derived.Test.YtadbcekglcmccaaWGuard
import Derived.Test.YtadbcekglcmccaaWNEv
import Derived.Test.YtadbcekglcmccaaWMore
import Derived.Test.YtadbcekglcmccaaA5
set_option linter.unusedVariables false
set_option linter.unusedSimpArgs false
namespace Go.Proofs.Ytadbcekglcmccaa.Q
open Go.RowKit Go.Proofs.YtadbcekglcmccaaW.PrintWords Go.Proofs.YtadbcekglcmccaaW.PrintLast Go.Proofs.YtadbcekglcmccaaW.PrintMore
open Go.FM Go.Plan

/-! ### At nil -/
theorem drop_nil (i : Int) (w : World) : Calls Try.prog 17 #[.pointer none, .int .i64 i] w fun e w' => e = .returned (.int .i64 2) ∧ w = w' := by
  go_enter Try.func17, Try.ntmps17
  go_wp2
  go_ret
  exact ⟨rfl, rfl⟩
theorem copy_nil (i : Int) (w : World) : Calls Try.prog 18 #[.pointer none, .int .i64 i] w fun e w' => e = .returned (.int .i64 2) ∧ w = w' := by
  go_enter Try.func18, Try.ntmps18
  go_wp2
  go_ret
  exact ⟨rfl, rfl⟩
theorem linked_nil (a b : Int) (w : World) : Calls Try.prog 37 #[.pointer none, .int .i64 a, .int .i64 b] w fun e w' => e = .returned (.int .i64 2) ∧ w = w' := by
  go_enter Try.func37, Try.ntmps37
  go_wp2
  go_ret
  exact ⟨rfl, rfl⟩
theorem cut_nil (a b : Int) (w : World) : Calls Try.prog 15 #[.pointer none, .int .i64 a, .int .i64 b] w fun e w' => e = .returned (.int .i64 2) ∧ w = w' := by
  go_enter Try.func15, Try.ntmps15
  go_wp2_with (go_at_call 37; (with_reducible refine (linked_nil a b _).mono ?_); rintro e w' ⟨rfl, rfl⟩)
  go_ret
  exact ⟨rfl, rfl⟩
theorem heal_nil (a b : Int) (w : World) : Calls Try.prog 19 #[.pointer none, .int .i64 a, .int .i64 b] w fun e w' => e = .returned (.int .i64 2) ∧ w = w' := by
  go_enter Try.func19, Try.ntmps19
  go_wp2_with (go_at_call 37; (with_reducible refine (linked_nil a b _).mono ?_); rintro e w' ⟨rfl, rfl⟩)
  go_ret
  exact ⟨rfl, rfl⟩
theorem count_nil (w : World) : Calls Try.prog 14 #[.pointer none] w fun e w' => e = .returned (.int .i64 0) ∧ w = w' := by
  go_enter Try.func14, Try.ntmps14
  go_wp2
  go_ret
  exact ⟨rfl, rfl⟩
theorem sent_nil (w : World) : Calls Try.prog 30 #[.pointer none] w fun e w' => e = .returned (.int .i64 0) ∧ w = w' := by
  go_enter Try.func30, Try.ntmps30
  go_wp2
  go_ret
  exact ⟨rfl, rfl⟩
theorem flying_nil (w : World) : Calls Try.prog 25 #[.pointer none] w fun e w' => e = .returned (.slice none 0 0) ∧ w = w' := by
  go_enter Try.func25, Try.ntmps25
  go_wp2
  go_ret
  exact ⟨rfl, rfl⟩

/-! ### Count, Sent, New -/
theorem count_calls (B : Nat) (x : Pm) (w : World) (h : x.In B w) : Calls Try.prog 14 #[.pointer (some ⟨x.g, 0, none⟩)] w fun e w' => e = .returned (.int .i64 (x.L.length : Int)) ∧ w = w' := by
  have c2 := h.c2
  clear h
  go_enter Try.func14, Try.ntmps14
  go_wp2
  go_ret
  exact ⟨rfl, rfl⟩
theorem sent_calls (B : Nat) (x : Pm) (w : World) (h : x.In B w) : Calls Try.prog 30 #[.pointer (some ⟨x.g, 0, none⟩)] w fun e w' => e = .returned (.int .i64 x.sent) ∧ w = w' := by
  have c1 := h.c1
  clear h
  go_enter Try.func30, Try.ntmps30
  go_wp2
  go_ret
  exact ⟨rfl, rfl⟩
def okLim (n : Int) : Prop := 1 ≤ n ∧ n ≤ 1024
/-- A new mail. -/
def Pm.fresh (g r : Nat) (lim : Int) : Pm := ⟨g, r, none, 0, lim, 0, [], fun _ => none⟩
theorem new_no (n : Int) (w : World) (h : ¬ okLim n) : Calls Try.prog 10 #[.int .i64 n] w fun e w' => e = .returned (.tuple #[.pointer none, .int .i64 1]) ∧ w = w' := by
  by_cases k : n < 1
  · have b1 : decide (n < 1) = true := by simpa using k
    clear h k
    go_enter Try.func10, Try.ntmps10
    go_wp2
    go_ret2
    exact ⟨rfl, rfl⟩
  · have b1 : decide (n < 1) = false := by simpa using k
    have b2 : decide (1024 < n) = true := by unfold okLim at h; simp; omega
    clear h k
    go_enter Try.func10, Try.ntmps10
    go_wp2
    go_ret2
    exact ⟨rfl, rfl⟩
def MNew (n : Int) (w : World) (e : Ending) (w' : World) : Prop :=
  e = .returned (.tuple #[.pointer (some ⟨w.heap.size + 1, 0, none⟩), .int .i64 0]) ∧ (∀ B, (Pm.fresh (w.heap.size + 1) w.heap.size n).In B w') ∧ Below w.heap.size w w' ∧ w'.heap.size = w.heap.size + 2
theorem new_yes (n : Int) (w : World) (h : okLim n) : Calls Try.prog 10 #[.int .i64 n] w (MNew n w) := by
  have b1 : decide (n < 1) = false := by simp; exact h.1
  have b2 : decide (1024 < n) = false := by simp; exact h.2
  have hmm := @run_makeMap Try.prog
  clear h
  go_enter Try.func10, Try.ntmps10
  go_wp2
  go_ret2
  have bx := blk_new (w.alloc (.map #[] 0)) (.cells #[.int .i64 n, .int .i64 0, .slice none 0 0, .map (some w.heap.size)] 71)
  refine ⟨by simp, fun B => ⟨?_, ⟨rfl, .inl ⟨rfl, rfl⟩⟩, (MapL.new w).keep (Below.heap_alloc _ _ _ (by simp)), ?_⟩, ((Below.refl _ _).alloc (Nat.le_refl _) _).alloc (by simp) _, by simp⟩
  · simpa [Pm.fresh] using bx
  · show w.heap.size + 1 ≠ w.heap.size
    omega

/-! ### Drop, Copy -/
set_option maxHeartbeats 4000000 in
theorem drop_no (B : Nat) (x : Pm) (i : Int) (w : World) (h : x.In B w) (hi : pick x.L i = none) :
    Calls Try.prog 17 #[.pointer (some ⟨x.g, 0, none⟩), .int .i64 i] w (MRes B x x.sent x.L x.F (.int .i64 131) w) := by
  have H := Aside0.mk h
  have HP := Aside0.mk (pick_none hi)
  clear h hi
  go_enter Try.func17, Try.ntmps17
  go_wp2_with (go_at_call 35; (with_reducible refine (at_no B x.g x.r x.A x.cap x.lim x.sent x.L x.F i _ H.out HP.out).mono ?_); rintro e w2 ⟨rfl, hb⟩; have HB2 := Aside0.mk (below_step hb (below2a w2 O0)); clear hb)
  go_ret
  exact MRes.same rfl H.out HB2.out
set_option maxHeartbeats 4000000 in
theorem drop_ok (B : Nat) (x : Pm) (n : Nat) (y : Lt) (w : World) (h : x.In B w) (hi : x.L[n]? = some y) (hL : x.L.length ≤ 1024) :
    Calls Try.prog 17 #[.pointer (some ⟨x.g, 0, none⟩), .int .i64 (n : Int)] w (MRes B x x.sent (x.L.eraseIdx n) x.F (.int .i64 0) w) := by
  have H := Aside0.mk h
  have HP := Aside0.mk hi
  have HL := Aside0.mk hL
  have hil : n < x.L.length := (List.getElem?_eq_some_iff.1 hi).1
  have HIL := Aside0.mk hil
  clear h hi hL hil
  go_enter Try.func17, Try.ntmps17
  go_wp2_with (first
    | (go_at_call 35; (with_reducible refine (at_yes B x.g x.r x.A x.cap x.lim x.sent x.L x.F n y _ H.out HP.out).mono ?_); rintro e w2 ⟨rfl, hb⟩; have HB2 := Aside0.mk (below_step hb (below2a w2 (OL y))); have H2 := Aside0.mk (IsM.below H.out (below_step hb (below2a w2 (OL y)))); clear hb)
    | (go_at_call 36; (with_reducible refine (take_calls B x n _ H2.out HIL.out HL.out).mono ?_); rintro e w5 ⟨rfl, A', cap', hd⟩; have HD5 := Aside0.mk hd; clear hd))
  go_ret
  exact ⟨rfl, A', cap', MDone.pre HB2.out H2.out HD5.out⟩
set_option maxHeartbeats 4000000 in
theorem copy_no (B : Nat) (x : Pm) (i : Int) (w : World) (h : x.In B w) (hi : pick x.L i = none) :
    Calls Try.prog 18 #[.pointer (some ⟨x.g, 0, none⟩), .int .i64 i] w (MRes B x x.sent x.L x.F (.int .i64 131) w) := by
  have H := Aside0.mk h
  have HP := Aside0.mk (pick_none hi)
  clear h hi
  go_enter Try.func18, Try.ntmps18
  go_wp2_with (go_at_call 35; (with_reducible refine (at_no B x.g x.r x.A x.cap x.lim x.sent x.L x.F i _ H.out HP.out).mono ?_); rintro e w2 ⟨rfl, hb⟩; have HB2 := Aside0.mk (below_step hb (below2a w2 O0)); clear hb)
  go_ret
  exact MRes.same rfl H.out HB2.out
set_option maxHeartbeats 4000000 in
theorem copy_yes (B : Nat) (x : Pm) (n : Nat) (y : Lt) (w : World) (h : x.In B w) (hi : x.L[n]? = some y) (s' : Int) (L' : List Lt) (r1 r2 : Int)
    (hadd : ∀ W, Below w.heap.size w W → Calls Try.prog 34 #[.pointer (some ⟨x.g, 0, none⟩), .int .i64 y.f, .int .i64 y.t, .string y.s] W (MRes B x s' L' x.F (.tuple #[.int .i64 r1, .int .i64 r2]) W)) :
    Calls Try.prog 18 #[.pointer (some ⟨x.g, 0, none⟩), .int .i64 (n : Int)] w (MRes B x s' L' x.F (.int .i64 r2) w) := by
  have H := Aside0.mk h
  have HP := Aside0.mk hi
  have HA := Aside0.mk hadd
  clear h hi hadd
  go_enter Try.func18, Try.ntmps18
  go_wp2_with (first
    | (go_at_call 35; (with_reducible refine (at_yes B x.g x.r x.A x.cap x.lim x.sent x.L x.F n y _ H.out HP.out).mono ?_); rintro e w2 ⟨rfl, hb⟩; have HB2 := Aside0.mk (below_step hb (below2a w2 (OL y))); have H2 := Aside0.mk (IsM.below H.out (below_step hb (below2a w2 (OL y)))); clear hb)
    | (go_at_call 34; (with_reducible refine (HA.out _ HB2.out).mono ?_); rintro e w5 ⟨rfl, A', cap', hd⟩; have HD5 := Aside0.mk hd; clear hd))
  go_ret
  exact ⟨rfl, A', cap', MDone.pre HB2.out H2.out HD5.out⟩

/-! ### Cut, Heal -/
def linkB (a b : Int) : Bool := adB a && adB b && !(a == b)
theorem linked_calls (B : Nat) (x : Pm) (a b : Int) (w : World) : Calls Try.prog 37 #[.pointer (some ⟨x.g, 0, none⟩), .int .i64 a, .int .i64 b] w fun e w' => e = .returned (.int .i64 (if linkB a b = true then 0 else 1)) ∧ w = w' := by
  cases ha : adB a with
  | false =>
    rw [show linkB a b = false by unfold linkB; rw [ha]; rfl]
    go_enter Try.func37, Try.ntmps37
    go_wp2_with (go_at_call 32; (with_reducible refine (address_calls a _).mono ?_); rintro e w' ⟨rfl, rfl⟩; rw [ha])
    go_ret
    exact ⟨rfl, rfl⟩
  | true =>
    cases hb : adB b with
    | false =>
      rw [show linkB a b = false by unfold linkB; rw [ha, hb]; rfl]
      go_enter Try.func37, Try.ntmps37
      go_wp2_with (first
        | (go_at_call 32; (with_reducible refine (address_calls a _).mono ?_); rintro e w' ⟨rfl, rfl⟩; rw [ha])
        | (go_at_call 32; (with_reducible refine (address_calls b _).mono ?_); rintro e w' ⟨rfl, rfl⟩; rw [hb]))
      go_ret
      exact ⟨rfl, rfl⟩
    | true =>
      by_cases hab : a = b
      · subst hab
        rw [show linkB a a = false by unfold linkB; rw [ha]; simp]
        go_enter Try.func37, Try.ntmps37
        go_wp2_with (go_at_call 32; (with_reducible refine (address_calls a _).mono ?_); rintro e w' ⟨rfl, rfl⟩; rw [ha])
        go_ret
        exact ⟨rfl, rfl⟩
      · have k : (a == b) = false := by simpa using hab
        rw [show linkB a b = true by unfold linkB; rw [ha, hb, k]; rfl]
        clear hab
        go_enter Try.func37, Try.ntmps37
        go_wp2_with (first
          | (go_at_call 32; (with_reducible refine (address_calls a _).mono ?_); rintro e w' ⟨rfl, rfl⟩; rw [ha])
          | (go_at_call 32; (with_reducible refine (address_calls b _).mono ?_); rintro e w' ⟨rfl, rfl⟩; rw [hb]))
        go_ret
        exact ⟨rfl, rfl⟩

end Go.Proofs.Ytadbcekglcmccaa.Q
