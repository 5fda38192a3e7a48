/- The walk of granarylaw13.MailCuts: it answers true at every input. Condition: the script is read. -/
import Derived.Test.YtadbcekglcmccaaProg
import Derived.Below
import Derived.Deep.Draws
import Derived.Deep.AppendLies
import Derived.Maps.AppendAt
import Derived.OwnWalk
import Derived.Laws.BytesArg
import Derived.Laws.MakeOwn
import Derived.Laws.OwnMore
import Derived.Deep.OwnRows
import Derived.Tactics
import Derived.Lib.ConvBytes
import Derived.Laws.Slices
import Derived.WalkKit
import Derived.KernelRfl
import Derived.RowKit3
import Derived.Deep.LoopGhost
import Derived.Deep.QuietTactic
import Derived.BigQuiet
import Derived.WideLaws
import Derived.Deep.DeepCutAuto
import Derived.Deep.CutBlock
import Derived.Deep.RegionHeld3
import Derived.Laws.Rows
import Derived.Lib.AppendStr
import Derived.ArgAppend
import Derived.Laws.IdiomCopy
import Derived.OrdersHeld
import Derived.Laws.BitsLemmas
import Derived.RowKit
import Derived.Test.YtadbcekglcmccaaWWords
import Derived.Test.YtadbcekglcmccaaWLast
import Derived.Test.YtadbcekglcmccaaWTab
import Derived.Test.YtadbcekglcmccaaWFour
import Derived.Test.YtadbcekglcmccaaWQPut
import Derived.Test.YtadbcekglcmccaaWApart
import Derived.Test.YtadbcekglcmccaaWArr
import Derived.Test.YtadbcekglcmccaaWZeros
import Derived.Test.YtadbcekglcmccaaWFoot
import Derived.Test.YtadbcekglcmccaaWKept
import Derived.Test.YtadbcekglcmccaaWShare
import Derived.Test.YtadbcekglcmccaaWN
import Derived.Test.YtadbcekglcmccaaWFootNe
import Derived.Test.YtadbcekglcmccaaWAt
import Derived.Test.YtadbcekglcmccaaWEqStruct
import Derived.Test.YtadbcekglcmccaaWRepsOne
import Derived.Test.YtadbcekglcmccaaWInv
import Derived.Test.YtadbcekglcmccaaWInvWords
import Derived.Test.YtadbcekglcmccaaWGuard
import Derived.Test.YtadbcekglcmccaaWNEv
import Derived.Test.YtadbcekglcmccaaWMore
import Derived.Test.YtadbcekglcmccaaA9
set_option linter.unusedVariables false
set_option linter.unusedSimpArgs false
namespace Go.Proofs.Ytadbcekglcmccaa.Q
open Go.RowKit Go.Proofs.YtadbcekglcmccaaW.PrintWords Go.Proofs.YtadbcekglcmccaaW.PrintLast Go.Proofs.YtadbcekglcmccaaW.PrintMore
open Go.FM Go.Plan

/-- Is it a letter from one of the two to the other? -/
def betB (f t a b : Int) : Bool := (f == a && t == b) || (f == b && t == a)
set_option maxHeartbeats 4000000 in
set_option maxRecDepth 100000 in
theorem between_calls (y : Lt) (a b : Int) (w : World) : Calls Try.prog 16 #[.agg #[.int .i64 y.i, .int .i64 y.f, .int .i64 y.t, .string y.s], .int .i64 a, .int .i64 b] w fun e w' => e = .returned (.bool (betB y.f y.t a b)) ∧ Below w.heap.size w w' := by
  by_cases h1 : y.f = a
  · by_cases h2 : y.t = b
    · have e1 : (y.f == a) = true := by simpa using h1
      have e2 : (y.t == b) = true := by simpa using h2
      rw [show betB y.f y.t a b = true by unfold betB; rw [e1, e2]; rfl]
      clear h1 h2
      go_enter Try.func16, Try.ntmps16
      go_wp2
      go_ret
      exact ⟨rfl, below2a _ _⟩
    · have e1 : (y.f == a) = true := by simpa using h1
      have e2 : (y.t == b) = false := by simpa using h2
      by_cases h3 : y.f = b
      · have e3 : (y.f == b) = true := by simpa using h3
        by_cases h4 : y.t = a
        · have e4 : (y.t == a) = true := by simpa using h4
          rw [show betB y.f y.t a b = true by unfold betB; rw [e1, e2, e3, e4]; rfl]
          clear h1 h2 h3 h4
          go_enter Try.func16, Try.ntmps16
          go_wp2
          go_ret
          exact ⟨rfl, below2a _ _⟩
        · have e4 : (y.t == a) = false := by simpa using h4
          rw [show betB y.f y.t a b = false by unfold betB; rw [e1, e2, e3, e4]; rfl]
          clear h1 h2 h3 h4
          go_enter Try.func16, Try.ntmps16
          go_wp2
          go_ret
          exact ⟨rfl, below2a _ _⟩
      · have e3 : (y.f == b) = false := by simpa using h3
        rw [show betB y.f y.t a b = false by unfold betB; rw [e1, e2, e3]; rfl]
        clear h1 h2 h3
        go_enter Try.func16, Try.ntmps16
        go_wp2
        go_ret
        exact ⟨rfl, below2a _ _⟩
  · have e1 : (y.f == a) = false := by simpa using h1
    by_cases h3 : y.f = b
    · have e3 : (y.f == b) = true := by simpa using h3
      by_cases h4 : y.t = a
      · have e4 : (y.t == a) = true := by simpa using h4
        rw [show betB y.f y.t a b = true by unfold betB; rw [e1, e3, e4]; rfl]
        clear h1 h3 h4
        go_enter Try.func16, Try.ntmps16
        go_wp2
        go_ret
        exact ⟨rfl, below2a _ _⟩
      · have e4 : (y.t == a) = false := by simpa using h4
        rw [show betB y.f y.t a b = false by unfold betB; rw [e1, e3, e4]; rfl]
        clear h1 h3 h4
        go_enter Try.func16, Try.ntmps16
        go_wp2
        go_ret
        exact ⟨rfl, below2a _ _⟩
    · have e3 : (y.f == b) = false := by simpa using h3
      rw [show betB y.f y.t a b = false by unfold betB; rw [e1, e3]; rfl]
      clear h1 h3
      go_enter Try.func16, Try.ntmps16
      go_wp2
      go_ret
      exact ⟨rfl, below2a _ _⟩

theorem lk_comm (a b : Int) : lk b a = lk a b := by unfold lk; rw [Int.min_comm, Int.max_comm]
theorem cutN_comm (F : Cm) (a b : Int) : cutN F b a = cutN F a b := by unfold cutN; rw [lk_comm]
theorem bet_lk {c d a b : Int} (h : betB c d a b = true) : lk c d = lk a b := by
  unfold betB at h
  rw [Bool.or_eq_true] at h
  rcases h with h | h
  · rw [Bool.and_eq_true, beq_iff_eq, beq_iff_eq] at h; rw [h.1, h.2]
  · rw [Bool.and_eq_true, beq_iff_eq, beq_iff_eq] at h; rw [h.1, h.2, lk_comm]
theorem lk_bet {c d a b : Int} (h : lk c d = lk a b) : betB c d a b = true := by
  unfold lk at h
  rw [Prod.mk.injEq] at h
  unfold betB
  rw [Bool.or_eq_true, Bool.and_eq_true, Bool.and_eq_true, beq_iff_eq, beq_iff_eq, beq_iff_eq, beq_iff_eq]
  omega
abbrev ahd : ByteArray := ⟨#[97, 104, 101, 97, 100]⟩
/-- While the link is cut. -/
structure CI (a b : Int) (gone : Bool) (n : Nat) (x : Pm) : Prop where
  good : x.Good n
  ok : linkB a b = true
  cut : 0 < cutN x.F a b
  ahead : gone = false → x.L[0]? = some ⟨1, a, b, ahd⟩
theorem CI.more {a b : Int} {gone : Bool} {n m : Nat} {x : Pm} (h : CI a b gone n x) (hm : n ≤ m) : CI a b gone m x := ⟨h.good.more hm, h.ok, h.cut, h.ahead⟩
theorem CI.send_cut {a b : Int} {gone : Bool} {n : Nat} {x : Pm} (h : CI a b gone n x) {c d : Int} (hb : betB c d a b = true) : sendB x c d = 132 := by
  have hk := linkB_iff h.ok
  have hcd : adB c = true ∧ adB d = true := by
    unfold betB at hb
    rw [Bool.or_eq_true] at hb
    rcases hb with e | e
    · rw [Bool.and_eq_true, beq_iff_eq, beq_iff_eq] at e; rw [e.1, e.2]; exact hk
    · rw [Bool.and_eq_true, beq_iff_eq, beq_iff_eq] at e; rw [e.1, e.2]; exact ⟨hk.2, hk.1⟩
  have hc : 0 < cutN x.F c d := by unfold cutN; rw [bet_lk hb]; exact h.cut
  unfold sendB
  rw [if_neg (by rw [hcd.1, hcd.2]; decide), if_pos hc]
theorem CI.send {a b : Int} {gone : Bool} {n : Nat} {x : Pm} (h : CI a b gone n x) (f t : Int) (s : ByteArray) (A : Option Addr) (cap : Nat) : CI a b gone (n + 1) ⟨x.g, x.r, A, cap, x.lim, sentOf x f t, lettersOf x f t s, x.F⟩ := by
  refine ⟨h.good.send f t s A cap, h.ok, h.cut, fun hg => ?_⟩
  have := h.ahead hg
  show (lettersOf x f t s)[0]? = _
  unfold lettersOf
  split
  · rw [List.getElem?_append_left (List.getElem?_eq_some_iff.1 this).1]; exact this
  · exact this
theorem CI.del_bet {a b : Int} {gone : Bool} {n : Nat} {x : Pm} (h : CI a b gone n x) {i : Int} (h0 : (delB x i).2 = 0) : betB (delB x i).1.f (delB x i).1.t a b = false := by
  cases hb : betB (delB x i).1.f (delB x i).1.t a b with
  | false => rfl
  | true =>
    exfalso
    have hk := bet_lk hb
    revert h0 hb hk
    unfold delB
    cases hp : pick x.L i with
    | none => intro h0; cases h0
    | some y =>
      dsimp only
      by_cases c : 0 < cutN x.F y.f y.t
      · rw [if_pos c]; intro h0; cases h0
      · rw [if_neg c]
        intro _ _ hk
        apply c
        unfold cutN
        rw [show lk y.f y.t = lk a b from hk]
        exact h.cut
theorem CI.deliver {a b : Int} {gone : Bool} {n : Nat} {x : Pm} (h : CI a b gone n x) (i : Int) (A : Option Addr) (cap : Nat) : CI a b gone n ⟨x.g, x.r, A, cap, x.lim, x.sent, delL x i, x.F⟩ := by
  refine ⟨h.good.deliver i A cap, h.ok, h.cut, fun hg => ?_⟩
  have h1 := h.ahead hg
  show (delL x i)[0]? = _
  unfold delL
  by_cases c : (delB x i).2 = 0
  · rw [if_pos c]
    have h2 := h.del_bet c
    have h3 : i.toNat ≠ 0 := by
      intro e
      have hi : ¬ i < 0 := by
        intro hi
        unfold delB pick at c
        rw [if_pos hi] at c
        cases c
      obtain rfl : i = 0 := by omega
      have hp : pick x.L 0 = some ⟨1, a, b, ahd⟩ := h1
      have hd : (delB x 0).1 = ⟨1, a, b, ahd⟩ := by
        revert c
        unfold delB
        rw [hp]
        dsimp only
        by_cases k : 0 < cutN x.F a b
        · rw [if_pos k]; intro c; cases c
        · rw [if_neg k]; intro _; rfl
      rw [hd] at h2
      unfold betB at h2
      simp at h2
    rw [List.getElem?_eraseIdx_of_lt (by omega)]
    exact h1
  · rw [if_neg c]; exact h1
theorem CI.drop {a b : Int} {gone : Bool} {n : Nat} {x : Pm} (h : CI a b gone n x) (i : Int) (hg : i = 0 → gone = true) (A : Option Addr) (cap : Nat) : CI a b gone n ⟨x.g, x.r, A, cap, x.lim, x.sent, dropL x i, x.F⟩ := by
  refine ⟨h.good.drop i A cap, h.ok, h.cut, fun hgn => ?_⟩
  have h1 := h.ahead hgn
  show (dropL x i)[0]? = _
  unfold dropL
  by_cases c : (pick x.L i).isNone = true
  · rw [if_pos c]; exact h1
  · rw [if_neg c]
    have hi : ¬ i < 0 := by
      intro hi
      apply c
      unfold pick
      rw [if_pos hi]
      rfl
    have h3 : i ≠ 0 := fun e => by rw [hg e] at hgn; cases hgn
    rw [List.getElem?_eraseIdx_of_lt (by omega)]
    exact h1
theorem CI.copy {a b : Int} {gone : Bool} {n : Nat} {x : Pm} (h : CI a b gone n x) (i : Int) (A : Option Addr) (cap : Nat) : CI a b gone (n + 1) ⟨x.g, x.r, A, cap, x.lim, copyS x i, copyL x i, x.F⟩ := by
  refine ⟨h.good.copy i A cap, h.ok, h.cut, fun hg => ?_⟩
  have := h.ahead hg
  show (copyL x i)[0]? = _
  unfold copyL
  split
  · rw [List.getElem?_append_left (List.getElem?_eq_some_iff.1 this).1]; exact this
  · exact this
theorem CI.cuts {a b : Int} {gone : Bool} {n : Nat} {x : Pm} (h : CI a b gone n x) (c d : Int) (A : Option Addr) (cap : Nat) : CI a b gone (n + 1) ⟨x.g, x.r, A, cap, x.lim, x.sent, x.L, cutG x.F c d⟩ := by
  refine ⟨h.good.cut c d A cap, h.ok, ?_, h.ahead⟩
  have := h.cut
  show 0 < (cutG x.F c d (lk a b)).getD 0
  unfold cutG
  split
  · unfold cutF
    by_cases e : lk a b = lk c d
    · rw [if_pos e]
      show 0 < cutN x.F c d + 1
      have h2 : cutN x.F c d = cutN x.F a b := by unfold cutN; rw [e]
      omega
    · rw [if_neg e]; exact this
  · exact this
theorem CI.heals {a b : Int} {gone : Bool} {n : Nat} {x : Pm} (h : CI a b gone n x) (c d : Int) (hb : betB c d a b = false) (A : Option Addr) (cap : Nat) : CI a b gone n ⟨x.g, x.r, A, cap, x.lim, x.sent, x.L, healG x.F c d⟩ := by
  refine ⟨h.good.heal c d A cap, h.ok, ?_, h.ahead⟩
  have := h.cut
  show 0 < (healG x.F c d (lk a b)).getD 0
  unfold healG
  split
  · unfold healF
    by_cases e : lk a b = lk c d
    · rw [lk_bet e.symm] at hb; cases hb
    · rw [if_neg e]; exact this
  · exact this
theorem CI.last {a b : Int} {n : Nat} {x : Pm} (h : CI a b false n x) (A : Option Addr) (cap : Nat) : delB ⟨x.g, x.r, A, cap, x.lim, x.sent, x.L, healG x.F a b⟩ 0 = (⟨1, a, b, ahd⟩, 0) := by
  have h1 : pick x.L 0 = some ⟨1, a, b, ahd⟩ := h.ahead rfl
  unfold delB
  dsimp only
  rw [h1]
  dsimp only
  rw [if_neg]
  unfold healG
  rw [if_pos h.ok]
  unfold cutN healF
  rw [if_pos rfl]
  decide
theorem CI.first (g r : Nat) (a b : Int) (h : linkB a b = true) (A : Option Addr) (cap : Nat) : CI a b false 2 ⟨g, r, A, cap, 1024, 1, [⟨1, a, b, ahd⟩], cutG (fun _ => none) b a⟩ := by
  have hk := linkB_iff h
  have hlb : linkB b a = true := by
    unfold linkB at h ⊢
    rw [hk.1, hk.2] at h ⊢
    simp at h ⊢
    exact fun e => h e.symm
  have h0 : (Pm.fresh g r 1024).Good 0 := Pm.Good.new g r 1024 (by unfold okLim; omega)
  have hs : sendB (Pm.fresh g r 1024) a b = 0 := by
    unfold sendB Pm.fresh
    rw [if_neg (by rw [hk.1, hk.2]; decide), if_neg (by show ¬ (0 : Int) < 0; decide), if_neg (by show ¬ (1024 : Int) ≤ 0; decide)]
  have h1 := h0.send a b ahd A cap
  unfold sentOf lettersOf at h1
  rw [if_pos hs, if_pos hs] at h1
  have h2 := h1.cut b a A cap
  refine ⟨h2, h, ?_, fun _ => rfl⟩
  show 0 < (cutG (fun _ => none) b a (lk a b)).getD 0
  unfold cutG
  rw [if_pos hlb]
  unfold cutF
  rw [if_pos (lk_comm a b).symm]
  show (0 : Int) < 0 + 1
  decide

/-- The cuts' state, in memory. -/
def CIn (w W : World) (g r : Nat) (a b : Int) (gone : Bool) (n : Nat) : Prop := ∃ (A : Option Addr) (cap : Nat) (sent : Int) (L : List Lt) (F : Cm), (⟨g, r, A, cap, 1024, sent, L, F⟩ : Pm).Own w W ∧ CI a b gone n ⟨g, r, A, cap, 1024, sent, L, F⟩
theorem CIn.grow {w W W' : World} {g r : Nat} {a b : Int} {gone : Bool} {n : Nat} (h : CIn w W g r a b gone n) (hb : Below W.heap.size W W') : CIn w W' g r a b gone n := by
  obtain ⟨A, cap, sent, L, F, h1, h2⟩ := h
  exact ⟨A, cap, sent, L, F, h1.grow hb, h2⟩
theorem CIn.more {w W : World} {g r : Nat} {a b : Int} {gone : Bool} {n m : Nat} (h : CIn w W g r a b gone n) (hm : n ≤ m) : CIn w W g r a b gone m := by
  obtain ⟨A, cap, sent, L, F, h1, h2⟩ := h
  exact ⟨A, cap, sent, L, F, h1, h2.more hm⟩
theorem CIn.drewN {w W : World} {g r : Nat} {a b : Int} {gone : Bool} {n : Nat} (h : CIn w W g r a b gone n) (k : Nat) : CIn w (W.drewN k) g r a b gone n := h.grow (below_drewN W k)

set_option maxHeartbeats 16000000 in
set_option maxRecDepth 100000 in
theorem cuts_calls (a0 b0 : Int) (A : Option Addr) (cA : Nat) (l : List Mo) (w : World) (hA : RMop w A l) (hc : cA ≤ 2932031007402) (hl : l.length ≤ cA) :
    Calls Try.prog 4 #[.int .i64 a0, .int .i64 b0, .slice A l.length cA] w fun e w' => e = .returned (.bool true) ∧ Below w.heap.size w w' := by
  have HA := Aside0.mk hA
  have HL := Aside0.mk (show l.length ≤ 2932031007402 by omega)
  clear hA hc hl
  go_enter Try.func4, Try.ntmps4
  go_upto_region 1 with fail
  go_cut [38] (fun v38 wx => (∃ bb : Bool, v38 = .bool bb ∧ Aside0 (bb = false → linkB a0 b0 = true)) ∧ w = wx)
  case first =>
    by_cases c1 : a0 < 0
    · have d1 : decide (a0 < 0) = true := decide_eq_true c1
      clear c1
      go_wp2_with fail
      go_meet
      exact ⟨⟨true, rfl, ⟨fun e => by cases e⟩⟩, rfl⟩
    · have d1 : decide (a0 < 0) = false := decide_eq_false c1
      by_cases c2 : 67 < a0
      · have d2 : decide (67 < a0) = true := decide_eq_true c2
        clear c1 c2
        go_wp2_with fail
        go_meet
        exact ⟨⟨true, rfl, ⟨fun e => by cases e⟩⟩, rfl⟩
      · have d2 : decide (67 < a0) = false := decide_eq_false c2
        by_cases c3 : b0 < 0
        · have d3 : decide (b0 < 0) = true := decide_eq_true c3
          clear c1 c2 c3
          go_wp2_with fail
          go_meet
          exact ⟨⟨true, rfl, ⟨fun e => by cases e⟩⟩, rfl⟩
        · have d3 : decide (b0 < 0) = false := decide_eq_false c3
          by_cases c4 : 67 < b0
          · have d4 : decide (67 < b0) = true := decide_eq_true c4
            clear c1 c2 c3 c4
            go_wp2_with fail
            go_meet
            exact ⟨⟨true, rfl, ⟨fun e => by cases e⟩⟩, rfl⟩
          · have d4 : decide (67 < b0) = false := decide_eq_false c4
            have HX := Aside0.mk (show (a0 == b0) = false → linkB a0 b0 = true from fun e => by
              unfold linkB adB
              rw [e]
              simp
              omega)
            clear c1 c2 c3 c4
            generalize hb : (a0 == b0) = bb at *
            go_wp2_with fail
            go_meet
            exact ⟨⟨_, rfl, HX⟩, rfl⟩
  case rest =>
  obtain ⟨⟨bb, rfl, HB⟩, rfl⟩ := hcut
  go_upto_if 38 with fail
  go_cut [0, 1] (fun v0 v1 wx => (∃ a b : Int, v0 = .int .i64 a ∧ v1 = .int .i64 b ∧ Aside0 (linkB a b = true)) ∧ w = wx)
  case first =>
    cases bb with
    | true =>
      go_wp2_with fail
      go_meet
      exact ⟨⟨0, 1, rfl, rfl, ⟨by decide⟩⟩, rfl⟩
    | false =>
      go_wp2_with fail
      go_meet
      exact ⟨⟨a0, b0, rfl, rfl, ⟨by simpa using HB.out⟩⟩, rfl⟩
  case rest =>
  obtain ⟨⟨a, b, rfl, rfl, HLB⟩, rfl⟩ := hcut
  clear HB
  have HSB := Aside0.mk (show ∀ g r, sendB (⟨g, r, none, 0, 1024, 0, [], fun _ => none⟩ : Pm) a b = 0 from fun g r => by
    have hk := linkB_iff HLB.out
    unfold sendB
    rw [if_neg (by rw [hk.1, hk.2]; decide), if_neg (by show ¬ (0 : Int) < 0; decide), if_neg (by show ¬ (1024 : Int) ≤ 0; decide)])
  have hlb : linkB b a = true := by
    have hk := linkB_iff HLB.out
    have h := HLB.out
    unfold linkB at h ⊢
    rw [hk.1, hk.2] at h ⊢
    simp at h ⊢
    exact fun e => h e.symm
  have HLV := Aside0.mk (show linkV b a = 0 by unfold linkV; rw [if_pos hlb])
  clear hlb
  have HG0 := Aside0.mk (show ∀ g r, (⟨g, r, none, 0, 1024, 0, [], fun _ => none⟩ : Pm).Good 0 from fun g r => Pm.Good.new g r 1024 (by unfold okLim; omega))
  go_upto_region 5 with (first
    | (go_at_call 10; (with_reducible refine (new_yes 1024 _ (by unfold okLim; omega)).mono ?_); rintro e w1 ⟨rfl, hi, hb, hz⟩; have HI := Aside0.mk (show (⟨w.heap.size + 1, w.heap.size, none, 0, 1024, 0, [], fun _ => none⟩ : Pm).Own w w1 from ⟨hi _, hb, by show w.heap.size ≤ w.heap.size + 1; omega, Nat.le_refl _⟩); clear hi hb hz))
  generalize hg : w.heap.size + 1 = g at *
  clear hg
  go_upto_region 8 with (first
    | (go_at_call 11; refine (num_calls _ _).mono ?_; rintro e w' ⟨rfl, rfl⟩)
    | (go_at_call 12; (with_reducible refine (send_good w.heap.size ⟨g, w.heap.size, none, 0, 1024, 0, [], fun _ => none⟩ 0 _ HI.out.inn HI.out.below.size (HG0.out _ _) (Nat.zero_le _) a b ahd).mono ?_); rintro e w3 ⟨rfl, A3, cap3, hd⟩; unfold sentOf lettersOf at hd; rw [HSB.out, if_pos rfl, if_pos rfl] at hd; rw [HSB.out, if_pos rfl]; have HI3 := Aside0.mk (HI.out.done hd); clear hd))
  have HC3 := Aside0.mk (CI.first g w.heap.size a b HLB.out A3 cap3)
  have HG3 := Aside0.mk ((HG0.out g w.heap.size).send a b ahd A3 cap3)
  have e3 := HG3.out
  unfold sentOf lettersOf at e3
  rw [HSB.out, if_pos rfl, if_pos rfl] at e3
  have HG3 := Aside0.mk e3
  clear e3 HI
  go_upto_region 11 with (first
    | (go_at_call 11; refine (num_calls _ _).mono ?_; rintro e w' ⟨rfl, rfl⟩)
    | (go_at_call 15; (with_reducible refine (cut_calls w.heap.size ⟨g, w.heap.size, A3, cap3, 1024, 0 + 1, [] ++ [⟨0 + 1, a, b, ahd⟩], fun _ => none⟩ 1 _ HI3.out.inn HG3.out (by omega) b a).mono ?_); rintro e w4 ⟨rfl, A4, cap4, hd⟩; rw [HLV.out]; have HI4 := Aside0.mk (HI3.out.done hd); clear hd))
  have HJ0 : Aside0 (CIn w w4 g w.heap.size a b false (0 + 2)) := ⟨A4, cap4, 0 + 1, [] ++ [⟨0 + 1, a, b, ahd⟩], cutG (fun _ => none) b a, HI4.out, (by have h1 := CI.first g w.heap.size a b HLB.out A4 cap4; simpa using h1)⟩
  clear HI4 HC3 HG3 HI3 HSB HG0 HLV
  go_wp2_with fail
  go_loopg [11, 12] l.length (fun kq v11 v12 w' => ∃ (gone : Bool) (i : Nat), v11 = .bool gone ∧ v12 = .int .i64 (i : Int) ∧ Aside0 (i + kq = l.length) ∧ Aside0 (CIn w w' g w.heap.size a b gone (i + 2)))
  case atStart => exact ⟨false, 0, rfl, rfl, ⟨by omega⟩, HJ0⟩
  case round =>
    clear HJ0
    obtain ⟨gone, i, rfl, rfl, HK, HJ⟩ := hrel
    by_cases ci : (i : Int) < (l.length : Int)
    · cases gk with
      | zero => exact absurd HK.out (by omega)
      | succ k1 =>
      have cb : decide ((i : Int) < (l.length : Int)) = true := decide_eq_true ci
      have cb2 : decide (i < l.length) = true := decide_eq_true (by omega)
      have p2 : (0 ≤ (i : Int)) = True := eq_true (by omega)
      have p3 : ((i : Int) < (l.length : Int)) = True := eq_true ci
      have hwi : wrap64 ((i : Int) + 1) = (i : Int) + 1 := Go.IntWalk.wrap64_in _ (by have := HL.out; omega)
      have HK' := Aside0.mk (show i + 1 + k1 = l.length by have := HK.out; omega)
      have HI1 := Aside0.mk (show (i : Int) + 1 = ((i + 1 : Nat) : Int) by omega)
      have HIB := Aside0.mk (show i + 2 ≤ 4611686018427387904 by have := HL.out; omega)
      obtain ⟨ad, rfl, x0, x1, x2, x3, x4⟩ := HA.out.at_ (show Below w.heap.size w wr by obtain ⟨_, _, _, _, _, h, _⟩ := HJ.out; exact h.below) i (by omega)
      obtain ⟨o, ho⟩ : ∃ o, l.getD i mo0 = o := ⟨_, rfl⟩
      rw [ho] at x0 x1 x2 x3 x4
      clear ci ho HK
      go_upto_region 15 with fail
      have HJ1 := Aside0.mk (HJ.out.grow (below2a wr (.cells #[.int .i64 o.k, .int .i64 o.a, .int .i64 o.n, .int .i64 o.m, .string o.s] 41)))
      have HO1 := Aside0.mk (blk_new wr (.cells #[.int .i64 o.k, .int .i64 o.a, .int .i64 o.n, .int .i64 o.m, .string o.s] 41))
      clear HJ x0 x1 x2 x3 x4
      generalize wr.heap.size = c at *
      generalize wr.alloc (.cells #[.int .i64 o.k, .int .i64 o.a, .int .i64 o.n, .int .i64 o.m, .string o.s] 41) = w1 at *
      obtain ⟨A1, cap1, sent, L, F, hOwn, hCI⟩ := HJ1.out
      have HJ := Aside0.mk hOwn
      have HC := Aside0.mk hCI
      clear HJ1 hOwn hCI
      have e0 := blk_cell HO1.out 0
      have e2 := blk_cell HO1.out 2
      have e3 := blk_cell HO1.out 3
      have e4 := blk_cell HO1.out 4
      by_cases k1 : o.k = 1
      · have kb : (o.k == 1) = true := by simpa using k1
        have HCS := Aside0.mk (HC.out.send o.n o.m o.s)
        clear k1
        go_upto_region 18 with (go_at_call 12; (with_reducible refine (send_good w.heap.size ⟨g, w.heap.size, A1, cap1, 1024, sent, L, F⟩ (i + 2) _ HJ.out.inn HJ.out.below.size HC.out.good HIB.out o.n o.m o.s).mono ?_); rintro e w3 ⟨rfl, A3, cap3, hd⟩; have HJ3 := Aside0.mk (show CIn w w3 g w.heap.size a b gone (i + 2 + 1) from ⟨A3, cap3, _, _, _, HJ.out.done hd, HCS.out A3 cap3⟩); have HO3 := Aside0.mk ((hd.fr.block _ (blk_lt HO1.out) (fun hs => by have := Pm.not_bools HJ.out.inn HO1.out (by decide) (by decide); exact this hs)).trans HO1.out); clear hd)
        have HSC := Aside0.mk (show betB o.n o.m a b = true → sendB ⟨g, w.heap.size, A1, cap1, 1024, sent, L, F⟩ o.n o.m = 132 from fun hb => HC.out.send_cut hb)
        generalize sendB ⟨g, w.heap.size, A1, cap1, 1024, sent, L, F⟩ o.n o.m = sb at *
        generalize (if sb = 0 then sent + 1 else 0) = si at *
        have e2 := blk_cell HO3.out 2
        have e3 := blk_cell HO3.out 3
        clear HCS HJ HC HO1
        cases hbb : betB o.n o.m a b with
        | true =>
          have hsb : sb = 132 := HSC.out hbb
          subst hsb
          have HBB := Aside0.mk hbb
          clear hbb HSC
          go_wp2_with (first
            | (go_at_call 16; refine (between_calls ⟨0, o.n, o.m, ⟨#[]⟩⟩ a b _).mono ?_; rintro e w4 ⟨rfl, hb⟩; rw [HBB.out]; have HJ4 := Aside0.mk (HJ3.out.grow hb); clear hb)
            | (go_at_call 11; refine (num_calls _ _).mono ?_; rintro e w' ⟨rfl, rfl⟩))
          go_roundg k1
          case measure => have := HK'.out; omega
          case rel => exact ⟨gone, i + 1, rfl, congrArg (Value.int .i64) (by omega), HK', ⟨HJ4.out.more (by omega)⟩⟩
        | false =>
          have HBB := Aside0.mk hbb
          clear hbb HSC
          go_wp2_with (first
            | (go_at_call 16; refine (between_calls ⟨0, o.n, o.m, ⟨#[]⟩⟩ a b _).mono ?_; rintro e w4 ⟨rfl, hb⟩; rw [HBB.out]; have HJ4 := Aside0.mk (HJ3.out.grow hb); clear hb)
            | (go_at_call 11; refine (num_calls _ _).mono ?_; rintro e w' ⟨rfl, rfl⟩))
          go_roundg k1
          case measure => have := HK'.out; omega
          case rel => exact ⟨gone, i + 1, rfl, congrArg (Value.int .i64) (by omega), HK', ⟨HJ4.out.more (by omega)⟩⟩
      · have z1 : (o.k == 1) = false := by simpa using k1
        by_cases k2 : o.k = 2
        · have kb : (o.k == 2) = true := by simpa using k2
          have HCS := Aside0.mk (HC.out.deliver o.n)
          clear k1 k2
          go_upto_region 22 with (go_at_call 13; (with_reducible refine (deliver_calls w.heap.size ⟨g, w.heap.size, A1, cap1, 1024, sent, L, F⟩ (i + 2) _ HJ.out.inn HC.out.good o.n).mono ?_); rintro e w3 ⟨rfl, A3, cap3, hd⟩; have HJ3 := Aside0.mk (show CIn w w3 g w.heap.size a b gone (i + 2) from ⟨A3, cap3, _, _, _, HJ.out.done hd, HCS.out A3 cap3⟩); have HO3 := Aside0.mk ((hd.fr.block _ (blk_lt HO1.out) (fun hs => by have := Pm.not_bools HJ.out.inn HO1.out (by decide) (by decide); exact this hs)).trans HO1.out); clear hd)
          have HSC := Aside0.mk (show (delB ⟨g, w.heap.size, A1, cap1, 1024, sent, L, F⟩ o.n).2 = 0 → betB (delB ⟨g, w.heap.size, A1, cap1, 1024, sent, L, F⟩ o.n).1.f (delB ⟨g, w.heap.size, A1, cap1, 1024, sent, L, F⟩ o.n).1.t a b = false from fun hb => HC.out.del_bet hb)
          clear HCS HJ HC HO1 HO3
          generalize delB ⟨g, w.heap.size, A1, cap1, 1024, sent, L, F⟩ o.n = dl at *
          obtain ⟨y, sb⟩ := dl
          dsimp only at *
          have HJ4 := Aside0.mk (HJ3.out.grow (below2a w3 (.cells #[.int .i64 y.i, .int .i64 y.f, .int .i64 y.t, .string y.s] 33)))
          have HO4 := Aside0.mk (blk_new w3 (.cells #[.int .i64 y.i, .int .i64 y.f, .int .i64 y.t, .string y.s] 33))
          clear HJ3
          generalize w3.heap.size = d at *
          generalize w3.alloc (.cells #[.int .i64 y.i, .int .i64 y.f, .int .i64 y.t, .string y.s] 33) = w4 at *
          have y0 := blk_cell HO4.out 0
          have y1 := blk_cell HO4.out 1
          have y2 := blk_cell HO4.out 2
          have y3 := blk_cell HO4.out 3
          cases hsb : (sb == 0) with
          | true =>
            have hs0 : sb = 0 := by simpa using hsb
            subst hs0
            have HBB := Aside0.mk (HSC.out rfl)
            clear HSC hsb
            go_wp2_with (first
              | (go_at_call 16; refine (between_calls y a b _).mono ?_; rintro e w5 ⟨rfl, hb⟩; rw [HBB.out]; have HJ5 := Aside0.mk (HJ4.out.grow hb); clear hb)
              | (go_at_call 11; refine (num_calls _ _).mono ?_; rintro e w' ⟨rfl, rfl⟩))
            go_roundg k1
            case measure => have := HK'.out; omega
            case rel => exact ⟨gone, i + 1, rfl, congrArg (Value.int .i64) (by omega), HK', ⟨HJ5.out.more (by omega)⟩⟩
          | false =>
            clear HSC
            go_wp2_with (go_at_call 11; refine (num_calls _ _).mono ?_; rintro e w' ⟨rfl, rfl⟩)
            go_roundg k1
            case measure => have := HK'.out; omega
            case rel => exact ⟨gone, i + 1, rfl, congrArg (Value.int .i64) (by omega), HK', ⟨HJ4.out.more (by omega)⟩⟩
        · have z2 : (o.k == 2) = false := by simpa using k2
          by_cases k3 : o.k = 3
          · have kb : (o.k == 3) = true := by simpa using k3
            clear k1 k2 k3
            by_cases kz : o.n = 0
            · have kzb : (o.n == 0) = true := by simpa using kz
              have HCT : Aside0 (CI a b true (i + 2) ⟨g, w.heap.size, A1, cap1, 1024, sent, L, F⟩) := ⟨⟨HC.out.good, HC.out.ok, HC.out.cut, fun e => by cases e⟩⟩
              have HCS := Aside0.mk (HCT.out.drop o.n (fun _ => rfl))
              clear kz
              go_wp2_with (go_at_call 17; (with_reducible refine (drop_calls w.heap.size ⟨g, w.heap.size, A1, cap1, 1024, sent, L, F⟩ (i + 2) _ HJ.out.inn HC.out.good o.n).mono ?_); rintro e w3 ⟨rfl, A3, cap3, hd⟩; have HJ3 := Aside0.mk (show CIn w w3 g w.heap.size a b true (i + 2) from ⟨A3, cap3, _, _, _, HJ.out.done hd, HCS.out A3 cap3⟩); clear hd)
              go_roundg k1
              case measure => have := HK'.out; omega
              case rel => exact ⟨true, i + 1, rfl, congrArg (Value.int .i64) (by omega), HK', ⟨HJ3.out.more (by omega)⟩⟩
            · have kzb : (o.n == 0) = false := by simpa using kz
              have HCS := Aside0.mk (HC.out.drop o.n (fun e => absurd e kz))
              clear kz
              go_wp2_with (go_at_call 17; (with_reducible refine (drop_calls w.heap.size ⟨g, w.heap.size, A1, cap1, 1024, sent, L, F⟩ (i + 2) _ HJ.out.inn HC.out.good o.n).mono ?_); rintro e w3 ⟨rfl, A3, cap3, hd⟩; have HJ3 := Aside0.mk (show CIn w w3 g w.heap.size a b gone (i + 2) from ⟨A3, cap3, _, _, _, HJ.out.done hd, HCS.out A3 cap3⟩); clear hd)
              go_roundg k1
              case measure => have := HK'.out; omega
              case rel => exact ⟨gone, i + 1, rfl, congrArg (Value.int .i64) (by omega), HK', ⟨HJ3.out.more (by omega)⟩⟩
          · have z3 : (o.k == 3) = false := by simpa using k3
            by_cases k4 : o.k = 4
            · have kb : (o.k == 4) = true := by simpa using k4
              have HCS := Aside0.mk (HC.out.copy o.n)
              clear k1 k2 k3 k4
              go_wp2_with (go_at_call 18; (with_reducible refine (copy_calls w.heap.size ⟨g, w.heap.size, A1, cap1, 1024, sent, L, F⟩ (i + 2) _ HJ.out.inn HJ.out.below.size HC.out.good HIB.out o.n).mono ?_); rintro e w3 ⟨rfl, A3, cap3, hd⟩; have HJ3 := Aside0.mk (show CIn w w3 g w.heap.size a b gone (i + 2 + 1) from ⟨A3, cap3, _, _, _, HJ.out.done hd, HCS.out A3 cap3⟩); clear hd)
              go_roundg k1
              case measure => have := HK'.out; omega
              case rel => exact ⟨gone, i + 1, rfl, congrArg (Value.int .i64) (by omega), HK', ⟨HJ3.out.more (by omega)⟩⟩
            · have z4 : (o.k == 4) = false := by simpa using k4
              by_cases k5 : o.k = 5
              · have kb : (o.k == 5) = true := by simpa using k5
                have HCS := Aside0.mk (HC.out.cuts o.n o.m)
                clear k1 k2 k3 k4 k5
                go_wp2_with (go_at_call 15; (with_reducible refine (cut_calls w.heap.size ⟨g, w.heap.size, A1, cap1, 1024, sent, L, F⟩ (i + 2) _ HJ.out.inn HC.out.good HIB.out o.n o.m).mono ?_); rintro e w3 ⟨rfl, A3, cap3, hd⟩; have HJ3 := Aside0.mk (show CIn w w3 g w.heap.size a b gone (i + 2 + 1) from ⟨A3, cap3, _, _, _, HJ.out.done hd, HCS.out A3 cap3⟩); clear hd)
                go_roundg k1
                case measure => have := HK'.out; omega
                case rel => exact ⟨gone, i + 1, rfl, congrArg (Value.int .i64) (by omega), HK', ⟨HJ3.out.more (by omega)⟩⟩
              · have z5 : (o.k == 5) = false := by simpa using k5
                by_cases k6 : o.k = 6
                · have kb : (o.k == 6) = true := by simpa using k6
                  clear k1 k2 k3 k4 k5 k6
                  cases hbb : betB o.n o.m a b with
                  | true =>
                    have HBB := Aside0.mk hbb
                    clear hbb
                    go_wp2_with (go_at_call 16; refine (between_calls ⟨0, o.n, o.m, ⟨#[]⟩⟩ a b _).mono ?_; rintro e w5 ⟨rfl, hb⟩; rw [HBB.out]; have HJ5 := Aside0.mk (HJ.out.grow hb); have HO5 := Aside0.mk (blk_below HO1.out hb); have e2 := blk_cell HO5.out 2; have e3 := blk_cell HO5.out 3; clear hb)
                    have HJ6 : Aside0 (CIn w w5 g w.heap.size a b gone (i + 2)) := ⟨⟨A1, cap1, sent, L, F, HJ5.out, HC.out⟩⟩
                    go_roundg k1
                    case measure => have := HK'.out; omega
                    case rel => exact ⟨gone, i + 1, rfl, congrArg (Value.int .i64) (by omega), HK', ⟨HJ6.out.more (by omega)⟩⟩
                  | false =>
                    have HBB := Aside0.mk hbb
                    have HCS := Aside0.mk (HC.out.heals o.n o.m hbb)
                    clear hbb
                    go_wp2_with (first
                      | (go_at_call 16; refine (between_calls ⟨0, o.n, o.m, ⟨#[]⟩⟩ a b _).mono ?_; rintro e w5 ⟨rfl, hb⟩; rw [HBB.out]; have HJ5 := Aside0.mk (HJ.out.grow hb); have HO5 := Aside0.mk (blk_below HO1.out hb); have e2 := blk_cell HO5.out 2; have e3 := blk_cell HO5.out 3; clear hb)
                      | (go_at_call 19; (with_reducible refine (heal_calls w.heap.size ⟨g, w.heap.size, A1, cap1, 1024, sent, L, F⟩ _ HJ5.out.inn o.n o.m).mono ?_); rintro e w3 ⟨rfl, A3, cap3, hd⟩; have HJ3 := Aside0.mk (show CIn w w3 g w.heap.size a b gone (i + 2) from ⟨A3, cap3, _, _, _, HJ5.out.done hd, HCS.out A3 cap3⟩); clear hd))
                    go_roundg k1
                    case measure => have := HK'.out; omega
                    case rel => exact ⟨gone, i + 1, rfl, congrArg (Value.int .i64) (by omega), HK', ⟨HJ3.out.more (by omega)⟩⟩
                · have z6 : (o.k == 6) = false := by simpa using k6
                  clear k1 k2 k3 k4 k5 k6
                  have HJ3 : Aside0 (CIn w w1 g w.heap.size a b gone (i + 2)) := ⟨⟨A1, cap1, sent, L, F, HJ.out, HC.out⟩⟩
                  go_wp2_with fail
                  go_roundg k1
                  case measure => have := HK'.out; omega
                  case rel => exact ⟨gone, i + 1, rfl, congrArg (Value.int .i64) (by omega), HK', ⟨HJ3.out.more (by omega)⟩⟩
    · have cb : decide ((i : Int) < (l.length : Int)) = false := decide_eq_false ci
      have cb2 : decide (i < l.length) = false := decide_eq_false (by omega)
      obtain ⟨A1, cap1, sent, L, F, hOwn, hCI⟩ := HJ.out
      clear HJ ci
      have HJ := Aside0.mk hOwn
      have HC := Aside0.mk hCI
      clear hOwn hCI
      have HLV := Aside0.mk (show linkV a b = 0 by unfold linkV; rw [if_pos HLB.out])
      cases gone with
      | true =>
        go_wp2_with (first
          | (go_at_call 19; (with_reducible refine (heal_calls w.heap.size ⟨g, w.heap.size, A1, cap1, 1024, sent, L, F⟩ _ HJ.out.inn a b).mono ?_); rintro e w3 ⟨rfl, A3, cap3, hd⟩; rw [HLV.out]; have HJ3 := Aside0.mk (HJ.out.done hd); clear hd)
          | (go_at_call 11; refine (num_calls _ _).mono ?_; rintro e w' ⟨rfl, rfl⟩))
        go_ret
        exact ⟨rfl, HJ3.out.below⟩
      | false =>
        have HG := Aside0.mk (HC.out.good.heal a b)
        have HDL := Aside0.mk (HC.out.last)
        have hne : (ahd != ahd) = false := by have := (MapKept.bytes_beq ahd ahd).2 rfl; simp [bne, this]
        go_upto_region 40 with (first
          | (go_at_call 19; (with_reducible refine (heal_calls w.heap.size ⟨g, w.heap.size, A1, cap1, 1024, sent, L, F⟩ _ HJ.out.inn a b).mono ?_); rintro e w3 ⟨rfl, A3, cap3, hd⟩; rw [HLV.out]; have HJ3 := Aside0.mk (HJ.out.done hd); clear hd)
          | (go_at_call 11; refine (num_calls _ _).mono ?_; rintro e w' ⟨rfl, rfl⟩)
          | (go_at_call 13; (with_reducible refine (deliver_calls w.heap.size ⟨g, w.heap.size, A3, cap3, 1024, sent, L, healG F a b⟩ (i + 2) _ HJ3.out.inn (HG.out A3 cap3) 0).mono ?_); rintro e w4 ⟨rfl, A4, cap4, hd⟩; rw [HDL.out A3 cap3]; have HJ4 := Aside0.mk (HJ3.out.done hd); clear hd))
        have HJ5 := Aside0.mk (HJ4.out.grow (below2a w4 (.cells #[.int .i64 1, .int .i64 a, .int .i64 b, .string ahd] 33)))
        go_wp2_with (go_at_call 11; refine (num_calls _ _).mono ?_; rintro e w' ⟨rfl, rfl⟩)
        go_ret
        exact ⟨rfl, HJ5.out.below⟩

end Go.Proofs.Ytadbcekglcmccaa.Q
