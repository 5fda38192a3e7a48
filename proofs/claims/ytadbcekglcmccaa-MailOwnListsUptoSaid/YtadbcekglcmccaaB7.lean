/- The program's mail and the document's say the same: what each call makes of both. No condition. -/
import Derived.Test.YtadbcekglcmccaaProg
import Derived.Below
import Derived.Deep.Draws
import Derived.Deep.AppendLies
import Derived.Maps.AppendAt
import Derived.OwnWalk
import Derived.Laws.BytesArg
import Derived.Laws.MakeOwn
import Derived.Laws.OwnMore
import Derived.Deep.OwnRows
import Derived.Tactics
import Derived.Lib.ConvBytes
import Derived.Laws.Slices
import Derived.WalkKit
import Derived.KernelRfl
import Derived.RowKit3
import Derived.Deep.LoopGhost
import Derived.Deep.QuietTactic
import Derived.BigQuiet
import Derived.WideLaws
import Derived.Deep.DeepCutAuto
import Derived.Deep.CutBlock
import Derived.Deep.RegionHeld3
import Derived.Laws.Rows
import Derived.Lib.AppendStr
import Derived.ArgAppend
import Derived.Laws.IdiomCopy
import Derived.OrdersHeld
import Derived.Laws.BitsLemmas
import Derived.RowKit
import Derived.Test.YtadbcekglcmccaaWWords
import Derived.Test.YtadbcekglcmccaaWLast
import Derived.Test.YtadbcekglcmccaaWTab
import Derived.Test.YtadbcekglcmccaaWFour
import Derived.Test.YtadbcekglcmccaaWQPut
import Derived.Test.YtadbcekglcmccaaWApart
import Derived.Test.YtadbcekglcmccaaWArr
import Derived.Test.YtadbcekglcmccaaWZeros
import Derived.Test.YtadbcekglcmccaaWFoot
import Derived.Test.YtadbcekglcmccaaWKept
import Derived.Test.YtadbcekglcmccaaWShare
import Derived.Test.YtadbcekglcmccaaWN
import Derived.Test.YtadbcekglcmccaaWFootNe
import Derived.Test.YtadbcekglcmccaaWAt
import Derived.Test.YtadbcekglcmccaaWEqStruct
import Derived.Test.YtadbcekglcmccaaWRepsOne
import Derived.Test.YtadbcekglcmccaaWInv
import Derived.Test.YtadbcekglcmccaaWInvWords
import Derived.Test.YtadbcekglcmccaaWGuard
import Derived.Test.YtadbcekglcmccaaWNEv
import Derived.Test.YtadbcekglcmccaaWMore
import Derived.Test.YtadbcekglcmccaaB6
import Derived.Test.YtadbcekglcmccaaA9
set_option linter.unusedVariables false
set_option linter.unusedSimpArgs false
namespace Go.Proofs.Ytadbcekglcmccaa.Q
open Go.RowKit Go.Proofs.YtadbcekglcmccaaW.PrintWords Go.Proofs.YtadbcekglcmccaaW.PrintLast Go.Proofs.YtadbcekglcmccaaW.PrintMore
open Go.FM Go.Plan

/-! ### The program's mail and the document's say the same -/
structure J (n : Nat) (x : Pm) (r : Rm) : Prop where
  good : x.Good n
  len : r.Bs.length = r.Ls.length
  sent : x.sent = (r.Ls.length : Int)
  left : x.L = leftL r.Ls r.Bs
  lim : x.lim = r.lim
  ts : r.Ts.length ≤ n
  cuts : ∀ a b, cutT r.Ts a b = decide (0 < cutN x.F a b)
theorem J.le {n : Nat} {x : Pm} {r : Rm} (h : J n x r) : r.Ls.length ≤ n := by have := h.good.sent.2; rw [h.sent] at this; omega
theorem J.more {n m : Nat} {x : Pm} {r : Rm} (h : J n x r) (hm : n ≤ m) : J m x r := ⟨h.good.more hm, h.len, h.sent, h.left, h.lim, by have := h.ts; omega, h.cuts⟩
/-- The cells alone have changed places. -/
theorem J.re {n : Nat} {x : Pm} {r : Rm} (h : J n x r) (A : Option Addr) (cap : Nat) (A1 : Option Addr) (c1 : Nat) (A2 : Option Addr) (c2 : Nat) (A3 : Option Addr) (c3 : Nat) :
    J n ⟨x.g, x.r, A, cap, x.lim, x.sent, x.L, x.F⟩ ⟨r.m, r.lim, A1, c1, r.Ls, A2, c2, r.Bs, A3, c3, r.Ts⟩ := ⟨h.good.at_ A cap, h.len, h.sent, h.left, h.lim, h.ts, h.cuts⟩
theorem J.new (g q : Nat) (m : Nat) (n : Int) (h : okLim n) : J 0 (Pm.fresh g q n) ⟨m, n, none, 0, [], none, 0, [], none, 0, []⟩ :=
  ⟨Pm.Good.new g q n h, rfl, rfl, rfl, rfl, Nat.le_refl _, fun a b => rfl⟩

/-! #### Send -/
def rsLs (x : Pm) (r : Rm) (f t : Int) (s : ByteArray) : List Lt := if sendB x f t = 0 then r.Ls ++ [⟨(r.Ls.length : Int) + 1, f, t, s⟩] else r.Ls
def rsBs (x : Pm) (r : Rm) (f t : Int) : List Bool := if sendB x f t = 0 then r.Bs ++ [false] else r.Bs
theorem J.send {n : Nat} {x : Pm} {r : Rm} (h : J n x r) (f t : Int) (s : ByteArray) (A : Option Addr) (cap : Nat) (A1 : Option Addr) (c1 : Nat) (A2 : Option Addr) (c2 : Nat) (A3 : Option Addr) (c3 : Nat) :
    J (n + 1) ⟨x.g, x.r, A, cap, x.lim, sentOf x f t, lettersOf x f t s, x.F⟩ ⟨r.m, r.lim, A1, c1, rsLs x r f t s, A2, c2, rsBs x r f t, A3, c3, r.Ts⟩ := by
  have hg := h.good.send f t s A cap
  unfold rsLs rsBs
  unfold sentOf lettersOf at hg ⊢
  by_cases c : sendB x f t = 0
  · rw [if_pos c, if_pos c] at hg ⊢
    rw [if_pos c, if_pos c]
    refine ⟨hg, by simp [h.len], by show x.sent + 1 = ((r.Ls ++ [_]).length : Int); rw [h.sent]; simp, ?_, h.lim, by have := h.ts; show r.Ts.length ≤ n + 1; omega, h.cuts⟩
    show x.L ++ [_] = leftL (r.Ls ++ [_]) (r.Bs ++ [false])
    rw [leftL_app _ _ _ _ h.len, if_neg (by decide), h.left, h.sent]
  · rw [if_neg c, if_neg c] at hg ⊢
    rw [if_neg c, if_neg c]
    exact (h.re A cap A1 c1 A2 c2 A3 c3).more (by omega)

/-! #### The i-th in flight -/
def goneB (Bs : List Bool) (i : Int) : List Bool := match atN Bs i.toNat with
  | none => Bs
  | some j => Bs.set j true
theorem J.at_none {n : Nat} {x : Pm} {r : Rm} (h : J n x r) {i : Int} (hp : pick x.L i = none) : atV r.Bs i = -1 := by
  unfold atV
  by_cases c : i < 0
  · rw [if_pos c]
  · rw [if_neg c]
    unfold pick at hp
    rw [if_neg c, h.left] at hp
    cases ha : atN r.Bs i.toNat with
    | none => rfl
    | some j =>
      obtain ⟨y, _, h2, _⟩ := atN_some r.Ls r.Bs _ j h.len ha
      rw [hp] at h2
      cases h2
theorem J.at_some {n : Nat} {x : Pm} {r : Rm} (h : J n x r) {m : Nat} {y : Lt} (hp : x.L[m]? = some y) : ∃ j : Nat, atV r.Bs (m : Int) = (j : Int) ∧ r.Ls[j]? = some y ∧ r.Bs[j]? = some false ∧ goneB r.Bs (m : Int) = r.Bs.set j true ∧ leftL r.Ls (r.Bs.set j true) = x.L.eraseIdx m := by
  unfold atV goneB
  rw [if_neg (by omega), Int.toNat_natCast]
  rw [h.left] at hp
  cases ha : atN r.Bs m with
  | none =>
    have := atN_none r.Ls r.Bs m h.len ha
    rw [hp] at this
    cases this
  | some j =>
    obtain ⟨z, h1, h2, h3, h4⟩ := atN_some r.Ls r.Bs _ j h.len ha
    rw [hp] at h2
    obtain rfl := Option.some.inj h2
    exact ⟨j, rfl, h1, h3, rfl, by rw [h4, h.left]⟩
theorem J.gone {n : Nat} {x : Pm} {r : Rm} (h : J n x r) {m : Nat} {y : Lt} (hp : x.L[m]? = some y) (A : Option Addr) (cap : Nat) (A1 : Option Addr) (c1 : Nat) (A2 : Option Addr) (c2 : Nat) (A3 : Option Addr) (c3 : Nat) :
    J (n + 1) ⟨x.g, x.r, A, cap, x.lim, x.sent, x.L.eraseIdx m, x.F⟩ ⟨r.m, r.lim, A1, c1, r.Ls, A2, c2, goneB r.Bs (m : Int), A3, c3, r.Ts⟩ := by
  obtain ⟨j, _, h2, h3, h4, h5⟩ := h.at_some hp
  refine ⟨(h.good.erase m A cap).more (by omega), ?_, h.sent, ?_, h.lim, by have := h.ts; show r.Ts.length ≤ n + 1; omega, h.cuts⟩
  · show (goneB r.Bs (m : Int)).length = r.Ls.length
    rw [h4, List.length_set]
    exact h.len
  · show x.L.eraseIdx m = leftL r.Ls (goneB r.Bs (m : Int))
    rw [h4, h5]
def rdBs (x : Pm) (r : Rm) (i : Int) : List Bool := if (delB x i).2 = 0 then goneB r.Bs i else r.Bs
def rpBs (x : Pm) (r : Rm) (i : Int) : List Bool := if (pick x.L i).isNone then r.Bs else goneB r.Bs i
theorem J.deliver {n : Nat} {x : Pm} {r : Rm} (h : J n x r) (i : Int) (A : Option Addr) (cap : Nat) (A1 : Option Addr) (c1 : Nat) (A2 : Option Addr) (c2 : Nat) (A3 : Option Addr) (c3 : Nat) :
    J (n + 1) ⟨x.g, x.r, A, cap, x.lim, x.sent, delL x i, x.F⟩ ⟨r.m, r.lim, A1, c1, r.Ls, A2, c2, rdBs x r i, A3, c3, r.Ts⟩ := by
  unfold delL rdBs
  by_cases c : (delB x i).2 = 0
  · rw [if_pos c, if_pos c]
    have hp : ∃ m : Nat, i = (m : Int) ∧ ∃ y, x.L[m]? = Option.some y := by
      unfold delB at c
      cases hp : pick x.L i with
      | none => rw [hp] at c; cases c
      | some y =>
        obtain ⟨m, hm, hk⟩ := pick_some hp
        exact ⟨m, hm, y, hk⟩
    obtain ⟨m, rfl, y, hy⟩ := hp
    rw [Int.toNat_natCast]
    exact h.gone hy A cap A1 c1 A2 c2 A3 c3
  · rw [if_neg c, if_neg c]
    exact (h.re A cap A1 c1 A2 c2 A3 c3).more (by omega)
theorem J.drop {n : Nat} {x : Pm} {r : Rm} (h : J n x r) (i : Int) (A : Option Addr) (cap : Nat) (A1 : Option Addr) (c1 : Nat) (A2 : Option Addr) (c2 : Nat) (A3 : Option Addr) (c3 : Nat) :
    J (n + 1) ⟨x.g, x.r, A, cap, x.lim, x.sent, dropL x i, x.F⟩ ⟨r.m, r.lim, A1, c1, r.Ls, A2, c2, rpBs x r i, A3, c3, r.Ts⟩ := by
  unfold dropL rpBs
  cases hp : pick x.L i with
  | none => exact (h.re A cap A1 c1 A2 c2 A3 c3).more (by omega)
  | some y =>
    obtain ⟨m, rfl, hk⟩ := pick_some hp
    show J (n + 1) ⟨x.g, x.r, A, cap, x.lim, x.sent, x.L.eraseIdx (m : Int).toNat, x.F⟩ ⟨r.m, r.lim, A1, c1, r.Ls, A2, c2, goneB r.Bs (m : Int), A3, c3, r.Ts⟩
    rw [Int.toNat_natCast]
    exact h.gone hk A cap A1 c1 A2 c2 A3 c3
/-! #### Copy -/
def rcLs (x : Pm) (r : Rm) (i : Int) : List Lt := if copyB x i = 0 then r.Ls ++ [⟨(r.Ls.length : Int) + 1, ((pick x.L i).getD lt0).f, ((pick x.L i).getD lt0).t, ((pick x.L i).getD lt0).s⟩] else r.Ls
def rcBs (x : Pm) (r : Rm) (i : Int) : List Bool := if copyB x i = 0 then r.Bs ++ [false] else r.Bs
theorem J.copy {n : Nat} {x : Pm} {r : Rm} (h : J n x r) (i : Int) (A : Option Addr) (cap : Nat) (A1 : Option Addr) (c1 : Nat) (A2 : Option Addr) (c2 : Nat) (A3 : Option Addr) (c3 : Nat) :
    J (n + 1) ⟨x.g, x.r, A, cap, x.lim, copyS x i, copyL x i, x.F⟩ ⟨r.m, r.lim, A1, c1, rcLs x r i, A2, c2, rcBs x r i, A3, c3, r.Ts⟩ := by
  have hg := h.good.copy i A cap
  unfold rcLs rcBs
  unfold copyS copyL at hg ⊢
  by_cases c : copyB x i = 0
  · rw [if_pos c, if_pos c] at hg ⊢
    rw [if_pos c, if_pos c]
    refine ⟨hg, by simp [h.len], by show x.sent + 1 = ((r.Ls ++ [_]).length : Int); rw [h.sent]; simp, ?_, h.lim, by have := h.ts; show r.Ts.length ≤ n + 1; omega, h.cuts⟩
    show x.L ++ [_] = leftL (r.Ls ++ [_]) (r.Bs ++ [false])
    rw [leftL_app _ _ _ _ h.len, if_neg (by decide), h.left, h.sent]
  · rw [if_neg c, if_neg c] at hg ⊢
    rw [if_neg c, if_neg c]
    exact (h.re A cap A1 c1 A2 c2 A3 c3).more (by omega)
/-! #### Cut and Heal -/
def rtTs (r : Rm) (a b : Int) (c : Bool) : List Tn := if linkB a b = true then r.Ts ++ [⟨a, b, c⟩] else r.Ts
theorem bet_dec (t : Tn) (a b : Int) : (betB t.a t.b a b = true) ↔ lk a b = lk t.a t.b := ⟨fun h => (bet_lk h).symm, fun h => lk_bet h.symm⟩
theorem J.cut {n : Nat} {x : Pm} {r : Rm} (h : J n x r) (a b : Int) (A : Option Addr) (cap : Nat) (A1 : Option Addr) (c1 : Nat) (A2 : Option Addr) (c2 : Nat) (A3 : Option Addr) (c3 : Nat) :
    J (n + 1) ⟨x.g, x.r, A, cap, x.lim, x.sent, x.L, cutG x.F a b⟩ ⟨r.m, r.lim, A1, c1, r.Ls, A2, c2, r.Bs, A3, c3, rtTs r a b true⟩ := by
  have hg := h.good.cut a b A cap
  unfold rtTs
  unfold cutG at hg ⊢
  by_cases c : linkB a b = true
  · rw [if_pos c] at hg ⊢
    rw [if_pos c]
    refine ⟨hg, h.len, h.sent, h.left, h.lim, by have := h.ts; show (r.Ts ++ [_]).length ≤ n + 1; simp; omega, fun d e => ?_⟩
    show cutT (r.Ts ++ [_]) d e = decide (0 < cutN (cutF x.F a b) d e)
    rw [cutT_app]
    have hx := h.good.cuts (lk a b)
    by_cases k : betB a b d e = true
    · rw [if_pos k]
      have hk := (bet_dec ⟨a, b, true⟩ d e).1 k
      dsimp only at hk
      symm
      apply decide_eq_true
      unfold cutN cutF
      rw [hk, if_pos rfl]
      show 0 < (x.F (lk a b)).getD 0 + 1
      omega
    · rw [if_neg k, h.cuts d e]
      have hk : ¬ lk d e = lk a b := fun hh => k ((bet_dec ⟨a, b, true⟩ d e).2 hh)
      unfold cutN cutF
      rw [if_neg hk]
  · rw [if_neg c] at hg ⊢
    rw [if_neg c]
    exact (h.re A cap A1 c1 A2 c2 A3 c3).more (by omega)
theorem J.heal {n : Nat} {x : Pm} {r : Rm} (h : J n x r) (a b : Int) (A : Option Addr) (cap : Nat) (A1 : Option Addr) (c1 : Nat) (A2 : Option Addr) (c2 : Nat) (A3 : Option Addr) (c3 : Nat) :
    J (n + 1) ⟨x.g, x.r, A, cap, x.lim, x.sent, x.L, healG x.F a b⟩ ⟨r.m, r.lim, A1, c1, r.Ls, A2, c2, r.Bs, A3, c3, rtTs r a b false⟩ := by
  have hg := (h.good.heal a b A cap).more (show n ≤ n + 1 by omega)
  unfold rtTs
  unfold healG at hg ⊢
  by_cases c : linkB a b = true
  · rw [if_pos c] at hg ⊢
    rw [if_pos c]
    refine ⟨hg, h.len, h.sent, h.left, h.lim, by have := h.ts; show (r.Ts ++ [_]).length ≤ n + 1; simp; omega, fun d e => ?_⟩
    show cutT (r.Ts ++ [_]) d e = decide (0 < cutN (healF x.F a b) d e)
    rw [cutT_app]
    by_cases k : betB a b d e = true
    · rw [if_pos k]
      have hk := (bet_dec ⟨a, b, false⟩ d e).1 k
      dsimp only at hk
      symm
      apply decide_eq_false
      unfold cutN healF
      rw [hk, if_pos rfl]
      decide
    · rw [if_neg k, h.cuts d e]
      have hk : ¬ lk d e = lk a b := fun hh => k ((bet_dec ⟨a, b, false⟩ d e).2 hh)
      unfold cutN healF
      rw [if_neg hk]
  · rw [if_neg c] at hg ⊢
    rw [if_neg c]
    exact (h.re A cap A1 c1 A2 c2 A3 c3).more (by omega)

end Go.Proofs.Ytadbcekglcmccaa.Q
