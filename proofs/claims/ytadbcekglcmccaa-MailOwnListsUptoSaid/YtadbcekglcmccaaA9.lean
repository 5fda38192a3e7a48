/- How a script of mail calls that came in is read. No condition. -/
import Derived.Test.YtadbcekglcmccaaProg
import Derived.Below
import Derived.Deep.Draws
import Derived.Deep.AppendLies
import Derived.Maps.AppendAt
import Derived.OwnWalk
import Derived.Laws.BytesArg
import Derived.Laws.MakeOwn
import Derived.Laws.OwnMore
import Derived.Deep.OwnRows
import Derived.Tactics
import Derived.Lib.ConvBytes
import Derived.Laws.Slices
import Derived.WalkKit
import Derived.KernelRfl
import Derived.RowKit3
import Derived.Deep.LoopGhost
import Derived.Deep.QuietTactic
import Derived.BigQuiet
import Derived.WideLaws
import Derived.Deep.DeepCutAuto
import Derived.Deep.CutBlock
import Derived.Deep.RegionHeld3
import Derived.Laws.Rows
import Derived.Lib.AppendStr
import Derived.ArgAppend
import Derived.Laws.IdiomCopy
import Derived.OrdersHeld
import Derived.Laws.BitsLemmas
import Derived.RowKit
import Derived.Test.YtadbcekglcmccaaWWords
import Derived.Test.YtadbcekglcmccaaWLast
import Derived.Test.YtadbcekglcmccaaWTab
import Derived.Test.YtadbcekglcmccaaWFour
import Derived.Test.YtadbcekglcmccaaWQPut
import Derived.Test.YtadbcekglcmccaaWApart
import Derived.Test.YtadbcekglcmccaaWArr
import Derived.Test.YtadbcekglcmccaaWZeros
import Derived.Test.YtadbcekglcmccaaWFoot
import Derived.Test.YtadbcekglcmccaaWKept
import Derived.Test.YtadbcekglcmccaaWShare
import Derived.Test.YtadbcekglcmccaaWN
import Derived.Test.YtadbcekglcmccaaWFootNe
import Derived.Test.YtadbcekglcmccaaWAt
import Derived.Test.YtadbcekglcmccaaWEqStruct
import Derived.Test.YtadbcekglcmccaaWRepsOne
import Derived.Test.YtadbcekglcmccaaWInv
import Derived.Test.YtadbcekglcmccaaWInvWords
import Derived.Test.YtadbcekglcmccaaWGuard
import Derived.Test.YtadbcekglcmccaaWNEv
import Derived.Test.YtadbcekglcmccaaWMore
import Derived.Test.YtadbcekglcmccaaA8
import Derived.Deep.Slices
import Derived.ChangeSlices
set_option linter.unusedVariables false
set_option linter.unusedSimpArgs false
namespace Go.Proofs.Ytadbcekglcmccaa.Q
open Go.RowKit Go.ChangeShapes Go.Proofs.YtadbcekglcmccaaW.PrintWords Go.Proofs.YtadbcekglcmccaaW.PrintLast Go.Proofs.YtadbcekglcmccaaW.PrintMore
open Go.FM Go.Plan

/-! ### What each call answers, and what it makes of a mail -/
def delB (x : Pm) (i : Int) : Lt × Int := match pick x.L i with
  | none => (lt0, 131)
  | some y => if 0 < cutN x.F y.f y.t then (lt0, 132) else (y, 0)
def delL (x : Pm) (i : Int) : List Lt := if (delB x i).2 = 0 then x.L.eraseIdx i.toNat else x.L
def dropB (x : Pm) (i : Int) : Int := if (pick x.L i).isNone then 131 else 0
def dropL (x : Pm) (i : Int) : List Lt := if (pick x.L i).isNone then x.L else x.L.eraseIdx i.toNat
def copyB (x : Pm) (i : Int) : Int := match pick x.L i with
  | none => 131
  | some _ => if x.lim ≤ (x.L.length : Int) then 130 else 0
def copyS (x : Pm) (i : Int) : Int := if copyB x i = 0 then x.sent + 1 else x.sent
def copyL (x : Pm) (i : Int) : List Lt := if copyB x i = 0 then x.L ++ [⟨x.sent + 1, ((pick x.L i).getD lt0).f, ((pick x.L i).getD lt0).t, ((pick x.L i).getD lt0).s⟩] else x.L
def linkV (a b : Int) : Int := if linkB a b = true then 0 else 1
def cutG (F : Cm) (a b : Int) : Cm := if linkB a b = true then cutF F a b else F
def healG (F : Cm) (a b : Int) : Cm := if linkB a b = true then healF F a b else F

/-- What a mail holds to, n calls behind New. -/
structure Pm.Good (x : Pm) (n : Nat) : Prop where
  lim : 1 ≤ x.lim ∧ x.lim ≤ 1024
  sent : 0 ≤ x.sent ∧ x.sent ≤ (n : Int)
  len : (x.L.length : Int) ≤ x.lim
  adr : ∀ y ∈ x.L, adB y.f = true ∧ adB y.t = true
  cuts : ∀ z, 0 ≤ (x.F z).getD 0 ∧ (x.F z).getD 0 ≤ (n : Int)
theorem Pm.Good.more {x : Pm} {n m : Nat} (h : x.Good n) (hm : n ≤ m) : x.Good m := ⟨h.lim, ⟨h.sent.1, by have := h.sent.2; omega⟩, h.len, h.adr, fun z => ⟨(h.cuts z).1, by have := (h.cuts z).2; omega⟩⟩
theorem Pm.Good.at_ {x : Pm} {n : Nat} (h : x.Good n) (A : Option Addr) (cap : Nat) : (⟨x.g, x.r, A, cap, x.lim, x.sent, x.L, x.F⟩ : Pm).Good n := ⟨h.lim, h.sent, h.len, h.adr, h.cuts⟩
theorem Pm.Good.len4 {x : Pm} {n : Nat} (h : x.Good n) : x.L.length ≤ 1024 := by have := h.len; have := h.lim; omega
theorem pick_mem {L : List Lt} {i : Int} {y : Lt} (h : pick L i = some y) : y ∈ L := by
  obtain ⟨n, _, hn⟩ := pick_some h
  exact List.mem_of_getElem? hn

theorem sendB_ok {x : Pm} {f t : Int} (h : sendB x f t = 0) : adB f = true ∧ adB t = true ∧ ¬ 0 < cutN x.F f t ∧ (x.L.length : Int) < x.lim := by
  unfold sendB at h
  by_cases h1 : (adB f && adB t) = false
  · rw [if_pos h1] at h; cases h
  rw [if_neg h1] at h
  by_cases h2 : 0 < cutN x.F f t
  · rw [if_pos h2] at h; cases h
  rw [if_neg h2] at h
  by_cases h3 : x.lim ≤ (x.L.length : Int)
  · rw [if_pos h3] at h; cases h
  have h4 : (adB f && adB t) = true := by cases k : (adB f && adB t) with | true => rfl | false => exact absurd k h1
  rw [Bool.and_eq_true] at h4
  exact ⟨h4.1, h4.2, h2, by omega⟩
theorem Pm.Good.send {x : Pm} {n : Nat} (h : x.Good n) (f t : Int) (s : ByteArray) (A : Option Addr) (cap : Nat) : (⟨x.g, x.r, A, cap, x.lim, sentOf x f t, lettersOf x f t s, x.F⟩ : Pm).Good (n + 1) := by
  unfold sentOf lettersOf
  by_cases c : sendB x f t = 0
  · obtain ⟨h1, h2, _, h4⟩ := sendB_ok c
    rw [if_pos c, if_pos c]
    refine ⟨h.lim, ⟨by have := h.sent; show 0 ≤ x.sent + 1; omega, by have := h.sent; show x.sent + 1 ≤ _; omega⟩, ?_, ?_, fun z => ⟨(h.cuts z).1, by have := (h.cuts z).2; show (x.F z).getD 0 ≤ _; omega⟩⟩
    · show ((x.L ++ [_]).length : Int) ≤ x.lim
      simp
      omega
    · intro y hy
      rcases List.mem_append.1 hy with hy | hy
      · exact h.adr y hy
      · rw [List.mem_singleton] at hy
        subst hy
        exact ⟨h1, h2⟩
  · rw [if_neg c, if_neg c]
    exact (h.at_ A cap).more (by omega)
theorem Pm.Good.erase {x : Pm} {n : Nat} (h : x.Good n) (k : Nat) (A : Option Addr) (cap : Nat) : (⟨x.g, x.r, A, cap, x.lim, x.sent, x.L.eraseIdx k, x.F⟩ : Pm).Good n :=
  ⟨h.lim, h.sent, by have := h.len; have := List.length_eraseIdx_le x.L k; show ((x.L.eraseIdx k).length : Int) ≤ x.lim; omega, fun y hy => h.adr y (List.mem_of_mem_eraseIdx hy), h.cuts⟩
theorem Pm.Good.deliver {x : Pm} {n : Nat} (h : x.Good n) (i : Int) (A : Option Addr) (cap : Nat) : (⟨x.g, x.r, A, cap, x.lim, x.sent, delL x i, x.F⟩ : Pm).Good n := by
  unfold delL
  split
  · exact h.erase _ A cap
  · exact h.at_ A cap
theorem Pm.Good.drop {x : Pm} {n : Nat} (h : x.Good n) (i : Int) (A : Option Addr) (cap : Nat) : (⟨x.g, x.r, A, cap, x.lim, x.sent, dropL x i, x.F⟩ : Pm).Good n := by
  unfold dropL
  split
  · exact h.at_ A cap
  · exact h.erase _ A cap
theorem copyB_ok {x : Pm} {i : Int} (h : copyB x i = 0) : ∃ y, pick x.L i = some y ∧ (x.L.length : Int) < x.lim := by
  unfold copyB at h
  cases hp : pick x.L i with
  | none => rw [hp] at h; cases h
  | some y =>
    rw [hp] at h
    dsimp only at h
    by_cases c : x.lim ≤ (x.L.length : Int)
    · rw [if_pos c] at h; cases h
    · exact ⟨y, rfl, by omega⟩
theorem Pm.Good.copy {x : Pm} {n : Nat} (h : x.Good n) (i : Int) (A : Option Addr) (cap : Nat) : (⟨x.g, x.r, A, cap, x.lim, copyS x i, copyL x i, x.F⟩ : Pm).Good (n + 1) := by
  unfold copyS copyL
  by_cases c : copyB x i = 0
  · obtain ⟨y, hy, hl⟩ := copyB_ok c
    rw [if_pos c, if_pos c, hy]
    have ha := h.adr y (pick_mem hy)
    refine ⟨h.lim, ⟨by have := h.sent; show 0 ≤ x.sent + 1; omega, by have := h.sent; show x.sent + 1 ≤ _; omega⟩, ?_, ?_, fun z => ⟨(h.cuts z).1, by have := (h.cuts z).2; show (x.F z).getD 0 ≤ _; omega⟩⟩
    · show ((x.L ++ [_]).length : Int) ≤ x.lim
      simp
      omega
    · intro z hz
      rcases List.mem_append.1 hz with hz | hz
      · exact h.adr z hz
      · rw [List.mem_singleton] at hz
        subst hz
        exact ha
  · rw [if_neg c, if_neg c]
    exact (h.at_ A cap).more (by omega)
theorem Pm.Good.cut {x : Pm} {n : Nat} (h : x.Good n) (a b : Int) (A : Option Addr) (cap : Nat) : (⟨x.g, x.r, A, cap, x.lim, x.sent, x.L, cutG x.F a b⟩ : Pm).Good (n + 1) := by
  unfold cutG
  split
  · refine ⟨h.lim, ⟨h.sent.1, by have := h.sent.2; show x.sent ≤ _; omega⟩, h.len, h.adr, fun z => ?_⟩
    show 0 ≤ (cutF x.F a b z).getD 0 ∧ (cutF x.F a b z).getD 0 ≤ _
    unfold cutF
    by_cases c : z = lk a b
    · rw [if_pos c]
      have := h.cuts (lk a b)
      show 0 ≤ cutN x.F a b + 1 ∧ cutN x.F a b + 1 ≤ _
      unfold cutN
      omega
    · rw [if_neg c]
      have := h.cuts z
      omega
  · exact (h.at_ A cap).more (by omega)
theorem Pm.Good.heal {x : Pm} {n : Nat} (h : x.Good n) (a b : Int) (A : Option Addr) (cap : Nat) : (⟨x.g, x.r, A, cap, x.lim, x.sent, x.L, healG x.F a b⟩ : Pm).Good n := by
  unfold healG
  split
  · refine ⟨h.lim, h.sent, h.len, h.adr, fun z => ?_⟩
    show 0 ≤ (healF x.F a b z).getD 0 ∧ (healF x.F a b z).getD 0 ≤ _
    unfold healF
    by_cases c : z = lk a b
    · rw [if_pos c]
      exact ⟨Int.le_refl 0, by show (0 : Int) ≤ _; omega⟩
    · rw [if_neg c]
      exact h.cuts z
  · exact h.at_ A cap
theorem Pm.Good.new (g r : Nat) (n : Int) (h : okLim n) : (Pm.fresh g r n).Good 0 := ⟨h, ⟨Int.le_refl _, Int.le_refl _⟩, by show (0 : Int) ≤ n; have := h.1; omega, (fun y hy => by cases hy), fun z => ⟨Int.le_refl _, Int.le_refl _⟩⟩

section
variable (B : Nat) (x : Pm) (n : Nat) (w : World)
theorem deliver_calls (h : x.In B w) (hg : x.Good n) (i : Int) : Calls Try.prog 13 #[.pointer (some ⟨x.g, 0, none⟩), .int .i64 i] w
    (MRes B x x.sent (delL x i) x.F (.tuple #[.agg #[.int .i64 (delB x i).1.i, .int .i64 (delB x i).1.f, .int .i64 (delB x i).1.t, .string (delB x i).1.s], .int .i64 (delB x i).2]) w) := by
  unfold delL
  cases hp : pick x.L i with
  | none =>
    have e : delB x i = (lt0, 131) := by unfold delB; rw [hp]
    rw [e]
    exact deliver_no B x i w h hp
  | some y =>
    obtain ⟨k, rfl, hk⟩ := pick_some hp
    have ha := hg.adr y (pick_mem hp)
    by_cases c : 0 < cutN x.F y.f y.t
    · have e : delB x k = (lt0, 132) := by unfold delB; rw [hp]; dsimp only; rw [if_pos c]
      rw [e]
      exact deliver_cut B x k y w h hk ha.1 ha.2 c
    · have e : delB x k = (y, 0) := by unfold delB; rw [hp]; dsimp only; rw [if_neg c]
      rw [e]
      exact deliver_ok B x k y w h hk hg.len4 ha.1 ha.2 c
theorem drop_calls (h : x.In B w) (hg : x.Good n) (i : Int) : Calls Try.prog 17 #[.pointer (some ⟨x.g, 0, none⟩), .int .i64 i] w (MRes B x x.sent (dropL x i) x.F (.int .i64 (dropB x i)) w) := by
  unfold dropL dropB
  cases hp : pick x.L i with
  | none => exact drop_no B x i w h hp
  | some y =>
    obtain ⟨k, rfl, hk⟩ := pick_some hp
    exact drop_ok B x k y w h hk hg.len4
theorem copy_calls (h : x.In B w) (hB : B ≤ w.heap.size) (hg : x.Good n) (hn : n ≤ 4611686018427387904) (i : Int) : Calls Try.prog 18 #[.pointer (some ⟨x.g, 0, none⟩), .int .i64 i] w (MRes B x (copyS x i) (copyL x i) x.F (.int .i64 (copyB x i)) w) := by
  unfold copyS copyL
  cases hp : pick x.L i with
  | none =>
    have e : copyB x i = 131 := by unfold copyB; rw [hp]
    rw [e]
    exact copy_no B x i w h hp
  | some y =>
    obtain ⟨k, rfl, hk⟩ := pick_some hp
    by_cases c : x.lim ≤ (x.L.length : Int)
    · have e : copyB x k = 130 := by unfold copyB; rw [hp]; dsimp only; rw [if_pos c]
      rw [e]
      exact copy_yes B x k y w h hk _ _ _ _ fun W hb => add_crowd B x y.f y.t y.s W (IsM.below h hb) c
    · have e : copyB x k = 0 := by unfold copyB; rw [hp]; dsimp only; rw [if_neg c]
      rw [e]
      exact copy_yes B x k y w h hk _ _ _ _ fun W hb => add_ok B x y.f y.t y.s W (IsM.below h hb) (Nat.le_trans hB hb.size) (by omega) hg.lim.2 ⟨hg.sent.1, by have := hg.sent.2; omega⟩
theorem cut_calls (h : x.In B w) (hg : x.Good n) (hn : n ≤ 4611686018427387904) (a b : Int) : Calls Try.prog 15 #[.pointer (some ⟨x.g, 0, none⟩), .int .i64 a, .int .i64 b] w (MRes B x x.sent x.L (cutG x.F a b) (.int .i64 (linkV a b)) w) := by
  unfold cutG linkV
  by_cases c : linkB a b = true
  · rw [if_pos c, if_pos c]
    have := hg.cuts (lk a b)
    exact cut_ok B x a b w h c ⟨this.1, by have := this.2; unfold cutN; omega⟩
  · rw [if_neg c, if_neg c]
    exact cut_no B x a b w h (by simpa using c)
theorem heal_calls (h : x.In B w) (a b : Int) : Calls Try.prog 19 #[.pointer (some ⟨x.g, 0, none⟩), .int .i64 a, .int .i64 b] w (MRes B x x.sent x.L (healG x.F a b) (.int .i64 (linkV a b)) w) := by
  unfold healG linkV
  by_cases c : linkB a b = true
  · rw [if_pos c, if_pos c]
    exact heal_ok B x a b w h c
  · rw [if_neg c, if_neg c]
    exact heal_no B x a b w h (by simpa using c)
theorem send_good (h : x.In B w) (hB : B ≤ w.heap.size) (hg : x.Good n) (hn : n ≤ 4611686018427387904) (f t : Int) (s : ByteArray) :
    Calls Try.prog 12 #[.pointer (some ⟨x.g, 0, none⟩), .int .i64 f, .int .i64 t, .string s] w (MRes B x (sentOf x f t) (lettersOf x f t s) x.F (.tuple #[.int .i64 (if sendB x f t = 0 then x.sent + 1 else 0), .int .i64 (sendB x f t)]) w) :=
  send_calls B x f t s w h hB hg.lim.2 ⟨hg.sent.1, by have := hg.sent.2; omega⟩
end

/-! ### A script that came in -/
structure Mo where
  k : Int
  a : Int
  n : Int
  m : Int
  s : ByteArray
def mo0 : Mo := ⟨0, 0, 0, 0, ⟨#[]⟩⟩
def moc (o : Mo) : List Value := [.int .i64 o.k, .int .i64 o.a, .int .i64 o.n, .int .i64 o.m, .string o.s]
/-- The number is one that a word holds. -/
def Mo.Wf (o : Mo) : Prop := -9223372036854775808 ≤ o.n ∧ o.n ≤ 9223372036854775807
def RMop (W : World) (A : Option Addr) (l : List Mo) : Prop := l.length ≤ maxLen ∧ (0 < l.length → ∃ ad, A = some ad ∧ ∀ i o, l[i]? = some o → ∀ k u, (moc o)[k]? = some u → W.cell? ((ad.add (i * 5)).add k) = some u) ∧ (∀ (i : Nat) o, l[i]? = some o → o.Wf)
theorem adr_plus (a : Addr) (h : a.spot = none) (k : Nat) (hk : 0 < k) : a.add k = ⟨a.block, a.off + k, none⟩ := by
  unfold Addr.add
  rw [if_neg (by omega)]
theorem RMop.at_ {w W : World} {A : Option Addr} {l : List Mo} (h : RMop w A l) (hb : Below w.heap.size w W) (i : Nat) (hi : i < l.length) : ∃ ad, A = some ad ∧
    W.cell? (ad.add (i * 5)) = some (.int .i64 (l.getD i mo0).k) ∧ W.cell? ⟨(ad.add (i * 5)).block, (ad.add (i * 5)).off + 1, none⟩ = some (.int .i64 (l.getD i mo0).a) ∧ W.cell? ⟨(ad.add (i * 5)).block, (ad.add (i * 5)).off + 2, none⟩ = some (.int .i64 (l.getD i mo0).n) ∧
    W.cell? ⟨(ad.add (i * 5)).block, (ad.add (i * 5)).off + 3, none⟩ = some (.int .i64 (l.getD i mo0).m) ∧ W.cell? ⟨(ad.add (i * 5)).block, (ad.add (i * 5)).off + 4, none⟩ = some (.string (l.getD i mo0).s) := by
  obtain ⟨ad, e, hc⟩ := h.2.1 (by omega)
  have hx : l[i]? = some (l.getD i mo0) := by rw [List.getD_eq_getElem?_getD, List.getElem?_eq_getElem hi]; rfl
  have hh := hc i _ hx
  refine ⟨ad, e, ?_, ?_, ?_, ?_, ?_⟩
  · exact pw_cell_below hb (hh 0 _ rfl)
  · exact pw_cell_below hb (hh 1 _ rfl)
  · exact pw_cell_below hb (hh 2 _ rfl)
  · exact pw_cell_below hb (hh 3 _ rfl)
  · exact pw_cell_below hb (hh 4 _ rfl)

theorem RMop.wf {W : World} {A : Option Addr} {l : List Mo} (h : RMop W A l) (i : Nat) (hi : i < l.length) : (l.getD i mo0).Wf :=
  h.2.2 i _ (by rw [List.getD_eq_getElem?_getD, List.getElem?_eq_getElem hi]; rfl)

section
variable {H : Type} {enc : TypeId × Value → H} {W : World} {sp : Nat → Bool} {held : Bool}
theorem one_int {m : Nat} {v : Value} {o : Option (DataW H × List MemPlace)} (h : DataW.trod enc Try.prog W 0 sp held m 3 [v] = o) (ho : o.isSome = true) : ∃ n : Int, v = .int .i64 n ∧ (-9223372036854775808 ≤ n ∧ n ≤ 9223372036854775807) := by
  obtain ⟨y, rfl⟩ := Option.isSome_iff_exists.1 ho
  obtain ⟨n, e, -, hw⟩ := DataW.trod_int Try.underlying3 h
  have h1 : IntKind.min .i64 = -9223372036854775808 := by decide
  have h2 : IntKind.max .i64 = 9223372036854775807 := by decide
  simp only [Lit.wf, Bool.and_eq_true, decide_eq_true_eq, h1, h2] at hw
  exact ⟨n, by simpa using e, hw⟩
theorem one_str {m : Nat} {v : Value} {o : Option (DataW H × List MemPlace)} (h : DataW.trod enc Try.prog W 0 sp held m 9 [v] = o) (ho : o.isSome = true) : ∃ s : ByteArray, v = .string s := by
  obtain ⟨y, rfl⟩ := Option.isSome_iff_exists.1 ho
  obtain ⟨s, e, -⟩ := DataW.trod_string Try.underlying9 h
  exact ⟨s, by simpa using e⟩
set_option maxRecDepth 100000 in
theorem mop_of {m : Nat} {cs : List Value} {x : DataW H × List MemPlace} (h : DataW.trod enc Try.prog W 0 sp held m 41 cs = some x) (hl : cs.length = 5) : ∃ o : Mo, cs = moc o ∧ o.Wf := by
  have c3 : Try.prog.cellsOf 3 = 1 := by kernel_rfl
  have c9 : Try.prog.cellsOf 9 = 1 := by kernel_rfl
  obtain ⟨xs, m1, -, -, -, hxl, hf⟩ := DataW.trod_struct Try.underlying41 h
  match cs, hl with
  | [v0, v1, v2, v3, v4], _ =>
  have hx : ∀ i, i < 5 → (xs[i]?).isSome = true := fun i hi => by
    have : xs.length = 5 := hxl
    simp [List.getElem?_eq_getElem (show i < xs.length by omega)]
  have g0 : DataW.trod enc Try.prog W 0 sp held m1 3 (([v0, v1, v2, v3, v4].drop 0).take (Try.prog.cellsOf 3)) = xs[0]? := hf 0 _ rfl
  have g1 : DataW.trod enc Try.prog W 0 sp held m1 3 (([v0, v1, v2, v3, v4].drop 1).take (Try.prog.cellsOf 3)) = xs[1]? := hf 1 _ rfl
  have g2 : DataW.trod enc Try.prog W 0 sp held m1 3 (([v0, v1, v2, v3, v4].drop 2).take (Try.prog.cellsOf 3)) = xs[2]? := hf 2 _ rfl
  have g3 : DataW.trod enc Try.prog W 0 sp held m1 3 (([v0, v1, v2, v3, v4].drop 3).take (Try.prog.cellsOf 3)) = xs[3]? := hf 3 _ rfl
  have g4 : DataW.trod enc Try.prog W 0 sp held m1 9 (([v0, v1, v2, v3, v4].drop 4).take (Try.prog.cellsOf 9)) = xs[4]? := hf 4 _ rfl
  rw [c3] at g0 g1 g2 g3
  rw [c9] at g4
  obtain ⟨n0, rfl, r0⟩ := one_int g0 (hx 0 (by omega))
  obtain ⟨n1, rfl, r1⟩ := one_int g1 (hx 1 (by omega))
  obtain ⟨n2, rfl, r2⟩ := one_int g2 (hx 2 (by omega))
  obtain ⟨n3, rfl, r3⟩ := one_int g3 (hx 3 (by omega))
  obtain ⟨s4, rfl⟩ := one_str g4 (hx 4 (by omega))
  exact ⟨⟨n0, n1, n2, n3, s4⟩, rfl, r2⟩

theorem build_mops (p : Nat → Mo → Prop) : ∀ (n : Nat), (∀ i, i < n → ∃ x, p i x) → ∃ l : List Mo, l.length = n ∧ ∀ i x, l[i]? = some x → p i x := by
  intro n
  induction n with
  | zero => intro _; exact ⟨[], rfl, fun i x h => by simp at h⟩
  | succ n ih =>
    intro h
    obtain ⟨l, hl, hp⟩ := ih fun i hi => h i (by omega)
    obtain ⟨x, hx⟩ := h n (by omega)
    refine ⟨l ++ [x], by simp [hl], fun i y hy => ?_⟩
    rw [List.getElem?_append] at hy
    by_cases c : i < l.length
    · rw [if_pos c] at hy; exact hp i y hy
    · rw [if_neg c] at hy
      have hi : i = n := by
        rcases Nat.lt_or_ge (i - l.length) 1 with h1 | h1
        · omega
        · rw [List.getElem?_eq_none (by simpa using h1)] at hy; cases hy
      subst hi
      rw [hl, Nat.sub_self] at hy
      obtain rfl := Option.some.inj hy
      exact hx

set_option maxRecDepth 100000 in
theorem open_mops {a : Option Addr} {len cap m : Nat} {x : DataW H × List MemPlace} (hf : DataW.trod enc Try.prog W 0 (fun _ => true) held m 38 [.slice a len cap] = some x) :
    ∃ l : List Mo, RMop W a l ∧ l.length ≤ cap ∧ len = l.length ∧ (cap = 0 ∨ ∃ E F : List (DataW H), x.1 = .slice E F ∧ E.length + F.length = cap) := by
  have c41 : Try.prog.cellsOf 41 = 5 := by kernel_rfl
  rcases Go.Deep.open_slice Try.underlying38 hf with ⟨hcs, _⟩ | ⟨y, ln, c, m, n, D, Pl, hcs, _, hl, hm, hmm, hx, hi⟩
  · simp at hcs
    obtain ⟨rfl, rfl, rfl⟩ := hcs
    exact ⟨[], ⟨by simp, fun h => absurd h (by simp), fun i o h => by simp at h⟩, Nat.le_refl _, rfl, .inl rfl⟩
  · simp at hcs
    obtain ⟨rfl, rfl, rfl⟩ := hcs
    have hm' : m = cap := by simpa using hmm
    rw [c41] at hi
    obtain ⟨l, hll, hp⟩ := build_mops (fun i z => (∀ k u, (moc z)[k]? = some u → W.cell? ((y.add (i * 5)).add k) = some u) ∧ z.Wf) len (fun i hil => by
      obtain ⟨cs, h1, h2⟩ := hi i (by omega)
      obtain ⟨_, hlen, hat⟩ := World.cells?_some h1
      obtain ⟨z, rfl, hz⟩ := mop_of h2 hlen
      refine ⟨z, fun k u hu => ?_, hz⟩
      have hk : k < 5 := by
        have := (List.getElem?_eq_some_iff.1 hu).1
        simpa [moc] using this
      rw [hat k hk, hu])
    exact ⟨l, ⟨by unfold maxLen at *; omega, fun _ => ⟨y, rfl, fun i o hio => (hp i o hio).1⟩, fun i o hio => (hp i o hio).2⟩, by omega, hll.symm, .inr ⟨_, _, by rw [hx], by simp; omega⟩⟩
end

end Go.Proofs.Ytadbcekglcmccaa.Q
