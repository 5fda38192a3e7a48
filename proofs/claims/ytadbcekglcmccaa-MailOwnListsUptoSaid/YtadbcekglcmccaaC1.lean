/- Contract of granarylaw13.marked. Condition: the list lies in a row of the call's own. -/
import Derived.Test.YtadbcekglcmccaaProg
import Derived.Below
import Derived.Deep.Draws
import Derived.Deep.AppendLies
import Derived.Maps.AppendAt
import Derived.OwnWalk
import Derived.Laws.BytesArg
import Derived.Laws.MakeOwn
import Derived.Laws.OwnMore
import Derived.Deep.OwnRows
import Derived.Tactics
import Derived.Lib.ConvBytes
import Derived.Laws.Slices
import Derived.WalkKit
import Derived.KernelRfl
import Derived.RowKit3
import Derived.Deep.LoopGhost
import Derived.Deep.QuietTactic
import Derived.BigQuiet
import Derived.WideLaws
import Derived.Deep.DeepCutAuto
import Derived.Deep.CutBlock
import Derived.Deep.RegionHeld3
import Derived.Laws.Rows
import Derived.Lib.AppendStr
import Derived.ArgAppend
import Derived.Laws.IdiomCopy
import Derived.OrdersHeld
import Derived.Laws.BitsLemmas
import Derived.RowKit
import Derived.Test.YtadbcekglcmccaaWWords
import Derived.Test.YtadbcekglcmccaaWLast
import Derived.Test.YtadbcekglcmccaaWTab
import Derived.Test.YtadbcekglcmccaaWFour
import Derived.Test.YtadbcekglcmccaaWQPut
import Derived.Test.YtadbcekglcmccaaWApart
import Derived.Test.YtadbcekglcmccaaWArr
import Derived.Test.YtadbcekglcmccaaWZeros
import Derived.Test.YtadbcekglcmccaaWFoot
import Derived.Test.YtadbcekglcmccaaWKept
import Derived.Test.YtadbcekglcmccaaWShare
import Derived.Test.YtadbcekglcmccaaWN
import Derived.Test.YtadbcekglcmccaaWFootNe
import Derived.Test.YtadbcekglcmccaaWAt
import Derived.Test.YtadbcekglcmccaaWEqStruct
import Derived.Test.YtadbcekglcmccaaWRepsOne
import Derived.Test.YtadbcekglcmccaaWInv
import Derived.Test.YtadbcekglcmccaaWInvWords
import Derived.Test.YtadbcekglcmccaaWGuard
import Derived.Test.YtadbcekglcmccaaWNEv
import Derived.Test.YtadbcekglcmccaaWMore
import Derived.Test.YtadbcekglcmccaaC0
set_option linter.unusedVariables false
set_option linter.unusedSimpArgs false
namespace Go.Proofs.Ytadbcekglcmccaa.Q
open Go.RowKit Go.Proofs.YtadbcekglcmccaaW.PrintWords Go.Proofs.YtadbcekglcmccaaW.PrintLast Go.Proofs.YtadbcekglcmccaaW.PrintMore
open Go.FM Go.Plan

/-! ### A list is written full, and beyond -/
theorem lcells_set (L : List Lt) (i : Nat) (y : Lt) (hi : i < L.length) : ((((lcells L).set (i * 4) (.int .i64 y.i)).set (i * 4 + 1) (.int .i64 y.f)).set (i * 4 + 2) (.int .i64 y.t)).set (i * 4 + 3) (.string y.s) = lcells (L.set i y) := by
  induction L generalizing i with
  | nil => simp at hi
  | cons x l ih =>
    cases i with
    | zero => rfl
    | succ i =>
      have h := ih i (by simpa using hi)
      rw [List.set_cons_succ]
      show ((((lc x ++ lcells l).set ((i + 1) * 4) _).set ((i + 1) * 4 + 1) _).set ((i + 1) * 4 + 2) _).set ((i + 1) * 4 + 3) _ = lc x ++ lcells (l.set i y)
      rw [← h]
      rw [List.set_append_right _ _ (by rw [lc_length]; omega), List.set_append_right _ _ (by rw [lc_length]; omega), List.set_append_right _ _ (by rw [lc_length]; omega), List.set_append_right _ _ (by rw [lc_length]; omega)]
      rw [lc_length, show (i + 1) * 4 - 4 = i * 4 by omega, show (i + 1) * 4 + 1 - 4 = i * 4 + 1 by omega, show (i + 1) * 4 + 2 - 4 = i * 4 + 2 by omega, show (i + 1) * 4 + 3 - 4 = i * 4 + 3 by omega]
/-- A letter is stored. -/
def setL (W : World) (q i : Nat) (y : Lt) : World := (((W.setCell ⟨q, i * 4, none⟩ (.int .i64 y.i)).setCell ⟨q, i * 4 + 1, none⟩ (.int .i64 y.f)).setCell ⟨q, i * 4 + 2, none⟩ (.int .i64 y.t)).setCell ⟨q, i * 4 + 3, none⟩ (.string y.s)
theorem OwnL.setL {W : World} {B q cap : Nat} {L : List Lt} (h : OwnL W B (some ⟨q, 0, none⟩) cap L) (i : Nat) (y : Lt) (hi : i < L.length) : OwnL (Q.setL W q i y) B (some ⟨q, 0, none⟩) cap (L.set i y) := by
  unfold OwnL
  rw [List.length_set, ← lcells_set L i y hi]
  exact (((h.stored (i * 4) _).1.stored (i * 4 + 1) _).1.stored (i * 4 + 2) _).1.stored (i * 4 + 3) _ |>.1
theorem But.setL {w W : World} {S : Nat → Prop} (h : But w W S) {q : Nat} (hq : S q) (i : Nat) (y : Lt) : But w (Q.setL W q i y) S := (((h.set hq _ _).set hq _ _).set hq _ _).set hq _ _
theorem setL_other (W : World) (q i : Nat) (y : Lt) (k : Nat) (hk : k ≠ q) : (Q.setL W q i y).heap[k]? = W.heap[k]? :=
  (Below.heap_setCell _ ⟨q, i * 4 + 3, none⟩ _ k hk).trans ((Below.heap_setCell _ ⟨q, i * 4 + 2, none⟩ _ k hk).trans ((Below.heap_setCell _ ⟨q, i * 4 + 1, none⟩ _ k hk).trans (Below.heap_setCell W ⟨q, i * 4, none⟩ _ k hk)))

section
variable {P : Program} (w : World)
/-- append onto a row of the call's own: in place, or in a new row, the old one as it was. -/
theorem run_append_two (base : Nat) (t ty e : TypeId) (i : TypeInfo) (z : Value) (size bytes : Nat) (ht : P.underlying t = some (.slice e)) (hi : P.info? e = some i) (hz : i.zero = some z)
    (hsize : i.size = size) (hby : i.bytes = bytes) (hzs : z.cells.size = size) (hsz : 0 < size)
    (A : Option Addr) (n cap : Nat) (xs : List Value) (hown : w.ownsRow base e size (.slice A n cap) n xs)
    (a : Addr) (m c : Nat) (news : List Value) (hl : news.length = m * size) (hnews : ∀ j u, news[j]? = some u → w.cell? (a.add j) = some u) (h1 : ∀ u ∈ news, u.oneCell' = true)
    (h63 : n + m ≤ maxLen) (hbytes : (n + m) * bytes ≤ 140737488355328) (hbase : base ≤ w.heap.size) :
    ∃ A' cap' w', (Builtin.append_ #[t, t] ty #[.slice A n cap, .slice (some a) m c]).run P w = .ok (.slice A' (n + m) cap') w' ∧ w'.ownsRow base e size (.slice A' (n + m) cap') (n + m) (xs ++ news) ∧
      ((A' = A ∧ w.grownBy w' (rowB A)) ∨ ((∀ q, rowB A' = some q → w.heap.size ≤ q) ∧ w.grownBy w' none)) := by
  obtain ⟨v', w', hr, h2, h3, h4, h5⟩ := run_append_own_at (P := P) w base t ty e i z size bytes ht hi hz hsize hby hzs hsz _ n xs hown a m c news hl hnews h1 h63 hbytes hbase
  obtain ⟨A', cap', rfl⟩ := own_form h2
  refine ⟨A', cap', w', hr, h2, ?_⟩
  rw [rowB_own] at h3
  rw [rowB_own, rowB_own] at h5
  have hown' := hown
  rcases hown.2 with ⟨hv, h0⟩ | ⟨g, c', cur, hv, hb, hg, hnc, hcm, hcs, htk⟩
  · simp only [Value.slice.injEq] at hv
    obtain ⟨rfl, -, rfl⟩ := hv
    refine .inr ⟨fun q hq => ?_, h3⟩
    rcases h5 with h5 | h5
    · rw [hq] at h5; cases h5
    · rw [hq] at h5; obtain rfl := Option.some.inj h5; exact Nat.le_refl _
  · simp only [Value.slice.injEq] at hv
    obtain ⟨rfl, -, rfl⟩ := hv
    by_cases hroom : n + m ≤ cap
    · have hbd : ∀ j, j < news.length → n * i.size + j < cur.size := by
        intro j hj
        rw [hsize, hcs]
        have := Nat.mul_le_mul_right size hroom
        rw [Nat.add_mul] at this
        omega
      have hrun := run_append_room_cells (P := P) w t ty e i ht hi g 0 n cap a m c news (by rw [hsize]; exact hl) hnews h1 hroom
        (fun j hj => by rw [blk_cell hg, Nat.zero_add]; rw [Array.getElem?_eq_getElem (hbd j hj)]; rfl) (fun j hj => blk_frozen hg _)
      rw [hr] at hrun
      simp only [Result.ok.injEq, Value.slice.injEq] at hrun
      exact .inl ⟨hrun.1.1, h3⟩
    · obtain ⟨v2, w2, hrun, r1, r2⟩ := run_append_arg_grows (P := P) w t ty e i z size bytes ht hi hz hsize hby hzs hsz ⟨g, 0, none⟩ n cap xs hown.1 (hown.cells (g := g) rfl) a m c news hl hnews (by omega) h63 hbytes
      rw [hr] at hrun
      simp only [Result.ok.injEq] at hrun
      obtain ⟨rfl, rfl⟩ := hrun
      exact .inr ⟨fun q hq => (ownsRow_lt r1 q hq).1, r2⟩
theorem wpList_append_two {ops : Array Oper} {rest : List Oper} {o : Oper} {ac : Act} {Q : Exit → Act → World → Prop} (hgd : o.guard = none) (s x : Operand) (t : TypeId)
    (ho : o.op = .call { callee := .builtin .append, args := #[s, x], argTypes := #[t, t] })
    (base : Nat) (e : TypeId) (i : TypeInfo) (z : Value) (size bytes : Nat) (ht : P.underlying t = some (.slice e)) (hi : P.info? e = some i) (hz : i.zero = some z)
    (hsize : i.size = size) (hby : i.bytes = bytes) (hzs : z.cells.size = size) (hsz : 0 < size)
    (A : Option Addr) (n cap : Nat) (xs : List Value) (hs : ac.eval s = .slice A n cap) (hown : w.ownsRow base e size (.slice A n cap) n xs)
    (ad : Addr) (m c : Nat) (news : List Value) (hx : ac.eval x = .slice (some ad) m c) (hl : news.length = m * size) (hnews : ∀ j u, news[j]? = some u → w.cell? (ad.add j) = some u) (h1 : ∀ u ∈ news, u.oneCell' = true)
    (h63 : n + m ≤ maxLen) (hbytes : (n + m) * bytes ≤ 140737488355328) (hbase : base ≤ w.heap.size)
    (h : ∀ A' cap' w', w'.ownsRow base e size (.slice A' (n + m) cap') (n + m) (xs ++ news) → ((A' = A ∧ w.grownBy w' (rowB A)) ∨ ((∀ q, rowB A' = some q → w.heap.size ≤ q) ∧ w.grownBy w' none)) → wpList P ops Q rest (ac.put o.dst (.slice A' (n + m) cap')) w') :
    wpList P ops Q (o :: rest) ac w := by
  refine wpList_plain hgd fun K hK => ?_
  obtain ⟨A', cap', w', hr, h2, h3⟩ := run_append_two (P := P) w base t o.type e i z size bytes ht hi hz hsize hby hzs hsz A n cap xs hown ad m c news hl hnews h1 h63 hbytes hbase
  unfold Oper.wp execOp
  simp only [ho, resolve, invoke, builtin, Sem.run_bind, Sem.run_pure, Result.andThen_ok, List.map_toArray, List.map_cons, List.map_nil, hs, hx, hr]
  exact hK _ _ (h A' cap' w' h2 h3)
end

theorem RdL.prefix {W : World} {A : Option Addr} {L M : List Lt} (h : RdL W A (L ++ M)) : RdL W A L :=
  ⟨h.lt, fun i y hy => h.at_ i y (by rw [List.getElem?_append_left (List.getElem?_eq_some_iff.1 hy).1]; exact hy)⟩
theorem But.onlyNew {w W W' : World} {S : Nat → Prop} {c : Nat} (h : But w W S) (ho : OnlyB W W' c) (hc : w.heap.size ≤ c) : But w W' S :=
  ⟨ho.os.trans h.os, ho.tape.trans h.tape, ho.output.trans h.output, by rw [ho.size]; exact h.size, fun i hi hs => (ho.block i (by omega)).trans (h.block i hi hs)⟩
theorem RdL.only {W W' : World} {A : Option Addr} {L : List Lt} {c : Nat} (h : RdL W A L) (ho : OnlyB W W' c) (hc : ∀ q, rowB A = some q → q ≠ c) : RdL W' A L :=
  h.keep (fun q hq => ho.block q (hc q hq)) (by rw [ho.size]; exact Nat.le_refl _)
theorem arr_cells {W : World} {d : Nat} {xs : List Value} {T : TypeId} (h : W.heap[d]? = some (.cells xs.toArray T (0, 0))) : ∀ j u, xs[j]? = some u → W.cell? ((⟨d, 0, none⟩ : Addr).add j) = some u := by
  intro j u hj
  rw [add_plain, blk_cell h, List.getElem?_toArray]
  exact hj
theorem cells_four {W : World} {g : Nat} {cs : Array Value} {T : TypeId} {a b c d : Value} (h : W.heap[g]? = some (.cells cs T (0, 0))) (hs : cs.size = 4) :
    ((((W.setCell ⟨g, 0, none⟩ a).setCell ⟨g, 1, none⟩ b).setCell ⟨g, 2, none⟩ c).setCell ⟨g, 3, none⟩ d).heap[g]? = some (.cells #[a, b, c, d] T (0, 0)) := by
  rw [blk_set (blk_set (blk_set (blk_set h 0 _) 1 _) 2 _) 3 _]
  match cs, hs with
  | ⟨[_, _, _, _]⟩, _ => rfl
abbrev OH : Obj := .cells #[.slice none 0 0, .slice none 0 0, .slice none 0 0, .slice none 0 0] 61
def l0s : List Lt := List.replicate 64 lt0
def cell89 : Array Value := (lcells l0s).toArray
set_option maxRecDepth 100000 in
theorem zero89 (w : World) : (zeroValue 89).run Try.prog w = .ok (.agg cell89) w := by kernel_rfl
/-- What marked leaves. -/
structure MkDone (w W : World) (B : Nat) (A : Option Addr) (L L' M : List Lt) (A1 : Option Addr) (A2 : Option Addr) (A3 : Option Addr) : Prop where
  fr : But w W (fun i => rowB A = some i)
  l : RdL W A L'
  m : RdL W A1 M
  wl : RdL W A2 L'
  wm : RdL W A3 M
  a1 : ∀ q, rowB A1 = some q → rowB A = some q ∨ w.heap.size ≤ q
  a2 : ∀ q, rowB A2 = some q → w.heap.size ≤ q
  a3 : ∀ q, rowB A3 = some q → w.heap.size ≤ q
  len : L'.length = L.length ∧ M.length = L.length + 64
def MkRes (B : Nat) (A : Option Addr) (cap : Nat) (L : List Lt) (w : World) (e : Ending) (w' : World) : Prop :=
  ∃ (L' M : List Lt) (A1 : Option Addr) (c1 : Nat) (A2 : Option Addr) (c2 : Nat) (A3 : Option Addr) (c3 : Nat),
    e = .returned (.agg #[.slice A L'.length cap, .slice A1 M.length c1, .slice A2 L'.length c2, .slice A3 M.length c3]) ∧ MkDone w w' B A L L' M A1 A2 A3
set_option maxHeartbeats 4000000 in
set_option maxRecDepth 100000 in
theorem marked_calls (B : Nat) (A : Option Addr) (cap : Nat) (L : List Lt) (k : Int) (w : World) (h : OwnL w B A cap L) (hB : B ≤ w.heap.size) (hL : L.length ≤ 1024) :
    Calls Try.prog 28 #[.slice A L.length cap, .int .i64 k] w (MkRes B A cap L w) := by
  have H := Aside0.mk h
  have HL := Aside0.mk hL
  have HBB := Aside0.mk hB
  have h1 := h.alloc OH
  have hc : ∀ q, rowB A = some q → q ≠ w.heap.size := fun q hq e => by have := ownsRow_lt h q hq; omega
  clear h hL hB
  go_enter Try.func28, Try.ntmps28
  go_upto_region 1 with fail
  have HX := Aside0.mk (blk_new w OH)
  have HB1 := Aside0.mk (below2a w OH)
  have H1 := Aside0.mk (h1 : OwnL (w.alloc OH) B A cap L)
  have HC := Aside0.mk (hc : ∀ q, rowB A = some q → q ≠ w.heap.size)
  clear h1 hc
  generalize w.alloc OH = w1 at *
  go_upto_region 2 with fail
  go_loopg [5] L.length (fun kq v5 w' => ∃ (i : Nat) (L1 : List Lt), v5 = .int .i64 (i : Int) ∧ Aside0 (i + kq = L.length) ∧ Aside0 (L1.length = L.length) ∧ Aside0 (OwnL w' B A cap L1) ∧ Aside0 (But w1 w' (fun j => rowB A = some j)))
  case atStart => exact ⟨0, L, rfl, ⟨by omega⟩, ⟨rfl⟩, ⟨H1.out⟩, ⟨But.refl _ _⟩⟩
  case round =>
    obtain ⟨i, L1, rfl, HK, HE, HO, HF⟩ := hrel
    by_cases ci : (i : Int) < (L.length : Int)
    · cases gk with
      | zero => exact absurd HK.out (by omega)
      | succ k1 =>
      have cb : decide ((i : Int) < (L.length : Int)) = true := decide_eq_true ci
      have cb2 : decide (i < L.length) = true := decide_eq_true (by omega)
      have p2 : (0 ≤ (i : Int)) = True := eq_true (by omega)
      have p3 : ((i : Int) < (L.length : Int)) = True := eq_true ci
      have hwi : wrap64 ((i : Int) + 1) = (i : Int) + 1 := Go.IntWalk.wrap64_in _ (by have := HL.out; omega)
      have HK' := Aside0.mk (show i + 1 + k1 = L.length by have := HK.out; omega)
      obtain ⟨z, hz⟩ : ∃ z, L1[i]? = some z := ⟨_, List.getElem?_eq_getElem (show i < L1.length by rw [HE.out]; omega)⟩
      have HIL := Aside0.mk (show i < L1.length by rw [HE.out]; omega)
      obtain ⟨q, rfl⟩ := ownsRow_addr HO.out (show 0 < L1.length by rw [HE.out]; omega)
      obtain ⟨ad, hA, x0, x1, x2, x3⟩ := HO.out.adr i z hz
      obtain rfl := Option.some.inj hA
      rw [add_plain] at x0 x1 x2 x3
      have f0 := HO.out.frozenAt (i * 4)
      have f1 := HO.out.frozenAt (i * 4 + 1)
      have f2 := HO.out.frozenAt (i * 4 + 2)
      have f3 := HO.out.frozenAt (i * 4 + 3)
      obtain ⟨nk, hnk⟩ : ∃ nk, wrap64 (-k) = nk := ⟨_, rfl⟩
      clear ci HK hA hz
      go_wp2_with fail
      have HO2 := Aside0.mk (OwnL.setL HO.out i ⟨nk, (i : Int), 0, ⟨#[35]⟩⟩ HIL.out)
      have HF2 := Aside0.mk (But.setL HF.out (q := q) rfl i ⟨nk, (i : Int), 0, ⟨#[35]⟩⟩)
      go_roundg k1
      case measure => have := HK'.out; omega
      case rel => exact ⟨i + 1, L1.set i ⟨nk, (i : Int), 0, ⟨#[35]⟩⟩, congrArg (Value.int .i64) (by omega), HK', ⟨by rw [List.length_set]; exact HE.out⟩, HO2, HF2⟩
    · have cb : decide ((i : Int) < (L.length : Int)) = false := decide_eq_false ci
      have cb2 : decide (i < L.length) = false := decide_eq_false (by omega)
      have HX2 := Aside0.mk ((HF.out.block _ (blk_lt HX.out) (fun e => HC.out _ e rfl)).trans HX.out)
      have HF2 := Aside0.mk ((But.of_below (S := fun j => rowB A = some j) HB1.out).trans HF.out)
      clear ci HK HF HX H1 H
      have hz89 := zero89 wr
      go_upto_region 6 with fail
      clear hz89
      have HO4 := Aside0.mk (HO.out.alloc (.cells cell89 89))
      have HF4 := Aside0.mk (HF2.out.below_ (below2a wr (.cells cell89 89)))
      have HX4 := Aside0.mk (blk_below HX2.out (below2a wr (.cells cell89 89)))
      have HD4 := Aside0.mk (show (wr.alloc (.cells cell89 89)).heap[wr.heap.size]? = some (.cells (lcells l0s).toArray 89 (0, 0)) from blk_new wr (.cells cell89 89))
      have HDL := Aside0.mk (show (∀ q, rowB A = some q → q ≠ wr.heap.size) ∧ w.heap.size < wr.heap.size from ⟨fun q hq => by have := ownsRow_lt HO.out q hq; omega, blk_lt HX2.out⟩)
      clear HO HF2 HX2
      generalize wr.heap.size = d at *
      generalize wr.alloc (.cells cell89 89) = w4 at *
      go_upto_region 7 with fail
      go_loopg [7] 64 (fun kq v7 w' => ∃ (i : Nat) (M1 : List Lt), v7 = .int .i64 (i : Int) ∧ Aside0 (i + kq = 64) ∧ Aside0 (M1.length = 64) ∧ Aside0 (w'.heap[d]? = some (.cells (lcells M1).toArray 89 (0, 0))) ∧ Aside0 (But w4 w' (fun j => j = d)))
      case atStart => exact ⟨0, l0s, rfl, ⟨by omega⟩, ⟨by unfold l0s; simp⟩, ⟨HD4.out⟩, ⟨But.refl _ _⟩⟩
      case round =>
        obtain ⟨i2, M1, rfl, HK2, HE2, HD2, HF2⟩ := hrel
        by_cases ci2 : (i2 : Int) < 64
        · cases gk with
          | zero => exact absurd HK2.out (by omega)
          | succ k2 =>
          have cc : decide ((i2 : Int) < 64) = true := decide_eq_true ci2
          have q2 : (0 ≤ (i2 : Int)) = True := eq_true (by omega)
          have q3 : ((i2 : Int) < 64) = True := eq_true ci2
          have hwi : wrap64 ((i2 : Int) + 1) = (i2 : Int) + 1 := Go.IntWalk.wrap64_in _ (by omega)
          have HK2' := Aside0.mk (show i2 + 1 + k2 = 64 by have := HK2.out; omega)
          have HIL := Aside0.mk (show i2 < M1.length by rw [HE2.out]; omega)
          obtain ⟨z, hz⟩ : ∃ z, M1[i2]? = some z := ⟨_, List.getElem?_eq_getElem HIL.out⟩
          have x0 := blk_cell HD2.out (i2 * 4)
          have x1 := blk_cell HD2.out (i2 * 4 + 1)
          have x2 := blk_cell HD2.out (i2 * 4 + 2)
          have x3 := blk_cell HD2.out (i2 * 4 + 3)
          rw [List.getElem?_toArray] at x0 x1 x2 x3
          have hr := rc_at lc_length M1 i2 z hz
          have x0' : wr.cell? ⟨d, i2 * 4, none⟩ = some (.int .i64 z.i) := x0.trans (hr 0 (by omega))
          have x1' : wr.cell? ⟨d, i2 * 4 + 1, none⟩ = some (.int .i64 z.f) := x1.trans (hr 1 (by omega))
          have x2' : wr.cell? ⟨d, i2 * 4 + 2, none⟩ = some (.int .i64 z.t) := x2.trans (hr 2 (by omega))
          have x3' : wr.cell? ⟨d, i2 * 4 + 3, none⟩ = some (.string z.s) := x3.trans (hr 3 (by omega))
          have f0 := blk_frozen HD2.out (i2 * 4)
          have f1 := blk_frozen HD2.out (i2 * 4 + 1)
          have f2 := blk_frozen HD2.out (i2 * 4 + 2)
          have f3 := blk_frozen HD2.out (i2 * 4 + 3)
          obtain ⟨nk, hnk⟩ : ∃ nk, wrap64 (-k) = nk := ⟨_, rfl⟩
          obtain ⟨ni, hni⟩ : ∃ ni, wrap64 (-(i2 : Int)) = ni := ⟨_, rfl⟩
          clear ci2 HK2 hz x0 x1 x2 x3 hr
          go_wp2_with fail
          have HD3 := Aside0.mk (show (setL wr d i2 ⟨nk, 0, ni, ⟨#[35, 35]⟩⟩).heap[d]? = some (.cells (lcells (M1.set i2 ⟨nk, 0, ni, ⟨#[35, 35]⟩⟩)).toArray 89 (0, 0)) from by
            unfold setL
            rw [blk_set (blk_set (blk_set (blk_set HD2.out _ _) _ _) _ _) _ _]
            rw [← lcells_set M1 i2 _ HIL.out]
            simp only [List.setIfInBounds_toArray])
          have HF3 := Aside0.mk (But.setL HF2.out (q := d) rfl i2 ⟨nk, 0, ni, ⟨#[35, 35]⟩⟩)
          go_roundg k2
          case measure => have := HK2'.out; omega
          case rel => exact ⟨i2 + 1, M1.set i2 ⟨nk, 0, ni, ⟨#[35, 35]⟩⟩, congrArg (Value.int .i64) (by omega), HK2', ⟨by rw [List.length_set]; exact HE2.out⟩, HD3, HF3⟩
        · have cc : decide ((i2 : Int) < 64) = false := decide_eq_false ci2
          clear ci2
          have HO5 := Aside0.mk (ownsRow_keep HO4.out (fun q hq => HF2.out.block q (ownsRow_lt HO4.out q hq).2 (fun e => HDL.out.1 q hq e)))
          have HX5 := Aside0.mk ((HF2.out.block _ (blk_lt HX4.out) (fun e => by have := HDL.out.2; omega)).trans HX4.out)
          have hlt : w.heap.size ≤ w4.heap.size := HF4.out.size
          have HF5 := Aside0.mk (show But w wr (fun j => rowB A = some j) from ⟨HF2.out.os.trans HF4.out.os, HF2.out.tape.trans HF4.out.tape, HF2.out.output.trans HF4.out.output, Nat.le_trans HF4.out.size HF2.out.size, fun j hj hs => (HF2.out.block j (by omega) (fun e => by have := HDL.out.2; omega)).trans (HF4.out.block j hj hs)⟩)
          clear HO4 HX4 HF4 HF2 hlt
          obtain ⟨i0, hi, hz0, hz1, hz2⟩ := info_parts info33
          have HI4 := Aside0.mk (And.intro hi (And.intro hz0 (And.intro hz1 hz2)))
          have D := Aside0.mk (show L1.length + 64 ≤ maxLen ∧ (L1.length + 64) * 40 ≤ 140737488355328 from ⟨by unfold maxLen; have := HL.out; have := HE.out; omega, by have := HL.out; have := HE.out; omega⟩)
          have HLn := Aside0.mk (show (lcells M1).length = 64 * 4 from (rc_length (c := lc) (sz := 4) (fun x => rfl) M1).trans (by rw [HE2.out]))
          have HLM := Aside0.mk (show L1.length + 64 = (L1 ++ M1).length by rw [List.length_append, HE2.out])
          have HRS := Aside0.mk (show lcells L1 ++ lcells M1 = lcells (L1 ++ M1) from (lcells_app L1 M1).symm)
          have HOne := Aside0.mk (lcells_one M1)
          have HAC := Aside0.mk (arr_cells HD2.out)
          have HBW := Aside0.mk (Nat.le_trans HBB.out HF5.out.size)
          have HL1 := Aside0.mk (show (L1 ++ M1).length ≤ 3000000000000 by rw [← HLM.out]; have := HL.out; have := HE.out; omega)
          have hEL := HE.out
          clear hi hz0 hz1 hz2
          rw [← hEL]
          clear hEL
          go_upto_region 11 with (at_builtin; refine wpList_append_two _ rfl _ _ 57 rfl B 33 i0 (.agg #[.int .i64 0, .int .i64 0, .int .i64 0, .string ByteArray.empty]) 4 40 Try.underlying57 HI4.out.1 HI4.out.2.1 HI4.out.2.2.1 HI4.out.2.2.2 rfl (by decide) A L1.length cap (lcells L1) rfl HO5.out ⟨d, 0, none⟩ 64 64 (lcells M1) rfl HLn.out HAC.out HOne.out D.out.1 D.out.2 HBW.out ?_; intro A1 c1 w6 hown hcase; have HOwn := Aside0.mk hown; have HCase := Aside0.mk hcase; clear hown hcase)
          have hM := HOwn.out
          rw [HRS.out, HLM.out] at hM
          have hM' : RdL w6 A1 (L1 ++ M1) := RdL.of (cap := c1) hM
          have HSz : wr.heap.size ≤ w6.heap.size := by rcases HCase.out with ⟨_, hg⟩ | ⟨_, hg⟩ <;> exact hg.size
          have HM6 := Aside0.mk hM'
          have HA1 := Aside0.mk (show ∀ q, rowB A1 = some q → rowB A = some q ∨ wr.heap.size ≤ q from by
            rcases HCase.out with ⟨h1, _⟩ | ⟨h1, _⟩
            · subst h1; exact fun q hq => .inl hq
            · exact fun q hq => .inr (h1 q hq))
          have HL6 := Aside0.mk (show RdL w6 A L1 from by
            rcases HCase.out with ⟨h1, _⟩ | ⟨_, hg⟩
            · subst h1; exact hM'.prefix
            · exact (RdL.of HO5.out).keep (fun q hq => hg.block q (ownsRow_lt HO5.out q hq).2 (fun e => by cases e)) hg.size)
          have HX6 := Aside0.mk (show w6.heap[w.heap.size]? = some OH from by
            rcases HCase.out with ⟨_, hg⟩ | ⟨_, hg⟩
            · exact (hg.block _ (blk_lt HX5.out) (fun e => HC.out _ e.symm rfl)).trans HX5.out
            · exact (hg.block _ (blk_lt HX5.out) (fun e => by cases e)).trans HX5.out)
          have HF6 := Aside0.mk (show But w w6 (fun j => rowB A = some j) from by
            rcases HCase.out with ⟨_, hg⟩ | ⟨_, hg⟩
            · exact HF5.out.grown hg (fun q hq => hq)
            · exact HF5.out.grown hg (fun q hq => by cases hq))
          have HQ := Aside0.mk (show ∀ W, RdL W A1 (L1 ++ M1) → Calls Try.prog 47 #[.slice A1 (L1.length + 64) c1] W (FRes (L1 ++ M1) W) from by
            intro W hW
            have := letters_calls A1 c1 (L1 ++ M1) W hW HL1.out
            rw [← HLM.out] at this
            exact this)
          have HCL := Aside0.mk (show w.heap.size < wr.heap.size from blk_lt HX5.out)
          have HSz' := Aside0.mk HSz
          clear hM hM' HSz HOwn HCase HX5 HO5 HF5 HD2 HAC
          go_wp2_with (first
            | (go_at_call 47; (with_reducible refine (letters_calls A cap L1 _ HL6.out (by have := HL.out; have := HE.out; omega)).mono ?_); rintro e w7 ⟨A2, c2, rfl, hb, ho⟩; have HB7 := Aside0.mk hb; have HO7 := Aside0.mk ho; have HM7 := Aside0.mk (HM6.out.below hb); clear hb ho)
            | (go_at_call 47; (with_reducible refine (HQ.out _ HM7.out).mono ?_); rintro e w8 ⟨A3, c3, rfl, hb, ho⟩; have HB8 := Aside0.mk hb; have HO8 := Aside0.mk ho; have HM8 := Aside0.mk (HM7.out.below hb); have HX8 := Aside0.mk (blk_below (blk_below HX6.out HB7.out) hb); have y0 := blk_cell HX8.out 0; have y1 := blk_cell HX8.out 1; have y2 := blk_cell HX8.out 2; have y3 := blk_cell HX8.out 3; have f0 := blk_frozen HX8.out 0; have f1 := blk_frozen HX8.out 1; have f2 := blk_frozen HX8.out 2; have f3 := blk_frozen HX8.out 3; clear hb ho))
          have hE := cells_four (a := .slice A L1.length cap) (b := .slice A1 (L1.length + 64) c1) (c := .slice A2 L1.length c2) (d := .slice A3 (L1.length + M1.length) c3) HX8.out rfl
          have z0 := blk_cell hE 0
          have z1 := blk_cell hE 1
          have z2 := blk_cell hE 2
          have z3 := blk_cell hE 3
          have ho := onlyB_four (W := w8) (c := w.heap.size) (.slice A L1.length cap) (.slice A1 (L1.length + 64) c1) (.slice A2 L1.length c2) (.slice A3 (L1.length + M1.length) c3)
          have hs7 := HB7.out.size
          have hs8 := HB8.out.size
          refine bodyPost_ret (v := .agg #[.slice A L1.length cap, .slice A1 (L1.length + 64) c1, .slice A2 L1.length c2, .slice A3 (L1.length + M1.length) c3]) ?_ rfl ⟨L1, L1 ++ M1, A1, c1, A2, c2, A3, c3, by rw [List.length_append, HE2.out], ?_⟩
          · simp [results, Try.results28, go_sem, z0, z1, z2, z3]
          · refine ⟨((HF6.out.below_ HB7.out).below_ HB8.out).onlyNew ho (Nat.le_refl _), ((HL6.out.below HB7.out).below HB8.out).only ho HC.out, HM8.out.only ho (fun q hq => ?_), ((RdL.of HO7.out).below HB8.out).only ho (fun q hq => ?_), (RdL.of HO8.out).only ho (fun q hq => ?_), fun q hq => ?_, fun q hq => ?_, fun q hq => ?_, ⟨HE.out, by rw [← HLM.out, HE.out]⟩⟩
            · rcases HA1.out q hq with h | h
              · exact HC.out q h
              · have := HCL.out; omega
            · have := (ownsRow_lt HO7.out q hq).1
              have := HSz'.out
              have := HCL.out
              omega
            · have := (ownsRow_lt HO8.out q hq).1
              have := HSz'.out
              have := HCL.out
              omega
            · rcases HA1.out q hq with h | h
              · exact .inl h
              · have := HCL.out; exact .inr (by omega)
            · have := (ownsRow_lt HO7.out q hq).1
              have := HSz'.out
              have := HCL.out
              omega
            · have := (ownsRow_lt HO8.out q hq).1
              have := HSz'.out
              have := HCL.out
              omega

end Go.Proofs.Ytadbcekglcmccaa.Q
