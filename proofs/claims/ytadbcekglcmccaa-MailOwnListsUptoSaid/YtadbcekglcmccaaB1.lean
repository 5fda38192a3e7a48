/- The law's book in memory; contracts of its left and note. Condition: block b is a book. -/
import Derived.Test.YtadbcekglcmccaaProg
import Derived.Below
import Derived.Deep.Draws
import Derived.Deep.AppendLies
import Derived.Maps.AppendAt
import Derived.OwnWalk
import Derived.Laws.BytesArg
import Derived.Laws.MakeOwn
import Derived.Laws.OwnMore
import Derived.Deep.OwnRows
import Derived.Tactics
import Derived.Lib.ConvBytes
import Derived.Laws.Slices
import Derived.WalkKit
import Derived.KernelRfl
import Derived.RowKit3
import Derived.Deep.LoopGhost
import Derived.Deep.QuietTactic
import Derived.BigQuiet
import Derived.WideLaws
import Derived.Deep.DeepCutAuto
import Derived.Deep.CutBlock
import Derived.Deep.RegionHeld3
import Derived.Laws.Rows
import Derived.Lib.AppendStr
import Derived.ArgAppend
import Derived.Laws.IdiomCopy
import Derived.OrdersHeld
import Derived.Laws.BitsLemmas
import Derived.RowKit
import Derived.Test.YtadbcekglcmccaaWWords
import Derived.Test.YtadbcekglcmccaaWLast
import Derived.Test.YtadbcekglcmccaaWTab
import Derived.Test.YtadbcekglcmccaaWFour
import Derived.Test.YtadbcekglcmccaaWQPut
import Derived.Test.YtadbcekglcmccaaWApart
import Derived.Test.YtadbcekglcmccaaWArr
import Derived.Test.YtadbcekglcmccaaWZeros
import Derived.Test.YtadbcekglcmccaaWFoot
import Derived.Test.YtadbcekglcmccaaWKept
import Derived.Test.YtadbcekglcmccaaWShare
import Derived.Test.YtadbcekglcmccaaWN
import Derived.Test.YtadbcekglcmccaaWFootNe
import Derived.Test.YtadbcekglcmccaaWAt
import Derived.Test.YtadbcekglcmccaaWEqStruct
import Derived.Test.YtadbcekglcmccaaWRepsOne
import Derived.Test.YtadbcekglcmccaaWInv
import Derived.Test.YtadbcekglcmccaaWInvWords
import Derived.Test.YtadbcekglcmccaaWGuard
import Derived.Test.YtadbcekglcmccaaWNEv
import Derived.Test.YtadbcekglcmccaaWMore
import Derived.Test.YtadbcekglcmccaaB0
set_option linter.unusedVariables false
set_option linter.unusedSimpArgs false
namespace Go.Proofs.Ytadbcekglcmccaa.Q
open Go.RowKit Go.Proofs.YtadbcekglcmccaaW.PrintWords Go.Proofs.YtadbcekglcmccaaW.PrintLast Go.Proofs.YtadbcekglcmccaaW.PrintMore
open Go.FM Go.Plan

def bcells (Bs : List Bool) : List Value := Bs.map Value.bool
/-- The law's book: what was set off, and what is out. -/
structure Bk where
  b : Nat
  A : Option Addr
  cap : Nat
  Ls : List Lt
  A2 : Option Addr
  cap2 : Nat
  Bs : List Bool
structure Bk.In (B : Nat) (W : World) (k : Bk) : Prop where
  blk : W.heap[k.b]? = some (.cells #[.slice k.A k.Ls.length k.cap, .slice k.A2 k.Bs.length k.cap2] 65 (0, 0))
  rowL : OwnL W B k.A k.cap k.Ls
  rowB : W.ownsRow B 4 1 (.slice k.A2 k.Bs.length k.cap2) k.Bs.length (bcells k.Bs)
def Bk.S (k : Bk) (i : Nat) : Prop := i = k.b ∨ rowB k.A = some i ∨ rowB k.A2 = some i
theorem Bk.In.lt {B : Nat} {W : World} {k : Bk} (h : k.In B W) : ∀ i, k.S i → i < W.heap.size := by
  intro i hi
  rcases hi with rfl | hi | hi
  · exact blk_lt h.blk
  · exact (ownsRow_lt h.rowL i hi).2
  · exact (ownsRow_lt h.rowB i hi).2
theorem Bk.In.keep {B : Nat} {W W' : World} {k : Bk} (h : k.In B W) (hb : ∀ i, k.S i → W'.heap[i]? = W.heap[i]?) : k.In B W' :=
  ⟨(hb _ (.inl rfl)).trans h.blk, ownsRow_keep h.rowL (fun q hq => hb q (.inr (.inl hq))), ownsRow_keep h.rowB (fun q hq => hb q (.inr (.inr hq)))⟩
theorem Bk.In.below {B : Nat} {W W' : World} {k : Bk} (h : k.In B W) (hb : Below W.heap.size W W') : k.In B W' := h.keep fun i hi => hb.block i (h.lt i hi)
theorem Bk.In.bA {B : Nat} {W : World} {k : Bk} (h : k.In B W) : ∀ q, Q.rowB k.A = some q → q ≠ k.b := by
  intro q hq
  obtain ⟨cur, hc⟩ := ownsRow_type h.rowL q hq
  exact fun e => blk_ne hc h.blk (by decide) e
theorem Bk.In.bA2 {B : Nat} {W : World} {k : Bk} (h : k.In B W) : ∀ q, Q.rowB k.A2 = some q → q ≠ k.b := by
  intro q hq
  obtain ⟨cur, hc⟩ := ownsRow_type h.rowB q hq
  exact fun e => blk_ne hc h.blk (by decide) e
theorem Bk.In.AA {B : Nat} {W : World} {k : Bk} (h : k.In B W) : ∀ q p, Q.rowB k.A = some q → Q.rowB k.A2 = some p → q ≠ p := by
  intro q p hq hp
  obtain ⟨cur, hc⟩ := ownsRow_type h.rowL q hq
  obtain ⟨cur2, hc2⟩ := ownsRow_type h.rowB p hp
  exact fun e => blk_ne hc hc2 (by decide) e
/-- What a call leaves of it. -/
structure KDone (w W : World) (B : Nat) (k k' : Bk) : Prop where
  inn : k'.In B W
  fr : But w W k.S
  b : k'.b = k.b
  row : rowB k'.A = rowB k.A ∨ ∃ q, rowB k'.A = some q ∧ w.heap.size ≤ q
  row2 : rowB k'.A2 = rowB k.A2 ∨ ∃ q, rowB k'.A2 = some q ∧ w.heap.size ≤ q
theorem KDone.S {w W : World} {B : Nat} {k k' : Bk} (d : KDone w W B k k') : ∀ i, k'.S i → k.S i ∨ w.heap.size ≤ i := by
  intro i hi
  rcases hi with e | e | e
  · exact .inl (.inl (e.trans d.b))
  · rcases d.row with h | ⟨q, h, hle⟩
    · exact .inl (.inr (.inl (h ▸ e)))
    · rw [h] at e; obtain rfl := Option.some.inj e; exact .inr hle
  · rcases d.row2 with h | ⟨q, h, hle⟩
    · exact .inl (.inr (.inr (h ▸ e)))
    · rw [h] at e; obtain rfl := Option.some.inj e; exact .inr hle

set_option maxHeartbeats 4000000 in
set_option maxRecDepth 100000 in
theorem left_calls (B : Nat) (k : Bk) (w : World) (h : k.In B w) (hl : k.Bs.length = k.Ls.length) (hL : k.Ls.length ≤ 3000000000000) :
    Calls Try.prog 31 #[.pointer (some ⟨k.b, 0, none⟩)] w (FRes (leftL k.Ls k.Bs) w) := by
  have H := Aside0.mk h
  have HL := Aside0.mk hL
  have HE := Aside0.mk hl
  clear h hL hl
  go_enter Try.func31, Try.ntmps31
  go_wp2_with fail
  go_loopg [3, 4] k.Ls.length (fun kq v3 v4 w' => ∃ (i : Nat) (A' : Option Addr) (cap' : Nat), v3 = .slice A' (leftL (k.Ls.take i) (k.Bs.take i)).length cap' ∧ v4 = .int .i64 (i : Int) ∧ Aside0 (i + kq = k.Ls.length) ∧ Aside0 (Below w.heap.size w w') ∧ Aside0 (OwnL w' w.heap.size A' cap' (leftL (k.Ls.take i) (k.Bs.take i))))
  case atStart => exact ⟨0, none, 0, rfl, rfl, ⟨by omega⟩, ⟨Below.refl _ _⟩, ⟨World.ownsRow_nil _ _ _ _⟩⟩
  case round =>
    obtain ⟨i, A', cap', rfl, rfl, HK, HB, HO⟩ := hrel
    have HI := Aside0.mk (H.out.keep (fun i hi => HB.out.block i (H.out.lt i hi)))
    have c0 := blk_cell HI.out.blk 0
    have c1 := blk_cell HI.out.blk 1
    by_cases ci : (i : Int) < (k.Ls.length : Int)
    · cases gk with
      | zero => exact absurd HK.out (by omega)
      | succ k1 =>
      have cb : decide ((i : Int) < (k.Ls.length : Int)) = true := decide_eq_true ci
      have cb2 : decide (i < k.Ls.length) = true := decide_eq_true (by omega)
      have p2 : (0 ≤ (i : Int)) = True := eq_true (by omega)
      have p3 : ((i : Int) < (k.Ls.length : Int)) = True := eq_true ci
      have p4 : ((i : Int) < (k.Bs.length : Int)) = True := eq_true (by rw [HE.out]; exact ci)
      have hwi : wrap64 ((i : Int) + 1) = (i : Int) + 1 := Go.IntWalk.wrap64_in _ (by have := HL.out; omega)
      have HK' := Aside0.mk (show i + 1 + k1 = k.Ls.length by have := HK.out; omega)
      obtain ⟨y, hy⟩ : ∃ y, k.Ls[i]? = some y := ⟨_, List.getElem?_eq_getElem (show i < k.Ls.length by omega)⟩
      obtain ⟨bb, hbb⟩ : ∃ bb, k.Bs[i]? = some bb := ⟨_, List.getElem?_eq_getElem (show i < k.Bs.length by rw [HE.out]; omega)⟩
      have HT := Aside0.mk (leftL_take k.Ls k.Bs HE.out i y bb hy hbb)
      obtain ⟨a1, ha1, x0, x1, x2, x3⟩ := OwnL.adr HI.out.rowL i y hy
      obtain ⟨q, hq⟩ := ownsRow_addr HI.out.rowB (show 0 < k.Bs.length by rw [HE.out]; omega)
      have hrB := HI.out.rowB
      rw [hq] at hrB
      have xb : wr.cell? ⟨q, i, none⟩ = some (.bool bb) := by
        rw [hrB.cellAt i (by rw [HE.out]; omega)]
        unfold bcells
        rw [List.getElem?_map, hbb]
        rfl
      rw [ha1] at c0
      rw [hq] at c1
      have HLT := Aside0.mk (leftL_length (k.Ls.take i) (k.Bs.take i))
      clear hrB ci hy hbb ha1 hq HK
      cases bb with
      | true =>
        rw [if_pos rfl, List.append_nil] at HT
        go_wp2_with fail
        go_roundg k1
        case measure => have := HK'.out; omega
        case rel => exact ⟨i + 1, A', cap', by rw [HT.out], congrArg (Value.int .i64) (by omega), HK', HB, ⟨by rw [HT.out]; exact HO.out⟩⟩
      | false =>
        rw [if_neg (by decide)] at HT
        obtain ⟨i0, hi, hz0, hz1, hz2⟩ := info_parts info33
        have HI4 := Aside0.mk (And.intro hi (And.intro hz0 (And.intro hz1 hz2)))
        clear hi hz0 hz1 hz2
        have HOne := Aside0.mk (lc_one y)
        generalize leftL (k.Ls.take i) (k.Bs.take i) = M at *
        have HM := Aside0.mk (show M.length ≤ 3000000000000 by
          have h1 := HLT.out
          rw [List.length_take] at h1
          have := HL.out
          omega)
        have D := Aside0.mk (show M.length + 1 ≤ maxLen ∧ (M.length + 1) * 40 ≤ 140737488355328 from ⟨by unfold maxLen; have := HM.out; omega, by have := HM.out; omega⟩)
        have HRS := Aside0.mk (show lcells M ++ [.int .i64 y.i, .int .i64 y.f, .int .i64 y.t, .string y.s] = lcells (M ++ [y]) from (lcells_app M [y]).symm)
        have HLM := Aside0.mk (show M.length + 1 = (M ++ [y]).length by simp)
        go_wp2_with (at_builtin; refine wpList_append_own_at _ rfl _ _ 57 rfl w.heap.size 33 i0 (.agg #[.int .i64 0, .int .i64 0, .int .i64 0, .string ByteArray.empty]) 4 40 Try.underlying57 HI4.out.1 HI4.out.2.1 HI4.out.2.2.1 HI4.out.2.2.2 rfl (by decide) (.slice A' M.length cap') M.length (lcells M) rfl (World.ownsRow.alloc HO.out _) ⟨wr.heap.size, 0, none⟩ 1 1 [.int .i64 y.i, .int .i64 y.f, .int .i64 y.t, .string y.s] rfl rfl (new_cells _ _ _) HOne.out D.out.1 D.out.2 (le_alloc HB.out.size) ?_; intro v' w5 hown hgrow _ hat; obtain ⟨A5, c5, rfl⟩ := own_form hown; rw [rowB_own] at hgrow; rw [HRS.out, HLM.out] at hown; have HO5 := Aside0.mk hown; have HG5 := Aside0.mk hgrow; clear hown hgrow hat)
        have HB5 := Aside0.mk ((below_step HB.out (below2a wr (.cells #[.int .i64 y.i, .int .i64 y.f, .int .i64 y.t, .string y.s] 33))).grown HG5.out (below_step HB.out (below2a wr (.cells #[.int .i64 y.i, .int .i64 y.f, .int .i64 y.t, .string y.s] 33))).size (fun q hq => (ownsRow_lt HO.out q hq).1))
        go_roundg k1
        case measure => have := HK'.out; omega
        case rel => exact ⟨i + 1, A5, c5, by rw [HT.out, HLM.out], congrArg (Value.int .i64) (by rw [hwi]; omega), HK', HB5, ⟨by rw [HT.out]; exact HO5.out⟩⟩
    · have cb : decide ((i : Int) < (k.Ls.length : Int)) = false := decide_eq_false ci
      have cb2 : decide (i < k.Ls.length) = false := decide_eq_false (by omega)
      have hi : i = k.Ls.length := by have := HK.out; omega
      have HT := Aside0.mk (show leftL (k.Ls.take i) (k.Bs.take i) = leftL k.Ls k.Bs by
        rw [hi, List.take_length, ← HE.out, List.take_length])
      clear ci hi
      rw [HT.out] at HO
      go_wp2_with fail
      go_ret
      exact ⟨A', cap', by rw [HT.out]; rfl, HB.out, HO.out⟩

def KRes (B : Nat) (k : Bk) (Ls' : List Lt) (Bs' : List Bool) (v : Value) (w : World) (e : Ending) (w' : World) : Prop :=
  e = .returned v ∧ ∃ A' cap' A2' cap2', KDone w w' B k ⟨k.b, A', cap', Ls', A2', cap2', Bs'⟩
/-- The letters' slice is set to another row. -/
theorem Bk.In.putL {w W W' : World} {B : Nat} {k : Bk} (h : k.In B W) (hw : But w W k.S) (hg : W.grownBy W' (Q.rowB k.A)) {A' : Option Addr} {cap' : Nat} {L' : List Lt} (ho : OwnL W' B A' cap' L') (hr : Q.rowB A' = Q.rowB k.A ∨ ∃ q, Q.rowB A' = some q ∧ w.heap.size ≤ q) :
    KDone w (W'.setCell ⟨k.b, 0, none⟩ (.slice A' L'.length cap')) B k ⟨k.b, A', cap', L', k.A2, k.cap2, k.Bs⟩ := by
  have e1 : W'.heap[k.b]? = W.heap[k.b]? := hg.block k.b (blk_lt h.blk) (fun e => h.bA k.b e.symm rfl)
  have e3 := e1.trans h.blk
  have e4 : ∀ q, Q.rowB A' = some q → q ≠ k.b := by
    intro q hq
    obtain ⟨cur, hc⟩ := ownsRow_type ho q hq
    exact fun e => blk_ne hc e3 (by decide) e
  refine ⟨⟨blk_set e3 0 _, ownsRow_keep ho (fun q hq => Below.heap_setCell W' ⟨k.b, 0, none⟩ _ q (e4 q hq)), ownsRow_keep h.rowB (fun q hq => (Below.heap_setCell W' ⟨k.b, 0, none⟩ _ q (h.bA2 q hq)).trans (hg.block q (ownsRow_lt h.rowB q hq).2 (fun e => h.AA q q e.symm hq rfl)))⟩, ?_, rfl, hr, .inl rfl⟩
  exact (hw.grown hg (fun q hq => .inr (.inl hq))).set (.inl rfl) 0 _
theorem Bk.In.putB {w W W' : World} {B : Nat} {k : Bk} (h : k.In B W) (hw : But w W k.S) (hg : W.grownBy W' (Q.rowB k.A2)) {A' : Option Addr} {cap' : Nat} {L' : List Bool} (ho : W'.ownsRow B 4 1 (.slice A' L'.length cap') L'.length (bcells L')) (hr : Q.rowB A' = Q.rowB k.A2 ∨ ∃ q, Q.rowB A' = some q ∧ w.heap.size ≤ q) :
    KDone w (W'.setCell ⟨k.b, 1, none⟩ (.slice A' L'.length cap')) B k ⟨k.b, k.A, k.cap, k.Ls, A', cap', L'⟩ := by
  have e1 : W'.heap[k.b]? = W.heap[k.b]? := hg.block k.b (blk_lt h.blk) (fun e => h.bA2 k.b e.symm rfl)
  have e3 := e1.trans h.blk
  have e4 : ∀ q, Q.rowB A' = some q → q ≠ k.b := by
    intro q hq
    obtain ⟨cur, hc⟩ := ownsRow_type ho q hq
    exact fun e => blk_ne hc e3 (by decide) e
  refine ⟨⟨blk_set e3 1 _, ownsRow_keep h.rowL (fun q hq => (Below.heap_setCell W' ⟨k.b, 1, none⟩ _ q (h.bA q hq)).trans (hg.block q (ownsRow_lt h.rowL q hq).2 (fun e => h.AA q q hq e.symm rfl))), ownsRow_keep ho (fun q hq => Below.heap_setCell W' ⟨k.b, 1, none⟩ _ q (e4 q hq))⟩, ?_, rfl, .inl rfl, hr⟩
  exact (hw.grown hg (fun q hq => .inr (.inr hq))).set (.inl rfl) 1 _
theorem KDone.then {w W W' : World} {B : Nat} {k k' k'' : Bk} (d : KDone w W B k k') (c : KDone W W' B k' k'') : KDone w W' B k k'' := by
  refine ⟨c.inn, ⟨c.fr.os.trans d.fr.os, c.fr.tape.trans d.fr.tape, c.fr.output.trans d.fr.output, Nat.le_trans d.fr.size c.fr.size, fun i hi hs => ?_⟩, c.b.trans d.b, ?_, ?_⟩
  · refine (c.fr.block i (Nat.lt_of_lt_of_le hi d.fr.size) (fun h => ?_)).trans (d.fr.block i hi hs)
    rcases d.S i h with h1 | h1
    · exact hs h1
    · omega
  · rcases c.row with h | ⟨q, h, hle⟩
    · rw [h]; exact d.row
    · exact .inr ⟨q, h, Nat.le_trans d.fr.size hle⟩
  · rcases c.row2 with h | ⟨q, h, hle⟩
    · rw [h]; exact d.row2
    · exact .inr ⟨q, h, Nat.le_trans d.fr.size hle⟩
theorem KDone.more {w W W' : World} {B : Nat} {k k' : Bk} (d : KDone w W B k k') (hb : Below W.heap.size W W') : KDone w W' B k k' :=
  ⟨d.inn.below hb, d.fr.below_ hb, d.b, d.row, d.row2⟩
theorem KDone.pre {w W W' : World} {B : Nat} {k k' : Bk} (hb : Below w.heap.size w W) (h : k.In B W) (d : KDone W W' B k k') : KDone w W' B k k' :=
  KDone.then (⟨h, But.of_below hb, rfl, .inl rfl, .inl rfl⟩ : KDone w W B k k) d

theorem info4 : (Try.prog.info? 4).map (fun i => (i.zero, i.size, i.bytes)) = some (some (.bool false), 1, 1) := by kernel_rfl
/-- What the operations of note see. -/
structure KM (W : World) (k : Bk) (c : Nat) (x : Lt) : Prop where
  inn : ∃ B, k.In B W
  bx : W.heap[c]? = some (.cells #[.int .i64 x.i, .int .i64 x.f, .int .i64 x.t, .string x.s] 33 (0, 0))

set_option maxHeartbeats 4000000 in
set_option maxRecDepth 100000 in
theorem note_calls (B : Nat) (k : Bk) (y : Lt) (w : World) (h : k.In B w) (hB : B ≤ w.heap.size) (hl : k.Bs.length = k.Ls.length) (hL : k.Ls.length ≤ 3000000000000) (hy : y.i = (k.Ls.length : Int) + 1) :
    Calls Try.prog 50 #[.pointer (some ⟨k.b, 0, none⟩), .agg #[.int .i64 y.i, .int .i64 y.f, .int .i64 y.t, .string y.s]] w (KRes B k (k.Ls ++ [y]) (k.Bs ++ [false]) (.bool true) w) := by
  have H0 := Aside0.mk (h.below (below2a w (.cells #[.int .i64 y.i, .int .i64 y.f, .int .i64 y.t, .string y.s] 33)))
  have H00 := Aside0.mk h
  have HB := Aside0.mk hB
  have HL := Aside0.mk hL
  have HX := Aside0.mk (blk_new w (.cells #[.int .i64 y.i, .int .i64 y.f, .int .i64 y.t, .string y.s] 33))
  have HW := Aside0.mk (below2a w (.cells #[.int .i64 y.i, .int .i64 y.f, .int .i64 y.t, .string y.s] 33))
  have HE := Aside0.mk hl
  have HY := Aside0.mk hy
  have HSl := Aside0.mk h.lt
  clear h hB hL hl hy
  go_enter Try.func50, Try.ntmps50
  go_wp2_with fail
  generalize hc : w.heap.size = c at *
  have HC := Aside0.mk hc
  clear hc
  generalize w.alloc (.cells #[.int .i64 y.i, .int .i64 y.f, .int .i64 y.t, .string y.s] 33) = w0 at *
  refine wp_region_planF (quiets [0, 1, 2, 3, 4, 5] ++ ((true, 6) :: ((true, 7) :: (quiets [8, 9] ++ [])))) 10 (fun W => W.heap[k.b]? = some (.cells #[.slice k.A k.Ls.length k.cap, .slice k.A2 k.Bs.length k.cap2] 65 (0, 0)) ∧ W.heap[c]? = some (.cells #[.int .i64 y.i, .int .i64 y.f, .int .i64 y.t, .string y.s] 33 (0, 0))) (by kernel_rfl) (by kernel_rfl) ⟨H0.out.blk, HX.out⟩ ?_
  apply mix_quiets [0, 1, 2, 3, 4, 5] _ (by kernel_rfl) ⟨H0.out.blk, HX.out⟩
  case h =>
    intro W hW
    have e2 := blk_cell hW.1 0
    have e3 := blk_cell hW.2 0
    have e4 := blk_cell hW.2 1
    have e5 := blk_cell hW.2 2
    have e6 := blk_cell hW.2 3
    clear hW
    refine still_of_quiet _ _ ?_
    simp only [segOps, List.getElem?_toArray, List.getElem?_cons_zero, List.getElem?_cons_succ, Option.toList_some, List.nil_append, List.cons_append, List.append_nil]
    repeat (go_big_quiet_step (fail))
    exact wpQuiet_nil rfl
  refine mix_writes 6 ⟨some 11, _, _, _, _, _⟩ rfl _ ?_
  change wpList _ _ _ _ _ w0.drew
  have H3 := Aside0.mk (H0.out.below (below_drew w0))
  have HX3 := Aside0.mk (show w0.drew.heap[c]? = some (.cells #[.int .i64 y.i, .int .i64 y.f, .int .i64 y.t, .string y.s] 33 (0, 0)) from HX.out)
  have HW3 := Aside0.mk (show Below c w w0.drew from ⟨HW.out.os, HW.out.tape, HW.out.output, HW.out.size, HW.out.block⟩)
  clear H0 HX HW
  generalize w0.drew = w3 at *
  obtain ⟨i0, hi, hz0, hz1, hz2⟩ := info_parts info33
  go_wp2_with fail
  have b4 := below2a w3 (.cells #[.int .i64 y.i, .int .i64 y.f, .int .i64 y.t, .string y.s] 33)
  have H4 := Aside0.mk (H3.out.below b4)
  have HX4 := Aside0.mk (blk_below HX3.out b4)
  have HW4 := Aside0.mk (show But w (w3.alloc (.cells #[.int .i64 y.i, .int .i64 y.f, .int .i64 y.t, .string y.s] 33)) k.S from by
    have h1 := HW3.out
    rw [← HC.out] at h1
    exact (But.of_below h1).below_ b4)
  clear b4
  refine ⟨⟨H4.out.blk, HX4.out⟩, ?_⟩
  refine mix_writes 7 ⟨some 12, _, _, _, _, _⟩ rfl _ ?_
  have hone : ∀ u ∈ [Value.int .i64 y.i, .int .i64 y.f, .int .i64 y.t, .string y.s], u.oneCell' = true := lc_one y
  refine wpList_append_own_at _ rfl _ _ 57 rfl B 33 i0 (.agg #[.int .i64 0, .int .i64 0, .int .i64 0, .string ByteArray.empty]) 4 40 Try.underlying57 hi hz0 hz1 hz2 rfl (by decide) (.slice k.A k.Ls.length k.cap) k.Ls.length (lcells k.Ls) rfl H4.out.rowL ⟨w3.heap.size, 0, none⟩ 1 1 [.int .i64 y.i, .int .i64 y.f, .int .i64 y.t, .string y.s] rfl rfl (new_cells w3 [.int .i64 y.i, .int .i64 y.f, .int .i64 y.t, .string y.s] 33) hone ?c1 ?c2 ?c3 ?c4
  case c1 => have := HL.out; unfold maxLen; omega
  case c2 => have := HL.out; omega
  case c3 => have := HB.out; have := HW4.out.size; have := HC.out; omega
  case c4 =>
  intro v' w5 hown hgrow _ hat
  obtain ⟨A', cap', rfl⟩ := own_form hown
  clear hi hz0 hz1 hz2 hone
  rw [rowB_own] at hgrow
  rw [rowB_own, rowB_own] at hat
  have hl1 : (k.Ls ++ [y]).length = k.Ls.length + 1 := by simp
  have hcS : ¬ k.S c := fun hs => by have := HSl.out c hs; have := HC.out; omega
  have hk5 : w5.heap[k.b]? = _ := (hgrow.block k.b (blk_lt H4.out.blk) (fun e => H4.out.bA k.b e.symm rfl)).trans H4.out.blk
  have hc5 : w5.heap[c]? = _ := (hgrow.block c (blk_lt HX4.out) (fun e => hcS (.inr (.inl e.symm)))).trans HX4.out
  have hd : KDone w (w5.setCell ⟨k.b, 0, none⟩ (.slice A' (k.Ls.length + 1) cap')) B k ⟨k.b, A', cap', k.Ls ++ [y], k.A2, k.cap2, k.Bs⟩ := by
    rw [← hl1]
    refine Bk.In.putL H4.out HW4.out hgrow ?_ ?_
    · unfold OwnL
      rw [hl1, lcells_app]
      exact hown
    · rcases hat with e | e
      · exact .inl e
      · exact .inr ⟨_, e, HW4.out.size⟩
  have HD := Aside0.mk hd
  have HK5 := Aside0.mk hk5
  have HC5 := Aside0.mk hc5
  have HCS := Aside0.mk hcS
  have HL1 := Aside0.mk hl1
  clear hd hk5 hc5 hat hgrow hown hcS hl1
  go_wp2_with fail
  refine ⟨⟨HK5.out, HC5.out⟩, ?_⟩
  apply mix_quiets [8, 9] _ (by kernel_rfl) ⟨HK5.out, HC5.out⟩
  case h =>
    intro W hW
    clear hW
    refine still_of_quiet _ _ ?_
    simp only [segOps, List.getElem?_toArray, List.getElem?_cons_zero, List.getElem?_cons_succ, Option.toList_some, List.nil_append, List.cons_append, List.append_nil]
    repeat (go_big_quiet_step (fail))
    exact wpQuiet_nil rfl
  refine fin_write 10 _ rfl ?_
  have c3 := blk_cell HK5.out 0
  have f3 := blk_frozen HK5.out 0
  go_wp2_with fail
  refine nq_out ?_
  have hx6 : (w5.setCell ⟨k.b, 0, none⟩ (.slice A' (k.Ls.length + 1) cap')).heap[c]? = some (.cells #[.int .i64 y.i, .int .i64 y.f, .int .i64 y.t, .string y.s] 33 (0, 0)) :=
    (Below.heap_setCell w5 ⟨k.b, 0, none⟩ _ c (fun e => HCS.out (.inl e))).trans HC5.out
  have HX6 := Aside0.mk hx6
  clear hx6 HK5 HC5 c3 f3
  generalize w5.setCell ⟨k.b, 0, none⟩ (.slice A' (k.Ls.length + 1) cap') = w6 at *
  have hb6 := HD.out.inn.blk
  dsimp only at hb6
  rw [HL1.out] at hb6
  have c1 := blk_cell hb6 1
  have f1 := blk_frozen hb6 1
  obtain ⟨i1, hi, hz0, hz1, hz2⟩ := info_parts info4
  have HI4 := Aside0.mk (And.intro hi (And.intro hz0 (And.intro hz1 hz2)))
  clear hi hz0 hz1 hz2
  have hone2 : ∀ u ∈ [Value.bool false], u.oneCell' = true := by intro u hu; simp at hu; subst hu; rfl
  have HOne := Aside0.mk hone2
  have D := Aside0.mk (show k.Bs.length + 1 ≤ maxLen ∧ (k.Bs.length + 1) * 1 ≤ 140737488355328 from ⟨by unfold maxLen; have := HL.out; have := HE.out; omega, by have := HL.out; have := HE.out; omega⟩)
  have HBW := Aside0.mk (Nat.le_trans HB.out (by have := HD.out.fr.size; have := HC.out; omega : c ≤ w6.heap.size))
  have HB6 := Aside0.mk hb6
  clear hone2 hb6
  go_upto_region 3 with (at_builtin; refine wpList_append_own_at _ rfl _ _ 31 rfl B 4 i1 (.bool false) 1 1 Try.underlying31 HI4.out.1 HI4.out.2.1 HI4.out.2.2.1 HI4.out.2.2.2 rfl (by decide) (.slice k.A2 k.Bs.length k.cap2) k.Bs.length (bcells k.Bs) rfl (HD.out.inn.rowB.alloc _) ⟨w6.heap.size, 0, none⟩ 1 1 [.bool false] rfl rfl (cell_one_new _ _ _) HOne.out D.out.1 D.out.2 (le_alloc HBW.out) ?_; intro v' w7 hown hgrow _ hat; obtain ⟨A5, c5, rfl⟩ := own_form hown; rw [rowB_own] at hgrow; rw [rowB_own, rowB_own] at hat; have HOwn := Aside0.mk hown; have HG := Aside0.mk hgrow; have HAT := Aside0.mk hat; have b7 := (hgrow.block k.b (blk_lt (blk_below HB6.out (below2a w6 (.cells #[.bool false] 4)))) (fun e => HD.out.inn.bA2 k.b e.symm rfl)).trans (blk_below HB6.out (below2a w6 (.cells #[.bool false] 4))); have f7 := blk_frozen b7 1; have c7 := blk_cell b7 1; clear hown hgrow hat)
  have hl2 : (k.Bs ++ [false]).length = k.Bs.length + 1 := by simp
  have hd2 : KDone w6 (w7.setCell ⟨k.b, 1, none⟩ (.slice A5 (k.Bs.length + 1) c5)) B ⟨k.b, A', cap', k.Ls ++ [y], k.A2, k.cap2, k.Bs⟩ ⟨k.b, A', cap', k.Ls ++ [y], A5, c5, k.Bs ++ [false]⟩ := by
    rw [← hl2]
    refine Bk.In.putB (HD.out.inn.below (below2a w6 (.cells #[.bool false] 4))) (But.of_below (below2a w6 (.cells #[.bool false] 4))) HG.out ?_ ?_
    · rw [hl2]
      have h1 := HOwn.out
      unfold bcells at h1 ⊢
      rw [List.map_append]
      exact h1
    · rcases HAT.out with e | e
      · exact .inl e
      · exact .inr ⟨_, e, (below2a w6 (.cells #[.bool false] 4)).size⟩
  have HD2 := Aside0.mk (HD.out.then hd2)
  have hx7 : w7.heap[c]? = _ := (HG.out.block c (blk_lt (blk_below HX6.out (below2a w6 (.cells #[.bool false] 4)))) (fun e => HCS.out (.inr (.inr e.symm)))).trans (blk_below HX6.out (below2a w6 (.cells #[.bool false] 4)))
  have hx8 : (w7.setCell ⟨k.b, 1, none⟩ (.slice A5 (k.Bs.length + 1) c5)).heap[c]? = _ :=
    (Below.heap_setCell w7 ⟨k.b, 1, none⟩ _ c (fun e => HCS.out (.inl e))).trans hx7
  have HX8 := Aside0.mk hx8
  clear hl2 hd2 hx7 hx8 f7 c7 b7 HOwn HG HAT HD HX6 HB6
  generalize w7.setCell ⟨k.b, 1, none⟩ (.slice A5 (k.Bs.length + 1) c5) = w8 at *
  have hb8 := HD2.out.inn.blk
  dsimp only at hb8
  rw [HL1.out] at hb8
  have c0 := blk_cell hb8 0
  have x0 := blk_cell HX8.out 0
  have y0 : (y.i == (k.Ls.length : Int) + 1) = true := by simpa using HY.out
  clear hb8 c1 f1
  go_quiet (fail)
  have HD3 := Aside0.mk (HD2.out.more (below_drewN w8 nq))
  go_wp2_with fail
  go_ret
  exact ⟨rfl, A', cap', A5, c5, HD3.out⟩

end Go.Proofs.Ytadbcekglcmccaa.Q
