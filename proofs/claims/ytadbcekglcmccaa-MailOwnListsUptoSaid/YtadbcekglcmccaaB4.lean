/- The document's mail in memory; its methods at nil, its New, Sent and cut. Condition: block m is a mail of the document. -/
import Derived.Test.YtadbcekglcmccaaProg
import Derived.Below
import Derived.Deep.Draws
import Derived.Deep.AppendLies
import Derived.Maps.AppendAt
import Derived.OwnWalk
import Derived.Laws.BytesArg
import Derived.Laws.MakeOwn
import Derived.Laws.OwnMore
import Derived.Deep.OwnRows
import Derived.Tactics
import Derived.Lib.ConvBytes
import Derived.Laws.Slices
import Derived.WalkKit
import Derived.KernelRfl
import Derived.RowKit3
import Derived.Deep.LoopGhost
import Derived.Deep.QuietTactic
import Derived.BigQuiet
import Derived.WideLaws
import Derived.Deep.DeepCutAuto
import Derived.Deep.CutBlock
import Derived.Deep.RegionHeld3
import Derived.Laws.Rows
import Derived.Lib.AppendStr
import Derived.ArgAppend
import Derived.Laws.IdiomCopy
import Derived.OrdersHeld
import Derived.Laws.BitsLemmas
import Derived.RowKit
import Derived.Test.YtadbcekglcmccaaWWords
import Derived.Test.YtadbcekglcmccaaWLast
import Derived.Test.YtadbcekglcmccaaWTab
import Derived.Test.YtadbcekglcmccaaWFour
import Derived.Test.YtadbcekglcmccaaWQPut
import Derived.Test.YtadbcekglcmccaaWApart
import Derived.Test.YtadbcekglcmccaaWArr
import Derived.Test.YtadbcekglcmccaaWZeros
import Derived.Test.YtadbcekglcmccaaWFoot
import Derived.Test.YtadbcekglcmccaaWKept
import Derived.Test.YtadbcekglcmccaaWShare
import Derived.Test.YtadbcekglcmccaaWN
import Derived.Test.YtadbcekglcmccaaWFootNe
import Derived.Test.YtadbcekglcmccaaWAt
import Derived.Test.YtadbcekglcmccaaWEqStruct
import Derived.Test.YtadbcekglcmccaaWRepsOne
import Derived.Test.YtadbcekglcmccaaWInv
import Derived.Test.YtadbcekglcmccaaWInvWords
import Derived.Test.YtadbcekglcmccaaWGuard
import Derived.Test.YtadbcekglcmccaaWNEv
import Derived.Test.YtadbcekglcmccaaWMore
import Derived.Test.YtadbcekglcmccaaB1
set_option linter.unusedVariables false
set_option linter.unusedSimpArgs false
namespace Go.Proofs.Ytadbcekglcmccaa.Q
open Go.RowKit Go.Proofs.YtadbcekglcmccaaW.PrintWords Go.Proofs.YtadbcekglcmccaaW.PrintLast Go.Proofs.YtadbcekglcmccaaW.PrintMore
open Go.FM Go.Plan

/-! ### The document's mail -/
structure Tn where
  a : Int
  b : Int
  c : Bool
def tcn (t : Tn) : List Value := [.int .i64 t.a, .int .i64 t.b, .bool t.c]
theorem tcn_length (t : Tn) : (tcn t).length = 3 := rfl
def tcells (Ts : List Tn) : List Value := Ts.flatMap tcn
theorem tcells_app (Ts Us : List Tn) : tcells (Ts ++ Us) = tcells Ts ++ tcells Us := List.flatMap_append
theorem tcn_one (t : Tn) : ∀ u ∈ tcn t, u.oneCell' = true := by
  intro u hu
  simp [tcn] at hu
  rcases hu with rfl | rfl | rfl <;> rfl
theorem info99 : (Try.prog.info? 99).map (fun i => (i.zero, i.size, i.bytes)) = some (some (.agg #[.int .i64 0, .int .i64 0, .bool false]), 3, 24) := by kernel_rfl
structure Rm where
  m : Nat
  lim : Int
  A : Option Addr
  cap : Nat
  Ls : List Lt
  A2 : Option Addr
  cap2 : Nat
  Bs : List Bool
  A3 : Option Addr
  cap3 : Nat
  Ts : List Tn
structure Rm.In (B : Nat) (W : World) (r : Rm) : Prop where
  blk : W.heap[r.m]? = some (.cells #[.int .i64 r.lim, .slice r.A r.Ls.length r.cap, .slice r.A2 r.Bs.length r.cap2, .slice r.A3 r.Ts.length r.cap3] 88 (0, 0))
  rowL : OwnL W B r.A r.cap r.Ls
  rowB : W.ownsRow B 4 1 (.slice r.A2 r.Bs.length r.cap2) r.Bs.length (bcells r.Bs)
  rowT : W.ownsRow B 99 3 (.slice r.A3 r.Ts.length r.cap3) r.Ts.length (tcells r.Ts)
def Rm.S (r : Rm) (i : Nat) : Prop := i = r.m ∨ rowB r.A = some i ∨ rowB r.A2 = some i ∨ rowB r.A3 = some i
section
variable {B : Nat} {W W' : World} {r : Rm}
theorem Rm.In.lt (h : r.In B W) : ∀ i, r.S i → i < W.heap.size := by
  intro i hi
  rcases hi with rfl | hi | hi | hi
  · exact blk_lt h.blk
  · exact (ownsRow_lt h.rowL i hi).2
  · exact (ownsRow_lt h.rowB i hi).2
  · exact (ownsRow_lt h.rowT i hi).2
theorem Rm.In.keep (h : r.In B W) (hb : ∀ i, r.S i → W'.heap[i]? = W.heap[i]?) : r.In B W' :=
  ⟨(hb _ (.inl rfl)).trans h.blk, ownsRow_keep h.rowL (fun q hq => hb q (.inr (.inl hq))), ownsRow_keep h.rowB (fun q hq => hb q (.inr (.inr (.inl hq)))), ownsRow_keep h.rowT (fun q hq => hb q (.inr (.inr (.inr hq))))⟩
theorem Rm.In.below (h : r.In B W) (hb : Below W.heap.size W W') : r.In B W' := h.keep fun i hi => hb.block i (h.lt i hi)
theorem Rm.In.typ (h : r.In B W) : ∀ q, (Q.rowB r.A = some q → ∃ cur, W.heap[q]? = some (.cells cur 33 (0, 0))) ∧ (Q.rowB r.A2 = some q → ∃ cur, W.heap[q]? = some (.cells cur 4 (0, 0))) ∧ (Q.rowB r.A3 = some q → ∃ cur, W.heap[q]? = some (.cells cur 99 (0, 0))) :=
  fun q => ⟨fun h1 => ownsRow_type h.rowL q h1, fun h1 => ownsRow_type h.rowB q h1, fun h1 => ownsRow_type h.rowT q h1⟩
theorem Rm.In.nA (h : r.In B W) : ∀ q, Q.rowB r.A = some q → q ≠ r.m ∧ Q.rowB r.A2 ≠ some q ∧ Q.rowB r.A3 ≠ some q := by
  intro q hq
  obtain ⟨c, hc⟩ := (h.typ q).1 hq
  refine ⟨fun e => blk_ne hc h.blk (by decide) e, fun e => ?_, fun e => ?_⟩
  · obtain ⟨c2, hc2⟩ := (h.typ q).2.1 e
    exact blk_ne hc hc2 (by decide) rfl
  · obtain ⟨c2, hc2⟩ := (h.typ q).2.2 e
    exact blk_ne hc hc2 (by decide) rfl
theorem Rm.In.nA2 (h : r.In B W) : ∀ q, Q.rowB r.A2 = some q → q ≠ r.m ∧ Q.rowB r.A ≠ some q ∧ Q.rowB r.A3 ≠ some q := by
  intro q hq
  obtain ⟨c, hc⟩ := (h.typ q).2.1 hq
  refine ⟨fun e => blk_ne hc h.blk (by decide) e, fun e => ?_, fun e => ?_⟩
  · obtain ⟨c2, hc2⟩ := (h.typ q).1 e
    exact blk_ne hc hc2 (by decide) rfl
  · obtain ⟨c2, hc2⟩ := (h.typ q).2.2 e
    exact blk_ne hc hc2 (by decide) rfl
theorem Rm.In.nA3 (h : r.In B W) : ∀ q, Q.rowB r.A3 = some q → q ≠ r.m ∧ Q.rowB r.A ≠ some q ∧ Q.rowB r.A2 ≠ some q := by
  intro q hq
  obtain ⟨c, hc⟩ := (h.typ q).2.2 hq
  refine ⟨fun e => blk_ne hc h.blk (by decide) e, fun e => ?_, fun e => ?_⟩
  · obtain ⟨c2, hc2⟩ := (h.typ q).1 e
    exact blk_ne hc hc2 (by decide) rfl
  · obtain ⟨c2, hc2⟩ := (h.typ q).2.1 e
    exact blk_ne hc hc2 (by decide) rfl
end
/-- What a call leaves of it. -/
structure RDone (w W : World) (B : Nat) (r r' : Rm) : Prop where
  inn : r'.In B W
  fr : But w W r.S
  m : r'.m = r.m
  sub : ∀ i, r'.S i → r.S i ∨ w.heap.size ≤ i
theorem RDone.same {w W : World} {B : Nat} {r : Rm} (h : r.In B w) (hb : Below w.heap.size w W) : RDone w W B r r := ⟨h.below hb, But.of_below hb, rfl, fun i hi => .inl hi⟩
theorem RDone.then {w W W' : World} {B : Nat} {r r' r'' : Rm} (d : RDone w W B r r') (c : RDone W W' B r' r'') : RDone w W' B r r'' := by
  refine ⟨c.inn, ⟨c.fr.os.trans d.fr.os, c.fr.tape.trans d.fr.tape, c.fr.output.trans d.fr.output, Nat.le_trans d.fr.size c.fr.size, fun i hi hs => ?_⟩, c.m.trans d.m, fun i hi => ?_⟩
  · refine (c.fr.block i (Nat.lt_of_lt_of_le hi d.fr.size) (fun h => ?_)).trans (d.fr.block i hi hs)
    rcases d.sub i h with h1 | h1
    · exact hs h1
    · omega
  · rcases c.sub i hi with h | h
    · exact d.sub i h
    · exact .inr (Nat.le_trans d.fr.size h)
theorem RDone.pre {w W W' : World} {B : Nat} {r r' : Rm} (hb : Below w.heap.size w W) (h : r.In B w) (d : RDone W W' B r r') : RDone w W' B r r' := (RDone.same h hb).then d
theorem RDone.more {w W W' : World} {B : Nat} {r r' : Rm} (d : RDone w W B r r') (hb : Below W.heap.size W W') : RDone w W' B r r' := d.then (RDone.same d.inn hb)

theorem raddress_calls (n : Int) (w : World) : Calls Try.prog 55 #[.int .i64 n] w fun e w' => e = .returned (.bool (adB n)) ∧ w = w' := by
  by_cases h1 : 0 ≤ n
  · have b1 : decide (0 ≤ n) = true := by simpa using h1
    by_cases h2 : n ≤ 67
    · have b2 : decide (n ≤ 67) = true := by simpa using h2
      rw [show adB n = true by unfold adB; simp; omega]
      clear h1 h2
      go_enter Try.func55, Try.ntmps55
      go_wp2
      go_ret
      exact ⟨rfl, rfl⟩
    · have b2 : decide (n ≤ 67) = false := by simpa using h2
      rw [show adB n = false by unfold adB; simp; omega]
      clear h1 h2
      go_enter Try.func55, Try.ntmps55
      go_wp2
      go_ret
      exact ⟨rfl, rfl⟩
  · have b1 : decide (0 ≤ n) = false := by simpa using h1
    rw [show adB n = false by unfold adB; simp; omega]
    clear h1
    go_enter Try.func55, Try.ntmps55
    go_wp2
    go_ret
    exact ⟨rfl, rfl⟩
theorem rnew_no (n : Int) (w : World) (h : ¬ okLim n) : Calls Try.prog 54 #[.int .i64 n] w fun e w' => e = .returned (.tuple #[.pointer none, .int .i64 1]) ∧ w = w' := by
  by_cases h1 : n < 1
  · have b1 : decide (n < 1) = true := decide_eq_true h1
    clear h h1
    go_enter Try.func54, Try.ntmps54
    go_wp2
    go_ret2
    exact ⟨rfl, rfl⟩
  · have b1 : decide (n < 1) = false := decide_eq_false h1
    have b2 : decide (1024 < n) = true := decide_eq_true (by unfold okLim at h; omega)
    clear h h1
    go_enter Try.func54, Try.ntmps54
    go_wp2
    go_ret2
    exact ⟨rfl, rfl⟩
theorem rnew_yes (n : Int) (w : World) (h : okLim n) : Calls Try.prog 54 #[.int .i64 n] w fun e w' => e = .returned (.tuple #[.pointer (some ⟨w.heap.size, 0, none⟩), .int .i64 0]) ∧ w' = w.alloc (.cells #[.int .i64 n, .slice none 0 0, .slice none 0 0, .slice none 0 0] 88) := by
  have b1 : decide (n < 1) = false := decide_eq_false (by unfold okLim at h; omega)
  have b2 : decide (1024 < n) = false := decide_eq_false (by unfold okLim at h; omega)
  clear h
  go_enter Try.func54, Try.ntmps54
  go_wp2
  go_ret2
  exact ⟨rfl, rfl⟩
theorem rsent_calls (B : Nat) (r : Rm) (w : World) (h : r.In B w) : Calls Try.prog 46 #[.pointer (some ⟨r.m, 0, none⟩)] w fun e w' => e = .returned (.int .i64 (r.Ls.length : Int)) ∧ w = w' := by
  have c1 := blk_cell h.blk 1
  clear h
  go_enter Try.func46, Try.ntmps46
  go_wp2
  go_ret
  exact ⟨rfl, rfl⟩

/-! ### At nil -/
theorem rsend_nil (f t : Int) (s : ByteArray) (w : World) : Calls Try.prog 39 #[.pointer none, .int .i64 f, .int .i64 t, .string s] w fun e w' => e = .returned (.tuple #[.int .i64 0, .int .i64 2]) ∧ w = w' := by
  go_enter Try.func39, Try.ntmps39
  go_wp2
  go_ret2
  exact ⟨rfl, rfl⟩
theorem rdrop_nil (i : Int) (w : World) : Calls Try.prog 41 #[.pointer none, .int .i64 i] w fun e w' => e = .returned (.int .i64 2) ∧ w = w' := by
  go_enter Try.func41, Try.ntmps41
  go_wp2
  go_ret
  exact ⟨rfl, rfl⟩
theorem rcopy_nil (i : Int) (w : World) : Calls Try.prog 42 #[.pointer none, .int .i64 i] w fun e w' => e = .returned (.int .i64 2) ∧ w = w' := by
  go_enter Try.func42, Try.ntmps42
  go_wp2
  go_ret
  exact ⟨rfl, rfl⟩
theorem rturn_nil (a b : Int) (c : Bool) (w : World) : Calls Try.prog 59 #[.pointer none, .int .i64 a, .int .i64 b, .bool c] w fun e w' => e = .returned (.int .i64 2) ∧ w = w' := by
  go_enter Try.func59, Try.ntmps59
  go_wp2
  go_ret
  exact ⟨rfl, rfl⟩
theorem rcut_nil (a b : Int) (w : World) : Calls Try.prog 43 #[.pointer none, .int .i64 a, .int .i64 b] w fun e w' => e = .returned (.int .i64 2) ∧ w = w' := by
  go_enter Try.func43, Try.ntmps43
  go_wp2_with (go_at_call 59; (with_reducible refine (rturn_nil a b true _).mono ?_); rintro e w' ⟨rfl, rfl⟩)
  go_ret
  exact ⟨rfl, rfl⟩
theorem rheal_nil (a b : Int) (w : World) : Calls Try.prog 44 #[.pointer none, .int .i64 a, .int .i64 b] w fun e w' => e = .returned (.int .i64 2) ∧ w = w' := by
  go_enter Try.func44, Try.ntmps44
  go_wp2_with (go_at_call 59; (with_reducible refine (rturn_nil a b false _).mono ?_); rintro e w' ⟨rfl, rfl⟩)
  go_ret
  exact ⟨rfl, rfl⟩
theorem rflying_nil (w : World) : Calls Try.prog 27 #[.pointer none] w fun e w' => e = .returned (.slice none 0 0) ∧ w = w' := by
  go_enter Try.func27, Try.ntmps27
  go_wp2
  go_ret
  exact ⟨rfl, rfl⟩
theorem rcount_nil (w : World) : Calls Try.prog 45 #[.pointer none] w fun e w' => e = .returned (.int .i64 0) ∧ w = w' := by
  go_enter Try.func45, Try.ntmps45
  go_wp2_with (go_at_call 27; (with_reducible refine (rflying_nil _).mono ?_); rintro e w' ⟨rfl, rfl⟩)
  go_ret
  exact ⟨rfl, rfl⟩
theorem rsent_nil (w : World) : Calls Try.prog 46 #[.pointer none] w fun e w' => e = .returned (.int .i64 0) ∧ w = w' := by
  go_enter Try.func46, Try.ntmps46
  go_wp2
  go_ret
  exact ⟨rfl, rfl⟩
theorem rdeliver_nil (i : Int) (w : World) : Calls Try.prog 40 #[.pointer none, .int .i64 i] w fun e w' => e = .returned (.tuple #[(.agg #[.int .i64 0, .int .i64 0, .int .i64 0, .string ⟨#[]⟩]), .int .i64 2]) ∧ Below w.heap.size w w' := by
  go_enter Try.func40, Try.ntmps40
  go_wp2
  exact bodyPost_ret (v := .tuple #[(.agg #[.int .i64 0, .int .i64 0, .int .i64 0, .string ⟨#[]⟩]), .int .i64 2]) (by simp [results, Try.results40, go_sem]) rfl ⟨rfl, below2a w _⟩

/-! ### Is the link cut? -/
/-- Is it the one way or the other? -/
def betB (f t a b : Int) : Bool := (f == a && t == b) || (f == b && t == a)
theorem lk_comm (a b : Int) : lk b a = lk a b := by unfold lk; rw [Int.min_comm, Int.max_comm]
theorem bet_lk {c d a b : Int} (h : betB c d a b = true) : lk c d = lk a b := by
  unfold betB at h
  rw [Bool.or_eq_true] at h
  rcases h with h | h
  · rw [Bool.and_eq_true, beq_iff_eq, beq_iff_eq] at h; rw [h.1, h.2]
  · rw [Bool.and_eq_true, beq_iff_eq, beq_iff_eq] at h; rw [h.1, h.2, lk_comm]
theorem lk_bet {c d a b : Int} (h : lk c d = lk a b) : betB c d a b = true := by
  unfold lk at h
  rw [Prod.mk.injEq] at h
  unfold betB
  rw [Bool.or_eq_true, Bool.and_eq_true, Bool.and_eq_true, beq_iff_eq, beq_iff_eq, beq_iff_eq, beq_iff_eq]
  omega
def cutT (Ts : List Tn) (a b : Int) : Bool := Ts.foldl (fun is t => if betB t.a t.b a b = true then t.c else is) false
theorem cutT_app (Ts : List Tn) (t : Tn) (a b : Int) : cutT (Ts ++ [t]) a b = if betB t.a t.b a b = true then t.c else cutT Ts a b := by
  unfold cutT
  rw [List.foldl_append]
  rfl
theorem tn_at {W : World} {B : Nat} {A : Option Addr} {cap : Nat} {Ts : List Tn} (h : W.ownsRow B 99 3 (.slice A Ts.length cap) Ts.length (tcells Ts)) (i : Nat) (t : Tn) (hi : Ts[i]? = some t) : ∃ ad, A = some ad ∧
    W.cell? (ad.add (i * 3)) = some (.int .i64 t.a) ∧ W.cell? ⟨(ad.add (i * 3)).block, (ad.add (i * 3)).off + 1, none⟩ = some (.int .i64 t.b) ∧ W.cell? ⟨(ad.add (i * 3)).block, (ad.add (i * 3)).off + 2, none⟩ = some (.bool t.c) := by
  obtain ⟨g, rfl, hc⟩ := own_at (c := tcn) (by decide) tcn_length h i t hi
  refine ⟨_, rfl, ?_⟩
  rw [add_plain]
  exact ⟨hc 0 _ rfl, hc 1 _ rfl, hc 2 _ rfl⟩

set_option maxHeartbeats 4000000 in
set_option maxRecDepth 100000 in
theorem rcut_calls_ (B : Nat) (r : Rm) (a b : Int) (w : World) (h : r.In B w) (hT : r.Ts.length ≤ 4611686018427387904) :
    Calls Try.prog 56 #[.pointer (some ⟨r.m, 0, none⟩), .int .i64 a, .int .i64 b] w fun e w' => e = .returned (.bool (cutT r.Ts a b)) ∧ Below w.heap.size w w' := by
  have H := Aside0.mk h
  have HL := Aside0.mk hT
  clear h hT
  go_enter Try.func56, Try.ntmps56
  go_wp2_with fail
  go_loopg [7, 8] r.Ts.length (fun kq v7 v8 w' => ∃ (i : Nat), v7 = .bool (cutT (r.Ts.take i) a b) ∧ v8 = .int .i64 (i : Int) ∧ Aside0 (i + kq = r.Ts.length) ∧ Aside0 (Below w.heap.size w w'))
  case atStart => exact ⟨0, rfl, rfl, ⟨by omega⟩, ⟨Below.refl _ _⟩⟩
  case round =>
    obtain ⟨i, rfl, rfl, HK, HB⟩ := hrel
    have HI := Aside0.mk (H.out.below HB.out)
    have c3 := blk_cell HI.out.blk 3
    generalize hcu : cutT (r.Ts.take i) a b = cu at *
    by_cases ci : (i : Int) < (r.Ts.length : Int)
    · cases gk with
      | zero => exact absurd HK.out (by omega)
      | succ k1 =>
      have cb : decide ((i : Int) < (r.Ts.length : Int)) = true := decide_eq_true ci
      have cb2 : decide (i < r.Ts.length) = true := decide_eq_true (by omega)
      have p2 : (0 ≤ (i : Int)) = True := eq_true (by omega)
      have p3 : ((i : Int) < (r.Ts.length : Int)) = True := eq_true ci
      have hwi : wrap64 ((i : Int) + 1) = (i : Int) + 1 := Go.IntWalk.wrap64_in _ (by have := HL.out; omega)
      have HK' := Aside0.mk (show i + 1 + k1 = r.Ts.length by have := HK.out; omega)
      obtain ⟨t, ht⟩ : ∃ t, r.Ts[i]? = some t := ⟨_, List.getElem?_eq_getElem (show i < r.Ts.length by omega)⟩
      have HT := Aside0.mk (show cutT (r.Ts.take (i + 1)) a b = if betB t.a t.b a b = true then t.c else cu by
        rw [List.take_add_one, ht, ← hcu]
        exact cutT_app _ t a b)
      obtain ⟨ad, hA, x0, x1, x2⟩ := tn_at HI.out.rowT i t ht
      rw [hA] at c3
      clear ci ht hA HK hcu
      go_upto_region 6 with fail
      have HB1 := Aside0.mk (below_step HB.out (below2a wr (.cells #[.int .i64 t.a, .int .i64 t.b, .bool t.c] 99)))
      have HO1 := Aside0.mk (blk_new wr (.cells #[.int .i64 t.a, .int .i64 t.b, .bool t.c] 99))
      clear x0 x1 x2 c3 HI
      generalize wr.heap.size = d at *
      generalize wr.alloc (.cells #[.int .i64 t.a, .int .i64 t.b, .bool t.c] 99) = w1 at *
      have e0 := blk_cell HO1.out 0
      have e1 := blk_cell HO1.out 1
      have e2 := blk_cell HO1.out 2
      go_cut [47] (fun v47 wx => v47 = .bool (betB t.a t.b a b) ∧ w1 = wx)
      case first =>
        by_cases h1 : t.a = a
        · have b1 : (t.a == a) = true := by simpa using h1
          by_cases h2 : t.b = b
          · have b2 : (t.b == b) = true := by simpa using h2
            have HZ := Aside0.mk (show betB t.a t.b a b = true by unfold betB; rw [b1, b2]; rfl)
            clear h1 h2
            go_wp2_with fail
            go_meet
            exact ⟨by rw [HZ.out], rfl⟩
          · have b2 : (t.b == b) = false := by simpa using h2
            by_cases h3 : t.a = b
            · have b3 : (t.a == b) = true := by simpa using h3
              have HZ := Aside0.mk (show betB t.a t.b a b = (t.b == a) by unfold betB; rw [b1, b2, b3]; rfl)
              clear h1 h2 h3
              go_wp2_with fail
              go_meet
              exact ⟨by rw [HZ.out], rfl⟩
            · have b3 : (t.a == b) = false := by simpa using h3
              have HZ := Aside0.mk (show betB t.a t.b a b = false by unfold betB; rw [b1, b2, b3]; rfl)
              clear h1 h2 h3
              go_wp2_with fail
              go_meet
              exact ⟨by rw [HZ.out], rfl⟩
        · have b1 : (t.a == a) = false := by simpa using h1
          by_cases h3 : t.a = b
          · have b3 : (t.a == b) = true := by simpa using h3
            have HZ := Aside0.mk (show betB t.a t.b a b = (t.b == a) by unfold betB; rw [b1, b3]; rfl)
            clear h1 h3
            go_wp2_with fail
            go_meet
            exact ⟨by rw [HZ.out], rfl⟩
          · have b3 : (t.a == b) = false := by simpa using h3
            have HZ := Aside0.mk (show betB t.a t.b a b = false by unfold betB; rw [b1, b3]; rfl)
            clear h1 h3
            go_wp2_with fail
            go_meet
            exact ⟨by rw [HZ.out], rfl⟩
      case rest =>
      obtain ⟨rfl, rfl⟩ := hcut
      cases hbb : betB t.a t.b a b with
      | true =>
        rw [hbb, if_pos rfl] at HT
        clear hbb
        go_wp2_with fail
        go_roundg k1
        case measure => have := HK'.out; omega
        case rel => exact ⟨i + 1, by rw [HT.out], congrArg (Value.int .i64) (by omega), HK', HB1⟩
      | false =>
        rw [hbb, if_neg (by decide)] at HT
        clear hbb
        go_wp2_with fail
        go_roundg k1
        case measure => have := HK'.out; omega
        case rel => exact ⟨i + 1, by rw [HT.out], congrArg (Value.int .i64) (by omega), HK', HB1⟩
    · have cb : decide ((i : Int) < (r.Ts.length : Int)) = false := decide_eq_false ci
      have cb2 : decide (i < r.Ts.length) = false := decide_eq_false (by omega)
      have hi : i = r.Ts.length := by have := HK.out; omega
      have HT := Aside0.mk (show cutT r.Ts a b = cu by rw [← hcu, hi, List.take_length])
      clear ci hi hcu
      go_wp2_with fail
      go_ret
      exact ⟨by rw [HT.out]; rfl, HB.out⟩

end Go.Proofs.Ytadbcekglcmccaa.Q
