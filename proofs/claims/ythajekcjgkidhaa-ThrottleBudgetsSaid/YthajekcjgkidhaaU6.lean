/- Contract of (*purses).plays; how a script that came in is read. Condition: the block of the two places. -/
import Derived.Test.YthajekcjgkidhaaProg
import Derived.Below
import Derived.Deep.Draws
import Derived.Deep.AppendLies
import Derived.Maps.AppendAt
import Derived.OwnWalk
import Derived.Laws.BytesArg
import Derived.Laws.MakeOwn
import Derived.Laws.OwnMore
import Derived.Deep.OwnRows
import Derived.Tactics
import Derived.Lib.ConvBytes
import Derived.Laws.Slices
import Derived.WalkKit
import Derived.KernelRfl
import Derived.RowKit3
import Derived.Deep.LoopGhost
import Derived.Deep.QuietTactic
import Derived.BigQuiet
import Derived.WideLaws
import Derived.Deep.DeepCutAuto
import Derived.Deep.CutBlock
import Derived.Deep.RegionHeld3
import Derived.Laws.Rows
import Derived.Lib.AppendStr
import Derived.ArgAppend
import Derived.Laws.IdiomCopy
import Derived.OrdersHeld
import Derived.Laws.BitsLemmas
import Derived.RowKit
import Derived.Test.YthajekcjgkidhaaWWords
import Derived.Test.YthajekcjgkidhaaWLast
import Derived.Test.YthajekcjgkidhaaWTab
import Derived.Test.YthajekcjgkidhaaWFour
import Derived.Test.YthajekcjgkidhaaWQPut
import Derived.Test.YthajekcjgkidhaaWApart
import Derived.Test.YthajekcjgkidhaaWArr
import Derived.Test.YthajekcjgkidhaaWZeros
import Derived.Test.YthajekcjgkidhaaWFoot
import Derived.Test.YthajekcjgkidhaaWKept
import Derived.Test.YthajekcjgkidhaaWShare
import Derived.Test.YthajekcjgkidhaaWN
import Derived.Test.YthajekcjgkidhaaWFootNe
import Derived.Test.YthajekcjgkidhaaWAt
import Derived.Test.YthajekcjgkidhaaWEqStruct
import Derived.Test.YthajekcjgkidhaaWRepsOne
import Derived.Test.YthajekcjgkidhaaWInv
import Derived.Test.YthajekcjgkidhaaWInvWords
import Derived.Test.YthajekcjgkidhaaWGuard
import Derived.Test.YthajekcjgkidhaaWNEv
import Derived.Test.YthajekcjgkidhaaWMore
import Derived.Test.YthajekcjgkidhaaLocks
import Derived.Conc.MuLone
import Derived.Test.YthajekcjgkidhaaU5
import Derived.Deep.Slices
import Derived.ChangeSlices
set_option linter.unusedVariables false
set_option linter.unusedSimpArgs false
namespace Go.Proofs.Ythajekcjgkidhaa.Q
open Go.RowKit Go.Proofs.YthajekcjgkidhaaW.PrintWords Go.Proofs.YthajekcjgkidhaaW.PrintLast Go.Proofs.YthajekcjgkidhaaW.PrintMore
open Go.MuLone Go.FM Go.Plan Go.Pivot

/-- What one of the two places holds. -/
abbrev Qp := Option Pb
def Qp.own : Qp → Value
  | none => .pointer none
  | some x => .pointer (some ⟨x.g, 0, none⟩)
def Qp.ref : Qp → Value
  | none => .pointer none
  | some x => .pointer (some ⟨x.k, 0, none⟩)
structure QAt (B m n : Nat) (W : World) (x : Pb) : Prop where
  inn : x.In B W
  st : x.St B
  mS : ¬ x.S m
  len : x.L.length ≤ n
/-- The two places, in the block at m; no list is longer than n. -/
structure IQ (w W : World) (m n : Nat) (p q : Qp) : Prop where
  below : Below w.heap.size w W
  blk : W.heap[m]? = some (.cells #[p.own, q.own, p.ref, q.ref] 31 (0, 0))
  ge : w.heap.size ≤ m
  atp : ∀ x, p = some x → QAt w.heap.size m n W x
  atq : ∀ x, q = some x → QAt w.heap.size m n W x
  ap : ∀ x y, p = some x → q = some y → ∀ i, x.S i → ¬ y.S i

theorem QAt.keep {B m n : Nat} {W W' : World} {x : Pb} (h : QAt B m n W x) (hb : ∀ i, x.S i → W'.heap[i]? = W.heap[i]?) : QAt B m n W' x := ⟨h.inn.keep hb, h.st, h.mS, h.len⟩
theorem QAt.more {B m n n' : Nat} {W : World} {x : Pb} (h : QAt B m n W x) (hn : n ≤ n') : QAt B m n' W x := ⟨h.inn, h.st, h.mS, Nat.le_trans h.len hn⟩
theorem QAt.below {B m n : Nat} {W W' : World} {x : Pb} (h : QAt B m n W x) (hb : Below W.heap.size W W') : QAt B m n W' x := h.keep fun i hi => hb.block i (h.inn.lt i hi)
theorem IQ.grow {w W W' : World} {m n : Nat} {p q : Qp} (h : IQ w W m n p q) (hb : Below W.heap.size W W') : IQ w W' m n p q :=
  ⟨below_step h.below hb, blk_below h.blk hb, h.ge, fun x hx => (h.atp x hx).below hb, fun x hx => (h.atq x hx).below hb, h.ap⟩
theorem IQ.more {w W : World} {m n n' : Nat} {p q : Qp} (h : IQ w W m n p q) (hn : n ≤ n') : IQ w W m n' p q :=
  ⟨h.below, h.blk, h.ge, fun x hx => (h.atp x hx).more hn, fun x hx => (h.atq x hx).more hn, h.ap⟩

theorem BDone.S {w W : World} {B : Nat} {x x' : Pb} (d : BDone w W B x x') : ∀ i, x'.S i → x.S i ∨ w.heap.size ≤ i := by
  intro i hi
  rcases hi with e | e | e | e
  · exact .inl (.inl (e.trans d.g))
  · exact .inl (.inr (.inl (e.trans d.r)))
  · exact .inl (.inr (.inr (.inl (e.trans d.k))))
  · rcases d.row with h | h | ⟨q, h, hle⟩
    · exact .inl (.inr (.inr (.inr (h ▸ e))))
    · rw [h] at e; cases e
    · rw [h] at e; obtain rfl := Option.some.inj e; exact .inr hle

theorem IQ.turnp {w W W' : World} {m n : Nat} {x x' : Pb} {q : Qp} (h : IQ w W m n (some x) q) (d : BDone W W' w.heap.size x x') : IQ w W' m (n + 1) (some x') q := by
  have hx := h.atp x rfl
  have hm : m < W.heap.size := blk_lt h.blk
  have hge := hx.st.ge hx.inn
  refine ⟨d.fr.below h.below hge h.below.size, ?_, h.ge, ?_, ?_, ?_⟩
  · rw [d.fr.block m hm hx.mS, h.blk]
    show some (Obj.cells #[.pointer (some ⟨x.g, 0, none⟩), q.own, .pointer (some ⟨x.k, 0, none⟩), q.ref] 31 (0, 0)) = some (Obj.cells #[.pointer (some ⟨x'.g, 0, none⟩), q.own, .pointer (some ⟨x'.k, 0, none⟩), q.ref] 31 (0, 0))
    rw [d.g, d.k]
  · intro z hz
    obtain rfl := Option.some.inj hz
    refine ⟨d.inn, d.st, fun hs => ?_, Nat.le_trans d.len (by have := hx.len; omega)⟩
    rcases d.S m hs with h1 | h1
    · exact hx.mS h1
    · omega
  · intro y hy
    exact ((h.atq y hy).keep fun i hi => d.fr.block i ((h.atq y hy).inn.lt i hi) (fun hs => h.ap x y rfl hy i hs hi)).more (by omega)
  · intro z y hz hy i hi hyi
    obtain rfl := Option.some.inj hz
    rcases d.S i hi with h1 | h1
    · exact h.ap x y rfl hy i h1 hyi
    · have := (h.atq y hy).inn.lt i hyi
      omega
theorem IQ.turnq {w W W' : World} {m n : Nat} {x x' : Pb} {p : Qp} (h : IQ w W m n p (some x)) (d : BDone W W' w.heap.size x x') : IQ w W' m (n + 1) p (some x') := by
  have hx := h.atq x rfl
  have hm : m < W.heap.size := blk_lt h.blk
  have hge := hx.st.ge hx.inn
  refine ⟨d.fr.below h.below hge h.below.size, ?_, h.ge, ?_, ?_, ?_⟩
  · rw [d.fr.block m hm hx.mS, h.blk]
    show some (Obj.cells #[p.own, .pointer (some ⟨x.g, 0, none⟩), p.ref, .pointer (some ⟨x.k, 0, none⟩)] 31 (0, 0)) = some (Obj.cells #[p.own, .pointer (some ⟨x'.g, 0, none⟩), p.ref, .pointer (some ⟨x'.k, 0, none⟩)] 31 (0, 0))
    rw [d.g, d.k]
  · intro y hy
    exact ((h.atp y hy).keep fun i hi => d.fr.block i ((h.atp y hy).inn.lt i hi) (fun hs => h.ap y x hy rfl i hi hs)).more (by omega)
  · intro z hz
    obtain rfl := Option.some.inj hz
    refine ⟨d.inn, d.st, fun hs => ?_, Nat.le_trans d.len (by have := hx.len; omega)⟩
    rcases d.S m hs with h1 | h1
    · exact hx.mS h1
    · omega
  · intro y z hy hz i hyi hi
    obtain rfl := Option.some.inj hz
    rcases d.S i hi with h1 | h1
    · exact h.ap y x hy rfl i hyi h1
    · have := (h.atp y hy).inn.lt i hyi
      omega

theorem bkind (k : Int) : (k == 5) = true ∨ ((k == 5) = false ∧ (k == 6) = true) ∨ ((k == 5) = false ∧ (k == 6) = false ∧ (k == 7) = true) ∨ ((k == 5) = false ∧ (k == 6) = false ∧ (k == 7) = false) := by
  by_cases h1 : k = 5
  · simp [h1]
  by_cases h2 : k = 6
  · simp [h2]
  by_cases h3 : k = 7
  · simp [h3]
  simp [h1, h2, h3]

def BStep (w : World) (m n : Nat) (e : Ending) (w' : World) : Prop := e = .returned (.bool true) ∧ ∃ p' q', IQ w w' m (n + 1) p' q'
/-- A step: the answer is as the document says, and the two places stay two places. -/
theorem bplays_calls (m n : Nat) (p q : Qp) (o : Op5) (hoi : okI (o.d, o.f)) (hn : n + 1 ≤ 8796093022208) (w W : World) (h : IQ w W m n p q) :
    Calls Try.prog 11 #[.pointer (some ⟨m, 0, none⟩), .agg #[.int .i64 o.k, .int .i64 o.a, .int .i64 o.n, .int .i64 o.d, .int .i64 o.f]] W (BStep w m n) := by
  have c0 := blk_cell h.blk 0
  have c1 := blk_cell h.blk 1
  have c2 := blk_cell h.blk 2
  have c3 := blk_cell h.blk 3
  have hp := plc_lt o.a
  have hB := h.below.size
  by_cases h0 : plc o.a = 0
  · cases p with
    | none =>
      have fin : ∀ (e : Ending) (w' : World), (e = .returned (.bool true) ∧ Below W.heap.size W w') → BStep w m n e w' := fun e w' hh => ⟨hh.1, none, q, (h.grow hh.2).more (by omega)⟩
      rcases bkind o.k with a | ⟨a, b⟩ | ⟨a, b, c⟩ | ⟨a, b, c⟩
      · exact (bplaysn_fail0 m o W h0 a c0 c2).mono fin
      · exact (bplaysn_left0 m o W h0 a b c0 c2).mono fin
      · exact (bplaysn_clear0 m o W h0 a b c c0 c2).mono fin
      · exact (bplaysn_idle0 m o W h0 a b c c0 c2).mono fin
    | some x =>
      have hx := h.atp x rfl
      have fin : ∀ (e : Ending) (w' : World), BPlayed w.heap.size x W e w' → BStep w m n e w' := fun e w' ⟨he, x', hd⟩ => ⟨he, some x', q, h.turnp hd⟩
      have hl : x.L.length + 1 ≤ 8796093022208 := by have := hx.len; omega
      rcases bkind o.k with a | ⟨a, b⟩ | ⟨a, b, c⟩ | ⟨a, b, c⟩
      · exact (bplays_fail0 w.heap.size m x o hoi W hx.inn hx.st hB hl h0 a c0 c2 hx.mS).mono fin
      · exact (bplays_left0 w.heap.size m x o hoi W hx.inn hx.st hB hl h0 a b c0 c2 hx.mS).mono fin
      · exact (bplays_clear0 w.heap.size m x o hoi W hx.inn hx.st hB hl h0 a b c c0 c2 hx.mS).mono fin
      · exact (bplays_idle0 w.heap.size m x o hoi W hx.inn hx.st hB hl h0 a b c c0 c2 hx.mS).mono fin
  · have h0 : plc o.a = 1 := by omega
    cases q with
    | none =>
      have fin : ∀ (e : Ending) (w' : World), (e = .returned (.bool true) ∧ Below W.heap.size W w') → BStep w m n e w' := fun e w' hh => ⟨hh.1, p, none, (h.grow hh.2).more (by omega)⟩
      rcases bkind o.k with a | ⟨a, b⟩ | ⟨a, b, c⟩ | ⟨a, b, c⟩
      · exact (bplaysn_fail1 m o W h0 a c1 c3).mono fin
      · exact (bplaysn_left1 m o W h0 a b c1 c3).mono fin
      · exact (bplaysn_clear1 m o W h0 a b c c1 c3).mono fin
      · exact (bplaysn_idle1 m o W h0 a b c c1 c3).mono fin
    | some x =>
      have hx := h.atq x rfl
      have fin : ∀ (e : Ending) (w' : World), BPlayed w.heap.size x W e w' → BStep w m n e w' := fun e w' ⟨he, x', hd⟩ => ⟨he, p, some x', h.turnq hd⟩
      have hl : x.L.length + 1 ≤ 8796093022208 := by have := hx.len; omega
      rcases bkind o.k with a | ⟨a, b⟩ | ⟨a, b, c⟩ | ⟨a, b, c⟩
      · exact (bplays_fail1 w.heap.size m x o hoi W hx.inn hx.st hB hl h0 a c1 c3 hx.mS).mono fin
      · exact (bplays_left1 w.heap.size m x o hoi W hx.inn hx.st hB hl h0 a b c1 c3 hx.mS).mono fin
      · exact (bplays_clear1 w.heap.size m x o hoi W hx.inn hx.st hB hl h0 a b c c1 c3 hx.mS).mono fin
      · exact (bplays_idle1 w.heap.size m x o hoi W hx.inn hx.st hB hl h0 a b c c1 c3 hx.mS).mono fin

/-! ### Two new budgets come to a place -/
theorem pv5 : pivotB .any (opsOf Try.f10 5) 12 = true := by kernel_rfl
theorem pv5' (ops : Array Oper) (h : opsOf Try.f10 5 = ops) : pivotB .any ops 12 = true := h ▸ pv5
theorem pv6 : pivotB .any (opsOf Try.f10 6) 12 = true := by kernel_rfl
theorem pv6' (ops : Array Oper) (h : opsOf Try.f10 6 = ops) : pivotB .any ops 12 = true := h ▸ pv6
theorem setU2 {W : World} {m : Nat} {cs : Array Value} {T : TypeId} (h : W.heap[m]? = some (.cells cs T (0, 0))) (i j : Nat) (u v : Value) :
    ((W.setCell ⟨m, i, none⟩ u).setCell ⟨m, j, none⟩ v).heap[m]? = some (.cells ((cs.setIfInBounds i u).setIfInBounds j v) T (0, 0)) := blk_set (blk_set h i u) j v
theorem otherU2 {W : World} {m i j b : Nat} {u v : Value} (h : b ≠ m) : ((W.setCell ⟨m, i, none⟩ u).setCell ⟨m, j, none⟩ v).heap[b]? = W.heap[b]? :=
  (Below.heap_setCell _ ⟨m, j, none⟩ v b h).trans (Below.heap_setCell W ⟨m, i, none⟩ u b h)
theorem belowU2 {B : Nat} {w W : World} {m i j : Nat} {u v : Value} (h : Below B w W) (hm : B ≤ m) : Below B w ((W.setCell ⟨m, i, none⟩ u).setCell ⟨m, j, none⟩ v) :=
  (h.setCell (p := ⟨m, i, none⟩) hm u).setCell (p := ⟨m, j, none⟩) hm v
theorem QAt.set2 {B m n : Nat} {W : World} {x : Pb} {i j : Nat} {u v : Value} (h : QAt B m n W x) : QAt B m n ((W.setCell ⟨m, i, none⟩ u).setCell ⟨m, j, none⟩ v) x :=
  h.keep fun i hi => otherU2 (fun e => h.mS (e ▸ hi))

theorem IQ.put0 {w W W2 : World} {m n : Nat} {x : Pb} {q : Qp} (h : IQ w W m n none q) (hb : Below W.heap.size W W2) (hi : x.In w.heap.size W2) (st : x.St w.heap.size) (hnew : ∀ i, x.S i → W.heap.size ≤ i) (hl : x.L.length ≤ n) :
    IQ w ((W2.setCell ⟨m, 0, none⟩ (.pointer (some ⟨x.g, 0, none⟩))).setCell ⟨m, 2, none⟩ (.pointer (some ⟨x.k, 0, none⟩))) m n (some x) q := by
  have hm : m < W.heap.size := blk_lt h.blk
  have h2 := h.grow hb
  have mS : ¬ x.S m := fun hs => by have := hnew m hs; omega
  refine ⟨belowU2 h2.below h.ge, setU2 h2.blk 0 2 _ _, h.ge, ?_, fun y hy => (h2.atq y hy).set2, ?_⟩
  · intro z hz
    obtain rfl := Option.some.inj hz
    exact QAt.set2 ⟨hi, st, mS, hl⟩
  · intro z y hz hy i hzi hyi
    obtain rfl := Option.some.inj hz
    have h3 := hnew i hzi
    have h4 := (h.atq y hy).inn.lt i hyi
    omega
theorem IQ.put1 {w W W2 : World} {m n : Nat} {x : Pb} {p : Qp} (h : IQ w W m n p none) (hb : Below W.heap.size W W2) (hi : x.In w.heap.size W2) (st : x.St w.heap.size) (hnew : ∀ i, x.S i → W.heap.size ≤ i) (hl : x.L.length ≤ n) :
    IQ w ((W2.setCell ⟨m, 1, none⟩ (.pointer (some ⟨x.g, 0, none⟩))).setCell ⟨m, 3, none⟩ (.pointer (some ⟨x.k, 0, none⟩))) m n p (some x) := by
  have hm : m < W.heap.size := blk_lt h.blk
  have h2 := h.grow hb
  have mS : ¬ x.S m := fun hs => by have := hnew m hs; omega
  refine ⟨belowU2 h2.below h.ge, setU2 h2.blk 1 3 _ _, h.ge, fun y hy => (h2.atp y hy).set2, ?_, ?_⟩
  · intro z hz
    obtain rfl := Option.some.inj hz
    exact QAt.set2 ⟨hi, st, mS, hl⟩
  · intro y z hy hz i hyi hzi
    obtain rfl := Option.some.inj hz
    have h3 := hnew i hzi
    have h4 := (h.atp y hy).inn.lt i hyi
    omega
theorem IQ.nil0 {w W W2 : World} {m n : Nat} {q : Qp} (h : IQ w W m n none q) (hb : Below W.heap.size W W2) :
    IQ w ((W2.setCell ⟨m, 0, none⟩ (.pointer none)).setCell ⟨m, 2, none⟩ (.pointer none)) m n none q :=
  ⟨belowU2 (h.grow hb).below h.ge, setU2 (h.grow hb).blk 0 2 _ _, h.ge, (fun x hx => by cases hx), fun y hy => ((h.grow hb).atq y hy).set2, (fun x y hx => by cases hx)⟩
theorem IQ.nil1 {w W W2 : World} {m n : Nat} {p : Qp} (h : IQ w W m n p none) (hb : Below W.heap.size W W2) :
    IQ w ((W2.setCell ⟨m, 1, none⟩ (.pointer none)).setCell ⟨m, 3, none⟩ (.pointer none)) m n p none :=
  ⟨belowU2 (h.grow hb).below h.ge, setU2 (h.grow hb).blk 1 3 _ _, h.ge, fun y hy => ((h.grow hb).atp y hy).set2, (fun x hx => by cases hx), (fun x y hx hy => by cases hy)⟩

/-- A pair of new budgets. -/
def Pb.fresh (g r k : Nat) (t b m : Int) : Pb := ⟨g, r, k, none, 0, t, b, m, fun _ => none, []⟩
theorem Pb.fresh_st {B g r k : Nat} {t b m : Int} (h : okBud t b m) (hg : B ≤ g) (hr : B ≤ r) (hk : B ≤ k) (gk : g ≠ k) (rk : r ≠ k) : (Pb.fresh g r k t b m).St B :=
  ⟨(fun k s e => by cases e), h, Lk.none (by have := h.1; show 0 ≤ t; omega), hg, hr, hk, gk, rk, (fun q hq => by cases hq)⟩
theorem Pb.fresh_new {B g r k : Nat} {t b m : Int} (hg : B ≤ g) (hr : B ≤ r) (hk : B ≤ k) : ∀ i, (Pb.fresh g r k t b m).S i → B ≤ i := by
  intro i hi
  rcases hi with rfl | rfl | rfl | hi
  · exact hg
  · exact hr
  · exact hk
  · cases hi

/-! ### A script that came in -/
section
variable {H : Type} {enc : TypeId × Value → H} {W : World} {sp : Nat → Bool} {held : Bool}
theorem int_wf {m : Nat} {v : Value} {o : Option (DataW H × List MemPlace)} (h : DataW.trod enc Try.prog W 0 sp held m 3 [v] = o) (ho : o.isSome = true) : ∃ n : Int, v = .int .i64 n ∧ (Lit.int .i64 n).wf = true := by
  obtain ⟨y, rfl⟩ := Option.isSome_iff_exists.1 ho
  obtain ⟨n, e, -, hw⟩ := DataW.trod_int Try.underlying3 h
  exact ⟨n, by simpa using e, hw⟩

set_option maxRecDepth 100000 in
theorem op_of {m : Nat} {cs : List Value} {x : DataW H × List MemPlace} (h : DataW.trod enc Try.prog W 0 sp held m 37 cs = some x) (hl : cs.length = 5) : ∃ o : Op5, cs = o.cells ∧ okI (o.d, o.f) := by
  have c3 : Try.prog.cellsOf 3 = 1 := by kernel_rfl
  have c35 : Try.prog.cellsOf 35 = 2 := by kernel_rfl
  obtain ⟨xs, m1, -, -, -, hxl, hf⟩ := DataW.trod_struct Try.underlying37 h
  match cs, hl with
  | [v0, v1, v2, v3, v4], _ =>
  have hx : ∀ i, i < 4 → (xs[i]?).isSome = true := fun i hi => by
    have : xs.length = 4 := hxl
    simp [List.getElem?_eq_getElem (show i < xs.length by omega)]
  have g0 : DataW.trod enc Try.prog W 0 sp held m1 3 (([v0, v1, v2, v3, v4].drop 0).take (Try.prog.cellsOf 3)) = xs[0]? := hf 0 _ rfl
  rw [c3] at g0
  have g1 : DataW.trod enc Try.prog W 0 sp held m1 3 (([v0, v1, v2, v3, v4].drop 1).take (Try.prog.cellsOf 3)) = xs[1]? := hf 1 _ rfl
  rw [c3] at g1
  have g2 : DataW.trod enc Try.prog W 0 sp held m1 3 (([v0, v1, v2, v3, v4].drop 2).take (Try.prog.cellsOf 3)) = xs[2]? := hf 2 _ rfl
  rw [c3] at g2
  have g3 : DataW.trod enc Try.prog W 0 sp held m1 35 (([v0, v1, v2, v3, v4].drop 3).take (Try.prog.cellsOf 35)) = xs[3]? := hf 3 _ rfl
  rw [c35] at g3
  obtain ⟨n0, rfl, -⟩ := int_wf g0 (hx 0 (by omega))
  obtain ⟨n1, rfl, -⟩ := int_wf g1 (hx 1 (by omega))
  obtain ⟨n2, rfl, -⟩ := int_wf g2 (hx 2 (by omega))
  obtain ⟨y, hy⟩ := Option.isSome_iff_exists.1 (hx 3 (by omega))
  rw [hy] at g3
  obtain ⟨ys, m2, -, -, -, hyl, hk⟩ := DataW.trod_struct Try.underlying35 g3
  have hy2 : ∀ i, i < 2 → (ys[i]?).isSome = true := fun i hi => by
    have : ys.length = 2 := hyl
    simp [List.getElem?_eq_getElem (show i < ys.length by omega)]
  have k0 : DataW.trod enc Try.prog W 0 sp held m2 3 (([v3, v4].drop 0).take (Try.prog.cellsOf 3)) = ys[0]? := hk 0 _ rfl
  rw [c3] at k0
  have k1 : DataW.trod enc Try.prog W 0 sp held m2 3 (([v3, v4].drop 1).take (Try.prog.cellsOf 3)) = ys[1]? := hk 1 _ rfl
  rw [c3] at k1
  obtain ⟨n3, rfl, f3⟩ := int_wf k0 (hy2 0 (by omega))
  obtain ⟨n4, rfl, f4⟩ := int_wf k1 (hy2 1 (by omega))
  exact ⟨⟨n0, n1, n2, n3, n4⟩, rfl, f3, f4⟩

theorem build_ops (p : Nat → Op5 → Prop) : ∀ (n : Nat), (∀ i, i < n → ∃ x, p i x) → ∃ l : List Op5, l.length = n ∧ ∀ i x, l[i]? = some x → p i x := by
  intro n
  induction n with
  | zero => intro _; exact ⟨[], rfl, fun i x h => by simp at h⟩
  | succ n ih =>
    intro h
    obtain ⟨l, hl, hp⟩ := ih fun i hi => h i (by omega)
    obtain ⟨x, hx⟩ := h n (by omega)
    refine ⟨l ++ [x], by simp [hl], fun i y hy => ?_⟩
    rw [List.getElem?_append] at hy
    by_cases c : i < l.length
    · rw [if_pos c] at hy; exact hp i y hy
    · rw [if_neg c] at hy
      have hi : i = n := by
        rcases Nat.lt_or_ge (i - l.length) 1 with h1 | h1
        · omega
        · rw [List.getElem?_eq_none (by simpa using h1)] at hy; cases hy
      subst hi
      rw [hl, Nat.sub_self] at hy
      obtain rfl := Option.some.inj hy
      exact hx

set_option maxRecDepth 100000 in
theorem open_script {a : Option Addr} {len cap m : Nat} {x : DataW H × List MemPlace} (hf : DataW.trod enc Try.prog W 0 (fun _ => true) held m 24 [.slice a len cap] = some x) :
    ∃ l : List Op5, ROps W a l ∧ l.length ≤ cap ∧ len = l.length ∧ (∀ o ∈ l, okI (o.d, o.f)) ∧ (cap = 0 ∨ ∃ E F : List (DataW H), x.1 = .slice E F ∧ E.length + F.length = cap) := by
  have c37 : Try.prog.cellsOf 37 = 5 := by kernel_rfl
  rcases Go.Deep.open_slice Try.underlying24 hf with ⟨hcs, _⟩ | ⟨y, ln, c, m, n, D, Pl, hcs, _, hl, hm, hmm, hx, hi⟩
  · simp at hcs
    obtain ⟨rfl, rfl, rfl⟩ := hcs
    exact ⟨[], ⟨rfl, by simp, fun h => absurd h (by simp)⟩, Nat.le_refl _, rfl, (fun o ho => by cases ho), .inl rfl⟩
  · simp at hcs
    obtain ⟨rfl, rfl, rfl⟩ := hcs
    have hm' : m = cap := by simpa using hmm
    rw [c37] at hi
    obtain ⟨l, hll, hp⟩ := build_ops (fun i z => okI (z.d, z.f) ∧ ∀ k u, z.cells[k]? = some u → W.cell? (y.add (i * 5 + k)) = some u) len (fun i hil => by
      obtain ⟨cs, h1, h2⟩ := hi i (by omega)
      obtain ⟨_, hlen, hat⟩ := World.cells?_some h1
      obtain ⟨z, rfl, hz⟩ := op_of h2 hlen
      refine ⟨z, hz, fun k u hu => ?_⟩
      have hk : k < 5 := by
        have := (List.getElem?_eq_some_iff.1 hu).1
        simpa [Op5.cells] using this
      rw [← addr_add_add, hat k hk, hu])
    refine ⟨l, ⟨rfl, by unfold maxLen at hm; omega, fun _ => ⟨y, rfl, fun j p hj => ?_⟩⟩, by omega, hll.symm, fun o ho => ?_, .inr ⟨_, _, by rw [hx], by simp; omega⟩⟩
    · obtain ⟨_, h2⟩ := hp j p hj
      exact ⟨p.cells, rfl, rfl, h2⟩
    · obtain ⟨i, hi', e⟩ := List.getElem_of_mem ho
      exact (hp i o (by rw [List.getElem?_eq_getElem hi', e])).1
end

end Go.Proofs.Ythajekcjgkidhaa.Q
