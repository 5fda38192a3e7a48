/- A pair of budgets, and what a call on either leaves of it. No condition. -/
import Derived.Test.YthajekcjgkidhaaProg
import Derived.Below
import Derived.Deep.Draws
import Derived.Deep.AppendLies
import Derived.Maps.AppendAt
import Derived.OwnWalk
import Derived.Laws.BytesArg
import Derived.Laws.MakeOwn
import Derived.Laws.OwnMore
import Derived.Deep.OwnRows
import Derived.Tactics
import Derived.Lib.ConvBytes
import Derived.Laws.Slices
import Derived.WalkKit
import Derived.KernelRfl
import Derived.RowKit3
import Derived.Deep.LoopGhost
import Derived.Deep.QuietTactic
import Derived.BigQuiet
import Derived.WideLaws
import Derived.Deep.DeepCutAuto
import Derived.Deep.CutBlock
import Derived.Deep.RegionHeld3
import Derived.Laws.Rows
import Derived.Lib.AppendStr
import Derived.ArgAppend
import Derived.Laws.IdiomCopy
import Derived.OrdersHeld
import Derived.Laws.BitsLemmas
import Derived.RowKit
import Derived.Test.YthajekcjgkidhaaWWords
import Derived.Test.YthajekcjgkidhaaWLast
import Derived.Test.YthajekcjgkidhaaWTab
import Derived.Test.YthajekcjgkidhaaWFour
import Derived.Test.YthajekcjgkidhaaWQPut
import Derived.Test.YthajekcjgkidhaaWApart
import Derived.Test.YthajekcjgkidhaaWArr
import Derived.Test.YthajekcjgkidhaaWZeros
import Derived.Test.YthajekcjgkidhaaWFoot
import Derived.Test.YthajekcjgkidhaaWKept
import Derived.Test.YthajekcjgkidhaaWShare
import Derived.Test.YthajekcjgkidhaaWN
import Derived.Test.YthajekcjgkidhaaWFootNe
import Derived.Test.YthajekcjgkidhaaWAt
import Derived.Test.YthajekcjgkidhaaWEqStruct
import Derived.Test.YthajekcjgkidhaaWRepsOne
import Derived.Test.YthajekcjgkidhaaWInv
import Derived.Test.YthajekcjgkidhaaWInvWords
import Derived.Test.YthajekcjgkidhaaWGuard
import Derived.Test.YthajekcjgkidhaaWNEv
import Derived.Test.YthajekcjgkidhaaWMore
import Derived.Test.YthajekcjgkidhaaLocks
import Derived.Conc.MuLone
import Derived.Test.YthajekcjgkidhaaU3
set_option linter.unusedVariables false
set_option linter.unusedSimpArgs false
namespace Go.Proofs.Ythajekcjgkidhaa.Q
open Go.RowKit Go.Proofs.YthajekcjgkidhaaW.PrintWords Go.Proofs.YthajekcjgkidhaaW.PrintLast Go.Proofs.YthajekcjgkidhaaW.PrintMore
open Go.MuLone Go.FM Go.Plan

/-- The program's map and the document's list say the same. -/
def Lk (t b m : Int) (F : Fm) (L : List It) : Prop := ∀ it, F it = (if cnt it L = 0 then none else some ((cnt it L : Int), waitF b m (cnt it L))) ∧ (cnt it L : Int) ≤ t
theorem Lk.getD {t b m : Int} {F : Fm} {L : List It} (h : Lk t b m F L) (it : It) : (F it).getD (0, b) = ((cnt it L : Int), waitF b m (cnt it L)) := by
  rw [(h it).1]
  by_cases c : cnt it L = 0
  · rw [if_pos c, c]; rfl
  · rw [if_neg c]; rfl
theorem Lk.getD0 {t b m : Int} {F : Fm} {L : List It} (h : Lk t b m F L) (it : It) : ((F it).getD (0, 0)).1 = (cnt it L : Int) := by
  rw [(h it).1]
  by_cases c : cnt it L = 0
  · rw [if_pos c, c]; rfl
  · rw [if_neg c]; rfl
theorem Lk.none {t b m : Int} (ht : 0 ≤ t) : Lk t b m (fun _ => none) [] := fun it => ⟨rfl, ht⟩
theorem cnt_one (z x : It) : cnt z [x] = if x = z then 1 else 0 := by simp [cnt]
theorem Lk.push {t b m : Int} {F : Fm} {L : List It} (h : Lk t b m F L) (x : It) (hc : (cnt x L : Int) < t) (F' : Fm) (hx : F' x = some ((cnt x L : Int) + 1, min (2 * waitF b m (cnt x L)) m)) (ho : ∀ z, z ≠ x → F' z = F z) : Lk t b m F' (L ++ [x]) := by
  intro z
  rw [cnt_append, cnt_one]
  by_cases e : x = z
  · subst e
    rw [if_pos rfl, if_neg (by omega), hx]
    exact ⟨rfl, by omega⟩
  · rw [if_neg e, Nat.add_zero, ho z (fun e' => e e'.symm)]
    exact h z
theorem Lk.drop {t b m : Int} {F : Fm} {L : List It} (h : Lk t b m F L) (ht : 0 ≤ t) (x : It) : Lk t b m (fun z => if z = x then Option.none else F z) (rem x L) := by
  intro z
  by_cases e : z = x
  · subst e
    rw [cnt_rem_same]
    exact ⟨if_pos rfl, ht⟩
  · rw [cnt_rem_other e]
    exact ⟨(if_neg e).trans (h z).1, (h z).2⟩
/-- Fail on either side answers the same, and both say the same behind it. -/
theorem Lk.fail {t b m : Int} {F : Fm} {L : List It} (h : Lk t b m F L) (x : It) (now : Int) : (failF t b m F x now).2 = (failR t b m L x now).2 ∧ Lk t b m (failF t b m F x now).1 (failR t b m L x now).1 := by
  unfold failF failR failV
  rw [h.getD x]
  dsimp only
  by_cases c1 : now < 0 ∨ 9007199254740992 < now
  · rw [if_pos c1, if_pos c1]; exact ⟨rfl, h⟩
  rw [if_neg c1, if_neg c1]
  by_cases c2 : (cnt x L : Int) = t
  · rw [if_pos c2, if_pos c2]; exact ⟨rfl, h⟩
  rw [if_neg c2, if_neg c2]
  have hc : (cnt x L : Int) < t := by have := (h x).2; omega
  by_cases c3 : (cnt x L : Int) + 1 = t
  · rw [if_pos c3, if_pos c3]
    exact ⟨rfl, h.push x hc _ (if_pos rfl) (fun z hz => if_neg hz)⟩
  · rw [if_neg c3, if_neg c3]
    exact ⟨rfl, h.push x hc _ (if_pos rfl) (fun z hz => if_neg hz)⟩
theorem failR_len (t b m : Int) (L : List It) (x : It) (now : Int) : (failR t b m L x now).1.length ≤ L.length + 1 := by
  unfold failR
  split
  · simp
  split
  · simp
  · simp

/-- Blocks outside S are as they were; new ones are there. -/
structure But (w w' : World) (S : Nat → Prop) : Prop where
  os : w'.os = w.os
  tape : w'.tape = w.tape
  output : w'.output = w.output
  size : w.heap.size ≤ w'.heap.size
  block : ∀ i, i < w.heap.size → ¬ S i → w'.heap[i]? = w.heap[i]?
theorem But.refl (w : World) (S : Nat → Prop) : But w w S := ⟨rfl, rfl, rfl, Nat.le_refl _, fun _ _ _ => rfl⟩
theorem But.trans {w W W' : World} {S : Nat → Prop} (h : But w W S) (k : But W W' S) : But w W' S :=
  ⟨k.os.trans h.os, k.tape.trans h.tape, k.output.trans h.output, Nat.le_trans h.size k.size, fun i hi hs => (k.block i (Nat.lt_of_lt_of_le hi h.size) hs).trans (h.block i hi hs)⟩
theorem But.of_below {w w' : World} {S : Nat → Prop} (h : Below w.heap.size w w') : But w w' S := ⟨h.os, h.tape, h.output, h.size, fun i hi _ => h.block i hi⟩
theorem But.of2 {w w' : World} {g k : Nat} {S : Nat → Prop} (h : But2 w w' g k) (hg : S g) (hk : S k) : But w w' S :=
  ⟨h.os, h.tape, h.output, h.size, fun i hi hs => h.block i hi (fun e => hs (e ▸ hg)) (fun e => hs (e ▸ hk))⟩
theorem But.ofV {w w' : World} {k : Nat} {A : Option Nat} {S : Nat → Prop} (h : FrV w w' k A) (hk : S k) (hA : ∀ g, A = some g → S g) : But w w' S :=
  ⟨h.os, h.tape, h.output, h.size, fun i hi hs => h.block i hi (fun e => hs (e ▸ hk)) (fun e => hs (hA i e))⟩
theorem But.drew {w W : World} {S : Nat → Prop} (h : But w W S) : But w W.drew S := ⟨h.os, h.tape, h.output, h.size, h.block⟩
theorem But.drewN {w W : World} {S : Nat → Prop} (h : But w W S) (n : Nat) : But w (W.drewN n) S := ⟨h.os, h.tape, h.output, h.size, h.block⟩
theorem But.below {B : Nat} {w W W' : World} {S : Nat → Prop} (h : Below B w W) (hb : But W W' S) (hS : ∀ i, S i → B ≤ i) (hB : B ≤ W.heap.size) : Below B w W' :=
  ⟨hb.os.trans h.os, hb.tape.trans h.tape, hb.output.trans h.output, Nat.le_trans h.size hb.size, fun i hi => (hb.block i (by omega) (fun s => by have := hS i s; omega)).trans (h.block i hi)⟩

/-- A pair of budgets: the program's at g, r, the document's at k, its list in A's row. -/
structure Pb where
  g : Nat
  r : Nat
  k : Nat
  A : Option Addr
  cap : Nat
  t : Int
  b : Int
  m : Int
  F : Fm
  L : List It
def Pb.S (x : Pb) (i : Nat) : Prop := i = x.g ∨ i = x.r ∨ i = x.k ∨ rowB x.A = some i
structure Pb.St (B : Nat) (x : Pb) : Prop where
  good : GoodF x.t x.F
  ok : okBud x.t x.b x.m
  lk : Lk x.t x.b x.m x.F x.L
  bg : B ≤ x.g
  br : B ≤ x.r
  bk : B ≤ x.k
  gk : x.g ≠ x.k
  rk : x.r ≠ x.k
  row : ∀ q, rowB x.A = some q → q ≠ x.g ∧ q ≠ x.r
structure Pb.In (B : Nat) (W : World) (x : Pb) : Prop where
  u : IsU W x.g x.r x.t x.b x.m x.F
  v : IsV W B x.k x.A x.cap x.t x.b x.m x.L
theorem Pb.In.keep {B : Nat} {W W' : World} {x : Pb} (h : x.In B W) (hb : ∀ i, x.S i → W'.heap[i]? = W.heap[i]?) : x.In B W' :=
  ⟨⟨(hb x.g (.inl rfl)).trans h.u.blk, h.u.fm.below (hb x.r (.inr (.inl rfl))), h.u.gr⟩, h.v.keep (hb x.k (.inr (.inr (.inl rfl)))) (fun g hg => hb g (.inr (.inr (.inr hg))))⟩
theorem Pb.In.lt {B : Nat} {W : World} {x : Pb} (h : x.In B W) : ∀ i, x.S i → i < W.heap.size := by
  intro i hi
  rcases hi with rfl | rfl | rfl | hi
  · exact blk_lt h.u.blk
  · exact h.u.fm.lt
  · exact h.v.klt
  · exact (h.v.rlt i hi).2
theorem Pb.St.ge {B : Nat} {W : World} {x : Pb} (h : x.In B W) (s : x.St B) : ∀ i, x.S i → B ≤ i := by
  intro i hi
  rcases hi with rfl | rfl | rfl | hi
  · exact s.bg
  · exact s.br
  · exact s.bk
  · exact (h.v.rlt i hi).1
theorem Pb.In.below {B : Nat} {W W' : World} {x : Pb} (h : x.In B W) (hb : Below W.heap.size W W') : x.In B W' := h.keep fun i hi => hb.block i (h.lt i hi)

/-- What a step of plays sees: the pair, its own copy of the step at c, the two pointers of the place. -/
structure PB (w W : World) (B m ix c : Nat) (x : Pb) (o : Op5) : Prop where
  inn : x.In B W
  bx : W.heap[c]? = some (.cells #[.int .i64 o.k, .int .i64 o.a, .int .i64 o.n, .int .i64 o.d, .int .i64 o.f] 37 (0, 0))
  a0 : W.cell? ⟨m, ix, none⟩ = some (.pointer (some ⟨x.g, 0, none⟩))
  a2 : W.cell? ⟨m, 2 + ix, none⟩ = some (.pointer (some ⟨x.k, 0, none⟩))
  fr : But w W x.S
  cS : ¬ x.S c
  mS : ¬ x.S m
theorem PB.drewN {w W : World} {B m ix c : Nat} {x : Pb} {o : Op5} (h : PB w W B m ix c x o) (n : Nat) : PB w (W.drewN n) B m ix c x o :=
  ⟨h.inn.keep fun _ _ => rfl, h.bx, h.a0, h.a2, h.fr.drewN n, h.cS, h.mS⟩
theorem PB.drew {w W : World} {B m ix c : Nat} {x : Pb} {o : Op5} (h : PB w W B m ix c x o) : PB w W.drew B m ix c x o :=
  ⟨h.inn.keep fun _ _ => rfl, h.bx, h.a0, h.a2, h.fr.drew, h.cS, h.mS⟩
theorem PB.start {w : World} {B m ix : Nat} {x : Pb} {o : Op5} (h : x.In B w) (h0 : w.cell? ⟨m, ix, none⟩ = some (.pointer (some ⟨x.g, 0, none⟩))) (h2 : w.cell? ⟨m, 2 + ix, none⟩ = some (.pointer (some ⟨x.k, 0, none⟩))) (hm : ¬ x.S m) :
    PB w (w.alloc (.cells #[.int .i64 o.k, .int .i64 o.a, .int .i64 o.n, .int .i64 o.d, .int .i64 o.f] 37)) B m ix w.heap.size x o :=
  have b0 := (Below.refl w.heap.size w).alloc (Nat.le_refl _) (.cells #[.int .i64 o.k, .int .i64 o.a, .int .i64 o.n, .int .i64 o.d, .int .i64 o.f] 37)
  ⟨h.below b0, blk_new w _, pw_cell_below b0 h0, pw_cell_below b0 h2, But.of_below b0, fun hs => by have := h.lt _ hs; omega, hm⟩
theorem cell_same {W W' : World} {m i : Nat} (h : W'.heap[m]? = W.heap[m]?) : W'.cell? ⟨m, i, none⟩ = W.cell? ⟨m, i, none⟩ := by
  unfold World.cell?
  rw [h]
/-- Behind a call on the program's budget. -/
theorem PB.own {w W W' : World} {B m ix c : Nat} {x : Pb} {o : Op5} (h : PB w W B m ix c x o) (s : x.St B) {F' : Fm} (hu : IsU W' x.g x.r x.t x.b x.m F') (hb : But2 W W' x.g x.r) : PB w W' B m ix c { x with F := F' } o := by
  have hm : m < W.heap.size := by have := World.block_lt_of_cell? W _ h.a0; exact this
  have hme : W'.heap[m]? = W.heap[m]? := hb.block m hm (fun e => h.mS (.inl e)) (fun e => h.mS (.inr (.inl e)))
  refine ⟨⟨hu, h.inn.v.keep (hb.block x.k h.inn.v.klt (Ne.symm s.gk) (Ne.symm s.rk)) fun g hg => hb.block g (h.inn.v.rlt g hg).2 (s.row g hg).1 (s.row g hg).2⟩, ?_, ?_, ?_, ?_, h.cS, h.mS⟩
  · exact (hb.block c (blk_lt h.bx) (fun e => h.cS (.inl e)) (fun e => h.cS (.inr (.inl e)))).trans h.bx
  · rw [cell_same hme]; exact h.a0
  · rw [cell_same hme]; exact h.a2
  · exact h.fr.trans (But.of2 hb (.inl rfl) (.inr (.inl rfl)))

/-- What a step leaves of a pair. -/
structure BDone (w W : World) (B : Nat) (x x' : Pb) : Prop where
  inn : x'.In B W
  st : x'.St B
  fr : But w W x.S
  g : x'.g = x.g
  r : x'.r = x.r
  k : x'.k = x.k
  row : rowB x'.A = rowB x.A ∨ rowB x'.A = none ∨ ∃ q, rowB x'.A = some q ∧ w.heap.size ≤ q
  len : x'.L.length ≤ x.L.length + 1
def BPlayed (B : Nat) (x : Pb) (w : World) (e : Ending) (w' : World) : Prop := e = .returned (.bool true) ∧ ∃ x', BDone w w' B x x'

/-- Behind the call on the document's budget. -/
theorem PB.done {w W W' : World} {B m ix c : Nat} {x x0 : Pb} {o : Op5} (h : PB w W B m ix c x o) (s0 : x0.St B) (e0 : x.g = x0.g ∧ x.r = x0.r ∧ x.k = x0.k ∧ x.A = x0.A ∧ x.L = x0.L ∧ x.t = x0.t ∧ x.b = x0.b ∧ x.m = x0.m) (hg : GoodF x.t x.F) {A' : Option Addr} {cap' : Nat} {L' : List It}
    (hv : IsV W' B x.k A' cap' x.t x.b x.m L') (hf : FrV W W' x.k (rowB x.A)) (hr : rowB A' = rowB x.A ∨ rowB A' = none ∨ ∃ q, rowB A' = some q ∧ W.heap.size ≤ q) (hl : Lk x.t x.b x.m x.F L') (hn : L'.length ≤ x.L.length + 1) :
    ∃ x', BDone w W' B x0 x' := by
  obtain ⟨e1, e2, e3, e4, e5, e6, e7, e8⟩ := e0
  have hS : x.S = x0.S := by funext i; unfold Pb.S; rw [e1, e2, e3, e4]
  have hrow : ∀ q, rowB A' = some q → q ≠ x.g ∧ q ≠ x.r := by
    intro q hq
    rcases hr with e | e | ⟨q', e, hle⟩
    · rw [e, e4] at hq
      rw [e1, e2]
      exact s0.row q hq
    · rw [e] at hq; cases hq
    · rw [e] at hq
      obtain rfl := Option.some.inj hq
      have h1 := h.inn.lt x.g (.inl rfl)
      have h2 := h.inn.lt x.r (.inr (.inl rfl))
      exact ⟨by omega, by omega⟩
  refine ⟨{ x with A := A', cap := cap', L := L' }, ⟨⟨?_, ?_, ?_⟩, hv⟩, ⟨hg, ?_, hl, ?_, ?_, ?_, ?_, ?_, hrow⟩, ?_, e1, e2, e3, ?_, by rw [← e5]; exact hn⟩
  · refine (hf.block x.g (h.inn.lt _ (.inl rfl)) (by rw [e1, e3]; exact s0.gk) (fun e => (s0.row x.g (by rw [← e4]; exact e)).1 e1)).trans h.inn.u.blk
  · exact h.inn.u.fm.below (hf.block x.r (h.inn.lt _ (.inr (.inl rfl))) (by rw [e2, e3]; exact s0.rk) (fun e => (s0.row x.r (by rw [← e4]; exact e)).2 e2))
  · exact h.inn.u.gr
  · rw [e6, e7, e8]; exact s0.ok
  · show B ≤ x.g; rw [e1]; exact s0.bg
  · show B ≤ x.r; rw [e2]; exact s0.br
  · show B ≤ x.k; rw [e3]; exact s0.bk
  · show x.g ≠ x.k; rw [e1, e3]; exact s0.gk
  · show x.r ≠ x.k; rw [e2, e3]; exact s0.rk
  · rw [← hS]
    exact h.fr.trans (But.ofV hf (.inr (.inr (.inl rfl))) (fun g hg => .inr (.inr (.inr hg))))
  · rcases hr with e | e | ⟨q', e, hle⟩
    · exact .inl (by rw [← e4]; exact e)
    · exact .inr (.inl e)
    · exact .inr (.inr ⟨q', e, Nat.le_trans h.fr.size hle⟩)

end Go.Proofs.Ythajekcjgkidhaa.Q
