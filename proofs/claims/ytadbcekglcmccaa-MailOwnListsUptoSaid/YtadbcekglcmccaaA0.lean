/- Rows of a call's own; letters; links; contracts of granarylaw13.num, mail.addressOK and mail.linkOf. No condition. -/
import Derived.Test.YtadbcekglcmccaaProg
import Derived.Below
import Derived.Deep.Draws
import Derived.Deep.AppendLies
import Derived.Maps.AppendAt
import Derived.OwnWalk
import Derived.Laws.BytesArg
import Derived.Laws.MakeOwn
import Derived.Laws.OwnMore
import Derived.Deep.OwnRows
import Derived.Tactics
import Derived.Lib.ConvBytes
import Derived.Laws.Slices
import Derived.WalkKit
import Derived.KernelRfl
import Derived.RowKit3
import Derived.Deep.LoopGhost
import Derived.Deep.QuietTactic
import Derived.BigQuiet
import Derived.WideLaws
import Derived.Deep.DeepCutAuto
import Derived.Deep.CutBlock
import Derived.Deep.RegionHeld3
import Derived.Laws.Rows
import Derived.Lib.AppendStr
import Derived.ArgAppend
import Derived.Laws.IdiomCopy
import Derived.OrdersHeld
import Derived.Laws.BitsLemmas
import Derived.RowKit
import Derived.Test.YtadbcekglcmccaaWWords
import Derived.Test.YtadbcekglcmccaaWLast
import Derived.Test.YtadbcekglcmccaaWTab
import Derived.Test.YtadbcekglcmccaaWFour
import Derived.Test.YtadbcekglcmccaaWQPut
import Derived.Test.YtadbcekglcmccaaWApart
import Derived.Test.YtadbcekglcmccaaWArr
import Derived.Test.YtadbcekglcmccaaWZeros
import Derived.Test.YtadbcekglcmccaaWFoot
import Derived.Test.YtadbcekglcmccaaWKept
import Derived.Test.YtadbcekglcmccaaWShare
import Derived.Test.YtadbcekglcmccaaWN
import Derived.Test.YtadbcekglcmccaaWFootNe
import Derived.Test.YtadbcekglcmccaaWAt
import Derived.Test.YtadbcekglcmccaaWEqStruct
import Derived.Test.YtadbcekglcmccaaWRepsOne
import Derived.Test.YtadbcekglcmccaaWInv
import Derived.Test.YtadbcekglcmccaaWInvWords
import Derived.Test.YtadbcekglcmccaaWGuard
import Derived.Test.YtadbcekglcmccaaWNEv
import Derived.Test.YtadbcekglcmccaaWMore
import Derived.Test.YtadbcekglcmccaaR
import Derived.Test.YtadbcekglcmccaaM
set_option linter.unusedVariables false
set_option linter.unusedSimpArgs false
namespace Go.Proofs.Ytadbcekglcmccaa.Q
open Go.RowKit Go.Proofs.YtadbcekglcmccaaW.PrintWords Go.Proofs.YtadbcekglcmccaaW.PrintLast Go.Proofs.YtadbcekglcmccaaW.PrintMore
open Go.FM Go.Plan

section
variable {P : Program} {ops : Array Oper}
/-- A quiet walk in one world is a still one. -/
theorem still_of_quiet {w0 : World} {Q : Act → Prop} : ∀ (l : List Oper) (a : Act), wpQuiet P ops (fun w' => w' = w0) Q l a → wpStill P ops w0 Q l a
  | [], _, h => h
  | o :: rest, a, h => by
    unfold wpStill
    unfold wpQuiet at h
    by_cases c : Region.wanted o (yielded ops a.tmps)
    · rw [if_pos c] at h ⊢
      obtain ⟨v, h1, h2⟩ := h
      have h3 := h1 w0 rfl
      unfold Oper.quietAt at h3
      unfold Oper.still
      generalize (execOp a.eval o).run P w0 = r at h3
      unfold Oper.quietUpon at h3
      unfold Oper.stillUpon
      split at h3
      · obtain ⟨rfl, rfl⟩ := h3
        exact ⟨rfl, still_of_quiet rest _ h2⟩
      · obtain ⟨rfl, rfl⟩ := h3
        exact ⟨rfl, still_of_quiet rest _ h2⟩
      · obtain ⟨rfl, h4⟩ := h3
        exact ⟨rfl, v, h4, still_of_quiet rest _ h2⟩
      · exact h3.elim
    · rw [if_neg c] at h ⊢
      exact still_of_quiet rest _ h
end

/-! ### Rows of a call's own -/
section
variable {α : Type} {c : α → List Value} {sz : Nat}
theorem rc_length (hsz : ∀ x, (c x).length = sz) (L : List α) : (L.flatMap c).length = L.length * sz := by
  induction L with
  | nil => simp
  | cons x l ih => simp [hsz, ih, Nat.add_mul]; omega
theorem rc_at (hsz : ∀ x, (c x).length = sz) : ∀ (L : List α) (i : Nat) (x : α), L[i]? = some x → ∀ k, k < sz → (L.flatMap c)[i * sz + k]? = (c x)[k]? := by
  intro L
  induction L with
  | nil => intro i x h; simp at h
  | cons y l ih =>
    intro i x h k hk
    rw [List.flatMap_cons]
    cases i with
    | zero =>
      simp only [List.getElem?_cons_zero, Option.some.injEq] at h
      subst h
      rw [Nat.zero_mul, Nat.zero_add, List.getElem?_append_left (by rw [hsz]; exact hk)]
    | succ i =>
      rw [List.getElem?_cons_succ] at h
      rw [List.getElem?_append_right (by rw [hsz, Nat.add_mul]; omega), hsz]
      rw [show (i + 1) * sz + k - sz = i * sz + k by rw [Nat.add_mul]; omega]
      exact ih i x h k hk
theorem rc_take (hsz : ∀ x, (c x).length = sz) : ∀ (L : List α) (n : Nat), (L.flatMap c).take (n * sz) = (L.take n).flatMap c := by
  intro L
  induction L with
  | nil => intro n; simp
  | cons y l ih =>
    intro n
    cases n with
    | zero => simp
    | succ n =>
      rw [List.flatMap_cons, List.take_succ_cons, List.flatMap_cons, List.take_append, hsz, List.take_of_length_le (by rw [hsz, Nat.add_mul]; omega)]
      rw [show (n + 1) * sz - sz = n * sz by rw [Nat.add_mul]; omega, ih]
theorem rc_drop (hsz : ∀ x, (c x).length = sz) : ∀ (L : List α) (n : Nat), (L.flatMap c).drop (n * sz) = (L.drop n).flatMap c := by
  intro L
  induction L with
  | nil => intro n; simp
  | cons y l ih =>
    intro n
    cases n with
    | zero => simp
    | succ n =>
      rw [List.flatMap_cons, List.drop_succ_cons, List.drop_append, hsz, List.drop_of_length_le (by rw [hsz, Nat.add_mul]; omega)]
      rw [show (n + 1) * sz - sz = n * sz by rw [Nat.add_mul]; omega, ih, List.nil_append]
end

def rowB (A : Option Addr) : Option Nat := A.map (·.block)
theorem rowB_own (A : Option Addr) (n cap : Nat) : (Value.slice A n cap).ownBlock = rowB A := by cases A <;> rfl
section
variable {W W' : World} {B : Nat} {e : TypeId} {size : Nat} {A : Option Addr} {n cap : Nat} {xs : List Value}
theorem ownsRow_keep (h : W.ownsRow B e size (.slice A n cap) n xs) (hk : ∀ g, rowB A = some g → W'.heap[g]? = W.heap[g]?) : W'.ownsRow B e size (.slice A n cap) n xs := by
  refine ⟨h.1, ?_⟩
  rcases h.2 with hn | ⟨g, c, cur, hv, hb, hgg, rest⟩
  · exact .inl hn
  · refine .inr ⟨g, c, cur, hv, hb, ?_, rest⟩
    cases hv
    exact (hk g rfl).trans hgg
theorem ownsRow_lt (h : W.ownsRow B e size (.slice A n cap) n xs) : ∀ g, rowB A = some g → B ≤ g ∧ g < W.heap.size := by
  intro g hg
  exact h.lt g ((rowB_own A n cap).trans hg)
theorem ownsRow_type (h : W.ownsRow B e size (.slice A n cap) n xs) : ∀ g, rowB A = some g → ∃ cur, W.heap[g]? = some (.cells cur e (0, 0)) := by
  intro g hg
  rcases h.2 with ⟨hv, _⟩ | ⟨g', c, cur, hv, hb, hgg, rest⟩
  · cases hv; cases hg
  · cases hv
    obtain rfl := Option.some.inj hg
    exact ⟨cur, hgg⟩
theorem ownsRow_addr (h : W.ownsRow B e size (.slice A n cap) n xs) (hn : 0 < n) : ∃ g, A = some ⟨g, 0, none⟩ := by
  rcases h.2 with ⟨hv, h0⟩ | ⟨g', c, cur, hv, hb, hgg, rest⟩
  · omega
  · cases hv; exact ⟨g', rfl⟩
theorem ownsRow_addr' (h : W.ownsRow B e size (.slice A n cap) n xs) : A = none ∨ ∃ g, A = some ⟨g, 0, none⟩ := by
  rcases h.2 with ⟨hv, h0⟩ | ⟨g', c, cur, hv, hb, hgg, rest⟩
  · cases hv; exact .inl rfl
  · cases hv; exact .inr ⟨g', rfl⟩
theorem ownsRow_cap (h : W.ownsRow B e size (.slice A n cap) n xs) : n ≤ cap ∧ cap ≤ maxLen := by
  rcases h.2 with ⟨hv, h0⟩ | ⟨g', c, cur, hv, hb, hgg, h1, h2, rest⟩
  · cases hv; exact ⟨Nat.le_refl _, Nat.zero_le _⟩
  · cases hv; exact ⟨h1, h2⟩
/-- The row of the first m elements. -/
theorem ownsRow_less (h : W.ownsRow B e size (.slice A n cap) n xs) {m : Nat} (hm : m ≤ n) (hA : A ≠ none) : W.ownsRow B e size (.slice A m cap) m (xs.take (m * size)) := by
  have hl : m * size ≤ n * size := Nat.mul_le_mul_right _ hm
  refine ⟨by rw [List.length_take, h.1]; omega, ?_⟩
  rcases h.2 with ⟨hv, h0⟩ | ⟨g', c, cur, hv, hb, hgg, h1, h2, h3, h4⟩
  · cases hv; exact absurd rfl hA
  · cases hv
    refine .inr ⟨g', _, cur, rfl, hb, hgg, by omega, h2, h3, ?_⟩
    rw [← h4, List.take_take, Nat.min_eq_left hl]
theorem own_form {v : Value} (h : W.ownsRow B e size v n xs) : ∃ A cap, v = .slice A n cap := by
  rcases h.2 with ⟨rfl, rfl⟩ | ⟨g, c, cur, rfl, _⟩
  · exact ⟨none, 0, rfl⟩
  · exact ⟨_, _, rfl⟩
end
/-- The k-th cell of the i-th element of an owned row. -/
theorem own_at {α : Type} {c : α → List Value} {W : World} {B : Nat} {e : TypeId} {sz : Nat} {A : Option Addr} {n cap : Nat} {L : List α} (hs0 : 0 < sz) (hsz : ∀ x, (c x).length = sz) (h : W.ownsRow B e sz (.slice A n cap) n (L.flatMap c)) (i : Nat) (x : α) (hi : L[i]? = some x) :
    ∃ g, A = some ⟨g, 0, none⟩ ∧ ∀ k u, (c x)[k]? = some u → W.cell? ⟨g, i * sz + k, none⟩ = some u := by
  have hil : i < L.length := (List.getElem?_eq_some_iff.1 hi).1
  have hll : (L.flatMap c).length = n * sz := h.1
  rw [rc_length hsz] at hll
  rcases h.2 with ⟨hv, h0⟩ | ⟨g, c', cur, hv, _⟩
  · rw [h0, Nat.zero_mul] at hll
    have := Nat.mul_pos (show 0 < L.length by omega) hs0
    omega
  · cases hv
    refine ⟨g, rfl, fun k u hk => ?_⟩
    have hkl : k < sz := by
      have := (List.getElem?_eq_some_iff.1 hk).1
      rwa [hsz] at this
    have := h.cells (g := g) rfl (i * sz + k) u (by rw [rc_at hsz L i x hi k hkl, hk])
    rwa [add_plain] at this

/-- Blocks outside S are as they were; new ones are there. -/
structure But (w w' : World) (S : Nat → Prop) : Prop where
  os : w'.os = w.os
  tape : w'.tape = w.tape
  output : w'.output = w.output
  size : w.heap.size ≤ w'.heap.size
  block : ∀ i, i < w.heap.size → ¬ S i → w'.heap[i]? = w.heap[i]?
theorem But.refl (w : World) (S : Nat → Prop) : But w w S := ⟨rfl, rfl, rfl, Nat.le_refl _, fun _ _ _ => rfl⟩
theorem But.trans {w W W' : World} {S : Nat → Prop} (h : But w W S) (k : But W W' S) : But w W' S :=
  ⟨k.os.trans h.os, k.tape.trans h.tape, k.output.trans h.output, Nat.le_trans h.size k.size, fun i hi hs => (k.block i (Nat.lt_of_lt_of_le hi h.size) hs).trans (h.block i hi hs)⟩
theorem But.mono {w W : World} {S T : Nat → Prop} (h : But w W S) (hs : ∀ i, S i → T i) : But w W T := ⟨h.os, h.tape, h.output, h.size, fun i hi k => h.block i hi (fun s => k (hs i s))⟩
theorem But.of_below {w w' : World} {S : Nat → Prop} (h : Below w.heap.size w w') : But w w' S := ⟨h.os, h.tape, h.output, h.size, fun i hi _ => h.block i hi⟩
theorem But.grown {w W W' : World} {S : Nat → Prop} {A : Option Nat} (h : But w W S) (hg : W.grownBy W' A) (hA : ∀ g, A = some g → S g) : But w W' S :=
  ⟨hg.os.trans h.os, hg.tape.trans h.tape, hg.output.trans h.output, Nat.le_trans h.size hg.size, fun i hi hs => (hg.block i (Nat.lt_of_lt_of_le hi h.size) (fun e => hs (hA i e.symm))).trans (h.block i hi hs)⟩
theorem But.set {w W : World} {S : Nat → Prop} (h : But w W S) {g : Nat} (hg : S g) (j : Nat) (u : Value) : But w (W.setCell ⟨g, j, none⟩ u) S :=
  ⟨h.os, h.tape, h.output, by rw [World.size_setCell]; exact h.size, fun i hi hs => (Below.heap_setCell W ⟨g, j, none⟩ u i (fun e => hs (e ▸ hg))).trans (h.block i hi hs)⟩
theorem But.only {w W W' : World} {S : Nat → Prop} {r : Nat} (h : But w W S) (ho : OnlyB W W' r) (hr : S r) : But w W' S :=
  ⟨ho.os.trans h.os, ho.tape.trans h.tape, ho.output.trans h.output, by rw [ho.size]; exact h.size, fun i hi hs => (ho.block i (fun e => hs (e ▸ hr))).trans (h.block i hi hs)⟩
theorem But.below_ {w W W' : World} {S : Nat → Prop} (h : But w W S) (hb : Below W.heap.size W W') : But w W' S := h.trans (But.of_below hb)
theorem But.drew {w W : World} {S : Nat → Prop} (h : But w W S) : But w W.drew S := ⟨h.os, h.tape, h.output, h.size, h.block⟩
theorem But.drewN {w W : World} {S : Nat → Prop} (h : But w W S) (n : Nat) : But w (W.drewN n) S := ⟨h.os, h.tape, h.output, h.size, h.block⟩
theorem But.below {B : Nat} {w W W' : World} {S : Nat → Prop} (h : Below B w W) (hb : But W W' S) (hS : ∀ i, S i → B ≤ i) (hB : B ≤ W.heap.size) : Below B w W' :=
  ⟨hb.os.trans h.os, hb.tape.trans h.tape, hb.output.trans h.output, Nat.le_trans h.size hb.size, fun i hi => (hb.block i (by omega) (fun s => by have := hS i s; omega)).trans (h.block i hi)⟩

/-! ### Letters -/
structure Lt where
  i : Int
  f : Int
  t : Int
  s : ByteArray
def lc (x : Lt) : List Value := [.int .i64 x.i, .int .i64 x.f, .int .i64 x.t, .string x.s]
theorem lc_length (x : Lt) : (lc x).length = 4 := rfl
def la (x : Lt) : Value := .agg #[.int .i64 x.i, .int .i64 x.f, .int .i64 x.t, .string x.s]
def lcells (L : List Lt) : List Value := L.flatMap lc

theorem le_alloc {c : Nat} {W : World} {o : Obj} (h : c ≤ W.heap.size) : c ≤ (W.alloc o).heap.size := by simp; omega
theorem new_cells (w : World) (xs : List Value) (t : TypeId) : ∀ j u, xs[j]? = some u → (w.alloc (.cells xs.toArray t)).cell? ((⟨w.heap.size, 0, none⟩ : Addr).add j) = some u := by
  intro j u hj
  rw [add_plain, blk_cell (blk_new w (.cells xs.toArray t)) j]
  simpa using hj
theorem lc_one (x : Lt) : ∀ u ∈ lc x, u.oneCell' = true := by
  intro u hu
  simp [lc] at hu
  rcases hu with rfl | rfl | rfl | rfl <;> rfl
theorem info33 : (Try.prog.info? 33).map (fun i => (i.zero, i.size, i.bytes)) = some (some (.agg #[.int .i64 0, .int .i64 0, .int .i64 0, .string ByteArray.empty]), 4, 40) := by kernel_rfl

/-! ### Links -/
def ekL (k : Int × Int) : Value := .agg #[.int .i64 k.1, .int .i64 k.2]
def evL (n : Int) : Value := .int .i64 n
def okL (k : Int × Int) : Prop := (Lit.int .i64 k.1).wf = true ∧ (Lit.int .i64 k.2).wf = true
abbrev Cm := Int × Int → Option Int
def MapL (W : World) (r : Nat) (F : Cm) : Prop := FMap ekL evL okL W r F
theorem MapL.keep {w w' : World} {r : Nat} {F : Cm} (h : MapL w r F) (hb : w'.heap[r]? = w.heap[r]?) : MapL w' r F := by
  obtain ⟨es, c, h0, h1⟩ := h
  exact ⟨es, c, hb.trans h0, h1⟩
theorem MapL.lt {W : World} {r : Nat} {F : Cm} (h : MapL W r F) : r < W.heap.size := by
  obtain ⟨es, c, h0, _⟩ := h
  exact (Array.getElem?_eq_some_iff.1 h0).1
theorem MapL.new (w : World) : MapL (w.alloc (.map #[] 0)) w.heap.size (fun _ => none) :=
  ⟨#[], 0, heap_alloc_new w _, (fun e he => by simp at he), (fun a v h => by cases h), MapKept.stamped_empty 0⟩

theorem laidL : laidOutB Try.prog = true := by kernel_rfl
theorem wideL : (match Try.prog.underlying 73 with | some (.array _ _) | some (.struct _) => true | _ => false) = true := by rw [Try.underlying73]
set_option maxRecDepth 100000 in
theorem lawL : WideMaps.KeyLaw Try.prog 73 := deep_law_laid laidL (m := 2) (by omega) (of_decide_eq_true (by kernel_rfl)) (by kernel_rfl) wideL
set_option maxRecDepth 100000 in
theorem key_link (a b : Int) (ha : (Lit.int .i64 a).wf = true) (hb : (Lit.int .i64 b).wf = true) : ∃ l, keyOf Try.prog 73 (.agg #[.int .i64 a, .int .i64 b]) = some l := by
  have h1 : Try.prog.keyType 73 = true := by kernel_rfl
  have c73 : Try.prog.cellsOf 73 = 2 := by kernel_rfl
  have c3 : Try.prog.cellsOf 3 = 1 := by kernel_rfl
  obtain ⟨n, hn⟩ : ∃ n, Try.prog.types.size = n + 1 := ⟨Try.prog.types.size - 1, by have : 0 < Try.prog.types.size := of_decide_eq_true (by kernel_rfl); omega⟩
  unfold keyOf
  rw [Try.underlying73]
  dsimp only
  rw [h1, hn]
  simp [Value.formed, Value.cells, Program.keyLits, Try.underlying73, Try.underlying3, c73, c3, ha, hb]
theorem keysL : Go.FM.Keys Try.prog ekL okL 73 where
  K := Maps.Keyed.of_law lawL
  inj a b h := by
    obtain ⟨a1, a2⟩ := a
    obtain ⟨b1, b2⟩ := b
    simp [ekL] at h
    rw [h.1, h.2]
  key a h := key_link a.1 a.2 h.1 h.2
theorem zeroL (w : World) : (zeroValue 3).run Try.prog w = .ok (evL 0) w := by kernel_rfl

/-- The link of two addresses. -/
def lk (a b : Int) : Int × Int := (min a b, max a b)
theorem okL_lk {a b : Int} (ha : 0 ≤ a ∧ a ≤ 67) (hb : 0 ≤ b ∧ b ≤ 67) : okL (lk a b) := by
  unfold okL lk
  exact ⟨WalkArith.wf_i64 (by omega), WalkArith.wf_i64 (by omega)⟩

theorem num_calls (n : Int) (w : World) : Calls Try.prog 11 #[.int .i64 n] w fun e w' => e = .returned (.int .i64 n) ∧ w = w' := by
  go_enter Try.func11, Try.ntmps11
  go_wp2
  go_ret
  exact ⟨rfl, rfl⟩

/-- Is it an address? -/
def adB (n : Int) : Bool := decide (0 ≤ n ∧ n ≤ 67)
theorem address_calls (n : Int) (w : World) : Calls Try.prog 32 #[.int .i64 n] w fun e w' => e = .returned (.bool (adB n)) ∧ w = w' := by
  by_cases h1 : 0 ≤ n
  · have b1 : decide (0 ≤ n) = true := by simpa using h1
    by_cases h2 : n ≤ 67
    · have b2 : decide (n ≤ 67) = true := by simpa using h2
      rw [show adB n = true by unfold adB; simp; omega]
      clear h1 h2
      go_enter Try.func32, Try.ntmps32
      go_wp2
      go_ret
      exact ⟨rfl, rfl⟩
    · have b2 : decide (n ≤ 67) = false := by simpa using h2
      rw [show adB n = false by unfold adB; simp; omega]
      clear h1 h2
      go_enter Try.func32, Try.ntmps32
      go_wp2
      go_ret
      exact ⟨rfl, rfl⟩
  · have b1 : decide (0 ≤ n) = false := by simpa using h1
    rw [show adB n = false by unfold adB; simp; omega]
    clear h1
    go_enter Try.func32, Try.ntmps32
    go_wp2
    go_ret
    exact ⟨rfl, rfl⟩

theorem link_calls (a b : Int) (w : World) : Calls Try.prog 33 #[.int .i64 a, .int .i64 b] w fun e w' => e = .returned (.agg #[.int .i64 (lk a b).1, .int .i64 (lk a b).2]) ∧ Below w.heap.size w w' := by
  by_cases h : a < b
  · rw [show lk a b = (a, b) by unfold lk; rw [Int.min_eq_left (by omega), Int.max_eq_right (by omega)]]
    have h1 : ¬ b ≤ a := by omega
    go_enter Try.func33, Try.ntmps33
    go_wp2
    all_goals exact bodyPost_ret (v := .agg #[.int .i64 a, .int .i64 b]) (by simp [results, Try.results33, go_sem]) rfl ⟨rfl, (Below.refl _ _).alloc (Nat.le_refl _) _⟩
  by_cases h2 : a = b
  · subst h2
    rw [show lk a a = (a, a) by unfold lk; rw [Int.min_self, Int.max_self]]
    clear h
    go_enter Try.func33, Try.ntmps33
    go_wp2
    all_goals exact bodyPost_ret (v := .agg #[.int .i64 a, .int .i64 a]) (by simp [results, Try.results33, go_sem]) rfl ⟨rfl, (Below.refl _ _).alloc (Nat.le_refl _) _⟩
  · rw [show lk a b = (b, a) by unfold lk; rw [Int.min_eq_right (by omega), Int.max_eq_left (by omega)]]
    have h3 : ¬ a ≤ b := by omega
    clear h h2
    go_enter Try.func33, Try.ntmps33
    go_wp2
    all_goals exact bodyPost_ret (v := .agg #[.int .i64 b, .int .i64 a]) (by simp [results, Try.results33, go_sem]) rfl ⟨rfl, (Below.refl _ _).alloc (Nat.le_refl _) _⟩

end Go.Proofs.Ytadbcekglcmccaa.Q
