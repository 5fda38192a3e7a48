/- The document's budget in memory; contract of its times. Condition: block k is such a budget. -/
import Derived.Test.YthajekcjgkidhaaProg
import Derived.Below
import Derived.Deep.Draws
import Derived.Deep.AppendLies
import Derived.Maps.AppendAt
import Derived.OwnWalk
import Derived.Laws.BytesArg
import Derived.Laws.MakeOwn
import Derived.Laws.OwnMore
import Derived.Deep.OwnRows
import Derived.Tactics
import Derived.Lib.ConvBytes
import Derived.Laws.Slices
import Derived.WalkKit
import Derived.KernelRfl
import Derived.RowKit3
import Derived.Deep.LoopGhost
import Derived.Deep.QuietTactic
import Derived.BigQuiet
import Derived.WideLaws
import Derived.Deep.DeepCutAuto
import Derived.Deep.CutBlock
import Derived.Deep.RegionHeld3
import Derived.Laws.Rows
import Derived.Lib.AppendStr
import Derived.ArgAppend
import Derived.Laws.IdiomCopy
import Derived.OrdersHeld
import Derived.Laws.BitsLemmas
import Derived.RowKit
import Derived.Test.YthajekcjgkidhaaWWords
import Derived.Test.YthajekcjgkidhaaWLast
import Derived.Test.YthajekcjgkidhaaWTab
import Derived.Test.YthajekcjgkidhaaWFour
import Derived.Test.YthajekcjgkidhaaWQPut
import Derived.Test.YthajekcjgkidhaaWApart
import Derived.Test.YthajekcjgkidhaaWArr
import Derived.Test.YthajekcjgkidhaaWZeros
import Derived.Test.YthajekcjgkidhaaWFoot
import Derived.Test.YthajekcjgkidhaaWKept
import Derived.Test.YthajekcjgkidhaaWShare
import Derived.Test.YthajekcjgkidhaaWN
import Derived.Test.YthajekcjgkidhaaWFootNe
import Derived.Test.YthajekcjgkidhaaWAt
import Derived.Test.YthajekcjgkidhaaWEqStruct
import Derived.Test.YthajekcjgkidhaaWRepsOne
import Derived.Test.YthajekcjgkidhaaWInv
import Derived.Test.YthajekcjgkidhaaWInvWords
import Derived.Test.YthajekcjgkidhaaWGuard
import Derived.Test.YthajekcjgkidhaaWNEv
import Derived.Test.YthajekcjgkidhaaWMore
import Derived.Test.YthajekcjgkidhaaLocks
import Derived.Conc.MuLone
import Derived.Test.YthajekcjgkidhaaN4
import Derived.Test.YthajekcjgkidhaaNE
import Derived.Test.YthajekcjgkidhaaR2
set_option linter.unusedVariables false
set_option linter.unusedSimpArgs false
namespace Go.Proofs.Ythajekcjgkidhaa.Q
open Go.RowKit Go.Proofs.YthajekcjgkidhaaW.PrintWords Go.Proofs.YthajekcjgkidhaaW.PrintLast Go.Proofs.YthajekcjgkidhaaW.PrintMore
open Go.MuLone Go.FM Go.Plan

/-! ### The document's budget: a list of what failed -/
abbrev It := Int × Int
def icells : List It → List Value
  | [] => []
  | x :: l => .int .i64 x.1 :: .int .i64 x.2 :: icells l
theorem icells_length (L : List It) : (icells L).length = L.length * 2 := by
  induction L with
  | nil => rfl
  | cons x l ih => simp [icells, ih]; omega
theorem icells_append (L M : List It) : icells (L ++ M) = icells L ++ icells M := by
  induction L with
  | nil => rfl
  | cons x l ih => simp [icells, ih]
theorem icells_at (L : List It) : ∀ i, i < L.length → (icells L)[i * 2]? = some (.int .i64 (L.getD i (0, 0)).1) ∧ (icells L)[i * 2 + 1]? = some (.int .i64 (L.getD i (0, 0)).2) := by
  induction L with
  | nil => intro i h; simp at h
  | cons x l ih =>
    intro i h
    cases i with
    | zero => exact ⟨rfl, rfl⟩
    | succ i =>
      have := ih i (by simpa using h)
      have e1 : (i + 1) * 2 = i * 2 + 1 + 1 := by omega
      rw [e1]
      simpa [icells] using this
theorem icells_one (L : List It) : ∀ u ∈ icells L, u.oneCell' = true := by
  induction L with
  | nil => intro u h; cases h
  | cons x l ih =>
    intro u h
    simp only [icells, List.mem_cons] at h
    rcases h with rfl | rfl | h
    · rfl
    · rfl
    · exact ih u h

/-- The document's budget at k, its list in a row of its own (from block B on). -/
structure IsV (W : World) (B k : Nat) (A : Option Addr) (cap : Nat) (t b m : Int) (L : List It) : Prop where
  blk : W.heap[k]? = some (.cells #[.int .i64 t, .int .i64 b, .int .i64 m, .slice A L.length cap] 99 (0, 0))
  row : W.ownsRow B 35 2 (.slice A L.length cap) L.length (icells L)
def rowB (A : Option Addr) : Option Nat := A.map (·.block)
theorem rowB_own (A : Option Addr) (n cap : Nat) : (Value.slice A n cap).ownBlock = rowB A := by cases A <;> rfl

theorem ownsRow_keep {W W' : World} {B : Nat} {e : TypeId} {size : Nat} {A : Option Addr} {n cap : Nat} {xs : List Value} (h : W.ownsRow B e size (.slice A n cap) n xs) (hk : ∀ g, rowB A = some g → W'.heap[g]? = W.heap[g]?) : W'.ownsRow B e size (.slice A n cap) n xs := by
  refine ⟨h.1, ?_⟩
  rcases h.2 with hn | ⟨g, c, cur, hv, hb, hgg, rest⟩
  · exact .inl hn
  · refine .inr ⟨g, c, cur, hv, hb, ?_, rest⟩
    cases hv
    exact (hk g rfl).trans hgg
theorem ownsRow_lt {W : World} {B : Nat} {e : TypeId} {size : Nat} {A : Option Addr} {n cap : Nat} {xs : List Value} (h : W.ownsRow B e size (.slice A n cap) n xs) : ∀ g, rowB A = some g → B ≤ g ∧ g < W.heap.size := by
  intro g hg
  exact h.lt g ((rowB_own A n cap).trans hg)
theorem ownsRow_type {W : World} {B : Nat} {e : TypeId} {size : Nat} {A : Option Addr} {n cap : Nat} {xs : List Value} (h : W.ownsRow B e size (.slice A n cap) n xs) : ∀ g, rowB A = some g → ∃ cur, W.heap[g]? = some (.cells cur e (0, 0)) := by
  intro g hg
  rcases h.2 with ⟨hv, _⟩ | ⟨g', c, cur, hv, hb, hgg, rest⟩
  · cases hv; cases hg
  · cases hv
    obtain rfl := Option.some.inj hg
    exact ⟨cur, hgg⟩
theorem IsV.keep {W W' : World} {B k : Nat} {A : Option Addr} {cap : Nat} {t b m : Int} {L : List It} (h : IsV W B k A cap t b m L) (hk : W'.heap[k]? = W.heap[k]?) (hr : ∀ g, rowB A = some g → W'.heap[g]? = W.heap[g]?) : IsV W' B k A cap t b m L :=
  ⟨hk.trans h.blk, ownsRow_keep h.row hr⟩
theorem IsV.drewN {W : World} {B k : Nat} {A : Option Addr} {cap : Nat} {t b m : Int} {L : List It} (h : IsV W B k A cap t b m L) (n : Nat) : IsV (W.drewN n) B k A cap t b m L := h.keep rfl fun _ _ => rfl
theorem IsV.drew {W : World} {B k : Nat} {A : Option Addr} {cap : Nat} {t b m : Int} {L : List It} (h : IsV W B k A cap t b m L) : IsV W.drew B k A cap t b m L := h.keep rfl fun _ _ => rfl
theorem IsV.klt {W : World} {B k : Nat} {A : Option Addr} {cap : Nat} {t b m : Int} {L : List It} (h : IsV W B k A cap t b m L) : k < W.heap.size := blk_lt h.blk
theorem IsV.rlt {W : World} {B k : Nat} {A : Option Addr} {cap : Nat} {t b m : Int} {L : List It} (h : IsV W B k A cap t b m L) : ∀ g, rowB A = some g → B ≤ g ∧ g < W.heap.size := ownsRow_lt h.row
theorem IsV.rk {W : World} {B k : Nat} {A : Option Addr} {cap : Nat} {t b m : Int} {L : List It} (h : IsV W B k A cap t b m L) : ∀ g, rowB A = some g → g ≠ k := by
  intro g hg
  obtain ⟨cur, hc⟩ := ownsRow_type h.row g hg
  exact fun e => blk_ne hc h.blk (by decide) e
theorem IsV.below {W W' : World} {B k : Nat} {A : Option Addr} {cap : Nat} {t b m : Int} {L : List It} (h : IsV W B k A cap t b m L) (hb : Below W.heap.size W W') : IsV W' B k A cap t b m L :=
  h.keep (hb.block k h.klt) fun g hg => hb.block g (h.rlt g hg).2
theorem IsV.at_ {W : World} {B k : Nat} {A : Option Addr} {cap : Nat} {t b m : Int} {L : List It} (h : IsV W B k A cap t b m L) (i : Nat) (hi : i < L.length) : ∃ ad, A = some ad ∧
    W.cell? (ad.add (i * 2)) = some (.int .i64 (L.getD i (0, 0)).1) ∧ W.cell? ⟨(ad.add (i * 2)).block, (ad.add (i * 2)).off + 1, none⟩ = some (.int .i64 (L.getD i (0, 0)).2) := by
  obtain ⟨h1, h2⟩ := icells_at L i hi
  rcases h.row.2 with ⟨hv, hn⟩ | ⟨g, c, cur, hv, _⟩
  · omega
  · cases hv
    refine ⟨_, rfl, h.row.cells (g := g) rfl _ _ h1, ?_⟩
    have := h.row.cells (g := g) rfl _ _ h2
    rw [add_plain] at this ⊢
    exact this

/-- How often an item is in a list. -/
def cnt (x : It) : List It → Nat
  | [] => 0
  | y :: l => (if y = x then 1 else 0) + cnt x l
theorem cnt_append (x : It) (L M : List It) : cnt x (L ++ M) = cnt x L + cnt x M := by
  induction L with
  | nil => simp [cnt]
  | cons y l ih => simp [cnt, ih]; omega
theorem cnt_le (x : It) (L : List It) : cnt x L ≤ L.length := by
  induction L with
  | nil => simp [cnt]
  | cons y l ih => simp only [cnt, List.length_cons]; split <;> omega
theorem take_next (L : List It) (i : Nat) (hi : i < L.length) : L.take (i + 1) = L.take i ++ [L.getD i (0, 0)] := by
  rw [List.take_succ_eq_append_getElem hi, List.getD_eq_getElem?_getD, List.getElem?_eq_getElem hi]
  rfl
theorem cnt_next (x : It) (L : List It) (i : Nat) (hi : i < L.length) : cnt x (L.take (i + 1)) = cnt x (L.take i) + (if L.getD i (0, 0) = x then 1 else 0) := by
  rw [take_next L i hi, cnt_append]
  simp [cnt]
theorem cnt_take_le (x : It) (L : List It) (i : Nat) : cnt x (L.take i) ≤ i := Nat.le_trans (cnt_le x _) (List.length_take_le _ _)

theorem itemGuardE (a b c d : Int) (x y : Operand) (W : World) : (eqGuard BinOp.eql 35 x y (.agg #[.int .i64 a, .int .i64 b]) (.agg #[.int .i64 c, .int .i64 d])).run Try.prog W = .ok () W := by
  have hp : ∀ W : World, program.run Try.prog W = .ok Try.prog W := fun _ => rfl
  unfold eqGuard
  simp [Sem.run_bind, hp, guard35]
theorem itemEql (a b c d : Int) (W : World) : (binOp BinOp.eql 35 (.agg #[.int .i64 a, .int .i64 b]) (.agg #[.int .i64 c, .int .i64 d])).run Try.prog W = .ok (.bool (a == c && b == d)) W := by
  have h : (Op.equal 35 (.agg #[.int .i64 a, .int .i64 b]) (.agg #[.int .i64 c, .int .i64 d])).run Try.prog W = .ok (a == c && b == d) W := by
    refine eqA_of Try.underlying35 (by kernel_rfl) ?_
    exact eqf_cons (by kernel_rfl) (part0 a b W) (part0 c d W) (eq3 _ a c W) (eqf_last (by kernel_rfl) (part1 a b W) (part1 c d W) (eq3 _ b d W))
  simp [binOp, h]
theorem item_beq {x y : It} (h : x = y) : (x.1 == y.1 && x.2 == y.2) = true := by rw [h]; simp
theorem item_bne {x y : It} (h : ¬ x = y) : (x.1 == y.1 && x.2 == y.2) = false := by
  obtain ⟨x1, x2⟩ := x
  obtain ⟨y1, y2⟩ := y
  simp only [Prod.mk.injEq, not_and] at h
  simp only [Bool.and_eq_false_imp, beq_iff_eq, beq_eq_false_iff_ne]
  exact h

/-- What a method of the document's budget has in hand: the budget, its own copy of the item at c. -/
structure TV (w W : World) (B k c : Nat) (A : Option Addr) (cap : Nat) (t b m : Int) (L : List It) (x : It) : Prop where
  v : IsV W B k A cap t b m L
  bx : W.heap[c]? = some (.cells #[.int .i64 x.1, .int .i64 x.2] 35 (0, 0))
  below : Below w.heap.size w W
theorem TV.start {w : World} {B k : Nat} {A : Option Addr} {cap : Nat} {t b m : Int} {L : List It} (x : It) (h : IsV w B k A cap t b m L) : TV w (w.alloc (.cells #[.int .i64 x.1, .int .i64 x.2] 35)) B k w.heap.size A cap t b m L x :=
  ⟨h.below ((Below.refl _ _).alloc (Nat.le_refl _) _), blk_new w _, (Below.refl _ _).alloc (Nat.le_refl _) _⟩
theorem TV.drewN {w W : World} {B k c : Nat} {A : Option Addr} {cap : Nat} {t b m : Int} {L : List It} {x : It} (h : TV w W B k c A cap t b m L x) (n : Nat) : TV w (W.drewN n) B k c A cap t b m L x := ⟨h.v.drewN n, h.bx, pw_below_drewN h.below n⟩
theorem TV.drew {w W : World} {B k c : Nat} {A : Option Addr} {cap : Nat} {t b m : Int} {L : List It} {x : It} (h : TV w W B k c A cap t b m L x) : TV w W.drew B k c A cap t b m L x := ⟨h.v.drew, h.bx, ⟨h.below.os, h.below.tape, h.below.output, h.below.size, h.below.block⟩⟩
theorem TV.grow {w W W' : World} {B k c : Nat} {A : Option Addr} {cap : Nat} {t b m : Int} {L : List It} {x : It} (h : TV w W B k c A cap t b m L x) (hb : Below W.heap.size W W') : TV w W' B k c A cap t b m L x := ⟨h.v.below hb, blk_below h.bx hb, below_step h.below hb⟩

set_option maxHeartbeats 4000000 in
set_option maxRecDepth 100000 in
theorem times_calls (B k : Nat) (A : Option Addr) (cap : Nat) (t b m : Int) (L : List It) (x : It) (w : World) (h : IsV w B k A cap t b m L) (hL : L.length ≤ 4611686018427387904) :
    Calls Try.prog 42 #[.pointer (some ⟨k, 0, none⟩), .agg #[.int .i64 x.1, .int .i64 x.2]] w fun e w' => e = .returned (.int .i64 (cnt x L : Nat)) ∧ Below w.heap.size w w' := by
  have H0 := Aside0.mk (TV.start x h)
  have HL := Aside0.mk hL
  clear h hL
  go_enter Try.func42, Try.ntmps42
  go_wp2_with fail
  generalize w.heap.size = c at *
  generalize w.alloc (.cells #[.int .i64 x.1, .int .i64 x.2] 35) = w0 at *
  go_loopg [5, 6] L.length (fun kq v5 v6 w' => ∃ (i n : Nat), v5 = .int .i64 (n : Int) ∧ v6 = .int .i64 (i : Int) ∧ Aside0 (i + kq = L.length) ∧ Aside0 (cnt x (L.take i) = n) ∧ Aside0 (TV w w' B k c A cap t b m L x))
  case atStart => exact ⟨0, 0, rfl, rfl, ⟨by omega⟩, ⟨rfl⟩, H0⟩
  case round =>
    clear H0
    obtain ⟨i, n, rfl, rfl, HK, HN, HJ⟩ := hrel
    have c3 : wr.cell? ⟨k, 3, none⟩ = some (.slice A L.length cap) := blk_cell HJ.out.v.blk 3
    by_cases ci : (i : Int) < (L.length : Int)
    · cases gk with
      | zero => exact absurd HK.out (by omega)
      | succ k1 =>
      have cb : decide ((i : Int) < (L.length : Int)) = true := by simpa using ci
      have p2 : (0 ≤ (i : Int)) = True := eq_true (by omega)
      have p3 : ((i : Int) < (L.length : Int)) = True := eq_true ci
      have hwi : wrap64 ((i : Int) + 1) = ((i + 1 : Nat) : Int) := Go.IntWalk.wrap64_in _ (by have := HL.out; omega)
      have hcn := cnt_next x L i (by omega)
      have hwn : wrap64 ((n : Int) + 1) = ((n + 1 : Nat) : Int) := Go.IntWalk.wrap64_in _ (by have := HL.out; have := HN.out; have := cnt_take_le x L i; omega)
      have e0 := blk_cell HJ.out.bx 0
      have e1 := blk_cell HJ.out.bx 1
      obtain ⟨ad, rfl, hx0, hx1⟩ := HJ.out.v.at_ i (by omega)
      generalize L.getD i (0, 0) = y at *
      have HCN := Aside0.mk hcn
      clear hcn
      by_cases hy : y = x
      · have hne := fun W => itemEql y.1 y.2 x.1 x.2 W
        simp only [item_beq hy] at hne
        have hgd := fun p q W => itemGuardE y.1 y.2 x.1 x.2 p q W
        have HY := Aside0.mk hy
        clear hy
        go_wp2_with fail
        go_quiet (fail)
        have HA := Aside0.mk (HJ.out.drewN nq)
        generalize wr.drewN nq = wA at *
        clear hx0 hx1 e0 e1 c3 HJ hne hgd
        go_wp2_with fail
        go_roundg k1
        case measure => have := HK.out; omega
        case rel => exact ⟨i + 1, n + 1, by rw [hwn], by rw [hwi], ⟨by have := HK.out; omega⟩, ⟨by rw [HCN.out, HN.out, if_pos HY.out]⟩, HA⟩
      · have hne := fun W => itemEql y.1 y.2 x.1 x.2 W
        simp only [item_bne hy] at hne
        have hgd := fun p q W => itemGuardE y.1 y.2 x.1 x.2 p q W
        have HY := Aside0.mk hy
        clear hy
        go_wp2_with fail
        go_quiet (fail)
        have HA := Aside0.mk (HJ.out.drewN nq)
        generalize wr.drewN nq = wA at *
        clear hx0 hx1 e0 e1 c3 HJ hne hgd
        go_wp2_with fail
        go_roundg k1
        case measure => have := HK.out; omega
        case rel => exact ⟨i + 1, n, rfl, by rw [hwi], ⟨by have := HK.out; omega⟩, ⟨by rw [HCN.out, HN.out, if_neg HY.out, Nat.add_zero]⟩, HA⟩
    · have cb : decide ((i : Int) < (L.length : Int)) = false := by simpa using ci
      have cb2 : decide (i < L.length) = false := by simp; omega
      have hi : i = L.length := by have := HK.out; omega
      have hn : cnt x L = n := by have := HN.out; rw [hi, List.take_length] at this; exact this
      subst hn
      clear hi HN HK
      go_wp2_with fail
      go_ret
      exact ⟨rfl, HJ.out.below⟩

end Go.Proofs.Ythajekcjgkidhaa.Q
