/- Contracts of the methods of both budgets at nil, of granaryref10.NewBudget, and of (*granaryref10.Budget).Fail where a failure is noted. Condition: as each says. -/
import Derived.Test.YthajekcjgkidhaaProg
import Derived.Below
import Derived.Deep.Draws
import Derived.Deep.AppendLies
import Derived.Maps.AppendAt
import Derived.OwnWalk
import Derived.Laws.BytesArg
import Derived.Laws.MakeOwn
import Derived.Laws.OwnMore
import Derived.Deep.OwnRows
import Derived.Tactics
import Derived.Lib.ConvBytes
import Derived.Laws.Slices
import Derived.WalkKit
import Derived.KernelRfl
import Derived.RowKit3
import Derived.Deep.LoopGhost
import Derived.Deep.QuietTactic
import Derived.BigQuiet
import Derived.WideLaws
import Derived.Deep.DeepCutAuto
import Derived.Deep.CutBlock
import Derived.Deep.RegionHeld3
import Derived.Laws.Rows
import Derived.Lib.AppendStr
import Derived.ArgAppend
import Derived.Laws.IdiomCopy
import Derived.OrdersHeld
import Derived.Laws.BitsLemmas
import Derived.RowKit
import Derived.Test.YthajekcjgkidhaaWWords
import Derived.Test.YthajekcjgkidhaaWLast
import Derived.Test.YthajekcjgkidhaaWTab
import Derived.Test.YthajekcjgkidhaaWFour
import Derived.Test.YthajekcjgkidhaaWQPut
import Derived.Test.YthajekcjgkidhaaWApart
import Derived.Test.YthajekcjgkidhaaWArr
import Derived.Test.YthajekcjgkidhaaWZeros
import Derived.Test.YthajekcjgkidhaaWFoot
import Derived.Test.YthajekcjgkidhaaWKept
import Derived.Test.YthajekcjgkidhaaWShare
import Derived.Test.YthajekcjgkidhaaWN
import Derived.Test.YthajekcjgkidhaaWFootNe
import Derived.Test.YthajekcjgkidhaaWAt
import Derived.Test.YthajekcjgkidhaaWEqStruct
import Derived.Test.YthajekcjgkidhaaWRepsOne
import Derived.Test.YthajekcjgkidhaaWInv
import Derived.Test.YthajekcjgkidhaaWInvWords
import Derived.Test.YthajekcjgkidhaaWGuard
import Derived.Test.YthajekcjgkidhaaWNEv
import Derived.Test.YthajekcjgkidhaaWMore
import Derived.Test.YthajekcjgkidhaaLocks
import Derived.Conc.MuLone
import Derived.Test.YthajekcjgkidhaaU1
set_option linter.unusedVariables false
set_option linter.unusedSimpArgs false
namespace Go.Proofs.Ythajekcjgkidhaa.Q
open Go.RowKit Go.Proofs.YthajekcjgkidhaaW.PrintWords Go.Proofs.YthajekcjgkidhaaW.PrintLast Go.Proofs.YthajekcjgkidhaaW.PrintMore
open Go.MuLone Go.FM Go.Plan

theorem ret2_i64 {a b c d : Int} (h : b = a) (k : d = c) : Ending.returned (.tuple #[.int .i64 a, .int .i64 c]) = .returned (.tuple #[.int .i64 b, .int .i64 d]) := by rw [h, k]
/-! ### At nil -/
theorem fail_nil (x : It) (n : Int) (w : World) : Calls Try.prog 15 #[.pointer none, .agg #[.int .i64 x.1, .int .i64 x.2], .int .i64 n] w fun e w' => e = .returned (.tuple #[.int .i64 0, .int .i64 2]) ∧ Below w.heap.size w w' := by
  go_enter Try.func15, Try.ntmps15
  go_wp2
  go_ret2
  exact ⟨rfl, (Below.refl _ _).alloc (Nat.le_refl _) _⟩
theorem left_nil (x : It) (w : World) : Calls Try.prog 16 #[.pointer none, .agg #[.int .i64 x.1, .int .i64 x.2]] w fun e w' => e = .returned (.int .i64 0) ∧ Below w.heap.size w w' := by
  go_enter Try.func16, Try.ntmps16
  go_wp2
  go_ret
  exact ⟨rfl, (Below.refl _ _).alloc (Nat.le_refl _) _⟩
theorem clear_nil (x : It) (w : World) : Calls Try.prog 17 #[.pointer none, .agg #[.int .i64 x.1, .int .i64 x.2]] w fun e w' => e = .returned (.int .i64 2) ∧ Below w.heap.size w w' := by
  go_enter Try.func17, Try.ntmps17
  go_wp2
  go_ret
  exact ⟨rfl, (Below.refl _ _).alloc (Nat.le_refl _) _⟩
theorem rfail_nil (x : It) (n : Int) (w : World) : Calls Try.prog 31 #[.pointer none, .agg #[.int .i64 x.1, .int .i64 x.2], .int .i64 n] w fun e w' => e = .returned (.tuple #[.int .i64 0, .int .i64 2]) ∧ Below w.heap.size w w' := by
  go_enter Try.func31, Try.ntmps31
  go_wp2
  go_ret2
  exact ⟨rfl, (Below.refl _ _).alloc (Nat.le_refl _) _⟩
theorem rleft_nil (x : It) (w : World) : Calls Try.prog 32 #[.pointer none, .agg #[.int .i64 x.1, .int .i64 x.2]] w fun e w' => e = .returned (.int .i64 0) ∧ Below w.heap.size w w' := by
  go_enter Try.func32, Try.ntmps32
  go_wp2
  go_ret
  exact ⟨rfl, (Below.refl _ _).alloc (Nat.le_refl _) _⟩
theorem rclear_nil (x : It) (w : World) : Calls Try.prog 33 #[.pointer none, .agg #[.int .i64 x.1, .int .i64 x.2]] w fun e w' => e = .returned (.int .i64 2) ∧ Below w.heap.size w w' := by
  go_enter Try.func33, Try.ntmps33
  go_wp2
  go_ret
  exact ⟨rfl, (Below.refl _ _).alloc (Nat.le_refl _) _⟩

/-! ### NewBudget -/
set_option maxHeartbeats 2000000 in
theorem runew_calls (t b m : Int) (w : World) (h : okBud t b m) :
    Calls Try.prog 29 #[.int .i64 t, .int .i64 b, .int .i64 m] w fun e w' => e = .returned (.tuple #[.pointer (some ⟨w.heap.size, 0, none⟩), .int .i64 0]) ∧ (∀ B, IsV w' B w.heap.size none 0 t b m []) ∧ Below w.heap.size w w' ∧ w'.heap.size = w.heap.size + 1 := by
  obtain ⟨h1, h2, h3, h4, h5, h6⟩ := h
  have b1 : decide (t < 1) = false := by simp; omega
  have b2 : decide (64 < t) = false := by simp; omega
  have b3 : decide (b < 1) = false := by simp; omega
  have b4 : decide (1024 < b) = false := by simp; omega
  have b5 : decide (m < b) = false := by simp; omega
  have b6 : decide (1024 < m) = false := by simp; omega
  clear h1 h2 h3 h4 h5 h6
  go_enter Try.func29, Try.ntmps29
  go_wp2
  go_ret2
  exact ⟨rfl, fun B => ⟨blk_new w _, rfl, .inl ⟨rfl, rfl⟩⟩, (Below.refl _ _).alloc (Nat.le_refl _) _, by simp⟩

set_option maxHeartbeats 2000000 in
theorem runew_refuses (t b m : Int) (w : World) (h : ¬ okBud t b m) :
    Calls Try.prog 29 #[.int .i64 t, .int .i64 b, .int .i64 m] w fun e w' => e = .returned (.tuple #[.pointer none, .int .i64 1]) ∧ w' = w := by
  have hdec : t < 1 ∨ 64 < t ∨ b < 1 ∨ 1024 < b ∨ m < b ∨ 1024 < m := by unfold okBud at h; omega
  by_cases h1 : t < 1
  · have b1 : decide (t < 1) = true := by simp; omega
    clear h hdec h1
    go_enter Try.func29, Try.ntmps29
    go_wp2
    go_ret2
    exact ⟨rfl, rfl⟩
  have b1 : decide (t < 1) = false := by simp; omega
  by_cases h2 : 64 < t
  · have b2 : decide (64 < t) = true := by simp; omega
    clear h hdec h1 h2
    go_enter Try.func29, Try.ntmps29
    go_wp2
    go_ret2
    exact ⟨rfl, rfl⟩
  have b2 : decide (64 < t) = false := by simp; omega
  by_cases h3 : b < 1
  · have b3 : decide (b < 1) = true := by simp; omega
    clear h hdec h1 h2 h3
    go_enter Try.func29, Try.ntmps29
    go_wp2
    go_ret2
    exact ⟨rfl, rfl⟩
  have b3 : decide (b < 1) = false := by simp; omega
  by_cases h4 : 1024 < b
  · have b4 : decide (1024 < b) = true := by simp; omega
    clear h hdec h1 h2 h3 h4
    go_enter Try.func29, Try.ntmps29
    go_wp2
    go_ret2
    exact ⟨rfl, rfl⟩
  have b4 : decide (1024 < b) = false := by simp; omega
  by_cases h5 : m < b
  · have b5 : decide (m < b) = true := by simp; omega
    clear h hdec h1 h2 h3 h4 h5
    go_enter Try.func29, Try.ntmps29
    go_wp2
    go_ret2
    exact ⟨rfl, rfl⟩
  have b5 : decide (m < b) = false := by simp; omega
  have b6 : decide (1024 < m) = true := by simp; omega
  clear h hdec h1 h2 h3 h4 h5
  go_enter Try.func29, Try.ntmps29
  go_wp2
  go_ret2
  exact ⟨rfl, rfl⟩

/-- Block k and the row's block alone may have changed, and new ones are there. -/
structure FrV (w w' : World) (k : Nat) (A : Option Nat) : Prop where
  os : w'.os = w.os
  tape : w'.tape = w.tape
  output : w'.output = w.output
  size : w.heap.size ≤ w'.heap.size
  block : ∀ i, i < w.heap.size → i ≠ k → A ≠ some i → w'.heap[i]? = w.heap[i]?
theorem FrV.of_below {w w' : World} {k : Nat} {A : Option Nat} (h : Below w.heap.size w w') : FrV w w' k A := ⟨h.os, h.tape, h.output, h.size, fun i hi _ _ => h.block i hi⟩
theorem FrV.grown {w W W' : World} {k : Nat} {A : Option Nat} (h : FrV w W k A) (hg : W.grownBy W' A) : FrV w W' k A :=
  ⟨hg.os.trans h.os, hg.tape.trans h.tape, hg.output.trans h.output, Nat.le_trans h.size hg.size, fun i hi h1 h2 => (hg.block i (Nat.lt_of_lt_of_le hi h.size) (fun e => h2 e.symm)).trans (h.block i hi h1 h2)⟩
theorem FrV.set {w W : World} {k : Nat} {A : Option Nat} (h : FrV w W k A) (j : Nat) (u : Value) : FrV w (W.setCell ⟨k, j, none⟩ u) k A :=
  ⟨h.os, h.tape, h.output, by rw [World.size_setCell]; exact h.size, fun i hi h1 h2 => (Below.heap_setCell W ⟨k, j, none⟩ u i h1).trans (h.block i hi h1 h2)⟩
theorem FrV.below {w W W' : World} {k : Nat} {A : Option Nat} (h : FrV w W k A) (hb : Below W.heap.size W W') : FrV w W' k A :=
  ⟨hb.os.trans h.os, hb.tape.trans h.tape, hb.output.trans h.output, Nat.le_trans h.size hb.size, fun i hi h1 h2 => (hb.block i (Nat.lt_of_lt_of_le hi h.size)).trans (h.block i hi h1 h2)⟩
theorem FrV.drew {w W : World} {k : Nat} {A : Option Nat} (h : FrV w W k A) : FrV w W.drew k A := ⟨h.os, h.tape, h.output, h.size, h.block⟩
theorem FrV.drewN {w W : World} {k : Nat} {A : Option Nat} (h : FrV w W k A) (n : Nat) : FrV w (W.drewN n) k A := ⟨h.os, h.tape, h.output, h.size, h.block⟩

theorem own_form {W : World} {B : Nat} {e : TypeId} {size : Nat} {v : Value} {n : Nat} {xs : List Value} (h : W.ownsRow B e size v n xs) : ∃ A cap, v = .slice A n cap := by
  rcases h.2 with ⟨rfl, rfl⟩ | ⟨g, c, cur, rfl, _⟩
  · exact ⟨none, 0, rfl⟩
  · exact ⟨_, c, rfl⟩
theorem two_new (w : World) (x y : Value) (t : TypeId) : ∀ j u, [x, y][j]? = some u → (w.alloc (.cells #[x, y] t)).cell? ((⟨w.heap.size, 0, none⟩ : Addr).add j) = some u := by
  intro j u hj
  rw [add_plain, blk_cell (blk_new w (.cells #[x, y] t)) j]
  match j, hj with
  | 0, hj => simpa using hj
  | 1, hj => simpa using hj
theorem two_one (a b : Int) : ∀ u ∈ [Value.int .i64 a, .int .i64 b], u.oneCell' = true := by
  intro u hu
  simp at hu
  rcases hu with rfl | rfl <;> rfl
theorem le_alloc {c : Nat} {W : World} {o : Obj} (h : c ≤ W.heap.size) : c ≤ (W.alloc o).heap.size := by simp; omega
theorem info35 : (Try.prog.info? 35).map (fun i => (i.zero, i.size, i.bytes)) = some (some (.agg #[.int .i64 0, .int .i64 0]), 2, 16) := by kernel_rfl

/-- What Fail answers where a failure is noted, the (n + 1)-th one. -/
def failV (t b m : Int) (n : Nat) (now : Int) : Int × Int := if (n : Int) + 1 = t then (0, 100) else (now + waitF b m n, 0)
/-- What stands behind Fail of the document's budget. -/
def RFailed (B k : Nat) (A : Option Addr) (t b m : Int) (L : List It) (w : World) (r : Int × Int) (e : Ending) (w' : World) : Prop :=
  e = .returned (.tuple #[.int .i64 r.1, .int .i64 r.2]) ∧ ∃ A' cap', IsV w' B k A' cap' t b m L ∧ FrV w w' k (rowB A) ∧ (rowB A' = rowB A ∨ ∃ g, rowB A' = some g ∧ w.heap.size ≤ g)
/-- What the operations of the append see. -/
structure AV (W : World) (k c : Nat) (A : Option Addr) (cap : Nat) (t b m : Int) (n : Nat) (x : It) : Prop where
  blk : W.heap[k]? = some (.cells #[.int .i64 t, .int .i64 b, .int .i64 m, .slice A n cap] 99 (0, 0))
  bx : W.heap[c]? = some (.cells #[.int .i64 x.1, .int .i64 x.2] 35 (0, 0))

set_option maxHeartbeats 8000000 in
set_option maxRecDepth 100000 in
theorem rfail_in (B k : Nat) (A : Option Addr) (cap : Nat) (t b m : Int) (L : List It) (x : It) (n : Nat) (hcn : cnt x L = n) (now : Int) (w : World) (h : IsV w B k A cap t b m L) (hB : B ≤ w.heap.size) (hL : L.length + 1 ≤ 8796093022208) (ht : okBud t b m) (hc : (n : Int) < t) (hn : 0 ≤ now ∧ now ≤ 9007199254740992) :
    Calls Try.prog 31 #[.pointer (some ⟨k, 0, none⟩), .agg #[.int .i64 x.1, .int .i64 x.2], .int .i64 now] w (RFailed B k A t b m (L ++ [x]) w (failV t b m n now)) := by
  have n1 : decide (now < 0) = false := by simp; omega
  have n2 : decide (9007199254740992 < now) = false := by simp; omega
  have H0 := Aside0.mk (TV.start x h)
  have HT := Aside0.mk ht
  have HCN := Aside0.mk hcn
  have HL := Aside0.mk hL
  have HB := Aside0.mk hB
  have HN := Aside0.mk hn
  have q1 : (((n : Nat) : Int) == t) = false := by simp; omega
  have hw1 : wrap64 (((n : Nat) : Int) + 1) = ((n + 1 : Nat) : Int) := Go.IntWalk.wrap64_in _ (by have := cnt_le x L; omega)
  have HC := Aside0.mk hc
  have h0 := Aside0.mk h.rlt
  clear h hL hB ht hn hc hcn
  go_enter Try.func31, Try.ntmps31
  go_upto_region 8 with (go_at_call 42; have c0 := blk_cell H0.out.v.blk 0; refine (times_calls B k A cap t b m L x _ H0.out.v (by have := HL.out; omega)).mono ?_; rintro e w2 ⟨rfl, hb⟩; rw [HCN.out]; have H2 := Aside0.mk (H0.out.grow hb); clear c0 hb; have c0 := blk_cell H2.out.v.blk 0)
  have H8 := H2
  clear H2 H0 c0
  have H8c := Aside0.mk H8.out.below.size
  have H8r := Aside0.mk (fun g (hg : rowB A = some g) => (h0.out g hg).2)
  generalize hcw : w.heap.size = c at *
  have HCW := Aside0.mk hcw
  clear hcw
  refine wp_region_planF (quiets [0, 1, 2, 3, 4, 5] ++ ((true, 6) :: ((true, 7) :: (quiets [8, 9] ++ [])))) 10 (fun W => AV W k c A cap t b m L.length x) (by kernel_rfl) (by kernel_rfl) ⟨H8.out.v.blk, H8.out.bx⟩ ?_
  apply mix_quiets [0, 1, 2, 3, 4, 5] _ (by kernel_rfl) ⟨H8.out.v.blk, H8.out.bx⟩
  case h =>
    intro W hW
    have e0 := blk_cell hW.blk 3
    have e3 := blk_cell hW.bx 0
    have e4 := blk_cell hW.bx 1
    clear hW
    refine still_of_quiet _ _ ?_
    simp only [segOps, List.getElem?_toArray, List.getElem?_cons_zero, List.getElem?_cons_succ, Option.toList_some, List.nil_append, List.cons_append, List.append_nil]
    repeat (go_big_quiet_step (fail))
    exact wpQuiet_nil rfl
  refine mix_writes 6 _ rfl _ ?_
  change wpList _ _ _ _ _ w2.drew
  have H3 := Aside0.mk H8.out.drew
  clear H8
  generalize w2.drew = w3 at *
  obtain ⟨i0, hi, hz0, hz1, hz2⟩ := info_parts info35
  go_wp2_with fail
  have b4 : Below w3.heap.size w3 (w3.alloc (.cells #[.int .i64 x.1, .int .i64 x.2] 35)) := (Below.refl _ _).alloc (Nat.le_refl _) _
  have H4 := Aside0.mk (H3.out.grow b4)
  clear b4
  refine ⟨⟨H4.out.v.blk, H4.out.bx⟩, ?_⟩
  refine mix_writes 7 ⟨some 33, _, _, _, _, _⟩ rfl _ ?_
  have r4 := H4.out.v.row
  refine wpList_append_own_at _ rfl _ _ 39 rfl B 35 i0 (.agg #[.int .i64 0, .int .i64 0]) 2 16 Try.underlying39 hi hz0 hz1 hz2 rfl (by decide) (.slice A L.length cap) L.length (icells L) rfl r4 ⟨w3.heap.size, 0, none⟩ 1 1 [.int .i64 x.1, .int .i64 x.2] rfl rfl (two_new _ _ _ _) (by intro u hu; simp at hu; rcases hu with rfl | rfl <;> rfl) ?c1 ?c2 ?c3 ?c4
  case c1 => have := HL.out; unfold maxLen; omega
  case c2 => have := HL.out; omega
  case c3 => have := HB.out; have := HCW.out; have := H4.out.below.size; omega
  case c4 =>
  intro v' w5 hown hgrow _ hat
  obtain ⟨A', cap', rfl⟩ := own_form hown
  clear r4 hi hz0 hz1 hz2
  rw [rowB_own] at hgrow
  rw [rowB_own, rowB_own] at hat
  have hk5 : w5.heap[k]? = _ := blk_grown H4.out.v.blk hgrow (fun e => H4.out.v.rk k e.symm rfl)
  have hc5 : w5.heap[c]? = _ := blk_grown H4.out.bx hgrow (fun e => by have h1 := H8c.out; have h2 := (H8r.out c e.symm); omega)
  have hG : IsV (w5.setCell ⟨k, 3, none⟩ (.slice A' (L.length + 1) cap')) B k A' cap' t b m (L ++ [x]) := by
    have hl : (L ++ [x]).length = L.length + 1 := by simp
    refine ⟨?_, ?_⟩
    · rw [hl]; exact blk_set hk5 3 _
    · rw [hl]
      refine ownsRow_keep (W := w5) ?_ fun g hg => ?_
      · rw [icells_append]; exact hown
      · obtain ⟨cur, hcur⟩ := ownsRow_type hown g hg
        exact Below.heap_setCell w5 ⟨k, 3, none⟩ _ g (blk_ne hcur hk5 (by decide))
  have hF : FrV w (w5.setCell ⟨k, 3, none⟩ (.slice A' (L.length + 1) cap')) k (rowB A) := by
    refine FrV.set (FrV.grown (FrV.of_below ?_) hgrow) 3 _
    have := H4.out.below
    exact this
  have hR : rowB A' = rowB A ∨ ∃ g, rowB A' = some g ∧ w.heap.size ≤ g := by
    rcases hat with e | e
    · exact .inl e
    · exact .inr ⟨_, e, H4.out.below.size⟩
  have HG := Aside0.mk hG
  have HF := Aside0.mk hF
  have HR := Aside0.mk hR
  have HK5 := Aside0.mk hk5
  have HC5 := Aside0.mk hc5
  clear hG hF hR hat hgrow hown hk5 hc5
  go_wp2_with fail
  refine ⟨⟨HK5.out, HC5.out⟩, ?_⟩
  apply mix_quiets [8, 9] _ (by kernel_rfl) ⟨HK5.out, HC5.out⟩
  case h =>
    intro W hW
    clear hW
    refine still_of_quiet _ _ ?_
    simp only [segOps, List.getElem?_toArray, List.getElem?_cons_zero, List.getElem?_cons_succ, Option.toList_some, List.nil_append, List.cons_append, List.append_nil]
    repeat (go_big_quiet_step (fail))
    exact wpQuiet_nil rfl
  refine fin_write 10 _ rfl ?_
  have c3 := blk_cell HK5.out 3
  have f3 := blk_frozen HK5.out 3
  go_wp2_with fail
  refine nq_out ?_
  clear c3 f3 HK5 HC5
  generalize w5.setCell ⟨k, 3, none⟩ (.slice A' (L.length + 1) cap') = w6 at *
  have c0 := blk_cell HG.out.blk 0
  by_cases ce : (n : Int) + 1 = t
  · have d1 : (wrap64 ((n : Int) + 1) == t) = true := by rw [hw1]; simp; omega
    have CE := Aside0.mk (show failV t b m n now = (0, 100) by unfold failV; rw [if_pos ce])
    clear ce hw1
    go_wp2_with fail
    go_ret2
    exact ⟨ret2_i64 (congrArg Prod.fst CE.out) (congrArg Prod.snd CE.out), A', cap', HG.out, HF.out, HR.out⟩
  · have d1 : (((n : Int) + 1) == t) = false := by simp; omega
    have d2 : (((n + 1 : Nat) : Int) == t) = false := by simp; omega
    have hwb := waitF_bd HT.out.2.2.1 HT.out.2.2.2.2.1 n
    have av : wrap64 (now + waitF b m n) = now + waitF b m n := Go.IntWalk.wrap64_in _ (by have := HN.out; have := HT.out.2.2.2.2.2; omega)
    have CE := Aside0.mk (show failV t b m n now = (now + waitF b m n, 0) by unfold failV; rw [if_neg ce])
    have CT := Aside0.mk (show n + 1 ≤ 64 by have := HC.out; have := HT.out.2.1; omega)
    have AVv := Aside0.mk av
    clear ce hwb av
    go_wp2_with (go_at_call 43; refine (pause_calls B k A' cap' t b m (L ++ [x]) (n + 1) _ HG.out ⟨by omega, CT.out⟩ HT.out.2.2.1 HT.out.2.2.2.2.1 HT.out.2.2.2.2.2).mono ?_; rintro e w' ⟨rfl, rfl⟩; rw [Nat.add_sub_cancel])
    go_ret2
    exact ⟨ret2_i64 ((congrArg Prod.fst CE.out).trans AVv.out.symm) (congrArg Prod.snd CE.out), A', cap', HG.out, HF.out, HR.out⟩

end Go.Proofs.Ythajekcjgkidhaa.Q
