/- Contracts of (*granaryref10.Budget).Fail and .Clear. Condition: block k is such a budget. -/
import Derived.Test.YthajekcjgkidhaaProg
import Derived.Below
import Derived.Deep.Draws
import Derived.Deep.AppendLies
import Derived.Maps.AppendAt
import Derived.OwnWalk
import Derived.Laws.BytesArg
import Derived.Laws.MakeOwn
import Derived.Laws.OwnMore
import Derived.Deep.OwnRows
import Derived.Tactics
import Derived.Lib.ConvBytes
import Derived.Laws.Slices
import Derived.WalkKit
import Derived.KernelRfl
import Derived.RowKit3
import Derived.Deep.LoopGhost
import Derived.Deep.QuietTactic
import Derived.BigQuiet
import Derived.WideLaws
import Derived.Deep.DeepCutAuto
import Derived.Deep.CutBlock
import Derived.Deep.RegionHeld3
import Derived.Laws.Rows
import Derived.Lib.AppendStr
import Derived.ArgAppend
import Derived.Laws.IdiomCopy
import Derived.OrdersHeld
import Derived.Laws.BitsLemmas
import Derived.RowKit
import Derived.Test.YthajekcjgkidhaaWWords
import Derived.Test.YthajekcjgkidhaaWLast
import Derived.Test.YthajekcjgkidhaaWTab
import Derived.Test.YthajekcjgkidhaaWFour
import Derived.Test.YthajekcjgkidhaaWQPut
import Derived.Test.YthajekcjgkidhaaWApart
import Derived.Test.YthajekcjgkidhaaWArr
import Derived.Test.YthajekcjgkidhaaWZeros
import Derived.Test.YthajekcjgkidhaaWFoot
import Derived.Test.YthajekcjgkidhaaWKept
import Derived.Test.YthajekcjgkidhaaWShare
import Derived.Test.YthajekcjgkidhaaWN
import Derived.Test.YthajekcjgkidhaaWFootNe
import Derived.Test.YthajekcjgkidhaaWAt
import Derived.Test.YthajekcjgkidhaaWEqStruct
import Derived.Test.YthajekcjgkidhaaWRepsOne
import Derived.Test.YthajekcjgkidhaaWInv
import Derived.Test.YthajekcjgkidhaaWInvWords
import Derived.Test.YthajekcjgkidhaaWGuard
import Derived.Test.YthajekcjgkidhaaWNEv
import Derived.Test.YthajekcjgkidhaaWMore
import Derived.Test.YthajekcjgkidhaaLocks
import Derived.Conc.MuLone
import Derived.Test.YthajekcjgkidhaaU2
set_option linter.unusedVariables false
set_option linter.unusedSimpArgs false
namespace Go.Proofs.Ythajekcjgkidhaa.Q
open Go.RowKit Go.Proofs.YthajekcjgkidhaaW.PrintWords Go.Proofs.YthajekcjgkidhaaW.PrintLast Go.Proofs.YthajekcjgkidhaaW.PrintMore
open Go.MuLone Go.FM Go.Plan

/-- What the document's Fail makes of the list, and what it answers. -/
def failR (t b m : Int) (L : List It) (x : It) (now : Int) : List It × (Int × Int) :=
  if now < 0 ∨ 9007199254740992 < now then (L, (0, 1))
  else if (cnt x L : Int) = t then (L, (0, 100))
  else (L ++ [x], failV t b m (cnt x L) now)

theorem RFailed.same {B k : Nat} {A : Option Addr} {cap : Nat} {t b m : Int} {L : List It} {w w' : World} {r : Int × Int} {e : Ending} (he : e = .returned (.tuple #[.int .i64 r.1, .int .i64 r.2])) (h : IsV w B k A cap t b m L) (hb : Below w.heap.size w w') : RFailed B k A t b m L w r e w' :=
  ⟨he, A, cap, h.below hb, FrV.of_below hb, .inl rfl⟩

set_option maxHeartbeats 8000000 in
set_option maxRecDepth 100000 in
theorem rfail_calls (B k : Nat) (A : Option Addr) (cap : Nat) (t b m : Int) (L : List It) (x : It) (now : Int) (w : World) (h : IsV w B k A cap t b m L) (hB : B ≤ w.heap.size) (hL : L.length + 1 ≤ 8796093022208) (ht : okBud t b m) (hc : (cnt x L : Int) ≤ t) :
    Calls Try.prog 31 #[.pointer (some ⟨k, 0, none⟩), .agg #[.int .i64 x.1, .int .i64 x.2], .int .i64 now] w (RFailed B k A t b m (failR t b m L x now).1 w (failR t b m L x now).2) := by
  have bw := (Below.refl w.heap.size w).alloc (Nat.le_refl _) (.cells #[.int .i64 x.1, .int .i64 x.2] 35)
  have H := Aside0.mk h
  have BW := Aside0.mk bw
  by_cases k1 : now < 0
  · have n1 : decide (now < 0) = true := by simpa using k1
    rw [show failR t b m L x now = (L, (0, 1)) by unfold failR; rw [if_pos (by omega)]]
    clear k1 h hB hL ht hc bw
    go_enter Try.func31, Try.ntmps31
    go_wp2_with fail
    go_ret2
    exact RFailed.same rfl H.out BW.out
  have n1 : decide (now < 0) = false := by simpa using k1
  by_cases k2 : 9007199254740992 < now
  · have n2 : decide (9007199254740992 < now) = true := by simpa using k2
    rw [show failR t b m L x now = (L, (0, 1)) by unfold failR; rw [if_pos (by omega)]]
    clear k1 k2 h hB hL ht hc bw
    go_enter Try.func31, Try.ntmps31
    go_wp2_with fail
    go_ret2
    exact RFailed.same rfl H.out BW.out
  have n2 : decide (9007199254740992 < now) = false := by simpa using k2
  by_cases k3 : (cnt x L : Int) = t
  · have n3 : (((cnt x L : Nat) : Int) == t) = true := by simpa using k3
    rw [show failR t b m L x now = (L, (0, 100)) by unfold failR; rw [if_neg (by omega), if_pos k3]]
    have H0 := Aside0.mk (TV.start x h)
    have HL := Aside0.mk hL
    clear k1 k2 k3 h hB hL ht hc bw
    go_enter Try.func31, Try.ntmps31
    go_wp2_with (go_at_call 42; refine (times_calls B k A cap t b m L x _ H0.out.v (by have := HL.out; omega)).mono ?_; rintro e w2 ⟨rfl, hb⟩; have H2 := Aside0.mk (H0.out.grow hb); clear hb; have c0 := blk_cell H2.out.v.blk 0)
    go_ret2
    exact RFailed.same rfl H.out H2.out.below
  · rw [show failR t b m L x now = (L ++ [x], failV t b m (cnt x L) now) by unfold failR; rw [if_neg (by omega), if_neg k3]]
    exact rfail_in B k A cap t b m L x (cnt x L) rfl now w h hB hL ht (by omega) (by omega)

/-- The list without an item. -/
def rem (x : It) : List It → List It
  | [] => []
  | y :: l => if y = x then rem x l else y :: rem x l
theorem rem_append (x : It) (L M : List It) : rem x (L ++ M) = rem x L ++ rem x M := by
  induction L with
  | nil => rfl
  | cons y l ih => simp only [rem, List.cons_append]; split <;> simp [ih]
theorem rem_length (x : It) (L : List It) : (rem x L).length ≤ L.length := by
  induction L with
  | nil => simp [rem]
  | cons y l ih => simp only [rem]; split <;> simp <;> omega
theorem rem_next (x : It) (L : List It) (i : Nat) (hi : i < L.length) : rem x (L.take (i + 1)) = rem x (L.take i) ++ (if L.getD i (0, 0) = x then [] else [L.getD i (0, 0)]) := by
  rw [take_next L i hi, rem_append]
  simp only [rem]
theorem rem_take_le (x : It) (L : List It) (i : Nat) : (rem x (L.take i)).length ≤ i := Nat.le_trans (rem_length x _) (List.length_take_le _ _)
theorem cnt_rem_same (x : It) (L : List It) : cnt x (rem x L) = 0 := by
  induction L with
  | nil => rfl
  | cons y l ih =>
    simp only [rem]
    by_cases h : y = x
    · rw [if_pos h]; exact ih
    · rw [if_neg h]; simp only [cnt, if_neg h, ih]
theorem cnt_rem_other {x z : It} (hz : z ≠ x) (L : List It) : cnt z (rem x L) = cnt z L := by
  induction L with
  | nil => rfl
  | cons y l ih =>
    simp only [rem]
    by_cases h : y = x
    · rw [if_pos h]; simp only [cnt, ih]; rw [if_neg (by rw [h]; exact fun e => hz e.symm)]; omega
    · rw [if_neg h]; simp only [cnt, ih]

/-- What stands behind Clear of the document's budget. -/
def RCleared (B k : Nat) (A : Option Addr) (t b m : Int) (L : List It) (w : World) (e : Ending) (w' : World) : Prop :=
  e = .returned (.int .i64 0) ∧ ∃ A' cap', IsV w' B k A' cap' t b m L ∧ FrV w w' k (rowB A) ∧ (rowB A' = rowB A ∨ rowB A' = none ∨ ∃ g, rowB A' = some g ∧ w.heap.size ≤ g)
theorem TV.over {w W W' : World} {B k c : Nat} {A : Option Addr} {cap : Nat} {t b m : Int} {L : List It} {x : It} (h : TV w W B k c A cap t b m L x) (hb : Below (c + 1) W W') (hk : k < c) (hr : ∀ g, rowB A = some g → g < c) (hc : w.heap.size = c) : TV w W' B k c A cap t b m L x :=
  ⟨h.v.keep (hb.block k (by omega)) (fun g hg => hb.block g (by have := hr g hg; omega)), (hb.block c (by omega)).trans h.bx, h.below.trans (hb.mono (by omega))⟩
theorem slice_len {A : Option Addr} {n n' cap : Nat} (h : n = n') : Value.slice A n cap = .slice A n' cap := by rw [h]

set_option maxHeartbeats 8000000 in
set_option maxRecDepth 100000 in
theorem rclear_calls (B k : Nat) (A : Option Addr) (cap : Nat) (t b m : Int) (L : List It) (x : It) (w : World) (h : IsV w B k A cap t b m L) (hB : B ≤ w.heap.size) (hL : L.length + 1 ≤ 8796093022208) :
    Calls Try.prog 33 #[.pointer (some ⟨k, 0, none⟩), .agg #[.int .i64 x.1, .int .i64 x.2]] w (RCleared B k A t b m (rem x L) w) := by
  have H0 := Aside0.mk (TV.start x h)
  have HL := Aside0.mk hL
  have HB := Aside0.mk hB
  have hk := h.klt
  have HR := Aside0.mk (fun g (hg : rowB A = some g) => (h.rlt g hg).2)
  have HK0 := Aside0.mk hk
  have hs0 : (w.alloc (.cells #[.int .i64 x.1, .int .i64 x.2] 35)).heap.size = w.heap.size + 1 := by simp
  have HS0 := Aside0.mk hs0
  clear h hL hB hk hs0
  obtain ⟨i0, hi, hz0, hz1, hz2⟩ := info_parts info35
  have HI := Aside0.mk (And.intro hi (And.intro hz0 (And.intro hz1 hz2)))
  clear hi hz0 hz1 hz2
  go_enter Try.func33, Try.ntmps33
  go_wp2_with fail
  generalize hcw : w.heap.size = c at *
  have HCW := Aside0.mk hcw
  clear hcw
  generalize w.alloc (.cells #[.int .i64 x.1, .int .i64 x.2] 35) = w0 at *
  go_loopg [5, 6] L.length (fun kq v5 v6 w' => ∃ (i : Nat) (M : List It) (A' : Option Addr) (cap' : Nat), v5 = .slice A' M.length cap' ∧ v6 = .int .i64 (i : Int) ∧ Aside0 (i + kq = L.length) ∧ Aside0 (rem x (L.take i) = M) ∧ Aside0 (TV w w' B k c A cap t b m L x) ∧ Aside0 (w'.ownsRow (c + 1) 35 2 (.slice A' M.length cap') M.length (icells M) ∧ c + 1 ≤ w'.heap.size))
  case atStart => exact ⟨0, [], none, 0, rfl, rfl, ⟨by omega⟩, ⟨rfl⟩, H0, ⟨⟨rfl, .inl ⟨rfl, rfl⟩⟩, by have := HS0.out; omega⟩⟩
  case round =>
    clear H0
    obtain ⟨i, M, A', cap', rfl, rfl, HK, HM, HJ, HO⟩ := hrel
    have c3 : wr.cell? ⟨k, 3, none⟩ = some (.slice A L.length cap) := blk_cell HJ.out.v.blk 3
    by_cases ci : (i : Int) < (L.length : Int)
    · cases gk with
      | zero => exact absurd HK.out (by omega)
      | succ k1 =>
      have cb : decide ((i : Int) < (L.length : Int)) = true := by simpa using ci
      have p2 : (0 ≤ (i : Int)) = True := eq_true (by omega)
      have p3 : ((i : Int) < (L.length : Int)) = True := eq_true ci
      have hwi : wrap64 ((i : Int) + 1) = ((i + 1 : Nat) : Int) := Go.IntWalk.wrap64_in _ (by have := HL.out; omega)
      have hcn := rem_next x L i (by omega)
      have e0 := blk_cell HJ.out.bx 0
      have e1 := blk_cell HJ.out.bx 1
      obtain ⟨ad, rfl, hx0, hx1⟩ := HJ.out.v.at_ i (by omega)
      have HAT := Aside0.mk (fun (W : World) (h : IsV W B k (some ad) cap t b m L) => h.at_ i (by omega))
      generalize L.getD i (0, 0) = y at *
      have HCN := Aside0.mk hcn
      clear hcn
      by_cases hy : y = x
      · have hne := fun W => itemNeq y.1 y.2 x.1 x.2 W
        simp only [item_beq hy] at hne
        have hgd := fun p q W => itemGuard y.1 y.2 x.1 x.2 p q W
        have HY := Aside0.mk hy
        clear hy
        go_wp2_with fail
        go_quiet (fail)
        have HA := Aside0.mk (HJ.out.drewN nq)
        have HP := Aside0.mk (show (wr.drewN nq).ownsRow (c + 1) 35 2 (.slice A' M.length cap') M.length (icells M) ∧ c + 1 ≤ (wr.drewN nq).heap.size from And.intro (pw_own_drewN HO.out.1 nq) HO.out.2)
        generalize wr.drewN nq = wA at *
        clear hx0 hx1 e0 e1 c3 HJ hne hgd
        go_wp2_with fail
        go_roundg k1
        case measure => have := HK.out; omega
        case rel => exact ⟨i + 1, M, A', cap', rfl, by rw [hwi], ⟨by have := HK.out; omega⟩, ⟨by rw [HCN.out, HM.out, if_pos HY.out, List.append_nil]⟩, HA, HP⟩
      · have hne := fun W => itemNeq y.1 y.2 x.1 x.2 W
        simp only [item_bne hy] at hne
        have hgd := fun p q W => itemGuard y.1 y.2 x.1 x.2 p q W
        have HY := Aside0.mk hy
        clear hy
        go_wp2_with fail
        go_quiet (fail)
        have HA := Aside0.mk (HJ.out.drewN nq)
        have HP := Aside0.mk (show (wr.drewN nq).ownsRow (c + 1) 35 2 (.slice A' M.length cap') M.length (icells M) ∧ c + 1 ≤ (wr.drewN nq).heap.size from And.intro (pw_own_drewN HO.out.1 nq) HO.out.2)
        generalize wr.drewN nq = wA at *
        clear hx0 hx1 e0 e1 c3 HJ hne hgd
        have c3 : wA.cell? ⟨k, 3, none⟩ = some (.slice (some ad) L.length cap) := blk_cell HA.out.v.blk 3
        obtain ⟨ad', ea, hx0, hx1⟩ := HAT.out _ HA.out.v
        obtain rfl := Option.some.inj ea
        have HML := Aside0.mk (show M.length ≤ i by have := HM.out; rw [← this]; exact rem_take_le x L i)
        have D := Aside0.mk (show M.length + 1 ≤ maxLen ∧ (M.length + 1) * 16 ≤ 140737488355328 from ⟨by unfold maxLen; have := HL.out; have := HML.out; omega, by have := HL.out; have := HML.out; omega⟩)
        go_wp2_with (at_builtin; refine wpList_append_own_at _ rfl _ _ 39 rfl (c + 1) 35 i0 (.agg #[.int .i64 0, .int .i64 0]) 2 16 Try.underlying39 HI.out.1 HI.out.2.1 HI.out.2.2.1 HI.out.2.2.2 rfl (by decide) (.slice A' M.length cap') M.length (icells M) rfl (HP.out.1.alloc _) ⟨wA.heap.size, 0, none⟩ 1 1 [.int .i64 y.1, .int .i64 y.2] rfl rfl (two_new _ _ _ _) (two_one _ _) D.out.1 D.out.2 (le_alloc HP.out.2) ?_; intro v' w5 hown hgrow _ hat; obtain ⟨A2, cap2, rfl⟩ := own_form hown; rw [rowB_own] at hgrow; have HW := Aside0.mk hown; have HG := Aside0.mk hgrow; clear hown hgrow hat hx0 hx1 c3)
        have hb5 : Below (c + 1) wA w5 := (((Below.refl (c + 1) wA).alloc HP.out.2 _).grown HG.out (le_alloc HP.out.2) (fun g hg => (ownsRow_lt HP.out.1 g hg).1))
        have HA5 := Aside0.mk (HA.out.over hb5 HK0.out HR.out HCW.out)
        have hz5 : c + 1 ≤ w5.heap.size := Nat.le_trans HP.out.2 hb5.size
        have hM5 : (M ++ [y]).length = M.length + 1 := by simp
        have HO5 : Aside0 (w5.ownsRow (c + 1) 35 2 (.slice A2 (M ++ [y]).length cap2) (M ++ [y]).length (icells (M ++ [y])) ∧ c + 1 ≤ w5.heap.size) := ⟨by rw [hM5, icells_append]; exact HW.out, hz5⟩
        have HM5 : Aside0 (rem x (L.take (i + 1)) = M ++ [y]) := ⟨by rw [HCN.out, HM.out, if_neg HY.out]⟩
        have hsl := Aside0.mk (slice_len (A := A2) (cap := cap2) hM5.symm)
        clear hb5 hz5 hM5 HA HP HW HG
        go_roundg k1
        case measure => have := HK.out; omega
        case rel => exact ⟨i + 1, M ++ [y], A2, cap2, hsl.out, congrArg (Value.int .i64) (by omega), ⟨by have := HK.out; omega⟩, HM5, HA5, HO5⟩
    · have cb : decide ((i : Int) < (L.length : Int)) = false := by simpa using ci
      have cb2 : decide (i < L.length) = false := by simp; omega
      have hi : i = L.length := by have := HK.out; omega
      have hn : rem x L = M := by have := HM.out; rw [hi, List.take_length] at this; exact this
      subst hn
      clear hi HM HK
      have f3 := blk_frozen HJ.out.v.blk 3
      have hG : IsV (wr.setCell ⟨k, 3, none⟩ (.slice A' (rem x L).length cap')) B k A' cap' t b m (rem x L) := by
        refine ⟨blk_set HJ.out.v.blk 3 _, ownsRow_keep (own_less HO.out.1 (by have := HB.out; omega)) fun g hg => Below.heap_setCell wr ⟨k, 3, none⟩ _ g ?_⟩
        have h1 := (ownsRow_lt HO.out.1 g hg).1
        have h2 := HK0.out
        show g ≠ k
        omega
      have hF : FrV w (wr.setCell ⟨k, 3, none⟩ (.slice A' (rem x L).length cap')) k (rowB A) := FrV.set (FrV.of_below HJ.out.below) 3 _
      have hR : rowB A' = rowB A ∨ rowB A' = none ∨ ∃ g, rowB A' = some g ∧ w.heap.size ≤ g := by
        cases hA : rowB A' with
        | none => exact .inr (.inl rfl)
        | some g => exact .inr (.inr ⟨g, rfl, by have := (ownsRow_lt HO.out.1 g hA).1; have := HCW.out; omega⟩)
      have HG := Aside0.mk hG
      have HF := Aside0.mk hF
      have HR2 := Aside0.mk hR
      clear hG hF hR
      go_wp2_with fail
      go_ret
      exact ⟨rfl, A', cap', HG.out, HF.out, HR2.out⟩

end Go.Proofs.Ythajekcjgkidhaa.Q
