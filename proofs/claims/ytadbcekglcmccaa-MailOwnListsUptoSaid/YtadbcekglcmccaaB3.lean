/- Contract of the book's step, kind by kind (printed by gen_step.py). Condition: the book says what the mail is. -/
import Derived.Test.YtadbcekglcmccaaProg
import Derived.Below
import Derived.Deep.Draws
import Derived.Deep.AppendLies
import Derived.Maps.AppendAt
import Derived.OwnWalk
import Derived.Laws.BytesArg
import Derived.Laws.MakeOwn
import Derived.Laws.OwnMore
import Derived.Deep.OwnRows
import Derived.Tactics
import Derived.Lib.ConvBytes
import Derived.Laws.Slices
import Derived.WalkKit
import Derived.KernelRfl
import Derived.RowKit3
import Derived.Deep.LoopGhost
import Derived.Deep.QuietTactic
import Derived.BigQuiet
import Derived.WideLaws
import Derived.Deep.DeepCutAuto
import Derived.Deep.CutBlock
import Derived.Deep.RegionHeld3
import Derived.Laws.Rows
import Derived.Lib.AppendStr
import Derived.ArgAppend
import Derived.Laws.IdiomCopy
import Derived.OrdersHeld
import Derived.Laws.BitsLemmas
import Derived.RowKit
import Derived.Test.YtadbcekglcmccaaWWords
import Derived.Test.YtadbcekglcmccaaWLast
import Derived.Test.YtadbcekglcmccaaWTab
import Derived.Test.YtadbcekglcmccaaWFour
import Derived.Test.YtadbcekglcmccaaWQPut
import Derived.Test.YtadbcekglcmccaaWApart
import Derived.Test.YtadbcekglcmccaaWArr
import Derived.Test.YtadbcekglcmccaaWZeros
import Derived.Test.YtadbcekglcmccaaWFoot
import Derived.Test.YtadbcekglcmccaaWKept
import Derived.Test.YtadbcekglcmccaaWShare
import Derived.Test.YtadbcekglcmccaaWN
import Derived.Test.YtadbcekglcmccaaWFootNe
import Derived.Test.YtadbcekglcmccaaWAt
import Derived.Test.YtadbcekglcmccaaWEqStruct
import Derived.Test.YtadbcekglcmccaaWRepsOne
import Derived.Test.YtadbcekglcmccaaWInv
import Derived.Test.YtadbcekglcmccaaWInvWords
import Derived.Test.YtadbcekglcmccaaWGuard
import Derived.Test.YtadbcekglcmccaaWNEv
import Derived.Test.YtadbcekglcmccaaWMore
import Derived.Test.YtadbcekglcmccaaB2
set_option linter.unusedVariables false
set_option linter.unusedSimpArgs false
namespace Go.Proofs.Ytadbcekglcmccaa.Q
open Go.RowKit Go.Proofs.YtadbcekglcmccaaW.PrintWords Go.Proofs.YtadbcekglcmccaaW.PrintLast Go.Proofs.YtadbcekglcmccaaW.PrintMore
open Go.FM Go.Plan

/-- The mail and the book, side by side in memory of the call's own. -/
structure HW (w W : World) (x : Pm) (k : Bk) : Prop where
  own : x.Own w W
  inn : k.In w.heap.size W
  bb : w.heap.size ≤ k.b
  apart : ∀ i, x.S i → ¬ k.S i
theorem HW.ge {w W : World} {x : Pm} {k : Bk} (h : HW w W x k) : ∀ i, k.S i → w.heap.size ≤ i := by
  intro i hi
  rcases hi with rfl | hi | hi
  · exact h.bb
  · exact (ownsRow_lt h.inn.rowL i hi).1
  · exact (ownsRow_lt h.inn.rowB i hi).1
theorem HW.lt {w W : World} {x : Pm} {k : Bk} (h : HW w W x k) : ∀ i, x.S i ∨ k.S i → i < W.heap.size := by
  intro i hi
  rcases hi with hi | hi
  · exact Pm.lt h.own.inn i hi
  · exact h.inn.lt i hi
theorem HW.mail {w W W' : World} {x x' : Pm} {k : Bk} (h : HW w W x k) (d : MDone W W' w.heap.size x x') : HW w W' x' k := by
  refine ⟨h.own.done d, h.inn.keep fun i hi => d.fr.block i (h.inn.lt i hi) (fun hs => h.apart i hs hi), h.bb, fun i hi hk => ?_⟩
  rcases d.S i hi with h1 | h1
  · exact h.apart i h1 hk
  · have := h.inn.lt i hk
    omega
theorem HW.book {w W W' : World} {x : Pm} {k k' : Bk} (h : HW w W x k) (d : KDone W W' w.heap.size k k') : HW w W' x k' := by
  refine ⟨h.own.bless (fun i hi => d.fr.block i (Pm.lt h.own.inn i hi) (fun hk => h.apart i hi hk)) (d.fr.below h.own.below h.ge h.own.below.size), d.inn, by rw [d.b]; exact h.bb, fun i hi hk => ?_⟩
  rcases d.S i hk with h1 | h1
  · exact h.apart i hi h1
  · have := Pm.lt h.own.inn i hi
    omega
theorem HW.grow {w W W' : World} {x : Pm} {k : Bk} (h : HW w W x k) (hb : Below W.heap.size W W') : HW w W' x k := ⟨h.own.grow hb, h.inn.below hb, h.bb, h.apart⟩

/-- What the book says of the mail. -/
structure HI (n : Nat) (x : Pm) (k : Bk) : Prop where
  good : x.Good n
  len : k.Bs.length = k.Ls.length
  sent : x.sent = (k.Ls.length : Int)
  left : x.L = leftL k.Ls k.Bs
  ids : ∀ (j : Nat) y, k.Ls[j]? = some y → y.i = (j : Int) + 1
theorem HI.le {n : Nat} {x : Pm} {k : Bk} (h : HI n x k) : k.Ls.length ≤ n := by have := h.good.sent.2; rw [h.sent] at this; omega
theorem HI.more {n m : Nat} {x : Pm} {k : Bk} (h : HI n x k) (hm : n ≤ m) : HI m x k := ⟨h.good.more hm, h.len, h.sent, h.left, h.ids⟩
theorem HI.add {n : Nat} {x : Pm} {k : Bk} (h : HI n x k) (y : Lt) (hy : y.i = (k.Ls.length : Int) + 1) (A : Option Addr) (cap : Nat) (A1 : Option Addr) (cap1 : Nat) (A2 : Option Addr) (cap2 : Nat) (hg : (⟨x.g, x.r, A, cap, x.lim, x.sent + 1, x.L ++ [y], x.F⟩ : Pm).Good (n + 1)) :
    HI (n + 1) ⟨x.g, x.r, A, cap, x.lim, x.sent + 1, x.L ++ [y], x.F⟩ ⟨k.b, A1, cap1, k.Ls ++ [y], A2, cap2, k.Bs ++ [false]⟩ := by
  refine ⟨hg, by simp [h.len], by show x.sent + 1 = ((k.Ls ++ [y]).length : Int); rw [h.sent]; simp, ?_, fun j z hz => ?_⟩
  · show x.L ++ [y] = leftL (k.Ls ++ [y]) (k.Bs ++ [false])
    rw [leftL_app _ _ _ _ h.len, if_neg (by decide), h.left]
  · have hz' : (k.Ls ++ [y])[j]? = some z := hz
    rw [List.getElem?_append] at hz'
    by_cases c : j < k.Ls.length
    · rw [if_pos c] at hz'; exact h.ids j z hz'
    · rw [if_neg c] at hz'
      have hj : j = k.Ls.length := by
        rcases Nat.lt_or_ge (j - k.Ls.length) 1 with h1 | h1
        · omega
        · rw [List.getElem?_eq_none (by simpa using h1)] at hz'; cases hz'
      subst hj
      rw [Nat.sub_self] at hz'
      obtain rfl := Option.some.inj hz'
      exact hy
theorem HI.take {n : Nat} {x : Pm} {k : Bk} (h : HI n x k) {i : Nat} {y : Lt} (hy : x.L[i]? = some y) : ∃ j : Nat, k.Ls[j]? = some y ∧ k.Bs[j]? = some false ∧ y.i = (j : Int) + 1 ∧ ∀ A cap A1 cap1 A2 cap2, HI (n + 1) ⟨x.g, x.r, A, cap, x.lim, x.sent, x.L.eraseIdx i, x.F⟩ ⟨k.b, A1, cap1, k.Ls, A2, cap2, k.Bs.set j true⟩ := by
  rw [h.left] at hy
  obtain ⟨j, h1, h2, h3⟩ := leftL_out k.Ls k.Bs i y h.len hy
  refine ⟨j, h1, h2, h.ids j y h1, fun A cap A1 cap1 A2 cap2 => ⟨(h.good.erase i A cap).more (by omega), by show (k.Bs.set j true).length = _; rw [List.length_set]; exact h.len, h.sent, ?_, h.ids⟩⟩
  show x.L.eraseIdx i = leftL k.Ls (k.Bs.set j true)
  rw [h3, h.left]
/-- The letters' cells alone have changed places. -/
theorem HI.re {n : Nat} {x : Pm} {k : Bk} (h : HI n x k) {F : Cm} (hg : ∀ A cap, (⟨x.g, x.r, A, cap, x.lim, x.sent, x.L, F⟩ : Pm).Good (n + 1)) (A : Option Addr) (cap : Nat) : HI (n + 1) ⟨x.g, x.r, A, cap, x.lim, x.sent, x.L, F⟩ k := ⟨hg A cap, h.len, h.sent, h.left, h.ids⟩

def SRes (w : World) (n : Nat) (x : Pm) (k : Bk) (o : Mo) (e : Ending) (w' : World) : Prop :=
  e = .returned (.bool true) ∧ ∃ x' k', x'.g = x.g ∧ k'.b = k.b ∧ HW w w' x' k' ∧ HI (n + 1) x' k' ∧ (o.k = 1 → x'.sent = sentOf x o.n o.m)
theorem SRes.of {w w' : World} {n : Nat} {x x' : Pm} {k k' : Bk} {o : Mo} (hw : HW w w' x' k') (hi : HI (n + 1) x' k') (hg : x'.g = x.g) (hb : k'.b = k.b) (h : o.k = 1 → x'.sent = sentOf x o.n o.m) : SRes w n x k o (.returned (.bool true)) w' := ⟨rfl, x', k', hg, hb, hw, hi, h⟩

set_option maxHeartbeats 16000000 in
set_option maxRecDepth 100000 in
theorem step_send (w : World) (n : Nat) (x : Pm) (k : Bk) (o : Mo) (W : World) (h : HW w W x k) (hi : HI n x k) (hn : n ≤ 2990000000000) (hk : o.k = 1) :
    Calls Try.prog 29 #[.pointer (some ⟨k.b, 0, none⟩), .pointer (some ⟨x.g, 0, none⟩), .agg #[.int .i64 o.k, .int .i64 o.a, .int .i64 o.n, .int .i64 o.m, .string o.s]] W (SRes w n x k o) := by
  have H := Aside0.mk (h.grow (below2a W (.cells #[.int .i64 o.k, .int .i64 o.a, .int .i64 o.n, .int .i64 o.m, .string o.s] 41)))
  have HX := Aside0.mk (blk_new W (.cells #[.int .i64 o.k, .int .i64 o.a, .int .i64 o.n, .int .i64 o.m, .string o.s] 41))
  have HS := Aside0.mk h.lt
  have HII := Aside0.mk hi
  have HN := Aside0.mk hn
  have kb1 : (o.k == 1) = true := by simpa using hk
  clear h hi hn hk
  go_enter Try.func29, Try.ntmps29
  go_upto_region 1 with fail
  generalize hc : W.heap.size = c at *
  clear hc
  generalize W.alloc (.cells #[.int .i64 o.k, .int .i64 o.a, .int .i64 o.n, .int .i64 o.m, .string o.s] 41) = w1 at *
  go_upto_region 2 with (go_at_call 31; (with_reducible refine (left_calls w.heap.size k _ H.out.inn HII.out.len (by have := HII.out.le; have := HN.out; omega)).mono ?_); rintro e w2 ⟨Al, cl, rfl, hb, ho⟩; rw [← HII.out.left] at ho ⊢; have H2 := Aside0.mk (H.out.grow hb); have HX2 := Aside0.mk (blk_below HX.out hb); have HO2 := Aside0.mk ho; have HCW := Aside0.mk (show c ≤ w1.heap.size from Nat.le_of_lt (blk_lt HX.out)); clear hb ho)
  have e0 := blk_cell HX2.out 0
  have e2 := blk_cell HX2.out 2
  have e3 := blk_cell HX2.out 3
  have e4 := blk_cell HX2.out 4
  clear H HX
  by_cases hs : sendB x o.n o.m = 0
  · have hsd : sentOf x o.n o.m = x.sent + 1 := by unfold sentOf; rw [if_pos hs]
    have hlt : lettersOf x o.n o.m o.s = x.L ++ [⟨x.sent + 1, o.n, o.m, o.s⟩] := by unfold lettersOf; rw [if_pos hs]
    have HG := Aside0.mk (HII.out.good.send o.n o.m o.s)
    rw [hsd, hlt] at HG
    have HSD := Aside0.mk hsd
    have HLT := Aside0.mk hlt
    have HSB := Aside0.mk hs
    have HYI := Aside0.mk (show (⟨x.sent + 1, o.n, o.m, o.s⟩ : Lt).i = (k.Ls.length : Int) + 1 by show x.sent + 1 = _; rw [HII.out.sent])
    clear hsd hlt hs
    go_wp2_with (first
      | (go_at_call 12; (with_reducible refine (send_good w.heap.size x n _ H2.out.own.inn H2.out.own.below.size HII.out.good (by have := HN.out; omega) o.n o.m o.s).mono ?_); rintro e w3 ⟨rfl, A3, cap3, hd⟩; rw [HSD.out, HLT.out] at hd; rw [HSB.out, if_pos rfl]; have H3 := Aside0.mk (H2.out.mail hd); have HX3 := Aside0.mk ((hd.fr.block _ (blk_lt HX2.out) (fun hs => by have := HS.out _ (.inl hs); omega)).trans HX2.out); have y2 := blk_cell HX3.out 2; have y3 := blk_cell HX3.out 3; have y4 := blk_cell HX3.out 4; clear hd)
      | (go_at_call 11; refine (num_calls _ _).mono ?_; rintro e w' ⟨rfl, rfl⟩)
      | (go_at_call 50; (with_reducible refine (note_calls w.heap.size k ⟨x.sent + 1, o.n, o.m, o.s⟩ _ H3.out.inn H3.out.own.below.size HII.out.len (by have := HII.out.le; have := HN.out; omega) HYI.out).mono ?_); rintro e w4 ⟨rfl, A4, cap4, A5, cap5, hd⟩; have H4 := Aside0.mk (H3.out.book hd); clear hd))
    go_ret
    exact SRes.of H4.out (HII.out.add _ HYI.out _ _ _ _ _ _ (HG.out A3 cap3)) rfl rfl (fun _ => HSD.out.symm)
  · have hsd : sentOf x o.n o.m = x.sent := by unfold sentOf; rw [if_neg hs]
    have hlt : lettersOf x o.n o.m o.s = x.L := by unfold lettersOf; rw [if_neg hs]
    have HG := Aside0.mk (HII.out.good.send o.n o.m o.s)
    rw [hsd, hlt] at HG
    have HSD := Aside0.mk hsd
    have HLT := Aside0.mk hlt
    have hse : (sendB x o.n o.m != 0) = true := by simpa using hs
    clear hsd hlt
    generalize hsb : sendB x o.n o.m = sb at *
    have HSB := Aside0.mk hsb
    have HSN := Aside0.mk hs
    clear hsb hs
    go_wp2_with (first
      | (go_at_call 12; (with_reducible refine (send_good w.heap.size x n _ H2.out.own.inn H2.out.own.below.size HII.out.good (by have := HN.out; omega) o.n o.m o.s).mono ?_); rintro e w3 ⟨rfl, A3, cap3, hd⟩; rw [HSD.out, HLT.out] at hd; rw [HSB.out, if_neg HSN.out]; have H3 := Aside0.mk (H2.out.mail hd); have HX3 := Aside0.mk ((hd.fr.block _ (blk_lt HX2.out) (fun hs => by have := HS.out _ (.inl hs); omega)).trans HX2.out); have y2 := blk_cell HX3.out 2; have y3 := blk_cell HX3.out 3; have y4 := blk_cell HX3.out 4; clear hd)
      | (go_at_call 11; refine (num_calls _ _).mono ?_; rintro e w' ⟨rfl, rfl⟩))
    go_ret
    exact SRes.of H3.out (HII.out.re HG.out A3 cap3) rfl rfl (fun _ => HSD.out.symm)

set_option maxHeartbeats 16000000 in
set_option maxRecDepth 100000 in
theorem step_cut (w : World) (n : Nat) (x : Pm) (k : Bk) (o : Mo) (W : World) (h : HW w W x k) (hi : HI n x k) (hn : n ≤ 2990000000000) (n1 : ¬ o.k = 1) (n2 : ¬ o.k = 2) (n3 : ¬ o.k = 3) (n4 : ¬ o.k = 4) (hk : o.k = 5) :
    Calls Try.prog 29 #[.pointer (some ⟨k.b, 0, none⟩), .pointer (some ⟨x.g, 0, none⟩), .agg #[.int .i64 o.k, .int .i64 o.a, .int .i64 o.n, .int .i64 o.m, .string o.s]] W (SRes w n x k o) := by
  have H := Aside0.mk (h.grow (below2a W (.cells #[.int .i64 o.k, .int .i64 o.a, .int .i64 o.n, .int .i64 o.m, .string o.s] 41)))
  have HX := Aside0.mk (blk_new W (.cells #[.int .i64 o.k, .int .i64 o.a, .int .i64 o.n, .int .i64 o.m, .string o.s] 41))
  have HS := Aside0.mk h.lt
  have HII := Aside0.mk hi
  have HN := Aside0.mk hn
  have HKK := Aside0.mk (show ∀ s : Int, o.k = 1 → s = sentOf x o.n o.m from fun _ e => by omega)
  have kb1 : (o.k == 1) = false := by simpa using n1
  have kb2 : (o.k == 2) = false := by simpa using n2
  have kb3 : (o.k == 3) = false := by simpa using n3
  have kb4 : (o.k == 4) = false := by simpa using n4
  have kb5 : (o.k == 5) = true := by simpa using hk
  clear h hi hn n1 n2 n3 n4 hk
  go_enter Try.func29, Try.ntmps29
  go_upto_region 1 with fail
  generalize hc : W.heap.size = c at *
  clear hc
  generalize W.alloc (.cells #[.int .i64 o.k, .int .i64 o.a, .int .i64 o.n, .int .i64 o.m, .string o.s] 41) = w1 at *
  go_upto_region 2 with (go_at_call 31; (with_reducible refine (left_calls w.heap.size k _ H.out.inn HII.out.len (by have := HII.out.le; have := HN.out; omega)).mono ?_); rintro e w2 ⟨Al, cl, rfl, hb, ho⟩; rw [← HII.out.left] at ho ⊢; have H2 := Aside0.mk (H.out.grow hb); have HX2 := Aside0.mk (blk_below HX.out hb); have HO2 := Aside0.mk ho; have HCW := Aside0.mk (show c ≤ w1.heap.size from Nat.le_of_lt (blk_lt HX.out)); clear hb ho)
  have e0 := blk_cell HX2.out 0
  have e2 := blk_cell HX2.out 2
  have e3 := blk_cell HX2.out 3
  have e4 := blk_cell HX2.out 4
  clear H HX
  have HG := Aside0.mk (HII.out.good.cut o.n o.m)
  go_wp2_with (go_at_call 15; (with_reducible refine (cut_calls w.heap.size x n _ H2.out.own.inn HII.out.good (by have := HN.out; omega) o.n o.m).mono ?_); rintro e w3 ⟨rfl, A3, cap3, hd⟩; have H3 := Aside0.mk (H2.out.mail hd); clear hd)
  go_ret
  exact SRes.of H3.out (HII.out.re (F := cutG x.F o.n o.m) (fun A cap => HG.out A cap) A3 cap3) rfl rfl (fun e => HKK.out _ e)

set_option maxHeartbeats 16000000 in
set_option maxRecDepth 100000 in
theorem step_heal (w : World) (n : Nat) (x : Pm) (k : Bk) (o : Mo) (W : World) (h : HW w W x k) (hi : HI n x k) (hn : n ≤ 2990000000000) (n1 : ¬ o.k = 1) (n2 : ¬ o.k = 2) (n3 : ¬ o.k = 3) (n4 : ¬ o.k = 4) (n5 : ¬ o.k = 5) (hk : o.k = 6) :
    Calls Try.prog 29 #[.pointer (some ⟨k.b, 0, none⟩), .pointer (some ⟨x.g, 0, none⟩), .agg #[.int .i64 o.k, .int .i64 o.a, .int .i64 o.n, .int .i64 o.m, .string o.s]] W (SRes w n x k o) := by
  have H := Aside0.mk (h.grow (below2a W (.cells #[.int .i64 o.k, .int .i64 o.a, .int .i64 o.n, .int .i64 o.m, .string o.s] 41)))
  have HX := Aside0.mk (blk_new W (.cells #[.int .i64 o.k, .int .i64 o.a, .int .i64 o.n, .int .i64 o.m, .string o.s] 41))
  have HS := Aside0.mk h.lt
  have HII := Aside0.mk hi
  have HN := Aside0.mk hn
  have HKK := Aside0.mk (show ∀ s : Int, o.k = 1 → s = sentOf x o.n o.m from fun _ e => by omega)
  have kb1 : (o.k == 1) = false := by simpa using n1
  have kb2 : (o.k == 2) = false := by simpa using n2
  have kb3 : (o.k == 3) = false := by simpa using n3
  have kb4 : (o.k == 4) = false := by simpa using n4
  have kb5 : (o.k == 5) = false := by simpa using n5
  have kb6 : (o.k == 6) = true := by simpa using hk
  clear h hi hn n1 n2 n3 n4 n5 hk
  go_enter Try.func29, Try.ntmps29
  go_upto_region 1 with fail
  generalize hc : W.heap.size = c at *
  clear hc
  generalize W.alloc (.cells #[.int .i64 o.k, .int .i64 o.a, .int .i64 o.n, .int .i64 o.m, .string o.s] 41) = w1 at *
  go_upto_region 2 with (go_at_call 31; (with_reducible refine (left_calls w.heap.size k _ H.out.inn HII.out.len (by have := HII.out.le; have := HN.out; omega)).mono ?_); rintro e w2 ⟨Al, cl, rfl, hb, ho⟩; rw [← HII.out.left] at ho ⊢; have H2 := Aside0.mk (H.out.grow hb); have HX2 := Aside0.mk (blk_below HX.out hb); have HO2 := Aside0.mk ho; have HCW := Aside0.mk (show c ≤ w1.heap.size from Nat.le_of_lt (blk_lt HX.out)); clear hb ho)
  have e0 := blk_cell HX2.out 0
  have e2 := blk_cell HX2.out 2
  have e3 := blk_cell HX2.out 3
  have e4 := blk_cell HX2.out 4
  clear H HX
  have HG := Aside0.mk (HII.out.good.heal o.n o.m)
  go_wp2_with (go_at_call 19; (with_reducible refine (heal_calls w.heap.size x _ H2.out.own.inn o.n o.m).mono ?_); rintro e w3 ⟨rfl, A3, cap3, hd⟩; have H3 := Aside0.mk (H2.out.mail hd); clear hd)
  go_ret
  exact SRes.of H3.out (HII.out.re (F := healG x.F o.n o.m) (fun A cap => (HG.out A cap).more (by omega)) A3 cap3) rfl rfl (fun e => HKK.out _ e)

set_option maxHeartbeats 16000000 in
set_option maxRecDepth 100000 in
theorem step_other (w : World) (n : Nat) (x : Pm) (k : Bk) (o : Mo) (W : World) (h : HW w W x k) (hi : HI n x k) (hn : n ≤ 2990000000000) (n1 : ¬ o.k = 1) (n2 : ¬ o.k = 2) (n3 : ¬ o.k = 3) (n4 : ¬ o.k = 4) (n5 : ¬ o.k = 5) (n6 : ¬ o.k = 6) :
    Calls Try.prog 29 #[.pointer (some ⟨k.b, 0, none⟩), .pointer (some ⟨x.g, 0, none⟩), .agg #[.int .i64 o.k, .int .i64 o.a, .int .i64 o.n, .int .i64 o.m, .string o.s]] W (SRes w n x k o) := by
  have H := Aside0.mk (h.grow (below2a W (.cells #[.int .i64 o.k, .int .i64 o.a, .int .i64 o.n, .int .i64 o.m, .string o.s] 41)))
  have HX := Aside0.mk (blk_new W (.cells #[.int .i64 o.k, .int .i64 o.a, .int .i64 o.n, .int .i64 o.m, .string o.s] 41))
  have HS := Aside0.mk h.lt
  have HII := Aside0.mk hi
  have HN := Aside0.mk hn
  have HKK := Aside0.mk (show ∀ s : Int, o.k = 1 → s = sentOf x o.n o.m from fun _ e => by omega)
  have kb1 : (o.k == 1) = false := by simpa using n1
  have kb2 : (o.k == 2) = false := by simpa using n2
  have kb3 : (o.k == 3) = false := by simpa using n3
  have kb4 : (o.k == 4) = false := by simpa using n4
  have kb5 : (o.k == 5) = false := by simpa using n5
  have kb6 : (o.k == 6) = false := by simpa using n6
  clear h hi hn n1 n2 n3 n4 n5 n6
  go_enter Try.func29, Try.ntmps29
  go_upto_region 1 with fail
  generalize hc : W.heap.size = c at *
  clear hc
  generalize W.alloc (.cells #[.int .i64 o.k, .int .i64 o.a, .int .i64 o.n, .int .i64 o.m, .string o.s] 41) = w1 at *
  go_upto_region 2 with (go_at_call 31; (with_reducible refine (left_calls w.heap.size k _ H.out.inn HII.out.len (by have := HII.out.le; have := HN.out; omega)).mono ?_); rintro e w2 ⟨Al, cl, rfl, hb, ho⟩; rw [← HII.out.left] at ho ⊢; have H2 := Aside0.mk (H.out.grow hb); have HX2 := Aside0.mk (blk_below HX.out hb); have HO2 := Aside0.mk ho; have HCW := Aside0.mk (show c ≤ w1.heap.size from Nat.le_of_lt (blk_lt HX.out)); clear hb ho)
  have e0 := blk_cell HX2.out 0
  have e2 := blk_cell HX2.out 2
  have e3 := blk_cell HX2.out 3
  have e4 := blk_cell HX2.out 4
  clear H HX
  go_wp2_with fail
  go_ret
  exact SRes.of H2.out (HII.out.more (by omega)) rfl rfl (fun e => HKK.out _ e)

set_option maxHeartbeats 16000000 in
set_option maxRecDepth 100000 in
theorem step_deliver (w : World) (n : Nat) (x : Pm) (k : Bk) (o : Mo) (W : World) (h : HW w W x k) (hi : HI n x k) (hn : n ≤ 2990000000000) (n1 : ¬ o.k = 1) (hk : o.k = 2) :
    Calls Try.prog 29 #[.pointer (some ⟨k.b, 0, none⟩), .pointer (some ⟨x.g, 0, none⟩), .agg #[.int .i64 o.k, .int .i64 o.a, .int .i64 o.n, .int .i64 o.m, .string o.s]] W (SRes w n x k o) := by
  have H := Aside0.mk (h.grow (below2a W (.cells #[.int .i64 o.k, .int .i64 o.a, .int .i64 o.n, .int .i64 o.m, .string o.s] 41)))
  have HX := Aside0.mk (blk_new W (.cells #[.int .i64 o.k, .int .i64 o.a, .int .i64 o.n, .int .i64 o.m, .string o.s] 41))
  have HS := Aside0.mk h.lt
  have HII := Aside0.mk hi
  have HN := Aside0.mk hn
  have HKK := Aside0.mk (show ∀ s : Int, o.k = 1 → s = sentOf x o.n o.m from fun _ e => by omega)
  have kb1 : (o.k == 1) = false := by simpa using n1
  have kb2 : (o.k == 2) = true := by simpa using hk
  clear h hi hn n1 hk
  go_enter Try.func29, Try.ntmps29
  go_upto_region 1 with fail
  generalize hc : W.heap.size = c at *
  clear hc
  generalize W.alloc (.cells #[.int .i64 o.k, .int .i64 o.a, .int .i64 o.n, .int .i64 o.m, .string o.s] 41) = w1 at *
  go_upto_region 2 with (go_at_call 31; (with_reducible refine (left_calls w.heap.size k _ H.out.inn HII.out.len (by have := HII.out.le; have := HN.out; omega)).mono ?_); rintro e w2 ⟨Al, cl, rfl, hb, ho⟩; rw [← HII.out.left] at ho ⊢; have H2 := Aside0.mk (H.out.grow hb); have HX2 := Aside0.mk (blk_below HX.out hb); have HO2 := Aside0.mk ho; have HCW := Aside0.mk (show c ≤ w1.heap.size from Nat.le_of_lt (blk_lt HX.out)); clear hb ho)
  have e0 := blk_cell HX2.out 0
  have e2 := blk_cell HX2.out 2
  have e3 := blk_cell HX2.out 3
  have e4 := blk_cell HX2.out 4
  clear H HX
  cases hp : pick x.L o.n with
  | none =>
    have HP := Aside0.mk hp
    have HG := Aside0.mk (fun A cap => (HII.out.good.at_ A cap).more (show n ≤ n + 1 by omega))
    have hpn := pick_none hp
    clear hp
    by_cases c1 : o.n < 0
    · have b1 : decide (o.n < 0) = true := decide_eq_true c1
      clear c1 hpn
      go_wp2_with (first
        | (go_at_call 13; (with_reducible refine (deliver_no w.heap.size x o.n _ H2.out.own.inn HP.out).mono ?_); rintro e w3 ⟨rfl, A3, cap3, hd⟩; have H3 := Aside0.mk (H2.out.mail hd); have HX3 := Aside0.mk ((hd.fr.block _ (blk_lt HX2.out) (fun hs => by have := HS.out _ (.inl hs); omega)).trans HX2.out); have HX4 := Aside0.mk (blk_alloc HX3.out (.cells #[.int .i64 0, .int .i64 0, .int .i64 0, .string ⟨#[]⟩] 33)); have y2 := blk_cell HX4.out 2; clear hd)
        | (go_at_call 11; refine (num_calls _ _).mono ?_; rintro e w' ⟨rfl, rfl⟩))
      go_ret
      exact SRes.of (H3.out.grow (below2a _ _)) (HII.out.re HG.out A3 cap3) rfl rfl (fun e => HKK.out _ e)
    · have b1 : decide (o.n < 0) = false := decide_eq_false c1
      have b2 : decide ((x.L.length : Int) ≤ o.n) = true := decide_eq_true (by omega)
      clear c1 hpn
      go_wp2_with (first
        | (go_at_call 13; (with_reducible refine (deliver_no w.heap.size x o.n _ H2.out.own.inn HP.out).mono ?_); rintro e w3 ⟨rfl, A3, cap3, hd⟩; have H3 := Aside0.mk (H2.out.mail hd); have HX3 := Aside0.mk ((hd.fr.block _ (blk_lt HX2.out) (fun hs => by have := HS.out _ (.inl hs); omega)).trans HX2.out); have HX4 := Aside0.mk (blk_alloc HX3.out (.cells #[.int .i64 0, .int .i64 0, .int .i64 0, .string ⟨#[]⟩] 33)); have y2 := blk_cell HX4.out 2; clear hd)
        | (go_at_call 11; refine (num_calls _ _).mono ?_; rintro e w' ⟨rfl, rfl⟩))
      go_ret
      exact SRes.of (H3.out.grow (below2a _ _)) (HII.out.re HG.out A3 cap3) rfl rfl (fun e => HKK.out _ e)
  | some y =>
    obtain ⟨m, hm, hk⟩ := pick_some hp
    have HM := Aside0.mk hm
    have HY := Aside0.mk hk
    have hml := (List.getElem?_eq_some_iff.1 hk).1
    have HML := Aside0.mk hml
    have HAD := Aside0.mk (HII.out.good.adr y (pick_mem hp))
    have HLL := Aside0.mk HII.out.good.len4
    have b1 : decide ((m : Int) < 0) = false := decide_eq_false (by omega)
    have b2 : decide ((x.L.length : Int) ≤ (m : Int)) = false := decide_eq_false (by omega)
    have b3 : decide (x.L.length ≤ m) = false := decide_eq_false (by omega)
    have b4 : decide (0 ≤ (m : Int)) = true := decide_eq_true (by omega)
    have b5 : decide ((m : Int) < (x.L.length : Int)) = true := decide_eq_true (by omega)
    have b6 : decide (m < x.L.length) = true := decide_eq_true (by omega)
    have p2 : (0 ≤ (m : Int)) = True := eq_true (by omega)
    have p3 : ((m : Int) < (x.L.length : Int)) = True := eq_true (by omega)
    rw [hm] at e2
    clear hp hm hk hml
    by_cases c : 0 < cutN x.F y.f y.t
    · have HG := Aside0.mk (fun A cap => (HII.out.good.at_ A cap).more (show n ≤ n + 1 by omega))
      have HC := Aside0.mk c
      clear c
      go_wp2_with (first
        | (go_at_call 13; (with_reducible refine (deliver_cut w.heap.size x m y _ H2.out.own.inn HY.out HAD.out.1 HAD.out.2 HC.out).mono ?_); rintro e w3 ⟨rfl, A3, cap3, hd⟩; have H3 := Aside0.mk (H2.out.mail hd); have HX3 := Aside0.mk ((hd.fr.block _ (blk_lt HX2.out) (fun hs => by have := HS.out _ (.inl hs); omega)).trans HX2.out); have HX4 := Aside0.mk (blk_alloc HX3.out (.cells #[.int .i64 0, .int .i64 0, .int .i64 0, .string ⟨#[]⟩] 33)); have y2 := blk_cell HX4.out 2; rw [HM.out] at y2; clear hd)
        | (go_at_call 11; refine (num_calls _ _).mono ?_; rintro e w' ⟨rfl, rfl⟩))
      go_ret
      exact SRes.of (H3.out.grow (below2a _ _)) (HII.out.re HG.out A3 cap3) rfl rfl (fun e => HKK.out _ e)
    · obtain ⟨j, hj1, hj2, hj3, hj4⟩ := HII.out.take HY.out
      have HJ := Aside0.mk (And.intro hj1 (And.intro hj2 (And.intro hj3 hj4)))
      have HC := Aside0.mk c
      clear c hj1 hj2 hj3 hj4
      go_upto_region 8 with (go_at_call 13; (with_reducible refine (deliver_ok w.heap.size x m y _ H2.out.own.inn HY.out HLL.out HAD.out.1 HAD.out.2 HC.out).mono ?_); rintro e w3 ⟨rfl, A3, cap3, hd⟩; have H3 := Aside0.mk (H2.out.mail hd); have HX3 := Aside0.mk ((hd.fr.block _ (blk_lt HX2.out) (fun hs => by have := HS.out _ (.inl hs); omega)).trans HX2.out); have HO3 := Aside0.mk (ownsRow_keep HO2.out (fun q hq => hd.fr.block q (ownsRow_lt HO2.out q hq).2 (fun hs => by have := HS.out _ (.inl hs); have := (ownsRow_lt HO2.out q hq).1; have := HCW.out; omega))); clear hd)
      have H4 := Aside0.mk (H3.out.grow (below2a w3 (.cells #[.int .i64 y.i, .int .i64 y.f, .int .i64 y.t, .string y.s] 33)))
      have HX4 := Aside0.mk (blk_alloc HX3.out (.cells #[.int .i64 y.i, .int .i64 y.f, .int .i64 y.t, .string y.s] 33))
      have HO4 := Aside0.mk (HO3.out.alloc (.cells #[.int .i64 y.i, .int .i64 y.f, .int .i64 y.t, .string y.s] 33))
      have HD4 := Aside0.mk (blk_new w3 (.cells #[.int .i64 y.i, .int .i64 y.f, .int .i64 y.t, .string y.s] 33))
      have HDL := Aside0.mk (show c ≤ w3.heap.size from Nat.le_of_lt (blk_lt HX3.out))
      clear H3 HX3 HO3 H2 HX2 HO2
      generalize w3.heap.size = d at *
      generalize w3.alloc (.cells #[.int .i64 y.i, .int .i64 y.f, .int .i64 y.t, .string y.s] 33) = w4 at *
      obtain ⟨ad, rfl, z0, z1, z2, z3⟩ := OwnL.adr HO4.out m y HY.out
      have hne : (y.s != y.s) = false := by have := (MapKept.bytes_beq y.s y.s).2 rfl; simp [bne, this]
      clear z0 z1 z2 z3
      go_upto_region 10 with (go_at_call 11; refine (num_calls _ _).mono ?_; rintro e w' ⟨rfl, rfl⟩)
      refine wp_region_plan (quiets [0, 1, 2, 3, 4, 5, 6, 7, 8, 9, 10, 11, 12, 13, 14, 15, 16, 17, 18, 19, 20, 21] ++ ((true, 22) :: (quiets [23, 24] ++ []))) (fun W => W.heap[c]? = some (.cells #[.int .i64 o.k, .int .i64 o.a, .int .i64 o.n, .int .i64 o.m, .string o.s] 41 (0, 0)) ∧ OwnL W w1.heap.size (some ad) cl x.L ∧ W.heap[d]? = some (.cells #[.int .i64 y.i, .int .i64 y.f, .int .i64 y.t, .string y.s] 33 (0, 0))) (by kernel_rfl) (by kernel_rfl) ⟨HX4.out, HO4.out, HD4.out⟩ ?_
      apply mix_quiets [0, 1, 2, 3, 4, 5, 6, 7, 8, 9, 10, 11, 12, 13, 14, 15, 16, 17, 18, 19, 20, 21] _ (by kernel_rfl) ⟨HX4.out, HO4.out, HD4.out⟩
      case h =>
        intro W hW
        have f2 := blk_cell hW.1 2
        rw [HM.out] at f2
        obtain ⟨ad', hA', z0, z1, z2, z3⟩ := OwnL.adr hW.2.1 m y HY.out
        rw [← Option.some.inj hA'] at z0 z1 z2 z3
        have g0 := blk_cell hW.2.2 0
        have g1 := blk_cell hW.2.2 1
        have g2 := blk_cell hW.2.2 2
        have g3 := blk_cell hW.2.2 3
        clear hW hA'
        refine still_of_quiet _ _ ?_
        simp only [segOps, List.getElem?_toArray, List.getElem?_cons_zero, List.getElem?_cons_succ, Option.toList_some, List.nil_append, List.cons_append, List.append_nil]
        repeat (go_big_quiet_step (fail))
        exact wpQuiet_nil rfl
      refine mix_writes 22 ⟨some 96, _, _, _, _, _⟩ rfl _ ?_
      change wpList _ _ _ _ _ w4.drew
      have H5 := Aside0.mk (H4.out.grow (below_drew w4))
      have HX5 := Aside0.mk (show w4.drew.heap[c]? = some (.cells #[.int .i64 o.k, .int .i64 o.a, .int .i64 o.n, .int .i64 o.m, .string o.s] 41 (0, 0)) from HX4.out)
      have HO5 := Aside0.mk (show OwnL w4.drew w1.heap.size (some ad) cl x.L from HO4.out)
      have HD5 := Aside0.mk (show w4.drew.heap[d]? = some (.cells #[.int .i64 y.i, .int .i64 y.f, .int .i64 y.t, .string y.s] 33 (0, 0)) from HD4.out)
      clear H4 HX4 HO4 HD4 e0 e2 e3 e4
      generalize w4.drew = w5 at *
      go_wp2_with (go_at_call 51; (with_reducible refine (out_calls w.heap.size k y j _ H5.out.inn HII.out.len (by have := HII.out.le; have := HN.out; omega) HJ.out.2.2.1 HJ.out.1 HJ.out.2.1).mono ?_); rintro e w6 ⟨rfl, A6, cap6, A7, cap7, hd⟩; have H6 := Aside0.mk (H5.out.book hd); have HX6 := Aside0.mk ((hd.fr.block _ (blk_lt HX5.out) (fun hs => by have := HS.out _ (.inr hs); omega)).trans HX5.out); have HD6 := Aside0.mk ((hd.fr.block _ (blk_lt HD5.out) (fun hs => by have := HS.out _ (.inr hs); have := HDL.out; omega)).trans HD5.out); have HO6 := Aside0.mk (ownsRow_keep HO5.out (fun q hq => hd.fr.block q (ownsRow_lt HO5.out q hq).2 (fun hs => by have := HS.out _ (.inr hs); have := (ownsRow_lt HO5.out q hq).1; have := HCW.out; omega))); clear hd)
      refine ⟨⟨HX6.out, HO6.out, HD6.out⟩, ?_⟩
      apply mix_quiets [23, 24] _ (by kernel_rfl) ⟨HX6.out, HO6.out, HD6.out⟩
      case h =>
        intro W hW
        clear hW
        refine still_of_quiet _ _ ?_
        simp only [segOps, List.getElem?_toArray, List.getElem?_cons_zero, List.getElem?_cons_succ, Option.toList_some, List.nil_append, List.cons_append, List.append_nil]
        repeat (go_big_quiet_step (fail))
        exact wpQuiet_nil rfl
      refine mix_done ?_
      go_wp2_with fail
      go_ret
      exact SRes.of H6.out (HJ.out.2.2.2 _ _ _ _ _ _) rfl rfl (fun e => HKK.out _ e)

set_option maxHeartbeats 16000000 in
set_option maxRecDepth 100000 in
theorem step_drop (w : World) (n : Nat) (x : Pm) (k : Bk) (o : Mo) (W : World) (h : HW w W x k) (hi : HI n x k) (hn : n ≤ 2990000000000) (n1 : ¬ o.k = 1) (n2 : ¬ o.k = 2) (hk : o.k = 3) :
    Calls Try.prog 29 #[.pointer (some ⟨k.b, 0, none⟩), .pointer (some ⟨x.g, 0, none⟩), .agg #[.int .i64 o.k, .int .i64 o.a, .int .i64 o.n, .int .i64 o.m, .string o.s]] W (SRes w n x k o) := by
  have H := Aside0.mk (h.grow (below2a W (.cells #[.int .i64 o.k, .int .i64 o.a, .int .i64 o.n, .int .i64 o.m, .string o.s] 41)))
  have HX := Aside0.mk (blk_new W (.cells #[.int .i64 o.k, .int .i64 o.a, .int .i64 o.n, .int .i64 o.m, .string o.s] 41))
  have HS := Aside0.mk h.lt
  have HII := Aside0.mk hi
  have HN := Aside0.mk hn
  have HKK := Aside0.mk (show ∀ s : Int, o.k = 1 → s = sentOf x o.n o.m from fun _ e => by omega)
  have kb1 : (o.k == 1) = false := by simpa using n1
  have kb2 : (o.k == 2) = false := by simpa using n2
  have kb3 : (o.k == 3) = true := by simpa using hk
  clear h hi hn n1 n2 hk
  go_enter Try.func29, Try.ntmps29
  go_upto_region 1 with fail
  generalize hc : W.heap.size = c at *
  clear hc
  generalize W.alloc (.cells #[.int .i64 o.k, .int .i64 o.a, .int .i64 o.n, .int .i64 o.m, .string o.s] 41) = w1 at *
  go_upto_region 2 with (go_at_call 31; (with_reducible refine (left_calls w.heap.size k _ H.out.inn HII.out.len (by have := HII.out.le; have := HN.out; omega)).mono ?_); rintro e w2 ⟨Al, cl, rfl, hb, ho⟩; rw [← HII.out.left] at ho ⊢; have H2 := Aside0.mk (H.out.grow hb); have HX2 := Aside0.mk (blk_below HX.out hb); have HO2 := Aside0.mk ho; have HCW := Aside0.mk (show c ≤ w1.heap.size from Nat.le_of_lt (blk_lt HX.out)); clear hb ho)
  have e0 := blk_cell HX2.out 0
  have e2 := blk_cell HX2.out 2
  have e3 := blk_cell HX2.out 3
  have e4 := blk_cell HX2.out 4
  clear H HX
  cases hp : pick x.L o.n with
  | none =>
    have HP := Aside0.mk hp
    have HG := Aside0.mk (fun A cap => (HII.out.good.at_ A cap).more (show n ≤ n + 1 by omega))
    have hpn := pick_none hp
    clear hp
    by_cases c1 : o.n < 0
    · have b1 : decide (o.n < 0) = true := decide_eq_true c1
      clear c1 hpn
      go_wp2_with (first
        | (go_at_call 17; (with_reducible refine (drop_no w.heap.size x o.n _ H2.out.own.inn HP.out).mono ?_); rintro e w3 ⟨rfl, A3, cap3, hd⟩; have H3 := Aside0.mk (H2.out.mail hd); have HX3 := Aside0.mk ((hd.fr.block _ (blk_lt HX2.out) (fun hs => by have := HS.out _ (.inl hs); omega)).trans HX2.out); have y2 := blk_cell HX3.out 2; clear hd)
        | (go_at_call 11; refine (num_calls _ _).mono ?_; rintro e w' ⟨rfl, rfl⟩))
      go_ret
      exact SRes.of H3.out (HII.out.re HG.out A3 cap3) rfl rfl (fun e => HKK.out _ e)
    · have b1 : decide (o.n < 0) = false := decide_eq_false c1
      have b2 : decide ((x.L.length : Int) ≤ o.n) = true := decide_eq_true (by omega)
      clear c1 hpn
      go_wp2_with (first
        | (go_at_call 17; (with_reducible refine (drop_no w.heap.size x o.n _ H2.out.own.inn HP.out).mono ?_); rintro e w3 ⟨rfl, A3, cap3, hd⟩; have H3 := Aside0.mk (H2.out.mail hd); have HX3 := Aside0.mk ((hd.fr.block _ (blk_lt HX2.out) (fun hs => by have := HS.out _ (.inl hs); omega)).trans HX2.out); have y2 := blk_cell HX3.out 2; clear hd)
        | (go_at_call 11; refine (num_calls _ _).mono ?_; rintro e w' ⟨rfl, rfl⟩))
      go_ret
      exact SRes.of H3.out (HII.out.re HG.out A3 cap3) rfl rfl (fun e => HKK.out _ e)
  | some y =>
    obtain ⟨m, hm, hk⟩ := pick_some hp
    have HM := Aside0.mk hm
    have HY := Aside0.mk hk
    have hml := (List.getElem?_eq_some_iff.1 hk).1
    have HML := Aside0.mk hml
    have HLL := Aside0.mk HII.out.good.len4
    have b1 : decide ((m : Int) < 0) = false := decide_eq_false (by omega)
    have b2 : decide ((x.L.length : Int) ≤ (m : Int)) = false := decide_eq_false (by omega)
    have b3 : decide (x.L.length ≤ m) = false := decide_eq_false (by omega)
    have b4 : decide (0 ≤ (m : Int)) = true := decide_eq_true (by omega)
    have b5 : decide ((m : Int) < (x.L.length : Int)) = true := decide_eq_true (by omega)
    have b6 : decide (m < x.L.length) = true := decide_eq_true (by omega)
    have p2 : (0 ≤ (m : Int)) = True := eq_true (by omega)
    have p3 : ((m : Int) < (x.L.length : Int)) = True := eq_true (by omega)
    obtain ⟨ad, rfl, z0, z1, z2, z3⟩ := OwnL.adr HO2.out m y hk
    clear z0 z1 z2 z3
    rw [hm] at e2
    clear hp hm hk hml
    obtain ⟨j, hj1, hj2, hj3, hj4⟩ := HII.out.take HY.out
    have HJ := Aside0.mk (And.intro hj1 (And.intro hj2 (And.intro hj3 hj4)))
    clear hj1 hj2 hj3 hj4
    go_wp2_with (first
      | (go_at_call 17; (with_reducible refine (drop_ok w.heap.size x m y _ H2.out.own.inn HY.out HLL.out).mono ?_); rintro e w3 ⟨rfl, A3, cap3, hd⟩; have H3 := Aside0.mk (H2.out.mail hd); have HX3 := Aside0.mk ((hd.fr.block _ (blk_lt HX2.out) (fun hs => by have := HS.out _ (.inl hs); omega)).trans HX2.out); have y2 := blk_cell HX3.out 2; rw [HM.out] at y2; have HO3 := Aside0.mk (ownsRow_keep HO2.out (fun q hq => hd.fr.block q (ownsRow_lt HO2.out q hq).2 (fun hs => by have := HS.out _ (.inl hs); have := (ownsRow_lt HO2.out q hq).1; have := HCW.out; omega))); obtain ⟨ad', hA', z0, z1, z2, z3⟩ := OwnL.adr HO3.out m y HY.out; rw [← Option.some.inj hA'] at z0 z1 z2 z3; clear hA'; clear hd)
      | (go_at_call 11; refine (num_calls _ _).mono ?_; rintro e w' ⟨rfl, rfl⟩)
      | (go_at_call 51; (with_reducible refine (out_calls w.heap.size k y j _ H3.out.inn HII.out.len (by have := HII.out.le; have := HN.out; omega) HJ.out.2.2.1 HJ.out.1 HJ.out.2.1).mono ?_); rintro e w6 ⟨rfl, A6, cap6, A7, cap7, hd⟩; have H6 := Aside0.mk (H3.out.book hd); clear hd))
    go_ret
    exact SRes.of H6.out (HJ.out.2.2.2 _ _ _ _ _ _) rfl rfl (fun e => HKK.out _ e)

set_option maxHeartbeats 16000000 in
set_option maxRecDepth 100000 in
theorem step_copy (w : World) (n : Nat) (x : Pm) (k : Bk) (o : Mo) (W : World) (h : HW w W x k) (hi : HI n x k) (hn : n ≤ 2990000000000) (n1 : ¬ o.k = 1) (n2 : ¬ o.k = 2) (n3 : ¬ o.k = 3) (hk : o.k = 4) :
    Calls Try.prog 29 #[.pointer (some ⟨k.b, 0, none⟩), .pointer (some ⟨x.g, 0, none⟩), .agg #[.int .i64 o.k, .int .i64 o.a, .int .i64 o.n, .int .i64 o.m, .string o.s]] W (SRes w n x k o) := by
  have H := Aside0.mk (h.grow (below2a W (.cells #[.int .i64 o.k, .int .i64 o.a, .int .i64 o.n, .int .i64 o.m, .string o.s] 41)))
  have HX := Aside0.mk (blk_new W (.cells #[.int .i64 o.k, .int .i64 o.a, .int .i64 o.n, .int .i64 o.m, .string o.s] 41))
  have HS := Aside0.mk h.lt
  have HII := Aside0.mk hi
  have HN := Aside0.mk hn
  have HKK := Aside0.mk (show ∀ s : Int, o.k = 1 → s = sentOf x o.n o.m from fun _ e => by omega)
  have kb1 : (o.k == 1) = false := by simpa using n1
  have kb2 : (o.k == 2) = false := by simpa using n2
  have kb3 : (o.k == 3) = false := by simpa using n3
  have kb4 : (o.k == 4) = true := by simpa using hk
  clear h hi hn n1 n2 n3 hk
  go_enter Try.func29, Try.ntmps29
  go_upto_region 1 with fail
  generalize hc : W.heap.size = c at *
  clear hc
  generalize W.alloc (.cells #[.int .i64 o.k, .int .i64 o.a, .int .i64 o.n, .int .i64 o.m, .string o.s] 41) = w1 at *
  go_upto_region 2 with (go_at_call 31; (with_reducible refine (left_calls w.heap.size k _ H.out.inn HII.out.len (by have := HII.out.le; have := HN.out; omega)).mono ?_); rintro e w2 ⟨Al, cl, rfl, hb, ho⟩; rw [← HII.out.left] at ho ⊢; have H2 := Aside0.mk (H.out.grow hb); have HX2 := Aside0.mk (blk_below HX.out hb); have HO2 := Aside0.mk ho; have HCW := Aside0.mk (show c ≤ w1.heap.size from Nat.le_of_lt (blk_lt HX.out)); clear hb ho)
  have e0 := blk_cell HX2.out 0
  have e2 := blk_cell HX2.out 2
  have e3 := blk_cell HX2.out 3
  have e4 := blk_cell HX2.out 4
  clear H HX
  have HG := Aside0.mk (HII.out.good.copy o.n)
  have HSE := Aside0.mk HII.out.sent
  by_cases hs : copyB x o.n = 0
  · have hcs : copyS x o.n = x.sent + 1 := by unfold copyS; rw [if_pos hs]
    obtain ⟨y, hp, hlm⟩ := copyB_ok hs
    have hcl : copyL x o.n = x.L ++ [⟨x.sent + 1, y.f, y.t, y.s⟩] := by unfold copyL; rw [if_pos hs, hp]; rfl
    rw [hcs, hcl] at HG
    have HCS := Aside0.mk hcs
    have HCL := Aside0.mk hcl
    have HSB := Aside0.mk hs
    clear hcs hcl hs hlm
    obtain ⟨m, hm, hk⟩ := pick_some hp
    have HM := Aside0.mk hm
    have HY := Aside0.mk hk
    have hml := (List.getElem?_eq_some_iff.1 hk).1
    have HML := Aside0.mk hml
    have HLL := Aside0.mk HII.out.good.len4
    have b1 : decide ((m : Int) < 0) = false := decide_eq_false (by omega)
    have b2 : decide ((x.L.length : Int) ≤ (m : Int)) = false := decide_eq_false (by omega)
    have b3 : decide (x.L.length ≤ m) = false := decide_eq_false (by omega)
    have b4 : decide (0 ≤ (m : Int)) = true := decide_eq_true (by omega)
    have b5 : decide ((m : Int) < (x.L.length : Int)) = true := decide_eq_true (by omega)
    have b6 : decide (m < x.L.length) = true := decide_eq_true (by omega)
    have p2 : (0 ≤ (m : Int)) = True := eq_true (by omega)
    have p3 : ((m : Int) < (x.L.length : Int)) = True := eq_true (by omega)
    obtain ⟨ad, rfl, z0, z1, z2, z3⟩ := OwnL.adr HO2.out m y hk
    clear z0 z1 z2 z3
    rw [hm] at e2
    clear hp hm hk hml
    have HK := Aside0.mk H2.out.inn.blk
    have hwi : wrap64 ((k.Ls.length : Int) + 1) = (k.Ls.length : Int) + 1 := Go.IntWalk.wrap64_in _ (by have := HII.out.le; have := HN.out; omega)
    have hwj : IntKind.i64.wrap ((k.Ls.length : Int) + 1) = (k.Ls.length : Int) + 1 := (i64_w _).trans hwi
    have HCP := Aside0.mk (show Calls Try.prog 18 #[.pointer (some ⟨x.g, 0, none⟩), .int .i64 (m : Int)] w2 (MRes w.heap.size x (x.sent + 1) (x.L ++ [⟨x.sent + 1, y.f, y.t, y.s⟩]) x.F (.int .i64 0) w2) from by
      have h := copy_calls w.heap.size x n _ H2.out.own.inn H2.out.own.below.size HII.out.good (by have := HN.out; omega) o.n
      rw [HCS.out, HCL.out, HSB.out] at h
      rw [← HM.out]
      exact h)
    go_upto_region 23 with (first
      | (go_at_call 18; (with_reducible refine HCP.out.mono ?_); rintro e w3 ⟨rfl, A3, cap3, hd⟩; have H3 := Aside0.mk (H2.out.mail hd); have HX3 := Aside0.mk ((hd.fr.block _ (blk_lt HX2.out) (fun hs => by have := HS.out _ (.inl hs); omega)).trans HX2.out); have y2 := blk_cell HX3.out 2; rw [HM.out] at y2; have HO3 := Aside0.mk (ownsRow_keep HO2.out (fun q hq => hd.fr.block q (ownsRow_lt HO2.out q hq).2 (fun hs => by have := HS.out _ (.inl hs); have := (ownsRow_lt HO2.out q hq).1; have := HCW.out; omega))); obtain ⟨ad', hA', z0, z1, z2, z3⟩ := OwnL.adr HO3.out m y HY.out; rw [← Option.some.inj hA'] at z0 z1 z2 z3; clear hA'; clear hd)
      | (go_at_call 11; refine (num_calls _ _).mono ?_; rintro e w' ⟨rfl, rfl⟩))
    have HX4 := Aside0.mk (blk_new w3 (.cells #[.int .i64 y.i, .int .i64 y.f, .int .i64 y.t, .string y.s] 33))
    have HK4 := Aside0.mk (blk_below H3.out.inn.blk (below2a w3 (.cells #[.int .i64 y.i, .int .i64 y.f, .int .i64 y.t, .string y.s] 33)))
    have HB4 := Aside0.mk (below2a w3 (.cells #[.int .i64 y.i, .int .i64 y.f, .int .i64 y.t, .string y.s] 33))
    have HDK := Aside0.mk (show k.b < w3.heap.size from blk_lt H3.out.inn.blk)
    clear HX3 HX2 H2 HO2 HO3 HK z0 z1 z2 z3 y2 e0 e2 e3 e4
    generalize hd : w3.heap.size = d at *
    generalize w3.alloc (.cells #[.int .i64 y.i, .int .i64 y.f, .int .i64 y.t, .string y.s] 33) = w4 at *
    have c0 := blk_cell HK4.out 0
    have x0 := blk_cell HX4.out 0
    have f0 := blk_frozen HX4.out 0
    have HD := Aside0.mk hd
    clear hd
    have HB5 := Aside0.mk (show ∀ v, Below w3.heap.size w3 (w4.setCell ⟨d, 0, none⟩ v) from fun v => by
      have hb := HB4.out
      rw [HD.out]
      exact ⟨hb.os, hb.tape, hb.output, by rw [World.size_setCell]; exact hb.size, fun i hi => (Below.heap_setCell w4 ⟨d, 0, none⟩ v i (by show i ≠ d; omega)).trans (hb.block i hi)⟩)
    have HX5 := Aside0.mk (fun v : Value => blk_set HX4.out 0 v)
    go_upto_region 24 with fail
    have H5 := Aside0.mk (H3.out.grow (HB5.out (.int .i64 ((k.Ls.length : Int) + 1))))
    have HX5 := Aside0.mk (HX5.out (.int .i64 ((k.Ls.length : Int) + 1)))
    clear HB5 x0 f0 c0 HX4 HK4 HB4 H3
    generalize w4.setCell ⟨d, 0, none⟩ (.int .i64 ((k.Ls.length : Int) + 1)) = w5 at *
    have x0 := blk_cell HX5.out 0
    have x1 := blk_cell HX5.out 1
    have x2 := blk_cell HX5.out 2
    have x3 := blk_cell HX5.out 3
    have HGG := Aside0.mk (HG.out)
    rw [HII.out.sent] at HGG
    have HYI := Aside0.mk (show (⟨(k.Ls.length : Int) + 1, y.f, y.t, y.s⟩ : Lt).i = (k.Ls.length : Int) + 1 from rfl)
    go_wp2_with (go_at_call 50; (with_reducible refine (note_calls w.heap.size k ⟨(k.Ls.length : Int) + 1, y.f, y.t, y.s⟩ _ H5.out.inn H5.out.own.below.size HII.out.len (by have := HII.out.le; have := HN.out; omega) HYI.out).mono ?_); rintro e w6 ⟨rfl, A4, cap4, A5, cap5, hd⟩; have H6 := Aside0.mk (H5.out.book hd); clear hd)
    go_ret
    have hz := H6.out
    rw [← HSE.out] at hz
    refine SRes.of hz (HII.out.add _ (by show x.sent + 1 = _; rw [HSE.out]) _ _ _ _ _ _ (HG.out A3 cap3)) rfl rfl (fun e => HKK.out _ e)
  · have hcs : copyS x o.n = x.sent := by unfold copyS; rw [if_neg hs]
    have hcl : copyL x o.n = x.L := by unfold copyL; rw [if_neg hs]
    rw [hcs, hcl] at HG
    have HCS := Aside0.mk hcs
    have HCL := Aside0.mk hcl
    have hse : (copyB x o.n != 0) = true := by simpa using hs
    clear hcs hcl hs
    generalize hsb : copyB x o.n = sb at *
    have HSB := Aside0.mk hsb
    clear hsb
    go_wp2_with (first
      | (go_at_call 18; (with_reducible refine (copy_calls w.heap.size x n _ H2.out.own.inn H2.out.own.below.size HII.out.good (by have := HN.out; omega) o.n).mono ?_); rintro e w3 ⟨rfl, A3, cap3, hd⟩; rw [HCS.out, HCL.out] at hd; rw [HSB.out]; have H3 := Aside0.mk (H2.out.mail hd); clear hd)
      | (go_at_call 11; refine (num_calls _ _).mono ?_; rintro e w' ⟨rfl, rfl⟩))
    go_ret
    exact SRes.of H3.out (HII.out.re HG.out A3 cap3) rfl rfl (fun e => HKK.out _ e)

theorem step_calls (w : World) (n : Nat) (x : Pm) (k : Bk) (o : Mo) (W : World) (h : HW w W x k) (hi : HI n x k) (hn : n ≤ 2990000000000) :
    Calls Try.prog 29 #[.pointer (some ⟨k.b, 0, none⟩), .pointer (some ⟨x.g, 0, none⟩), .agg #[.int .i64 o.k, .int .i64 o.a, .int .i64 o.n, .int .i64 o.m, .string o.s]] W (SRes w n x k o) := by
  by_cases c1 : o.k = 1
  · exact step_send w n x k o W h hi hn c1
  by_cases c2 : o.k = 2
  · exact step_deliver w n x k o W h hi hn c1 c2
  by_cases c3 : o.k = 3
  · exact step_drop w n x k o W h hi hn c1 c2 c3
  by_cases c4 : o.k = 4
  · exact step_copy w n x k o W h hi hn c1 c2 c3 c4
  by_cases c5 : o.k = 5
  · exact step_cut w n x k o W h hi hn c1 c2 c3 c4 c5
  by_cases c6 : o.k = 6
  · exact step_heal w n x k o W h hi hn c1 c2 c3 c4 c5 c6
  exact step_other w n x k o W h hi hn c1 c2 c3 c4 c5 c6

end Go.Proofs.Ytadbcekglcmccaa.Q
