/- Contracts of the bag's take and put. Condition: block g is a mail. -/
import Derived.Test.YtadbcekglcmccaaProg
import Derived.Below
import Derived.Deep.Draws
import Derived.Deep.AppendLies
import Derived.Maps.AppendAt
import Derived.OwnWalk
import Derived.Laws.BytesArg
import Derived.Laws.MakeOwn
import Derived.Laws.OwnMore
import Derived.Deep.OwnRows
import Derived.Tactics
import Derived.Lib.ConvBytes
import Derived.Laws.Slices
import Derived.WalkKit
import Derived.KernelRfl
import Derived.RowKit3
import Derived.Deep.LoopGhost
import Derived.Deep.QuietTactic
import Derived.BigQuiet
import Derived.WideLaws
import Derived.Deep.DeepCutAuto
import Derived.Deep.CutBlock
import Derived.Deep.RegionHeld3
import Derived.Laws.Rows
import Derived.Lib.AppendStr
import Derived.ArgAppend
import Derived.Laws.IdiomCopy
import Derived.OrdersHeld
import Derived.Laws.BitsLemmas
import Derived.RowKit
import Derived.Test.YtadbcekglcmccaaWWords
import Derived.Test.YtadbcekglcmccaaWLast
import Derived.Test.YtadbcekglcmccaaWTab
import Derived.Test.YtadbcekglcmccaaWFour
import Derived.Test.YtadbcekglcmccaaWQPut
import Derived.Test.YtadbcekglcmccaaWApart
import Derived.Test.YtadbcekglcmccaaWArr
import Derived.Test.YtadbcekglcmccaaWZeros
import Derived.Test.YtadbcekglcmccaaWFoot
import Derived.Test.YtadbcekglcmccaaWKept
import Derived.Test.YtadbcekglcmccaaWShare
import Derived.Test.YtadbcekglcmccaaWN
import Derived.Test.YtadbcekglcmccaaWFootNe
import Derived.Test.YtadbcekglcmccaaWAt
import Derived.Test.YtadbcekglcmccaaWEqStruct
import Derived.Test.YtadbcekglcmccaaWRepsOne
import Derived.Test.YtadbcekglcmccaaWInv
import Derived.Test.YtadbcekglcmccaaWInvWords
import Derived.Test.YtadbcekglcmccaaWGuard
import Derived.Test.YtadbcekglcmccaaWNEv
import Derived.Test.YtadbcekglcmccaaWMore
import Derived.Test.YtadbcekglcmccaaA2
set_option linter.unusedVariables false
set_option linter.unusedSimpArgs false
namespace Go.Proofs.Ytadbcekglcmccaa.Q
open Go.RowKit Go.Proofs.YtadbcekglcmccaaW.PrintWords Go.Proofs.YtadbcekglcmccaaW.PrintLast Go.Proofs.YtadbcekglcmccaaW.PrintMore
open Go.FM Go.Plan

/-- The program's mail: where it lies and what it says. -/
structure Pm where
  g : Nat
  r : Nat
  A : Option Addr
  cap : Nat
  lim : Int
  sent : Int
  L : List Lt
  F : Cm
abbrev Pm.In (B : Nat) (W : World) (x : Pm) : Prop := IsM W B x.g x.r x.A x.cap x.lim x.sent x.L x.F
def Pm.S (x : Pm) (i : Nat) : Prop := i = x.g ∨ i = x.r ∨ rowB x.A = some i
theorem Pm.lt {B : Nat} {W : World} {x : Pm} (h : x.In B W) : ∀ i, x.S i → i < W.heap.size := by
  intro i hi
  rcases hi with rfl | rfl | hi
  · exact h.glt
  · exact h.rlt
  · exact (h.qlt i hi).2
theorem Pm.keep {B : Nat} {W W' : World} {x : Pm} (h : x.In B W) (hb : ∀ i, x.S i → W'.heap[i]? = W.heap[i]?) : x.In B W' :=
  IsM.keep h (hb _ (.inl rfl)) (hb _ (.inr (.inl rfl))) (fun q hq => hb q (.inr (.inr hq)))
/-- What a call leaves of it. -/
structure MDone (w W : World) (B : Nat) (x x' : Pm) : Prop where
  inn : x'.In B W
  fr : But w W x.S
  g : x'.g = x.g
  r : x'.r = x.r
  lim : x'.lim = x.lim
  row : rowB x'.A = rowB x.A ∨ ∃ q, rowB x'.A = some q ∧ w.heap.size ≤ q
def MRes (B : Nat) (x : Pm) (sent' : Int) (L' : List Lt) (F' : Cm) (v : Value) (w : World) (e : Ending) (w' : World) : Prop :=
  e = .returned v ∧ ∃ A' cap', MDone w w' B x ⟨x.g, x.r, A', cap', x.lim, sent', L', F'⟩
theorem MRes.same {B : Nat} {x : Pm} {v : Value} {w w' : World} {e : Ending} (he : e = .returned v) (h : x.In B w) (hb : Below w.heap.size w w') : MRes B x x.sent x.L x.F v w e w' :=
  ⟨he, x.A, x.cap, ⟨IsM.below h hb, But.of_below hb, rfl, rfl, rfl, .inl rfl⟩⟩
/-- More memory behind it. -/
theorem MDone.more {w W W' : World} {B : Nat} {x x' : Pm} (d : MDone w W B x x') (hb : Below W.heap.size W W') : MDone w W' B x x' :=
  ⟨IsM.below d.inn hb, d.fr.below_ hb, d.g, d.r, d.lim, d.row⟩
/-- One call behind another. -/
theorem MDone.then {w W W' : World} {B : Nat} {x x' x'' : Pm} (d : MDone w W B x x') (k : MDone W W' B x' x'') : MDone w W' B x x'' := by
  have hS : ∀ i, x'.S i → x.S i ∨ w.heap.size ≤ i := by
    intro i hi
    rcases hi with e | e | e
    · exact .inl (.inl (e.trans d.g))
    · exact .inl (.inr (.inl (e.trans d.r)))
    · rcases d.row with h | ⟨q, h, hle⟩
      · exact .inl (.inr (.inr (h ▸ e)))
      · rw [h] at e; obtain rfl := Option.some.inj e; exact .inr hle
  refine ⟨k.inn, ⟨k.fr.os.trans d.fr.os, k.fr.tape.trans d.fr.tape, k.fr.output.trans d.fr.output, Nat.le_trans d.fr.size k.fr.size, fun i hi hs => ?_⟩, k.g.trans d.g, k.r.trans d.r, k.lim.trans d.lim, ?_⟩
  · refine (k.fr.block i (Nat.lt_of_lt_of_le hi d.fr.size) (fun h => ?_)).trans (d.fr.block i hi hs)
    rcases hS i h with h1 | h1
    · exact hs h1
    · omega
  · rcases k.row with h | ⟨q, h, hle⟩
    · rw [h]; exact d.row
    · exact .inr ⟨q, h, Nat.le_trans d.fr.size hle⟩

/-- The letters' slice is set to another row. -/
theorem Pm.put {w W W' : World} {B : Nat} {x : Pm} (h : x.In B W) (hw : But w W x.S) (hg : W.grownBy W' (rowB x.A)) {A' : Option Addr} {cap' : Nat} {L' : List Lt} (ho : OwnL W' B A' cap' L') (hr : rowB A' = rowB x.A ∨ ∃ q, rowB A' = some q ∧ w.heap.size ≤ q) :
    MDone w (W'.setCell ⟨x.g, 2, none⟩ (.slice A' L'.length cap')) B x ⟨x.g, x.r, A', cap', x.lim, x.sent, L', x.F⟩ := by
  have e1 : W'.heap[x.g]? = W.heap[x.g]? := hg.block x.g h.glt (fun e => h.qg x.g e.symm rfl)
  have e2 : W'.heap[x.r]? = W.heap[x.r]? := hg.block x.r h.rlt (fun e => h.qr x.r e.symm rfl)
  have e3 := e1.trans h.blk
  have e4 : ∀ q, rowB A' = some q → q ≠ x.g := by
    intro q hq
    obtain ⟨cur, hc⟩ := ownsRow_type ho q hq
    exact fun e => blk_ne hc e3 (by decide) e
  refine ⟨⟨blk_set e3 2 _, ownsRow_keep ho (fun q hq => Below.heap_setCell W' ⟨x.g, 2, none⟩ _ q (e4 q hq)), (h.fm.keep e2).keep (Below.heap_setCell W' ⟨x.g, 2, none⟩ _ x.r (Ne.symm h.gr)), h.gr⟩, ?_, rfl, rfl, rfl, hr⟩
  exact (hw.grown hg (fun q hq => .inr (.inr hq))).set (.inl rfl) 2 _

set_option maxHeartbeats 4000000 in
set_option maxRecDepth 100000 in
theorem take_calls (B : Nat) (x : Pm) (i : Nat) (w : World) (h : x.In B w) (hi : i < x.L.length) (hL : x.L.length ≤ 1024) :
    Calls Try.prog 36 #[.pointer (some ⟨x.g, 2, none⟩), .int .i64 (i : Int)] w (MRes B x x.sent (x.L.eraseIdx i) x.F (.tuple #[]) w) := by
  obtain ⟨q, hA⟩ := ownsRow_addr h.row (by omega)
  have c2 := h.c2
  rw [hA] at c2
  have f2 := blk_frozen h.blk 2
  have H := Aside0.mk h
  have hrow := h.row
  rw [hA] at hrow
  have HR := Aside0.mk hrow
  have HA := Aside0.mk hA
  have hwi : wrap64 ((i : Int) + 1) = ((i + 1 : Nat) : Int) := Go.IntWalk.wrap64_in _ (by omega)
  have HLn := Aside0.mk (show (x.L.eraseIdx i).length = x.L.length - 1 by rw [List.length_eraseIdx]; rw [if_pos hi])
  clear h hrow hA
  go_enter Try.func36, Try.ntmps36
  go_wp2_with (go_at_call 53; refine (delete_calls B q x.cap x.L.length x.L rfl i _ HR.out hi hL).mono ?_; rintro e w1 ⟨rfl, ho, hg⟩; have HO := Aside0.mk ho; have HG := Aside0.mk hg; have c2 := (blk_grown H.out.blk hg (fun e => by have := H.out.qg x.g (by rw [HA.out]; exact e.symm); exact this rfl)); have c3 := blk_cell c2 2; have f3 := blk_frozen c2 2; clear ho hg)
  have hd : MDone w (w1.setCell ⟨x.g, 2, none⟩ (.slice (some ⟨q, 0, none⟩) (x.L.length - 1) x.cap)) B x ⟨x.g, x.r, some ⟨q, 0, none⟩, x.cap, x.lim, x.sent, x.L.eraseIdx i, x.F⟩ := by
    have h1 := HO.out
    rw [← HLn.out] at h1 ⊢
    refine Pm.put H.out (But.refl w x.S) ?_ h1 (.inl (by rw [HA.out]))
    rw [HA.out]
    exact HG.out
  have HD := Aside0.mk hd
  clear hd
  go_end0
  exact ⟨rfl, _, _, HD.out⟩

/-- What the operations of the append see. -/
structure AM (W : World) (g r c : Nat) (A : Option Addr) (cap : Nat) (lim sent : Int) (n : Nat) (x : Lt) : Prop where
  blk : W.heap[g]? = some (.cells #[.int .i64 lim, .int .i64 sent, .slice A n cap, .map (some r)] 71 (0, 0))
  bx : W.heap[c]? = some (.cells #[.int .i64 x.i, .int .i64 x.f, .int .i64 x.t, .string x.s] 33 (0, 0))

set_option maxHeartbeats 4000000 in
set_option maxRecDepth 100000 in
theorem put_calls (B : Nat) (x : Pm) (y : Lt) (w : World) (h : x.In B w) (hB : B ≤ w.heap.size) (hL : x.L.length + 1 ≤ 1048576) :
    Calls Try.prog 52 #[.pointer (some ⟨x.g, 2, none⟩), .agg #[.int .i64 y.i, .int .i64 y.f, .int .i64 y.t, .string y.s]] w (MRes B x x.sent (x.L ++ [y]) x.F (.tuple #[]) w) := by
  have H0 := Aside0.mk (IsM.below h (below2a w (.cells #[.int .i64 y.i, .int .i64 y.f, .int .i64 y.t, .string y.s] 33)))
  have H00 := Aside0.mk h
  have HB := Aside0.mk hB
  have HL := Aside0.mk hL
  have hbx := blk_new w (.cells #[.int .i64 y.i, .int .i64 y.f, .int .i64 y.t, .string y.s] 33)
  have HX := Aside0.mk hbx
  have hgl := h.glt
  have hql := h.qlt
  have HGL := Aside0.mk hgl
  have HQL := Aside0.mk hql
  clear h hB hL hbx hgl hql
  have HW := Aside0.mk (below2a w (.cells #[.int .i64 y.i, .int .i64 y.f, .int .i64 y.t, .string y.s] 33))
  go_enter Try.func52, Try.ntmps52
  go_wp2_with fail
  generalize hc : w.heap.size = c at *
  have HC := Aside0.mk hc
  clear hc
  generalize w.alloc (.cells #[.int .i64 y.i, .int .i64 y.f, .int .i64 y.t, .string y.s] 33) = w0 at *
  refine wp_region_planF (quiets [0, 1, 2, 3, 4, 5] ++ ((true, 6) :: ((true, 7) :: (quiets [8, 9] ++ [])))) 10 (fun W => AM W x.g x.r c x.A x.cap x.lim x.sent x.L.length y) (by kernel_rfl) (by kernel_rfl) ⟨H0.out.blk, HX.out⟩ ?_
  apply mix_quiets [0, 1, 2, 3, 4, 5] _ (by kernel_rfl) ⟨H0.out.blk, HX.out⟩
  case h =>
    intro W hW
    have e2 := blk_cell hW.blk 2
    have e3 := blk_cell hW.bx 0
    have e4 := blk_cell hW.bx 1
    have e5 := blk_cell hW.bx 2
    have e6 := blk_cell hW.bx 3
    clear hW
    refine still_of_quiet _ _ ?_
    simp only [segOps, List.getElem?_toArray, List.getElem?_cons_zero, List.getElem?_cons_succ, Option.toList_some, List.nil_append, List.cons_append, List.append_nil]
    repeat (go_big_quiet_step (fail))
    exact wpQuiet_nil rfl
  refine mix_writes 6 ⟨some 10, _, _, _, _, _⟩ rfl _ ?_
  change wpList _ _ _ _ _ w0.drew
  have H3 := Aside0.mk H0.out.drew
  have HX3 := Aside0.mk (show w0.drew.heap[c]? = some (.cells #[.int .i64 y.i, .int .i64 y.f, .int .i64 y.t, .string y.s] 33 (0, 0)) from HX.out)
  have HW3 := Aside0.mk (show Below c w w0.drew from ⟨HW.out.os, HW.out.tape, HW.out.output, HW.out.size, HW.out.block⟩)
  clear H0 HX HW
  generalize w0.drew = w3 at *
  obtain ⟨i0, hi, hz0, hz1, hz2⟩ := info_parts info33
  go_wp2_with fail
  have b4 := below2a w3 (.cells #[.int .i64 y.i, .int .i64 y.f, .int .i64 y.t, .string y.s] 33)
  have H4 := Aside0.mk (IsM.below H3.out b4)
  have HX4 := Aside0.mk (blk_below HX3.out b4)
  have HW4 := Aside0.mk (show But w (w3.alloc (.cells #[.int .i64 y.i, .int .i64 y.f, .int .i64 y.t, .string y.s] 33)) x.S from by
    have h1 := HW3.out
    rw [← HC.out] at h1
    exact (But.of_below h1).below_ b4)
  clear b4
  refine ⟨⟨H4.out.blk, HX4.out⟩, ?_⟩
  refine mix_writes 7 ⟨some 11, _, _, _, _, _⟩ rfl _ ?_
  have hone : ∀ u ∈ [Value.int .i64 y.i, .int .i64 y.f, .int .i64 y.t, .string y.s], u.oneCell' = true := lc_one y
  refine wpList_append_own_at _ rfl _ _ 57 rfl B 33 i0 (.agg #[.int .i64 0, .int .i64 0, .int .i64 0, .string ByteArray.empty]) 4 40 Try.underlying57 hi hz0 hz1 hz2 rfl (by decide) (.slice x.A x.L.length x.cap) x.L.length (lcells x.L) rfl H4.out.row ⟨w3.heap.size, 0, none⟩ 1 1 [.int .i64 y.i, .int .i64 y.f, .int .i64 y.t, .string y.s] rfl rfl (new_cells w3 [.int .i64 y.i, .int .i64 y.f, .int .i64 y.t, .string y.s] 33) hone ?c1 ?c2 ?c3 ?c4
  case c1 => have := HL.out; unfold maxLen; omega
  case c2 => have := HL.out; omega
  case c3 => have := HB.out; have := HW4.out.size; have := HC.out; omega
  case c4 =>
  intro v' w5 hown hgrow _ hat
  obtain ⟨A', cap', rfl⟩ := own_form hown
  clear hi hz0 hz1 hz2 hone
  rw [rowB_own] at hgrow
  rw [rowB_own, rowB_own] at hat
  have hk5 : w5.heap[x.g]? = _ := blk_grown H4.out.blk hgrow (fun e => H4.out.qg x.g e.symm rfl)
  have hc5 : w5.heap[c]? = _ := blk_grown HX4.out hgrow (fun e => by have h2 := (HQL.out c e.symm).2; omega)
  have hd : MDone w (w5.setCell ⟨x.g, 2, none⟩ (.slice A' (x.L.length + 1) cap')) B x ⟨x.g, x.r, A', cap', x.lim, x.sent, x.L ++ [y], x.F⟩ := by
    have hl : (x.L ++ [y]).length = x.L.length + 1 := by simp
    rw [← hl]
    refine Pm.put H4.out HW4.out hgrow ?_ ?_
    · unfold OwnL
      rw [hl, lcells_app]
      exact hown
    · rcases hat with e | e
      · exact .inl e
      · exact .inr ⟨_, e, HW4.out.size⟩
  have HD := Aside0.mk hd
  have HK5 := Aside0.mk hk5
  have HC5 := Aside0.mk hc5
  clear hd hk5 hc5 hat hgrow hown
  go_wp2_with fail
  refine ⟨⟨HK5.out, HC5.out⟩, ?_⟩
  apply mix_quiets [8, 9] _ (by kernel_rfl) ⟨HK5.out, HC5.out⟩
  case h =>
    intro W hW
    clear hW
    refine still_of_quiet _ _ ?_
    simp only [segOps, List.getElem?_toArray, List.getElem?_cons_zero, List.getElem?_cons_succ, Option.toList_some, List.nil_append, List.cons_append, List.append_nil]
    repeat (go_big_quiet_step (fail))
    exact wpQuiet_nil rfl
  refine fin_write 10 _ rfl ?_
  have c3 := blk_cell HK5.out 2
  have f3 := blk_frozen HK5.out 2
  go_wp2_with fail
  refine nq_out ?_
  go_wp2_with fail
  go_end0
  exact ⟨rfl, _, _, HD.out⟩

end Go.Proofs.Ytadbcekglcmccaa.Q
