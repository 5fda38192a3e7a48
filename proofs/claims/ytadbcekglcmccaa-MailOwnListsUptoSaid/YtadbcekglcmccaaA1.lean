/- The program's mail in memory; contract of its bag's at. Condition: block g is a mail. -/
import Derived.Test.YtadbcekglcmccaaProg
import Derived.Below
import Derived.Deep.Draws
import Derived.Deep.AppendLies
import Derived.Maps.AppendAt
import Derived.OwnWalk
import Derived.Laws.BytesArg
import Derived.Laws.MakeOwn
import Derived.Laws.OwnMore
import Derived.Deep.OwnRows
import Derived.Tactics
import Derived.Lib.ConvBytes
import Derived.Laws.Slices
import Derived.WalkKit
import Derived.KernelRfl
import Derived.RowKit3
import Derived.Deep.LoopGhost
import Derived.Deep.QuietTactic
import Derived.BigQuiet
import Derived.WideLaws
import Derived.Deep.DeepCutAuto
import Derived.Deep.CutBlock
import Derived.Deep.RegionHeld3
import Derived.Laws.Rows
import Derived.Lib.AppendStr
import Derived.ArgAppend
import Derived.Laws.IdiomCopy
import Derived.OrdersHeld
import Derived.Laws.BitsLemmas
import Derived.RowKit
import Derived.Test.YtadbcekglcmccaaWWords
import Derived.Test.YtadbcekglcmccaaWLast
import Derived.Test.YtadbcekglcmccaaWTab
import Derived.Test.YtadbcekglcmccaaWFour
import Derived.Test.YtadbcekglcmccaaWQPut
import Derived.Test.YtadbcekglcmccaaWApart
import Derived.Test.YtadbcekglcmccaaWArr
import Derived.Test.YtadbcekglcmccaaWZeros
import Derived.Test.YtadbcekglcmccaaWFoot
import Derived.Test.YtadbcekglcmccaaWKept
import Derived.Test.YtadbcekglcmccaaWShare
import Derived.Test.YtadbcekglcmccaaWN
import Derived.Test.YtadbcekglcmccaaWFootNe
import Derived.Test.YtadbcekglcmccaaWAt
import Derived.Test.YtadbcekglcmccaaWEqStruct
import Derived.Test.YtadbcekglcmccaaWRepsOne
import Derived.Test.YtadbcekglcmccaaWInv
import Derived.Test.YtadbcekglcmccaaWInvWords
import Derived.Test.YtadbcekglcmccaaWGuard
import Derived.Test.YtadbcekglcmccaaWNEv
import Derived.Test.YtadbcekglcmccaaWMore
import Derived.Test.YtadbcekglcmccaaA0
set_option linter.unusedVariables false
set_option linter.unusedSimpArgs false
namespace Go.Proofs.Ytadbcekglcmccaa.Q
open Go.RowKit Go.Proofs.YtadbcekglcmccaaW.PrintWords Go.Proofs.YtadbcekglcmccaaW.PrintLast Go.Proofs.YtadbcekglcmccaaW.PrintMore
open Go.FM Go.Plan

def lt0 : Lt := ⟨0, 0, 0, ⟨#[]⟩⟩
def ob0 : Obj := .cells #[.int .i64 0, .int .i64 0, .int .i64 0, .string ⟨#[]⟩] 33
/-- Letters in a row of the call's own (from block B on). -/
abbrev OwnL (W : World) (B : Nat) (A : Option Addr) (cap : Nat) (L : List Lt) : Prop := W.ownsRow B 33 4 (.slice A L.length cap) L.length (lcells L)
theorem OwnL.adr {W : World} {B : Nat} {A : Option Addr} {cap : Nat} {L : List Lt} (h : OwnL W B A cap L) (i : Nat) (x : Lt) (hi : L[i]? = some x) : ∃ ad, A = some ad ∧
    W.cell? (ad.add (i * 4)) = some (.int .i64 x.i) ∧ W.cell? ⟨(ad.add (i * 4)).block, (ad.add (i * 4)).off + 1, none⟩ = some (.int .i64 x.f) ∧ W.cell? ⟨(ad.add (i * 4)).block, (ad.add (i * 4)).off + 2, none⟩ = some (.int .i64 x.t) ∧ W.cell? ⟨(ad.add (i * 4)).block, (ad.add (i * 4)).off + 3, none⟩ = some (.string x.s) := by
  obtain ⟨g, rfl, hc⟩ := own_at (c := lc) (by decide) lc_length h i x hi
  refine ⟨_, rfl, ?_⟩
  rw [add_plain]
  exact ⟨hc 0 _ rfl, hc 1 _ rfl, hc 2 _ rfl, hc 3 _ rfl⟩

/-- The program's mail at g: its map at r, its letters in a row of their own. -/
structure IsM (W : World) (B g r : Nat) (A : Option Addr) (cap : Nat) (lim sent : Int) (L : List Lt) (F : Cm) : Prop where
  blk : W.heap[g]? = some (.cells #[.int .i64 lim, .int .i64 sent, .slice A L.length cap, .map (some r)] 71 (0, 0))
  row : OwnL W B A cap L
  fm : MapL W r F
  gr : g ≠ r
section
variable {W W' : World} {B g r : Nat} {A : Option Addr} {cap : Nat} {lim sent : Int} {L : List Lt} {F : Cm}
theorem IsM.keep (h : IsM W B g r A cap lim sent L F) (h1 : W'.heap[g]? = W.heap[g]?) (h2 : W'.heap[r]? = W.heap[r]?) (h3 : ∀ q, rowB A = some q → W'.heap[q]? = W.heap[q]?) : IsM W' B g r A cap lim sent L F :=
  ⟨h1.trans h.blk, ownsRow_keep h.row h3, h.fm.keep h2, h.gr⟩
theorem IsM.glt (h : IsM W B g r A cap lim sent L F) : g < W.heap.size := blk_lt h.blk
theorem IsM.rlt (h : IsM W B g r A cap lim sent L F) : r < W.heap.size := h.fm.lt
theorem IsM.qlt (h : IsM W B g r A cap lim sent L F) : ∀ q, rowB A = some q → B ≤ q ∧ q < W.heap.size := ownsRow_lt h.row
theorem IsM.qg (h : IsM W B g r A cap lim sent L F) : ∀ q, rowB A = some q → q ≠ g := by
  intro q hq
  obtain ⟨cur, hc⟩ := ownsRow_type h.row q hq
  exact fun e => blk_ne hc h.blk (by decide) e
theorem IsM.qr (h : IsM W B g r A cap lim sent L F) : ∀ q, rowB A = some q → q ≠ r := by
  intro q hq e
  subst e
  obtain ⟨cur, hc⟩ := ownsRow_type h.row q hq
  obtain ⟨es, c, h0, _⟩ := h.fm
  rw [hc] at h0
  cases h0
theorem IsM.below (h : IsM W B g r A cap lim sent L F) (hb : Below W.heap.size W W') : IsM W' B g r A cap lim sent L F :=
  h.keep (hb.block g h.glt) (hb.block r h.rlt) fun q hq => hb.block q (h.qlt q hq).2
theorem IsM.drew (h : IsM W B g r A cap lim sent L F) : IsM W.drew B g r A cap lim sent L F := h.keep rfl rfl fun _ _ => rfl
theorem IsM.drewN (h : IsM W B g r A cap lim sent L F) (n : Nat) : IsM (W.drewN n) B g r A cap lim sent L F := h.keep rfl rfl fun _ _ => rfl
theorem IsM.c0 (h : IsM W B g r A cap lim sent L F) : W.cell? ⟨g, 0, none⟩ = some (.int .i64 lim) := blk_cell h.blk 0
theorem IsM.c1 (h : IsM W B g r A cap lim sent L F) : W.cell? ⟨g, 1, none⟩ = some (.int .i64 sent) := blk_cell h.blk 1
theorem IsM.c2 (h : IsM W B g r A cap lim sent L F) : W.cell? ⟨g, 2, none⟩ = some (.slice A L.length cap) := blk_cell h.blk 2
theorem IsM.c3 (h : IsM W B g r A cap lim sent L F) : W.cell? ⟨g, 3, none⟩ = some (.map (some r)) := blk_cell h.blk 3
end

theorem below2a (w : World) (o1 : Obj) : Below w.heap.size w (w.alloc o1) := (Below.refl _ _).alloc (Nat.le_refl _) _
theorem below2b (w : World) (o1 o2 : Obj) : Below w.heap.size w ((w.alloc o1).alloc o2) := ((Below.refl _ _).alloc (Nat.le_refl _) _).alloc (by simp) _

set_option maxHeartbeats 2000000 in
theorem at_no (B g r : Nat) (A : Option Addr) (cap : Nat) (lim sent : Int) (L : List Lt) (F : Cm) (i : Int) (w : World) (h : IsM w B g r A cap lim sent L F) (hi : i < 0 ∨ (L.length : Int) ≤ i) :
    Calls Try.prog 35 #[.pointer (some ⟨g, 2, none⟩), .int .i64 i] w fun e w' => e = .returned (.tuple #[.agg #[.int .i64 0, .int .i64 0, .int .i64 0, .string ⟨#[]⟩], .bool false]) ∧ Below w.heap.size w w' := by
  have c2 := (h.below (below2a w (.cells #[.int .i64 0, .int .i64 0, .int .i64 0, .string ⟨#[]⟩] 33))).c2
  clear h
  by_cases k : i < 0
  · have b1 : decide (i < 0) = true := by simpa using k
    clear k hi
    go_enter Try.func35, Try.ntmps35
    go_wp2
    exact bodyPost_ret (v := .tuple #[la lt0, .bool false]) (by simp [results, Try.results35, go_sem, la, lt0]) rfl ⟨rfl, below2b w _ _⟩
  · have b1 : decide (i < 0) = false := by simpa using k
    have b2 : decide ((L.length : Int) ≤ i) = true := by simp; omega
    clear k hi
    go_enter Try.func35, Try.ntmps35
    go_wp2
    exact bodyPost_ret (v := .tuple #[la lt0, .bool false]) (by simp [results, Try.results35, go_sem, la, lt0]) rfl ⟨rfl, below2b w _ _⟩

set_option maxHeartbeats 2000000 in
theorem at_yes (B g r : Nat) (A : Option Addr) (cap : Nat) (lim sent : Int) (L : List Lt) (F : Cm) (i : Nat) (x : Lt) (w : World) (h : IsM w B g r A cap lim sent L F) (hi : L[i]? = some x) :
    Calls Try.prog 35 #[.pointer (some ⟨g, 2, none⟩), .int .i64 (i : Int)] w fun e w' => e = .returned (.tuple #[.agg #[.int .i64 x.i, .int .i64 x.f, .int .i64 x.t, .string x.s], .bool true]) ∧ Below w.heap.size w w' := by
  have hil : i < L.length := (List.getElem?_eq_some_iff.1 hi).1
  have b1 : decide ((i : Int) < 0) = false := decide_eq_false (by omega)
  have b2 : decide ((L.length : Int) ≤ (i : Int)) = false := by simp; omega
  have b3 : decide (L.length ≤ i) = false := by simp; omega
  have p2 : (0 ≤ (i : Int)) = True := eq_true (by omega)
  have p3 : ((i : Int) < (L.length : Int)) = True := eq_true (by omega)
  have hM := h.below (below2a w (.cells #[.int .i64 0, .int .i64 0, .int .i64 0, .string ⟨#[]⟩] 33))
  obtain ⟨ad, rfl, a0, a1, a2, a3⟩ := hM.row.adr i x hi
  have c2 := hM.c2
  clear h hM hi hil
  go_enter Try.func35, Try.ntmps35
  go_wp2
  exact bodyPost_ret (v := .tuple #[la x, .bool true]) (by simp [results, Try.results35, go_sem, la]) rfl ⟨rfl, below2a w _⟩

/-! ### slices.Delete of one letter -/
theorem zero33 (w : World) : (zeroValue 33).run Try.prog w = .ok (la lt0) w := by kernel_rfl
theorem own_setRow {W : World} {B g n cap : Nat} {e : TypeId} {size : Nat} {xs : List Value} {cur cur' : Array Value} (h : W.ownsRow B e size (.slice (some ⟨g, 0, none⟩) n cap) n xs) (hg : W.heap[g]? = some (.cells cur e (0, 0))) (hs : cur'.size = cur.size) (ht : cur'.toList.take (n * size) = cur.toList.take (n * size)) :
    (W.setRow g cur').ownsRow B e size (.slice (some ⟨g, 0, none⟩) n cap) n xs ∧ W.grownBy (W.setRow g cur') (some g) := by
  refine ⟨⟨h.1, ?_⟩, ⟨rfl, rfl, rfl, by simp [World.setRow], fun k _ hk => setRow_other W g k _ (fun e => hk (by rw [e]))⟩⟩
  rcases h.2 with ⟨hv, _⟩ | ⟨g', c, cur2, hv, hb, hgg, h1, h2, h3, h4⟩
  · cases hv
  · cases hv
    rw [hg] at hgg
    cases hgg
    exact .inr ⟨g, _, cur', rfl, hb, setRow_heap W g cur cur' e (0, 0) hg, h1, h2, by rw [hs, h3], by rw [ht, h4]⟩
theorem own_clear_one {W : World} {B g n cap c : Nat} {xs : List Value} (h : W.ownsRow B 33 4 (.slice (some ⟨g, 0, none⟩) n cap) n xs) (hn : n < cap) (ty : TypeId) :
    ∃ W', (Builtin.clear_ #[57] ty #[.slice (some ⟨g, n * 4, none⟩) 1 c]).run Try.prog W = .ok (.tuple #[]) W' ∧ W'.ownsRow B 33 4 (.slice (some ⟨g, 0, none⟩) n cap) n xs ∧ W.grownBy W' (some g) := by
  have h' := h
  rcases h'.2 with ⟨hv, _⟩ | ⟨g', c', cur, hv, hb, hgg, h1, h2, h3, h4⟩
  · cases hv
  · cases hv
    have hst := run_storeCells_at Try.prog g (n * 4) 33 [.int .i64 0, .int .i64 0, .int .i64 0, .string ⟨#[]⟩] 0 cur W hgg (by simp; omega) (by intro v hv; simp at hv; rcases hv with rfl | rfl <;> rfl)
    obtain ⟨cur', hcur⟩ : ∃ cur' : Array Value, cur' = (cur.toList.take (n * 4 + 0) ++ [Value.int .i64 0, Value.int .i64 0, Value.int .i64 0, Value.string ⟨#[]⟩] ++ cur.toList.drop (n * 4 + 0 + 4)).toArray := ⟨_, rfl⟩
    have hl : n * 4 + 4 ≤ cur.toList.length := by simp; omega
    have h5 : cur'.size = cur.size := by rw [hcur]; simp; omega
    have h6 : cur'.toList.take (n * 4) = cur.toList.take (n * 4) := by
      rw [hcur, List.toList_toArray, List.append_assoc, List.take_append_of_le_length (by rw [List.length_take]; omega), List.take_take]
      congr 1
      omega
    have hst' : (storeCells ⟨g, n * 4, none⟩ [.int .i64 0, .int .i64 0, .int .i64 0, .string ⟨#[]⟩] 0).run Try.prog W = .ok () (W.setRow g cur') := by rw [hcur]; exact hst
    refine ⟨W.setRow g cur', ?_, own_setRow h hgg h5 h6⟩
    have hz : (Builtin.zeroCells (la lt0).cells 1).toList = [.int .i64 0, .int .i64 0, .int .i64 0, .string ⟨#[]⟩] := by kernel_rfl
    have hz2 : (Builtin.zeroCells (Value.agg #[.int .i64 0, .int .i64 0, .int .i64 0, .string ⟨#[]⟩]).cells 1).toList = [.int .i64 0, .int .i64 0, .int .i64 0, .string ⟨#[]⟩] := hz
    simp [Builtin.clear_, run_underlying Try.underlying57, zero33, hz2, hst']

end Go.Proofs.Ytadbcekglcmccaa.Q
