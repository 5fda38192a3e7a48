/- Contracts of throttle.NewBudget and (*throttle.Budget).Left. Condition: block g is a budget whose lock is free. -/
import Derived.Test.YthajekcjgkidhaaProg
import Derived.Below
import Derived.Deep.Draws
import Derived.Deep.AppendLies
import Derived.Maps.AppendAt
import Derived.OwnWalk
import Derived.Laws.BytesArg
import Derived.Laws.MakeOwn
import Derived.Laws.OwnMore
import Derived.Deep.OwnRows
import Derived.Tactics
import Derived.Lib.ConvBytes
import Derived.Laws.Slices
import Derived.WalkKit
import Derived.KernelRfl
import Derived.RowKit3
import Derived.Deep.LoopGhost
import Derived.Deep.QuietTactic
import Derived.BigQuiet
import Derived.WideLaws
import Derived.Deep.DeepCutAuto
import Derived.Deep.CutBlock
import Derived.Deep.RegionHeld3
import Derived.Laws.Rows
import Derived.Lib.AppendStr
import Derived.ArgAppend
import Derived.Laws.IdiomCopy
import Derived.OrdersHeld
import Derived.Laws.BitsLemmas
import Derived.RowKit
import Derived.Test.YthajekcjgkidhaaWWords
import Derived.Test.YthajekcjgkidhaaWLast
import Derived.Test.YthajekcjgkidhaaWTab
import Derived.Test.YthajekcjgkidhaaWFour
import Derived.Test.YthajekcjgkidhaaWQPut
import Derived.Test.YthajekcjgkidhaaWApart
import Derived.Test.YthajekcjgkidhaaWArr
import Derived.Test.YthajekcjgkidhaaWZeros
import Derived.Test.YthajekcjgkidhaaWFoot
import Derived.Test.YthajekcjgkidhaaWKept
import Derived.Test.YthajekcjgkidhaaWShare
import Derived.Test.YthajekcjgkidhaaWN
import Derived.Test.YthajekcjgkidhaaWFootNe
import Derived.Test.YthajekcjgkidhaaWAt
import Derived.Test.YthajekcjgkidhaaWEqStruct
import Derived.Test.YthajekcjgkidhaaWRepsOne
import Derived.Test.YthajekcjgkidhaaWInv
import Derived.Test.YthajekcjgkidhaaWInvWords
import Derived.Test.YthajekcjgkidhaaWGuard
import Derived.Test.YthajekcjgkidhaaWNEv
import Derived.Test.YthajekcjgkidhaaWMore
import Derived.Test.YthajekcjgkidhaaLocks
import Derived.Conc.MuLone
import Derived.Test.YthajekcjgkidhaaN0
import Derived.Test.YthajekcjgkidhaaTE
set_option linter.unusedVariables false
set_option linter.unusedSimpArgs false
namespace Go.Proofs.Ythajekcjgkidhaa.Q
open Go.RowKit Go.Proofs.YthajekcjgkidhaaW.PrintWords Go.Proofs.YthajekcjgkidhaaW.PrintLast Go.Proofs.YthajekcjgkidhaaW.PrintMore
open Go.MuLone Go.FM

/-- A budget at g, its map at r. -/
def ucells (t b m : Int) (r : Nat) (l : Int) : Array Value := #[.int .i32 l, .int .u32 0, .int .i64 t, .int .i64 b, .int .i64 m, .map (some r)]
structure IsU (W : World) (g r : Nat) (t b m : Int) (F : Fm) : Prop where
  blk : W.heap[g]? = some (.cells (ucells t b m r 0) 87 (0, 0))
  fm : MapI W r F
  gr : g ≠ r
def okBud (t b m : Int) : Prop := 1 ≤ t ∧ t ≤ 64 ∧ 1 ≤ b ∧ b ≤ 1024 ∧ b ≤ m ∧ m ≤ 1024
instance (t b m : Int) : Decidable (okBud t b m) := by unfold okBud; infer_instance
def GoodF (t : Int) (F : Fm) : Prop := ∀ k s, F k = some s → 0 ≤ s.1 ∧ s.1 ≤ t ∧ 1 ≤ s.2 ∧ s.2 ≤ 1024

theorem But2.trans {w w' w'' : World} {g k : Nat} (h : But2 w w' g k) (h' : But2 w' w'' g k) : But2 w w'' g k :=
  ⟨h'.os.trans h.os, h'.tape.trans h.tape, h'.output.trans h.output, Nat.le_trans h.size h'.size, fun i hi a b => (h'.block i (Nat.lt_of_lt_of_le hi h.size) a b).trans (h.block i hi a b)⟩
theorem But2.set {w W : World} {g k : Nat} (h : But2 w W g k) (i : Nat) (u : Value) : But2 w (W.setCell ⟨g, i, none⟩ u) g k :=
  h.trans ⟨rfl, rfl, rfl, by simp [World.setCell], fun j _ hj _ => Below.heap_setCell W ⟨g, i, none⟩ u j hj⟩
theorem But2.only {w W W' : World} {g k : Nat} (h : But2 w W g k) (ho : OnlyB W W' k) : But2 w W' g k :=
  h.trans ⟨ho.os, ho.tape, ho.output, by rw [ho.size]; exact Nat.le_refl _, fun j _ _ hj => ho.block j hj⟩

set_option maxHeartbeats 2000000 in
theorem unew_calls (t b m : Int) (w : World) (h : okBud t b m) :
    Calls Try.prog 12 #[.int .i64 t, .int .i64 b, .int .i64 m] w fun e w' => e = .returned (.tuple #[.pointer (some ⟨w.heap.size + 1, 0, none⟩), .int .i64 0]) ∧ IsU w' (w.heap.size + 1) w.heap.size t b m (fun _ => none) ∧ Below w.heap.size w w' ∧ w'.heap.size = w.heap.size + 2 := by
  obtain ⟨h1, h2, h3, h4, h5, h6⟩ := h
  have b1 : decide (t < 1) = false := by simp; omega
  have b2 : decide (64 < t) = false := by simp; omega
  have b3 : decide (b < 1) = false := by simp; omega
  have b4 : decide (1024 < b) = false := by simp; omega
  have b5 : decide (m < b) = false := by simp; omega
  have b6 : decide (1024 < m) = false := by simp; omega
  have hmm := @run_makeMap Try.prog
  clear h1 h2 h3 h4 h5 h6
  go_enter Try.func12, Try.ntmps12
  go_wp2
  go_ret2
  have bx := blk_new (w.alloc (.map #[] 0)) (.cells (ucells t b m w.heap.size 0) 87)
  refine ⟨by simp, ⟨by simpa [ucells] using bx, ?_, by omega⟩, ((Below.refl _ _).alloc (Nat.le_refl _) _).alloc (by simp) _, by simp⟩
  exact (MapI.new w 0).below (Below.heap_alloc _ _ _ (by simp))

set_option maxHeartbeats 2000000 in
theorem unew_refuses (t b m : Int) (w : World) (h : ¬ okBud t b m) :
    Calls Try.prog 12 #[.int .i64 t, .int .i64 b, .int .i64 m] w fun e w' => e = .returned (.tuple #[.pointer none, .int .i64 1]) ∧ w' = w := by
  have hdec : t < 1 ∨ 64 < t ∨ b < 1 ∨ 1024 < b ∨ m < b ∨ 1024 < m := by unfold okBud at h; omega
  by_cases h1 : t < 1
  · have b1 : decide (t < 1) = true := by simp; omega
    clear h hdec h1
    go_enter Try.func12, Try.ntmps12
    go_wp2
    go_ret2
    exact ⟨rfl, rfl⟩
  have b1 : decide (t < 1) = false := by simp; omega
  by_cases h2 : 64 < t
  · have b2 : decide (64 < t) = true := by simp; omega
    clear h hdec h1 h2
    go_enter Try.func12, Try.ntmps12
    go_wp2
    go_ret2
    exact ⟨rfl, rfl⟩
  have b2 : decide (64 < t) = false := by simp; omega
  by_cases h3 : b < 1
  · have b3 : decide (b < 1) = true := by simp; omega
    clear h hdec h1 h2 h3
    go_enter Try.func12, Try.ntmps12
    go_wp2
    go_ret2
    exact ⟨rfl, rfl⟩
  have b3 : decide (b < 1) = false := by simp; omega
  by_cases h4 : 1024 < b
  · have b4 : decide (1024 < b) = true := by simp; omega
    clear h hdec h1 h2 h3 h4
    go_enter Try.func12, Try.ntmps12
    go_wp2
    go_ret2
    exact ⟨rfl, rfl⟩
  have b4 : decide (1024 < b) = false := by simp; omega
  by_cases h5 : m < b
  · have b5 : decide (m < b) = true := by simp; omega
    clear h hdec h1 h2 h3 h4 h5
    go_enter Try.func12, Try.ntmps12
    go_wp2
    go_ret2
    exact ⟨rfl, rfl⟩
  have b5 : decide (m < b) = false := by simp; omega
  have b6 : decide (1024 < m) = true := by simp; omega
  clear h hdec h1 h2 h3 h4 h5
  go_enter Try.func12, Try.ntmps12
  go_wp2
  go_ret2
  exact ⟨rfl, rfl⟩

theorem zeroS (w : World) : (zeroValue 89).run Try.prog w = .ok (ev (0, 0)) w := by kernel_rfl

theorem fieldS (s1 s2 : Int) (W : World) : (Instr.field 89 (.agg #[.int .i64 s1, .int .i64 s2]) 0).run Try.prog W = .ok (.int .i64 s1) W := by kernel_rfl

/-- What a method of a budget sees behind its lock: the lock's cell says l, the item that it was handed lies at c. -/
structure UL (w W : World) (g r c : Nat) (t b m : Int) (F : Fm) (it : Int × Int) (l : Int) : Prop where
  blk : W.heap[g]? = some (.cells (ucells t b m r l) 87 (0, 0))
  fm : MapI W r F
  gr : g ≠ r
  bx : W.heap[c]? = some (.cells #[.int .i64 it.1, .int .i64 it.2] 35 (0, 0))
  bu : But2 w W g r
  cg : c ≠ g
  cr : c ≠ r
theorem MapI.lt {W : World} {r : Nat} {F : Fm} (h : MapI W r F) : r < W.heap.size := by
  obtain ⟨es, c, h0, _⟩ := h
  exact (Array.getElem?_eq_some_iff.1 h0).1
theorem UL.start (g r : Nat) (t b m : Int) (F : Fm) (it : Int × Int) (w : World) (hI : IsU w g r t b m F) : UL w (w.alloc (.cells #[.int .i64 it.1, .int .i64 it.2] 35)) g r w.heap.size t b m F it 0 := by
  have hg : g < w.heap.size := blk_lt hI.blk
  have hr := hI.fm.lt
  exact ⟨(Below.heap_alloc w _ g hg).trans hI.blk, hI.fm.below (Below.heap_alloc w _ r hr), hI.gr, blk_new w _, (But2.refl w g r).alloc _, by omega, by omega⟩
theorem UL.drewN {w W : World} {g r c : Nat} {t b m l : Int} {F : Fm} {it : Int × Int} (h : UL w W g r c t b m F it l) (n : Nat) : UL w (W.drewN n) g r c t b m F it l := ⟨h.blk, h.fm.below rfl, h.gr, h.bx, h.bu.drewN n, h.cg, h.cr⟩
theorem UL.drew {w W : World} {g r c : Nat} {t b m l : Int} {F : Fm} {it : Int × Int} (h : UL w W g r c t b m F it l) : UL w W.drew g r c t b m F it l := ⟨h.blk, h.fm.below rfl, h.gr, h.bx, h.bu.drew, h.cg, h.cr⟩
theorem UL.lock {w W : World} {g r c : Nat} {t b m l : Int} {F : Fm} {it : Int × Int} (h : UL w W g r c t b m F it l) (l' : Int) : UL w (W.setCell ⟨g, 0, none⟩ (.int .i32 l')) g r c t b m F it l' :=
  ⟨blk_set h.blk 0 _, h.fm.below (Below.heap_setCell W ⟨g, 0, none⟩ _ r (fun e => h.gr e.symm)), h.gr, (Below.heap_setCell W ⟨g, 0, none⟩ _ c h.cg).trans h.bx, h.bu.set 0 _, h.cg, h.cr⟩
theorem UL.look {w W : World} {g r c : Nat} {t b m l : Int} {F : Fm} {it : Int × Int} (h : UL w W g r c t b m F it l) (hit : okI it) (k : Bool) :
    (Instr.lookup 78 (.map (some r)) (.agg #[.int .i64 it.1, .int .i64 it.2]) k).run Try.prog W = .ok (if k then .tuple #[ev ((F it).getD (0, 0)), .bool (F it).isSome] else ev ((F it).getD (0, 0))) W :=
  FMap.lookup keysI Try.underlying78 h.fm (0, 0) (zeroS W) it hit k
theorem UL.done {w W : World} {g r c : Nat} {t b m : Int} {F : Fm} {it : Int × Int} (h : UL w W g r c t b m F it 0) : IsU W g r t b m F ∧ But2 w W g r := ⟨⟨h.blk, h.fm, h.gr⟩, h.bu⟩

set_option maxHeartbeats 4000000 in
set_option maxRecDepth 100000 in
theorem left_calls (g r : Nat) (t b m : Int) (F : Fm) (it : Int × Int) (hit : okI it) (w : World) (hI : IsU w g r t b m F) (hG : GoodF t F) (ht : 1 ≤ t ∧ t ≤ 64) :
    Calls Try.prog 16 #[.pointer (some ⟨g, 0, none⟩), .agg #[.int .i64 it.1, .int .i64 it.2]] w fun e w' => e = .returned (.int .i64 (t - ((F it).getD (0, 0)).1)) ∧ IsU w' g r t b m F ∧ But2 w w' g r := by
  have hs := UL.start g r t b m F it w hI
  have hgd : 0 ≤ ((F it).getD (0, 0)).1 ∧ ((F it).getD (0, 0)).1 ≤ 64 := by
    cases hc : F it with
    | none => simp
    | some s => have := hG it s hc; simp; omega
  have hw : IntKind.i64.wrap (t - ((F it).getD (0, 0)).1) = t - ((F it).getD (0, 0)).1 := (i64_w _).trans (Go.IntWalk.wrap64_in _ (by omega))
  have HS := Aside0.mk hs
  have hk0 := fun (W : World) (h : UL w W g r w.heap.size t b m F it 1) => h.look hit false
  obtain ⟨⟨s1, s2⟩, hsv⟩ : ∃ s, (F it).getD (0, 0) = s := ⟨_, rfl⟩
  rw [hsv] at hw ⊢
  simp only [hsv] at hk0
  have HK := Aside0.mk hk0
  clear hs hI hG ht hgd hsv hk0
  go_enter_defers Try.func16, Try.ntmps16
  go_wp2_with fail
  generalize w.alloc (.cells #[.int .i64 it.1, .int .i64 it.2] 35) = w1 at *
  generalize w.heap.size = c at *
  have c0 : w1.cell? ⟨g, 0, none⟩ = some (.int .i32 0) := blk_cell HS.out.blk 0
  have f0 : w1.frozen? ⟨g, 0, none⟩ = false := blk_frozen HS.out.blk 0
  go_wp2_with (go_at_call 34; refine (lock_free muLib ⟨g, 0, none⟩ _ c0 f0).mono ?_; rintro e w' ⟨rfl, rfl⟩)
  have HL := Aside0.mk (HS.out.lock 1)
  generalize w1.setCell ⟨g, 0, none⟩ (.int .i32 1) = w2 at *
  clear c0 f0 HS
  have c2 : w2.cell? ⟨g, 2, none⟩ = some (.int .i64 t) := blk_cell HL.out.blk 2
  have c5 : w2.cell? ⟨g, 5, none⟩ = some (.map (some r)) := blk_cell HL.out.blk 5
  have x0 := blk_cell HL.out.bx 0
  have x1 := blk_cell HL.out.bx 1
  have hk : ∀ n, (Instr.lookup 78 (.map (some r)) (.agg #[.int .i64 it.1, .int .i64 it.2]) false).run Try.prog (w2.drewN n) = .ok (.agg #[.int .i64 s1, .int .i64 s2]) (w2.drewN n) := fun n => HK.out _ (HL.out.drewN n)
  have hF := fieldS s1 s2
  go_quiet (fail)
  have HQ := Aside0.mk (HL.out.drewN nq)
  generalize w2.drewN nq = w3 at *
  go_wp2_with fail
  refine leaves_cons (f := 35) (args := #[.pointer (some ⟨g, 0, none⟩)]) (by simp) (by simp [go_sem]) ?_
  refine (unlock_deferred muLib ⟨g, 0, none⟩ .returning _ ?_ ?_).mono ?_
  · exact blk_cell HQ.out.blk 0
  · exact blk_frozen HQ.out.blk 0
  rintro e u' w'' ⟨rfl, rfl, rfl⟩
  exact ⟨_, results_tmp rfl _ _ _, rfl, (HQ.out.lock 0).done⟩

end Go.Proofs.Ythajekcjgkidhaa.Q
