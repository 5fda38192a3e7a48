/- What a marked list leaves of the bench and of the other lists. No condition. -/
import Derived.Test.YtadbcekglcmccaaProg
import Derived.Below
import Derived.Deep.Draws
import Derived.Deep.AppendLies
import Derived.Maps.AppendAt
import Derived.OwnWalk
import Derived.Laws.BytesArg
import Derived.Laws.MakeOwn
import Derived.Laws.OwnMore
import Derived.Deep.OwnRows
import Derived.Tactics
import Derived.Lib.ConvBytes
import Derived.Laws.Slices
import Derived.WalkKit
import Derived.KernelRfl
import Derived.RowKit3
import Derived.Deep.LoopGhost
import Derived.Deep.QuietTactic
import Derived.BigQuiet
import Derived.WideLaws
import Derived.Deep.DeepCutAuto
import Derived.Deep.CutBlock
import Derived.Deep.RegionHeld3
import Derived.Laws.Rows
import Derived.Lib.AppendStr
import Derived.ArgAppend
import Derived.Laws.IdiomCopy
import Derived.OrdersHeld
import Derived.Laws.BitsLemmas
import Derived.RowKit
import Derived.Test.YtadbcekglcmccaaWWords
import Derived.Test.YtadbcekglcmccaaWLast
import Derived.Test.YtadbcekglcmccaaWTab
import Derived.Test.YtadbcekglcmccaaWFour
import Derived.Test.YtadbcekglcmccaaWQPut
import Derived.Test.YtadbcekglcmccaaWApart
import Derived.Test.YtadbcekglcmccaaWArr
import Derived.Test.YtadbcekglcmccaaWZeros
import Derived.Test.YtadbcekglcmccaaWFoot
import Derived.Test.YtadbcekglcmccaaWKept
import Derived.Test.YtadbcekglcmccaaWShare
import Derived.Test.YtadbcekglcmccaaWN
import Derived.Test.YtadbcekglcmccaaWFootNe
import Derived.Test.YtadbcekglcmccaaWAt
import Derived.Test.YtadbcekglcmccaaWEqStruct
import Derived.Test.YtadbcekglcmccaaWRepsOne
import Derived.Test.YtadbcekglcmccaaWInv
import Derived.Test.YtadbcekglcmccaaWInvWords
import Derived.Test.YtadbcekglcmccaaWGuard
import Derived.Test.YtadbcekglcmccaaWNEv
import Derived.Test.YtadbcekglcmccaaWMore
import Derived.Test.YtadbcekglcmccaaC2
set_option linter.unusedVariables false
set_option linter.unusedSimpArgs false
namespace Go.Proofs.Ytadbcekglcmccaa.Q
open Go.RowKit Go.Proofs.YtadbcekglcmccaaW.PrintWords Go.Proofs.YtadbcekglcmccaaW.PrintLast Go.Proofs.YtadbcekglcmccaaW.PrintMore
open Go.FM Go.Plan

/-- Four cells of one block are stored. -/
def set4 (W : World) (q o : Nat) (a b c d : Value) : World := (((W.setCell ⟨q, o, none⟩ a).setCell ⟨q, o + 1, none⟩ b).setCell ⟨q, o + 2, none⟩ c).setCell ⟨q, o + 3, none⟩ d
theorem only4 (W : World) (q o : Nat) (a b c d : Value) : OnlyB W (set4 W q o a b c d) q :=
  ⟨rfl, rfl, rfl, by unfold set4; simp [World.setCell], fun i hi => (Below.heap_setCell _ ⟨q, o + 3, none⟩ d i hi).trans ((Below.heap_setCell _ ⟨q, o + 2, none⟩ c i hi).trans ((Below.heap_setCell _ ⟨q, o + 1, none⟩ b i hi).trans (Below.heap_setCell W ⟨q, o, none⟩ a i hi)))⟩
section
variable {w W : World} {n m : Nat} {x0 : Pm} {r0 : Rm} {s : Option (Pm × Rm)} {A : Option Addr} {cap : Nat} {E : List En} {k : Nat}
theorem UQ.mark (h : UQ w W n m x0 r0 s A cap E k) {e : En} (he : E[k]? = some e) {W1 : World} {L' M : List Lt} {A1 A2 A3 : Option Addr} (d : MkDone W W1 w.heap.size e.la e.L L' M A1 A2 A3) {q : Nat} (hq : A = some ⟨q, 0, none⟩) (c1 c2 c3 : Nat) :
    UQ w (set4 W1 q (k * 4) (.slice e.la L'.length e.lq) (.slice A1 M.length c1) (.slice A2 L'.length c2) (.slice A3 M.length c3)) n m x0 r0 s A cap (E.set k ⟨e.la, e.lq, A1, c1, A2, c2, A3, c3, L', M⟩) (k + 1) := by
  have hem : e ∈ E := List.mem_of_getElem? he
  have hkl : k < E.length := (List.getElem?_eq_some_iff.1 he).1
  have hrq : rowB A = some q := by rw [hq]; rfl
  have hqe : ∀ i, ES e i → i ≠ q := fun i hi hh => by subst hh; exact h.rw_ e hem i hi hrq
  have hqlt : q < W.heap.size := h.bk.lt q (.inl hrq)
  have ho := only4 W1 q (k * 4) (.slice e.la L'.length e.lq) (.slice A1 M.length c1) (.slice A2 L'.length c2) (.slice A3 M.length c3)
  have hk : ∀ i, i < W.heap.size → ¬ rowB e.la = some i → i ≠ q → (set4 W1 q (k * 4) (.slice e.la L'.length e.lq) (.slice A1 M.length c1) (.slice A2 L'.length c2) (.slice A3 M.length c3)).heap[i]? = W.heap[i]? := fun i hi h1 h2 => (ho.block i h2).trans (d.fr.block i hi h1)
  have hbf : ∀ i, BF m x0 r0 s i → ¬ rowB e.la = some i ∧ i ≠ q := fun i hi => ⟨fun hh => h.ap i hi (.inr ⟨e, hem, .inl hh⟩), fun hh => h.ap i hi (.inl (by rw [hh]; exact hrq))⟩
  have hnew : ∀ i, ES ⟨e.la, e.lq, A1, c1, A2, c2, A3, c3, L', M⟩ i → rowB e.la = some i ∨ W.heap.size ≤ i := by
    intro i hi
    rcases hi with hi | hi | hi | hi
    · exact .inl hi
    · exact d.a1 i hi
    · exact .inr (d.a2 i hi)
    · exact .inr (d.a3 i hi)
  have hmem : ∀ e' ∈ E.set k ⟨e.la, e.lq, A1, c1, A2, c2, A3, c3, L', M⟩, (∃ j, j ≠ k ∧ E[j]? = some e') ∨ e' = ⟨e.la, e.lq, A1, c1, A2, c2, A3, c3, L', M⟩ := by
    intro e' he'
    obtain ⟨j, hj, hjj⟩ := List.mem_iff_getElem.1 he'
    rw [List.getElem_set] at hjj
    by_cases c : k = j
    · rw [if_pos c] at hjj; exact .inr hjj.symm
    · rw [if_neg c] at hjj
      refine .inl ⟨j, fun hh => c hh.symm, ?_⟩
      rw [List.length_set] at hj
      rw [List.getElem?_eq_getElem hj, hjj]
  have hidx : ∀ (j : Nat) e', (E.set k ⟨e.la, e.lq, A1, c1, A2, c2, A3, c3, L', M⟩)[j]? = some e' → (j ≠ k ∧ E[j]? = some e') ∨ (j = k ∧ e' = ⟨e.la, e.lq, A1, c1, A2, c2, A3, c3, L', M⟩) := by
    intro j e' hj
    rw [List.getElem?_set] at hj
    by_cases c : k = j
    · rw [if_pos c, if_pos hkl] at hj
      exact .inr ⟨c.symm, (Option.some.inj hj).symm⟩
    · rw [if_neg c] at hj
      exact .inl ⟨fun hh => c hh.symm, hj⟩
  have hes : ∀ (j : Nat) e', j ≠ k → E[j]? = some e' → ∀ i, ES e' i → i < W.heap.size ∧ ¬ rowB e.la = some i ∧ i ≠ q := fun j e' hj hjj i hi => ⟨(h.bk.en e' (List.mem_of_getElem? hjj)).lt i hi, fun hh => h.pw k j e e' (fun hh => hj hh.symm) he hjj i hh hi, fun hh => h.rw_ e' (List.mem_of_getElem? hjj) i hi (by rw [hh]; exact hrq)⟩
  have hks : ∀ i, KS A (E.set k ⟨e.la, e.lq, A1, c1, A2, c2, A3, c3, L', M⟩) i → KS A E i ∨ W.heap.size ≤ i := by
    intro i hi
    rcases hi with hi | ⟨e', he', hi⟩
    · exact .inl (.inl hi)
    · rcases hmem e' he' with ⟨j, _, hj⟩ | rfl
      · exact .inl (.inr ⟨e', List.mem_of_getElem? hj, hi⟩)
      · rcases hnew i hi with h1 | h1
        · exact .inl (.inr ⟨e, hem, .inl h1⟩)
        · exact .inr h1
  have hsz : W.heap.size ≤ (set4 W1 q (k * 4) (.slice e.la L'.length e.lq) (.slice A1 M.length c1) (.slice A2 L'.length c2) (.slice A3 M.length c3)).heap.size := by rw [ho.size]; exact d.fr.size
  have hela : ∀ i, rowB e.la = some i → i ≠ q := fun i hi => hqe i (.inl hi)
  refine ⟨h.bs.keep fun i hi => hk i (h.bs.lt i hi) (hbf i hi).1 (hbf i hi).2, ?_, h.ge, ⟨?_, fun e' he' => ?_⟩, fun i hi => ?_, fun i hi hs => ?_, fun e' he' i hi hrow => ?_, fun i e' hki hi => ?_, fun i j e1 e2 hij h1 h2 p hp hes2 => ?_⟩
  · have hb1 : Below w.heap.size w W1 := d.fr.below h.bel (fun i hi => h.kge i (.inr ⟨e, hem, .inl hi⟩)) h.bel.size
    have hqge := h.kge q (.inl hrq)
    exact ⟨ho.os.trans hb1.os, ho.tape.trans hb1.tape, ho.output.trans hb1.output, by rw [ho.size]; exact hb1.size, fun i hi => (ho.block i (by omega)).trans (hb1.block i hi)⟩
  · have h1 : OwnE W1 w.heap.size A cap E := ownsRow_keep h.bk.row (fun p hp => d.fr.block p (by rw [hrq] at hp; obtain rfl := Option.some.inj hp; exact hqlt) (fun hh => by rw [hrq] at hp; obtain rfl := Option.some.inj hp; exact hela _ hh rfl))
    unfold OwnE at h1 ⊢
    rw [hq] at h1
    rw [List.length_set, hq]
    have h2 := ((((h1.stored (k * 4) (.slice e.la L'.length e.lq)).1.stored (k * 4 + 1) (.slice A1 M.length c1)).1.stored (k * 4 + 2) (.slice A2 L'.length c2)).1.stored (k * 4 + 3) (.slice A3 M.length c3)).1
    have h3 := ecells_set E k ⟨e.la, e.lq, A1, c1, A2, c2, A3, c3, L', M⟩ hkl
    dsimp only at h3
    rw [h3] at h2
    exact h2
  · rcases hmem e' he' with ⟨j, hj, hjj⟩ | rfl
    · exact (h.bk.en e' (List.mem_of_getElem? hjj)).keep (fun i hi => hk i (hes j e' hj hjj i hi).1 (hes j e' hj hjj i hi).2.1 (hes j e' hj hjj i hi).2.2) hsz
    · refine ⟨d.l.only ho hela, d.m.only ho (fun p hp => ?_), d.wl.only ho (fun p hp => ?_), d.wm.only ho (fun p hp => ?_), ?_⟩
      · rcases d.a1 p hp with h1 | h1
        · exact hela p h1
        · omega
      · have := d.a2 p hp; omega
      · have := d.a3 p hp; omega
      · have := (h.bk.en e hem).sm
        have := d.len
        exact ⟨by show L'.length ≤ 1024; omega, by show M.length ≤ 1088; omega⟩
  · rcases hks i hi with h1 | h1
    · exact h.kge i h1
    · exact Nat.le_trans h.bel.size h1
  · rcases hks i hs with h1 | h1
    · exact h.ap i hi h1
    · have := h.bs.lt i hi; omega
  · rcases hmem e' he' with ⟨j, hj, hjj⟩ | rfl
    · exact h.rw_ e' (List.mem_of_getElem? hjj) i hi hrow
    · rw [hrq] at hrow
      obtain rfl := Option.some.inj hrow
      rcases hnew _ hi with h1 | h1
      · exact hela _ h1 rfl
      · omega
  · rcases hidx i e' hi with ⟨hj, hjj⟩ | ⟨rfl, _⟩
    · exact ownsRow_keep (h.un i e' (by omega) hjj) (fun p hp => hk p (hes i e' hj hjj p (.inl hp)).1 (hes i e' hj hjj p (.inl hp)).2.1 (hes i e' hj hjj p (.inl hp)).2.2)
    · omega
  · rcases hidx i e1 h1 with ⟨hi1, g1⟩ | ⟨rfl, rfl⟩
    · rcases hidx j e2 h2 with ⟨hj1, g2⟩ | ⟨rfl, rfl⟩
      · exact h.pw i j e1 e2 hij g1 g2 p hp hes2
      · rcases hnew p hes2 with h3 | h3
        · exact h.pw i _ e1 e hij g1 he p hp (.inl h3)
        · have := (h.bk.en e1 (List.mem_of_getElem? g1)).lt p (.inl hp); omega
    · rcases hidx j e2 h2 with ⟨hj1, g2⟩ | ⟨rfl, rfl⟩
      · exact h.pw _ j e e2 hij he g2 p hp hes2
      · exact hij rfl
end
def UI (w W : World) (n m : Nat) (A : Option Addr) (cap : Nat) (E : List En) (k : Nat) : Prop := ∃ x0 r0 s, UQ w W n m x0 r0 s A cap E k
section
variable {w W : World} {n m : Nat} {A : Option Addr} {cap : Nat} {E : List En} {k : Nat}
theorem UI.start (h : BI w W n m) (k : Nat) : UI w W n m none 0 [] k := by
  obtain ⟨x0, r0, s, h1, h2, h3⟩ := h
  exact ⟨x0, r0, s, ⟨h1, h2, h3, ⟨World.ownsRow_nil _ _ _ _, fun e he => (by cases he)⟩, fun i hi => (by rcases hi with hi | ⟨e, he, _⟩; cases hi; cases he), fun i _ hs => (by rcases hs with hi | ⟨e, he, _⟩; cases hi; cases he), fun e he => (by cases he), fun i e _ he => (by simp at he), fun i j e e' _ he => (by simp at he)⟩⟩
theorem UI.below_ (h : UI w W n m A cap E k) : Below w.heap.size w W := by
  obtain ⟨_, _, _, h⟩ := h
  exact h.bel
theorem UI.grow (h : UI w W n m A cap E k) {W' : World} (hb : Below W.heap.size W W') : UI w W' n m A cap E k := by
  obtain ⟨x0, r0, s, h⟩ := h
  exact ⟨x0, r0, s, h.grow hb⟩
theorem UI.kslt (h : UI w W n m A cap E k) : ∀ i, KS A E i → i < W.heap.size := by
  obtain ⟨_, _, _, h⟩ := h
  exact h.bk.lt
theorem UI.at_ (h : UI w W n m A cap E k) (j : Nat) : UI w W n m A cap E (max k (j + E.length)) := by
  obtain ⟨x0, r0, s, h⟩ := h
  exact ⟨x0, r0, s, h.bs, h.bel, h.ge, h.bk, h.kge, h.ap, h.rw_, fun i e hi he => h.un i e (by omega) he, h.pw⟩
theorem UI.bk (h : UI w W n m A cap E k) : BkR w.heap.size W A cap E := by
  obtain ⟨_, _, _, h⟩ := h
  exact h.bk
theorem UI.step (h : UI w W n m A cap E k) (o : Mo) (hn : n ≤ 2999999999999) (ho : o.Wf) :
    Calls Try.prog 22 #[.pointer (some ⟨m, 0, none⟩), .agg #[.int .i64 o.k, .int .i64 o.a, .int .i64 o.n, .int .i64 o.m, .string o.s]] W fun e w' => e = .returned (.bool true) ∧ UI w w' (n + 1) m A cap E k := by
  obtain ⟨x0, r0, s, h⟩ := h
  refine (bench_step w.heap.size n m x0 r0 s o W h.bs h.bel.size hn ho).mono ?_
  rintro e w' ⟨rfl, x', r', s', k1, k2, k3⟩
  exact ⟨rfl, x', r', s', h.step k1 k2 k3⟩
theorem UI.fly (h : UI w W n m A cap E k) (hn : n ≤ 2999999999999) (p : Nat) (hp : p < 2) : ∃ (v v' : Value) (L : List Lt), W.cell? ⟨m, p, none⟩ = some v ∧ W.cell? ⟨m, 2 + p, none⟩ = some v' ∧ L.length ≤ 1024 ∧
    (∀ W', Below W.heap.size W W' → Calls Try.prog 25 #[v] W' (FRes L W')) ∧ (∀ W', Below W.heap.size W W' → Calls Try.prog 27 #[v'] W' (FRes L W')) := by
  obtain ⟨x0, r0, s, h⟩ := h
  exact h.bs.fly hn p hp
theorem UI.add {W0 : World} (h0 : UI w W0 n m A cap E k) (hb : Below W0.heap.size W0 W) {W' : World} {A' : Option Addr} {cap' : Nat} {e : En} (hr : OwnE W' w.heap.size A' cap' (E ++ [e])) (hg : W.grownBy W' (rowB A)) (hat : rowB A' = rowB A ∨ rowB A' = some W.heap.size)
    (he : EnR W e) (ho : k ≤ E.length → OwnL W w.heap.size e.la e.lq e.L) (hn : ∀ q, ES e q → W0.heap.size ≤ q) : UI w W' n m A' cap' (E ++ [e]) k ∧ ∀ i, KS A' (E ++ [e]) i → KS A E i ∨ W0.heap.size ≤ i := by
  obtain ⟨x0, r0, s, h⟩ := h0
  refine ⟨⟨x0, r0, s, (h.grow hb).add hr hg hat he ho fun q hq => ⟨Nat.le_trans h.bel.size (hn q hq), fun hh => ?_, fun hh => ?_⟩⟩, fun i hi => ?_⟩
  · have := h.bs.lt q hh; have := hn q hq; omega
  · have := h.bk.lt q hh; have := hn q hq; omega
  · rcases hi with hi | ⟨e', he', hi⟩
    · rcases hat with h1 | h1
      · exact .inl (.inl (h1 ▸ hi))
      · rw [hi] at h1; obtain rfl := Option.some.inj h1; exact .inr hb.size
    · rcases List.mem_append.1 he' with h1 | h1
      · exact .inl (.inr ⟨e', h1, hi⟩)
      · rw [List.mem_singleton] at h1; subst h1; exact .inr (hn i hi)
theorem UI.still (h : UI w W n m A cap E k) (hE : E.length ≤ 4611686018427387904) : Calls Try.prog 48 #[.slice A E.length cap] W fun e w' => e = .returned (.bool true) ∧ UI w w' n m A cap E k := by
  refine (still_calls _ A cap E W h.bk hE).mono ?_
  rintro e w' ⟨rfl, n', rfl⟩
  exact ⟨rfl, h.grow (below_drewN _ _)⟩
theorem UI.fly7 (h : UI w W n m A cap E k) (hn : n ≤ 2999999999999) (a : Int) : Calls Try.prog 22 #[.pointer (some ⟨m, 0, none⟩), .agg #[.int .i64 7, .int .i64 a, .int .i64 0, .int .i64 0, .string ⟨#[]⟩]] W fun e w' => e = .returned (.bool true) ∧ UI w w' (n + 1) m A cap E k :=
  h.step ⟨7, a, 0, 0, ⟨#[]⟩⟩ hn ⟨by show (-9223372036854775808 : Int) ≤ 0; decide, by show (0 : Int) ≤ 9223372036854775807; decide⟩
theorem UI.one_ (h : UI w W n m A cap E k) (hn : n ≤ 2999999999999) : Calls Try.prog 22 #[.pointer (some ⟨m, 0, none⟩), .agg #[.int .i64 1, .int .i64 0, .int .i64 0, .int .i64 1, .string ⟨#[]⟩]] W fun e w' => e = .returned (.bool true) ∧ UI w w' (n + 1) m A cap E k :=
  h.step ⟨1, 0, 0, 1, ⟨#[]⟩⟩ hn ⟨by decide, by decide⟩
end

end Go.Proofs.Ytadbcekglcmccaa.Q
