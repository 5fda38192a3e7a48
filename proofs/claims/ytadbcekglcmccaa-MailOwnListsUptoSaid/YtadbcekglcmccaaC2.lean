/- The lists that are held, the bench beside them; contract of granarylaw13.still. Condition: the lists are read. -/
import Derived.Test.YtadbcekglcmccaaProg
import Derived.Below
import Derived.Deep.Draws
import Derived.Deep.AppendLies
import Derived.Maps.AppendAt
import Derived.OwnWalk
import Derived.Laws.BytesArg
import Derived.Laws.MakeOwn
import Derived.Laws.OwnMore
import Derived.Deep.OwnRows
import Derived.Tactics
import Derived.Lib.ConvBytes
import Derived.Laws.Slices
import Derived.WalkKit
import Derived.KernelRfl
import Derived.RowKit3
import Derived.Deep.LoopGhost
import Derived.Deep.QuietTactic
import Derived.BigQuiet
import Derived.WideLaws
import Derived.Deep.DeepCutAuto
import Derived.Deep.CutBlock
import Derived.Deep.RegionHeld3
import Derived.Laws.Rows
import Derived.Lib.AppendStr
import Derived.ArgAppend
import Derived.Laws.IdiomCopy
import Derived.OrdersHeld
import Derived.Laws.BitsLemmas
import Derived.RowKit
import Derived.Test.YtadbcekglcmccaaWWords
import Derived.Test.YtadbcekglcmccaaWLast
import Derived.Test.YtadbcekglcmccaaWTab
import Derived.Test.YtadbcekglcmccaaWFour
import Derived.Test.YtadbcekglcmccaaWQPut
import Derived.Test.YtadbcekglcmccaaWApart
import Derived.Test.YtadbcekglcmccaaWArr
import Derived.Test.YtadbcekglcmccaaWZeros
import Derived.Test.YtadbcekglcmccaaWFoot
import Derived.Test.YtadbcekglcmccaaWKept
import Derived.Test.YtadbcekglcmccaaWShare
import Derived.Test.YtadbcekglcmccaaWN
import Derived.Test.YtadbcekglcmccaaWFootNe
import Derived.Test.YtadbcekglcmccaaWAt
import Derived.Test.YtadbcekglcmccaaWEqStruct
import Derived.Test.YtadbcekglcmccaaWRepsOne
import Derived.Test.YtadbcekglcmccaaWInv
import Derived.Test.YtadbcekglcmccaaWInvWords
import Derived.Test.YtadbcekglcmccaaWGuard
import Derived.Test.YtadbcekglcmccaaWNEv
import Derived.Test.YtadbcekglcmccaaWMore
import Derived.Test.YtadbcekglcmccaaC1
set_option linter.unusedVariables false
set_option linter.unusedSimpArgs false
namespace Go.Proofs.Ytadbcekglcmccaa.Q
open Go.RowKit Go.Proofs.YtadbcekglcmccaaW.PrintWords Go.Proofs.YtadbcekglcmccaaW.PrintLast Go.Proofs.YtadbcekglcmccaaW.PrintMore
open Go.FM Go.Plan

/-! ### The lists that are held -/
structure En where
  la : Option Addr
  lq : Nat
  ma : Option Addr
  mq : Nat
  wa : Option Addr
  wq : Nat
  va : Option Addr
  vq : Nat
  L : List Lt
  M : List Lt
def ec (e : En) : List Value := [.slice e.la e.L.length e.lq, .slice e.ma e.M.length e.mq, .slice e.wa e.L.length e.wq, .slice e.va e.M.length e.vq]
theorem ec_length (e : En) : (ec e).length = 4 := rfl
def ecells (E : List En) : List Value := E.flatMap ec
theorem ecells_app (E F : List En) : ecells (E ++ F) = ecells E ++ ecells F := List.flatMap_append
theorem ec_one (e : En) : ∀ u ∈ ec e, u.oneCell' = true := by
  intro u hu
  simp [ec] at hu
  rcases hu with rfl | rfl | rfl | rfl <;> rfl
theorem info61 : (Try.prog.info? 61).map (fun i => (i.zero, i.size, i.bytes)) = some (some (.agg #[.slice none 0 0, .slice none 0 0, .slice none 0 0, .slice none 0 0]), 4, 96) := by kernel_rfl
theorem ecells_set (E : List En) (i : Nat) (y : En) (hi : i < E.length) : ((((ecells E).set (i * 4) (.slice y.la y.L.length y.lq)).set (i * 4 + 1) (.slice y.ma y.M.length y.mq)).set (i * 4 + 2) (.slice y.wa y.L.length y.wq)).set (i * 4 + 3) (.slice y.va y.M.length y.vq) = ecells (E.set i y) := by
  induction E generalizing i with
  | nil => simp at hi
  | cons x l ih =>
    cases i with
    | zero => rfl
    | succ i =>
      have h := ih i (by simpa using hi)
      rw [List.set_cons_succ]
      show ((((ec x ++ ecells l).set ((i + 1) * 4) _).set ((i + 1) * 4 + 1) _).set ((i + 1) * 4 + 2) _).set ((i + 1) * 4 + 3) _ = ec x ++ ecells (l.set i y)
      rw [← h]
      rw [List.set_append_right _ _ (by rw [ec_length]; omega), List.set_append_right _ _ (by rw [ec_length]; omega), List.set_append_right _ _ (by rw [ec_length]; omega), List.set_append_right _ _ (by rw [ec_length]; omega)]
      rw [ec_length, show (i + 1) * 4 - 4 = i * 4 by omega, show (i + 1) * 4 + 1 - 4 = i * 4 + 1 by omega, show (i + 1) * 4 + 2 - 4 = i * 4 + 2 by omega, show (i + 1) * 4 + 3 - 4 = i * 4 + 3 by omega]
structure EnR (W : World) (e : En) : Prop where
  l : RdL W e.la e.L
  m : RdL W e.ma e.M
  w : RdL W e.wa e.L
  v : RdL W e.va e.M
  sm : e.L.length ≤ 1024 ∧ e.M.length ≤ 1088
def ES (e : En) (i : Nat) : Prop := rowB e.la = some i ∨ rowB e.ma = some i ∨ rowB e.wa = some i ∨ rowB e.va = some i
theorem EnR.keep {W W' : World} {e : En} (h : EnR W e) (k : ∀ i, ES e i → W'.heap[i]? = W.heap[i]?) (hs : W.heap.size ≤ W'.heap.size) : EnR W' e :=
  ⟨h.l.keep (fun q hq => k q (.inl hq)) hs, h.m.keep (fun q hq => k q (.inr (.inl hq))) hs, h.w.keep (fun q hq => k q (.inr (.inr (.inl hq)))) hs, h.v.keep (fun q hq => k q (.inr (.inr (.inr hq)))) hs, h.sm⟩
theorem EnR.lt {W : World} {e : En} (h : EnR W e) : ∀ i, ES e i → i < W.heap.size := by
  intro i hi
  rcases hi with hi | hi | hi | hi
  · exact h.l.lt i hi
  · exact h.m.lt i hi
  · exact h.w.lt i hi
  · exact h.v.lt i hi
abbrev OwnE (W : World) (B : Nat) (A : Option Addr) (cap : Nat) (E : List En) : Prop := W.ownsRow B 61 4 (.slice A E.length cap) E.length (ecells E)
structure BkR (B : Nat) (W : World) (A : Option Addr) (cap : Nat) (E : List En) : Prop where
  row : OwnE W B A cap E
  en : ∀ e ∈ E, EnR W e
def KS (A : Option Addr) (E : List En) (i : Nat) : Prop := rowB A = some i ∨ ∃ e ∈ E, ES e i
theorem BkR.lt {B : Nat} {W : World} {A : Option Addr} {cap : Nat} {E : List En} (h : BkR B W A cap E) : ∀ i, KS A E i → i < W.heap.size := by
  intro i hi
  rcases hi with hi | ⟨e, he, hi⟩
  · exact (ownsRow_lt h.row i hi).2
  · exact (h.en e he).lt i hi
theorem BkR.keep {B : Nat} {W W' : World} {A : Option Addr} {cap : Nat} {E : List En} (h : BkR B W A cap E) (k : ∀ i, KS A E i → W'.heap[i]? = W.heap[i]?) (hs : W.heap.size ≤ W'.heap.size) : BkR B W' A cap E :=
  ⟨ownsRow_keep h.row fun q hq => k q (.inl hq), fun e he => (h.en e he).keep (fun i hi => k i (.inr ⟨e, he, hi⟩)) hs⟩
theorem BkR.drewN {B : Nat} {W : World} {A : Option Addr} {cap : Nat} {E : List En} (h : BkR B W A cap E) (n : Nat) : BkR B (W.drewN n) A cap E := h.keep (fun i hi => rfl) (Nat.le_refl _)
theorem BkR.at_ {B : Nat} {W : World} {A : Option Addr} {cap : Nat} {E : List En} (h : BkR B W A cap E) (i : Nat) (e : En) (hi : E[i]? = some e) : ∃ g, A = some ⟨g, 0, none⟩ ∧
    W.cell? ⟨g, i * 4, none⟩ = some (.slice e.la e.L.length e.lq) ∧ W.cell? ⟨g, i * 4 + 1, none⟩ = some (.slice e.ma e.M.length e.mq) ∧ W.cell? ⟨g, i * 4 + 2, none⟩ = some (.slice e.wa e.L.length e.wq) ∧ W.cell? ⟨g, i * 4 + 3, none⟩ = some (.slice e.va e.M.length e.vq) := by
  obtain ⟨g, rfl, hc⟩ := own_at (c := ec) (by decide) ec_length h.row i e hi
  exact ⟨g, rfl, hc 0 _ rfl, hc 1 _ rfl, hc 2 _ rfl, hc 3 _ rfl⟩

set_option maxHeartbeats 4000000 in
set_option maxRecDepth 100000 in
theorem still_calls (B : Nat) (A : Option Addr) (cap : Nat) (E : List En) (w : World) (h : BkR B w A cap E) (hE : E.length ≤ 4611686018427387904) :
    Calls Try.prog 48 #[.slice A E.length cap] w fun e w' => e = .returned (.bool true) ∧ ∃ n, w' = w.drewN n := by
  have H := Aside0.mk h
  have HL := Aside0.mk hE
  clear h hE
  go_enter Try.func48, Try.ntmps48
  go_wp2_with fail
  go_loopg [3] E.length (fun kq v3 w' => ∃ (i : Nat), v3 = .int .i64 (i : Int) ∧ Aside0 (i + kq = E.length) ∧ Aside0 (∃ n, w' = w.drewN n))
  case atStart => exact ⟨0, rfl, ⟨by omega⟩, ⟨0, rfl⟩⟩
  case round =>
    obtain ⟨i, rfl, HK, HB⟩ := hrel
    by_cases ci : (i : Int) < (E.length : Int)
    · cases gk with
      | zero => exact absurd HK.out (by omega)
      | succ k1 =>
      have cb : decide ((i : Int) < (E.length : Int)) = true := decide_eq_true ci
      have cb2 : decide (i < E.length) = true := decide_eq_true (by omega)
      have p2 : (0 ≤ (i : Int)) = True := eq_true (by omega)
      have p3 : ((i : Int) < (E.length : Int)) = True := eq_true ci
      have hwi : wrap64 ((i : Int) + 1) = (i : Int) + 1 := Go.IntWalk.wrap64_in _ (by have := HL.out; omega)
      have HK' := Aside0.mk (show i + 1 + k1 = E.length by have := HK.out; omega)
      obtain ⟨e, he⟩ : ∃ e, E[i]? = some e := ⟨_, List.getElem?_eq_getElem (show i < E.length by omega)⟩
      have HI := Aside0.mk (show BkR B wr A cap E from by obtain ⟨n, hn⟩ := HB.out; rw [hn]; exact H.out.drewN n)
      have HE := Aside0.mk (HI.out.en e (List.mem_of_getElem? he))
      obtain ⟨g, rfl, x0, x1, x2, x3⟩ := HI.out.at_ i e he
      have HS1 := Aside0.mk (fun n => same_quiet e.la e.wa e.lq e.wq e.L (wr.drewN n) (HE.out.l.keep (fun q hq => rfl) (Nat.le_refl _)) (HE.out.w.keep (fun q hq => rfl) (Nat.le_refl _)) (by have := HE.out.sm; omega))
      have HS2 := Aside0.mk (fun n => same_quiet e.ma e.va e.mq e.vq e.M (wr.drewN n) (HE.out.m.keep (fun q hq => rfl) (Nat.le_refl _)) (HE.out.v.keep (fun q hq => rfl) (Nat.le_refl _)) (by have := HE.out.sm; omega))
      clear ci he HK
      go_wp2_with fail
      go_quiet (first
        | (go_at_call 26; with_reducible exact Calls.quiet_of (HS1.out _))
        | (go_at_call 26; with_reducible exact Calls.quiet_of (HS2.out _)))
      have HB3 := Aside0.mk (show ∃ n, wr.drewN nq = w.drewN n from by obtain ⟨n, hn⟩ := HB.out; exact ⟨n + nq, by rw [hn, World.drewN_drewN]⟩)
      go_wp2_with fail
      go_roundg k1
      case measure => have := HK'.out; omega
      case rel => exact ⟨i + 1, congrArg (Value.int .i64) (by omega), HK', HB3⟩
    · have cb : decide ((i : Int) < (E.length : Int)) = false := decide_eq_false ci
      have cb2 : decide (i < E.length) = false := decide_eq_false (by omega)
      clear ci
      go_wp2_with fail
      go_ret
      exact ⟨rfl, HB.out⟩

/-! ### What Flying answers at a place -/
theorem nil_fly (w : World) : Calls Try.prog 25 #[.pointer none] w (FRes [] w) := (flying_nil w).mono fun e w' ⟨he, hw⟩ => by subst hw; exact ⟨none, 0, he, Below.refl _ _, World.ownsRow_nil _ _ _ _⟩
theorem nil_rfly (w : World) : Calls Try.prog 27 #[.pointer none] w (FRes [] w) := (rflying_nil w).mono fun e w' ⟨he, hw⟩ => by subst hw; exact ⟨none, 0, he, Below.refl _ _, World.ownsRow_nil _ _ _ _⟩
theorem PW.fly {B n : Nat} {W : World} {x : Pm} {r : Rm} (h : PW B W x r) (hj : J n x r) (hn : n ≤ 2999999999999) : x.L.length ≤ 1024 ∧ (∀ W', Below W.heap.size W W' → Calls Try.prog 25 #[.pointer (some ⟨x.g, 0, none⟩)] W' (FRes x.L W')) ∧ (∀ W', Below W.heap.size W W' → Calls Try.prog 27 #[.pointer (some ⟨r.m, 0, none⟩)] W' (FRes x.L W')) := by
  refine ⟨hj.good.len4, fun W' hb => flying_calls B x W' (IsM.below h.xin hb) hj.good.len4, fun W' hb => ?_⟩
  have := rflying_calls B r W' (h.rin.below hb) hj.len (by have := hj.le; omega)
  rw [← hj.left] at this
  exact this
theorem BS.fly {B n m : Nat} {W : World} {x0 : Pm} {r0 : Rm} {s : Option (Pm × Rm)} (h : BS B n W m x0 r0 s) (hn : n ≤ 2999999999999) (p : Nat) (hp : p < 2) : ∃ (v v' : Value) (L : List Lt), W.cell? ⟨m, p, none⟩ = some v ∧ W.cell? ⟨m, 2 + p, none⟩ = some v' ∧ L.length ≤ 1024 ∧
    (∀ W', Below W.heap.size W W' → Calls Try.prog 25 #[v] W' (FRes L W')) ∧ (∀ W', Below W.heap.size W W' → Calls Try.prog 27 #[v'] W' (FRes L W')) := by
  rcases (show p = 0 ∨ p = 1 by omega) with rfl | rfl
  · obtain ⟨h1, h2, h3⟩ := h.p0.fly h.j0 hn
    exact ⟨_, _, x0.L, blk_cell h.blk 0, blk_cell h.blk 2, h1, h2, h3⟩
  · cases s with
    | none => exact ⟨_, _, [], blk_cell h.blk 1, blk_cell h.blk 3, by simp, fun W' _ => nil_fly W', fun W' _ => nil_rfly W'⟩
    | some pr =>
      obtain ⟨x, r⟩ := pr
      obtain ⟨p1, j1⟩ := h.p1 x r rfl
      obtain ⟨h1, h2, h3⟩ := p1.fly j1 hn
      exact ⟨_, _, x.L, blk_cell h.blk 1, blk_cell h.blk 3, h1, h2, h3⟩

/-! ### The bench and the lists that are held, side by side -/
structure UQ (w W : World) (n m : Nat) (x0 : Pm) (r0 : Rm) (s : Option (Pm × Rm)) (A : Option Addr) (cap : Nat) (E : List En) (k : Nat) : Prop where
  bs : BS w.heap.size n W m x0 r0 s
  bel : Below w.heap.size w W
  ge : ∀ i, BF m x0 r0 s i → w.heap.size ≤ i
  bk : BkR w.heap.size W A cap E
  kge : ∀ i, KS A E i → w.heap.size ≤ i
  ap : ∀ i, BF m x0 r0 s i → ¬ KS A E i
  rw_ : ∀ e ∈ E, ∀ i, ES e i → rowB A ≠ some i
  un : ∀ (i : Nat) e, k ≤ i → E[i]? = some e → OwnL W w.heap.size e.la e.lq e.L
  pw : ∀ (i j : Nat) e e', i ≠ j → E[i]? = some e → E[j]? = some e' → ∀ q, rowB e.la = some q → ¬ ES e' q
section
variable {w W : World} {n m : Nat} {x0 : Pm} {r0 : Rm} {s : Option (Pm × Rm)} {A : Option Addr} {cap : Nat} {E : List En} {k : Nat}
theorem UQ.grow (h : UQ w W n m x0 r0 s A cap E k) {W' : World} (hb : Below W.heap.size W W') : UQ w W' n m x0 r0 s A cap E k :=
  ⟨h.bs.below hb, below_step h.bel hb, h.ge, h.bk.keep (fun i hi => hb.block i (h.bk.lt i hi)) hb.size, h.kge, h.ap, h.rw_, fun i e hk he => ownsRow_keep (h.un i e hk he) (fun q hq => hb.block q (ownsRow_lt (h.un i e hk he) q hq).2), h.pw⟩
theorem UQ.step (h : UQ w W n m x0 r0 s A cap E k) {W' : World} {x0' : Pm} {r0' : Rm} {s' : Option (Pm × Rm)} (h1 : BS w.heap.size (n + 1) W' m x0' r0' s') (h2 : But W W' (BF m x0 r0 s)) (h3 : ∀ i, BF m x0' r0' s' i → BF m x0 r0 s i ∨ W.heap.size ≤ i) : UQ w W' (n + 1) m x0' r0' s' A cap E k := by
  have hk : ∀ i, KS A E i → W'.heap[i]? = W.heap[i]? := fun i hi => h2.block i (h.bk.lt i hi) (fun hb => h.ap i hb hi)
  refine ⟨h1, h2.below h.bel h.ge h.bel.size, fun i hi => ?_, h.bk.keep hk h2.size, h.kge, fun i hi hks => ?_, h.rw_, fun i e hki he => ownsRow_keep (h.un i e hki he) (fun q hq => hk q (.inr ⟨e, List.mem_of_getElem? he, .inl hq⟩)), h.pw⟩
  · rcases h3 i hi with h4 | h4
    · exact h.ge i h4
    · exact Nat.le_trans h.bel.size h4
  · rcases h3 i hi with h4 | h4
    · exact h.ap i h4 hks
    · have := h.bk.lt i hks
      omega
theorem UQ.add (h : UQ w W n m x0 r0 s A cap E k) {W' : World} {A' : Option Addr} {cap' : Nat} {e : En} (hr : OwnE W' w.heap.size A' cap' (E ++ [e])) (hg : W.grownBy W' (rowB A)) (hat : rowB A' = rowB A ∨ rowB A' = some W.heap.size)
    (he : EnR W e) (ho : k ≤ E.length → OwnL W w.heap.size e.la e.lq e.L) (hn : ∀ q, ES e q → w.heap.size ≤ q ∧ ¬ BF m x0 r0 s q ∧ ¬ KS A E q) : UQ w W' n m x0 r0 s A' cap' (E ++ [e]) k := by
  have hk : ∀ i, i < W.heap.size → ¬ rowB A = some i → W'.heap[i]? = W.heap[i]? := fun i hi hne => hg.block i hi (fun hh => hne hh.symm)
  have hbf : ∀ i, BF m x0 r0 s i → W'.heap[i]? = W.heap[i]? := fun i hi => hk i (h.bs.lt i hi) (fun hh => h.ap i hi (.inl hh))
  have hes : ∀ e' ∈ E, ∀ i, ES e' i → W'.heap[i]? = W.heap[i]? := fun e' he' i hi => hk i ((h.bk.en e' he').lt i hi) (h.rw_ e' he' i hi)
  have hen : ∀ i, ES e i → W'.heap[i]? = W.heap[i]? := fun i hi => hk i (he.lt i hi) (fun hh => (hn i hi).2.2 (.inl hh))
  have hks : ∀ i, KS A' (E ++ [e]) i → KS A E i ∨ ES e i ∨ i = W.heap.size := by
    intro i hi
    rcases hi with hi | ⟨e', he', hi⟩
    · rcases hat with h1 | h1
      · exact .inl (.inl (h1 ▸ hi))
      · rw [hi] at h1; exact .inr (.inr (Option.some.inj h1))
    · rcases List.mem_append.1 he' with h1 | h1
      · exact .inl (.inr ⟨e', h1, hi⟩)
      · rw [List.mem_singleton] at h1; subst h1; exact .inr (.inl hi)
  have hlt : ∀ (i : Nat) e', (E ++ [e])[i]? = some e' → (i < E.length ∧ E[i]? = some e') ∨ (i = E.length ∧ e' = e) := by
    intro i e' hi
    rw [List.getElem?_append] at hi
    by_cases c : i < E.length
    · rw [if_pos c] at hi; exact .inl ⟨c, hi⟩
    · rw [if_neg c] at hi
      have hj : i = E.length := by
        rcases Nat.lt_or_ge (i - E.length) 1 with h1 | h1
        · omega
        · rw [List.getElem?_eq_none (by simpa using h1)] at hi; cases hi
      subst hj
      rw [Nat.sub_self] at hi
      exact .inr ⟨rfl, (Option.some.inj hi).symm⟩
  refine ⟨h.bs.keep hbf, h.bel.grown hg h.bel.size (fun q hq => h.kge q (.inl hq)), h.ge, ⟨hr, fun e' he' => ?_⟩, fun i hi => ?_, fun i hi hs => ?_, fun e' he' i hi hrow => ?_, fun i e' hki hi => ?_, fun i j e1 e2 hij h1 h2 q hq hes2 => ?_⟩
  · rcases List.mem_append.1 he' with h1 | h1
    · exact (h.bk.en e' h1).keep (hes e' h1) hg.size
    · rw [List.mem_singleton] at h1; subst h1; exact he.keep hen hg.size
  · rcases hks i hi with h1 | h1 | h1
    · exact h.kge i h1
    · exact (hn i h1).1
    · have := h.bel.size; omega
  · rcases hks i hs with h1 | h1 | h1
    · exact h.ap i hi h1
    · exact (hn i h1).2.1 hi
    · have := h.bs.lt i hi; omega
  · rcases hat with h1 | h1
    · rw [h1] at hrow
      rcases List.mem_append.1 he' with h2 | h2
      · exact h.rw_ e' h2 i hi hrow
      · rw [List.mem_singleton] at h2; subst h2; exact (hn i hi).2.2 (.inl hrow)
    · rw [h1] at hrow
      have hh := Option.some.inj hrow
      rcases List.mem_append.1 he' with h2 | h2
      · have := (h.bk.en e' h2).lt i hi; omega
      · rw [List.mem_singleton] at h2; subst h2; have := he.lt i hi; omega
  · rcases hlt i e' hi with ⟨c, h1⟩ | ⟨rfl, rfl⟩
    · exact ownsRow_keep (h.un i e' hki h1) (fun q hq => hes e' (List.mem_of_getElem? h1) q (.inl hq))
    · exact ownsRow_keep (ho hki) (fun q hq => hen q (.inl hq))
  · rcases hlt i e1 h1 with ⟨c1, g1⟩ | ⟨rfl, rfl⟩
    · rcases hlt j e2 h2 with ⟨c2, g2⟩ | ⟨rfl, rfl⟩
      · exact h.pw i j e1 e2 hij g1 g2 q hq hes2
      · exact (hn q hes2).2.2 (.inr ⟨e1, List.mem_of_getElem? g1, .inl hq⟩)
    · rcases hlt j e2 h2 with ⟨c2, g2⟩ | ⟨rfl, rfl⟩
      · exact (hn q (.inl hq)).2.2 (.inr ⟨e2, List.mem_of_getElem? g2, hes2⟩)
      · exact hij rfl
end

end Go.Proofs.Ytadbcekglcmccaa.Q
