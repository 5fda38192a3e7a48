/- Contracts of the document's at, Flying and Count. Condition: block m is a mail of the document. -/
import Derived.Test.YtadbcekglcmccaaProg
import Derived.Below
import Derived.Deep.Draws
import Derived.Deep.AppendLies
import Derived.Maps.AppendAt
import Derived.OwnWalk
import Derived.Laws.BytesArg
import Derived.Laws.MakeOwn
import Derived.Laws.OwnMore
import Derived.Deep.OwnRows
import Derived.Tactics
import Derived.Lib.ConvBytes
import Derived.Laws.Slices
import Derived.WalkKit
import Derived.KernelRfl
import Derived.RowKit3
import Derived.Deep.LoopGhost
import Derived.Deep.QuietTactic
import Derived.BigQuiet
import Derived.WideLaws
import Derived.Deep.DeepCutAuto
import Derived.Deep.CutBlock
import Derived.Deep.RegionHeld3
import Derived.Laws.Rows
import Derived.Lib.AppendStr
import Derived.ArgAppend
import Derived.Laws.IdiomCopy
import Derived.OrdersHeld
import Derived.Laws.BitsLemmas
import Derived.RowKit
import Derived.Test.YtadbcekglcmccaaWWords
import Derived.Test.YtadbcekglcmccaaWLast
import Derived.Test.YtadbcekglcmccaaWTab
import Derived.Test.YtadbcekglcmccaaWFour
import Derived.Test.YtadbcekglcmccaaWQPut
import Derived.Test.YtadbcekglcmccaaWApart
import Derived.Test.YtadbcekglcmccaaWArr
import Derived.Test.YtadbcekglcmccaaWZeros
import Derived.Test.YtadbcekglcmccaaWFoot
import Derived.Test.YtadbcekglcmccaaWKept
import Derived.Test.YtadbcekglcmccaaWShare
import Derived.Test.YtadbcekglcmccaaWN
import Derived.Test.YtadbcekglcmccaaWFootNe
import Derived.Test.YtadbcekglcmccaaWAt
import Derived.Test.YtadbcekglcmccaaWEqStruct
import Derived.Test.YtadbcekglcmccaaWRepsOne
import Derived.Test.YtadbcekglcmccaaWInv
import Derived.Test.YtadbcekglcmccaaWInvWords
import Derived.Test.YtadbcekglcmccaaWGuard
import Derived.Test.YtadbcekglcmccaaWNEv
import Derived.Test.YtadbcekglcmccaaWMore
import Derived.Test.YtadbcekglcmccaaB4
set_option linter.unusedVariables false
set_option linter.unusedSimpArgs false
namespace Go.Proofs.Ytadbcekglcmccaa.Q
open Go.RowKit Go.Proofs.YtadbcekglcmccaaW.PrintWords Go.Proofs.YtadbcekglcmccaaW.PrintLast Go.Proofs.YtadbcekglcmccaaW.PrintMore
open Go.FM Go.Plan

/-! ### The place of the n-th that is not gone -/
def atN : List Bool → Nat → Option Nat
  | [], _ => none
  | true :: bs, n => (atN bs n).map (· + 1)
  | false :: _, 0 => some 0
  | false :: bs, n + 1 => (atN bs n).map (· + 1)
theorem atN_none : ∀ (Ls : List Lt) (Bs : List Bool) (n : Nat), Bs.length = Ls.length → atN Bs n = none → (leftL Ls Bs)[n]? = none := by
  intro Ls
  induction Ls with
  | nil => intro Bs n _ _; simp [leftL]
  | cons x l ih =>
    intro Bs n h h0
    cases Bs with
    | nil => simp [leftL]
    | cons c bs =>
      have h' : bs.length = l.length := by simpa using h
      cases c with
      | true =>
        simp only [atN, Option.map_eq_none_iff] at h0
        simp only [leftL, if_true]
        exact ih bs n h' h0
      | false =>
        cases n with
        | zero => simp [atN] at h0
        | succ n =>
          simp only [atN, Option.map_eq_none_iff] at h0
          simp only [leftL]
          rw [if_neg (by decide), List.getElem?_cons_succ]
          exact ih bs n h' h0
theorem atN_some : ∀ (Ls : List Lt) (Bs : List Bool) (n j : Nat), Bs.length = Ls.length → atN Bs n = some j → ∃ y, Ls[j]? = some y ∧ (leftL Ls Bs)[n]? = some y ∧ Bs[j]? = some false ∧ leftL Ls (Bs.set j true) = (leftL Ls Bs).eraseIdx n := by
  intro Ls
  induction Ls with
  | nil =>
    intro Bs n j h h0
    obtain rfl := List.eq_nil_of_length_eq_zero h
    simp [atN] at h0
  | cons x l ih =>
    intro Bs n j h h0
    cases Bs with
    | nil => simp at h
    | cons c bs =>
      have h' : bs.length = l.length := by simpa using h
      cases c with
      | true =>
        simp only [atN, Option.map_eq_some_iff] at h0
        obtain ⟨i, hi, rfl⟩ := h0
        obtain ⟨y, h1, h2, h3, h4⟩ := ih bs n i h' hi
        exact ⟨y, by simpa using h1, by simp only [leftL, if_true]; exact h2, by simpa using h3, by simp only [List.set_cons_succ, leftL, if_true]; exact h4⟩
      | false =>
        cases n with
        | zero =>
          simp only [atN, Option.some.injEq] at h0
          subst h0
          exact ⟨x, rfl, by simp [leftL], rfl, by simp [leftL]⟩
        | succ n =>
          simp only [atN, Option.map_eq_some_iff] at h0
          obtain ⟨i, hi, rfl⟩ := h0
          obtain ⟨y, h1, h2, h3, h4⟩ := ih bs n i h' hi
          refine ⟨y, by simpa using h1, ?_, by simpa using h3, ?_⟩
          · simp only [leftL]
            rw [if_neg (by decide), List.getElem?_cons_succ]
            exact h2
          · simp only [List.set_cons_succ, leftL]
            rw [if_neg (by decide), if_neg (by decide), List.eraseIdx_cons_succ, h4]
theorem atN_drop_true {Bs : List Bool} {k m : Nat} (h : Bs[k]? = some true) : (atN (Bs.drop k) m).map (· + k) = (atN (Bs.drop (k + 1)) m).map (· + (k + 1)) := by
  obtain ⟨hk, he⟩ := List.getElem?_eq_some_iff.1 h
  rw [List.drop_eq_getElem_cons hk, he, atN, Option.map_map]
  congr 1
  funext i
  show i + 1 + k = i + (k + 1)
  omega
theorem atN_drop_zero {Bs : List Bool} {k : Nat} (h : Bs[k]? = some false) : (atN (Bs.drop k) 0).map (· + k) = some k := by
  obtain ⟨hk, he⟩ := List.getElem?_eq_some_iff.1 h
  rw [List.drop_eq_getElem_cons hk, he, atN]
  simp
theorem atN_drop_succ {Bs : List Bool} {k m : Nat} (h : Bs[k]? = some false) : (atN (Bs.drop k) (m + 1)).map (· + k) = (atN (Bs.drop (k + 1)) m).map (· + (k + 1)) := by
  obtain ⟨hk, he⟩ := List.getElem?_eq_some_iff.1 h
  rw [List.drop_eq_getElem_cons hk, he, atN, Option.map_map]
  congr 1
  funext i
  show i + 1 + k = i + (k + 1)
  omega
/-- What the document's at answers. -/
def atV (Bs : List Bool) (i : Int) : Int := if i < 0 then -1 else match atN Bs i.toNat with
  | none => -1
  | some j => (j : Int)

set_option maxHeartbeats 4000000 in
set_option maxRecDepth 100000 in
theorem rat_calls (B : Nat) (r : Rm) (i : Int) (w : World) (h : r.In B w) (hl : r.Bs.length = r.Ls.length) (hL : r.Ls.length ≤ 3000000000000) (hi : i ≤ 9223372036854775807) :
    Calls Try.prog 58 #[.pointer (some ⟨r.m, 0, none⟩), .int .i64 i] w fun e w' => e = .returned (.int .i64 (atV r.Bs i)) ∧ w = w' := by
  have H := Aside0.mk h
  have HL := Aside0.mk hL
  have HE := Aside0.mk hl
  have c1 := blk_cell h.blk 1
  have c2 := blk_cell h.blk 2
  clear h hL hl
  by_cases hz : i < 0
  · have b1 : decide (i < 0) = true := decide_eq_true hz
    have hv : atV r.Bs i = -1 := by unfold atV; rw [if_pos hz]
    rw [hv]
    clear hz hv
    go_enter Try.func58, Try.ntmps58
    go_wp2_with fail
    go_ret
    exact ⟨rfl, rfl⟩
  · have b1 : decide (i < 0) = false := decide_eq_false hz
    obtain ⟨n, rfl⟩ : ∃ n : Nat, i = (n : Int) := ⟨i.toNat, by omega⟩
    have HN := Aside0.mk hi
    have HV := Aside0.mk (show atV r.Bs (n : Int) = match atN r.Bs n with | none => -1 | some j => (j : Int) by unfold atV; rw [if_neg hz]; rfl)
    clear hz hi
    go_enter Try.func58, Try.ntmps58
    go_wp2_with fail
    go_loopg [1, 5] r.Ls.length (fun kq v1 v5 w' => ∃ (m k : Nat), v1 = .int .i64 (m : Int) ∧ v5 = .int .i64 (k : Int) ∧ Aside0 (k + kq = r.Ls.length) ∧ Aside0 (m ≤ n ∧ atN r.Bs n = (atN (r.Bs.drop k) m).map (· + k)) ∧ w = w')
    case atStart => exact ⟨n, 0, rfl, rfl, ⟨by omega⟩, ⟨Nat.le_refl _, by simp⟩, rfl⟩
    case round =>
      obtain ⟨m, k, rfl, rfl, HK, HM, rfl⟩ := hrel
      by_cases ci : (k : Int) < (r.Ls.length : Int)
      · cases gk with
        | zero => exact absurd HK.out (by omega)
        | succ k1 =>
        have cb : decide ((k : Int) < (r.Ls.length : Int)) = true := decide_eq_true ci
        have cb2 : decide (k < r.Ls.length) = true := decide_eq_true (by omega)
        have p2 : (0 ≤ (k : Int)) = True := eq_true (by omega)
        have p3 : ((k : Int) < (r.Bs.length : Int)) = True := eq_true (by have := HE.out; omega)
        have hwi : wrap64 ((k : Int) + 1) = (k : Int) + 1 := Go.IntWalk.wrap64_in _ (by have := HL.out; omega)
        have HK' := Aside0.mk (show k + 1 + k1 = r.Ls.length by have := HK.out; omega)
        obtain ⟨bb, hbb⟩ : ∃ bb, r.Bs[k]? = some bb := ⟨_, List.getElem?_eq_getElem (show k < r.Bs.length by have := HE.out; omega)⟩
        obtain ⟨q, hq⟩ := ownsRow_addr H.out.rowB (show 0 < r.Bs.length by have := HE.out; omega)
        have hrB := H.out.rowB
        rw [hq] at hrB c2
        have xb : w.cell? ⟨q, k, none⟩ = some (.bool bb) := by
          rw [hrB.cellAt k (by have := HE.out; omega)]
          unfold bcells
          rw [List.getElem?_map, hbb]
          rfl
        have HBB := Aside0.mk hbb
        clear hrB ci hbb HK
        cases bb with
        | true =>
          have HT := Aside0.mk (HM.out.2.trans (atN_drop_true HBB.out))
          go_wp2_with fail
          go_roundg k1
          case measure => have := HK'.out; omega
          case rel => exact ⟨m, k + 1, rfl, congrArg (Value.int .i64) (by omega), HK', ⟨HM.out.1, HT.out⟩, rfl⟩
        | false =>
          cases m with
          | zero =>
            have HT := Aside0.mk (HM.out.2.trans (atN_drop_zero HBB.out))
            go_wp2_with fail
            go_ret
            rw [HV.out, HT.out]
            exact ⟨rfl, rfl⟩
          | succ m =>
            have HT := Aside0.mk (HM.out.2.trans (atN_drop_succ HBB.out))
            have hz : (((m + 1 : Nat) : Int) == 0) = false := by simp; omega
            have hws : wrap64 (((m + 1 : Nat) : Int) - 1) = (m : Int) := by rw [Go.IntWalk.wrap64_in _ (by have := HM.out.1; have := HN.out; omega)]; omega
            have hws2 : wrap64 ((m : Int) + 1 - 1) = (m : Int) := by rw [Go.IntWalk.wrap64_in _ (by have := HM.out.1; have := HN.out; omega)]; omega
            have hws3 : wrap64 (m : Int) = (m : Int) := Go.IntWalk.wrap64_in _ (by have := HM.out.1; have := HN.out; omega)
            have hz2 : ((m : Int) + 1 == 0) = false := by simp; omega
            go_wp2_with fail
            go_roundg k1
            case measure => have := HK'.out; omega
            case rel => exact ⟨m, k + 1, congrArg (Value.int .i64) (Go.IntWalk.wrap64_in _ (by have := HM.out.1; have := HN.out; omega)), congrArg (Value.int .i64) (by omega), HK', ⟨by have := HM.out.1; omega, HT.out⟩, rfl⟩
      · have cb : decide ((k : Int) < (r.Ls.length : Int)) = false := decide_eq_false ci
        have cb2 : decide (k < r.Ls.length) = false := decide_eq_false (by omega)
        have HT := Aside0.mk (show atN r.Bs n = none by
          rw [HM.out.2, List.drop_eq_nil_of_le (by have := HE.out; omega)]
          rfl)
        clear ci HK
        go_wp2_with fail
        go_ret
        rw [HV.out, HT.out]
        exact ⟨rfl, rfl⟩

set_option maxHeartbeats 4000000 in
set_option maxRecDepth 100000 in
theorem rflying_calls (B : Nat) (k : Rm) (w : World) (h : k.In B w) (hl : k.Bs.length = k.Ls.length) (hL : k.Ls.length ≤ 3000000000000) :
    Calls Try.prog 27 #[.pointer (some ⟨k.m, 0, none⟩)] w (FRes (leftL k.Ls k.Bs) w) := by
  have H := Aside0.mk h
  have HL := Aside0.mk hL
  have HE := Aside0.mk hl
  clear h hL hl
  go_enter Try.func27, Try.ntmps27
  go_wp2_with fail
  go_loopg [3, 4] k.Ls.length (fun kq v3 v4 w' => ∃ (i : Nat) (A' : Option Addr) (cap' : Nat), v3 = .slice A' (leftL (k.Ls.take i) (k.Bs.take i)).length cap' ∧ v4 = .int .i64 (i : Int) ∧ Aside0 (i + kq = k.Ls.length) ∧ Aside0 (Below w.heap.size w w') ∧ Aside0 (OwnL w' w.heap.size A' cap' (leftL (k.Ls.take i) (k.Bs.take i))))
  case atStart => exact ⟨0, none, 0, rfl, rfl, ⟨by omega⟩, ⟨Below.refl _ _⟩, ⟨World.ownsRow_nil _ _ _ _⟩⟩
  case round =>
    obtain ⟨i, A', cap', rfl, rfl, HK, HB, HO⟩ := hrel
    have HI := Aside0.mk (H.out.keep (fun i hi => HB.out.block i (H.out.lt i hi)))
    have c0 := blk_cell HI.out.blk 1
    have c1 := blk_cell HI.out.blk 2
    by_cases ci : (i : Int) < (k.Ls.length : Int)
    · cases gk with
      | zero => exact absurd HK.out (by omega)
      | succ k1 =>
      have cb : decide ((i : Int) < (k.Ls.length : Int)) = true := decide_eq_true ci
      have cb2 : decide (i < k.Ls.length) = true := decide_eq_true (by omega)
      have p2 : (0 ≤ (i : Int)) = True := eq_true (by omega)
      have p3 : ((i : Int) < (k.Ls.length : Int)) = True := eq_true ci
      have p4 : ((i : Int) < (k.Bs.length : Int)) = True := eq_true (by rw [HE.out]; exact ci)
      have hwi : wrap64 ((i : Int) + 1) = (i : Int) + 1 := Go.IntWalk.wrap64_in _ (by have := HL.out; omega)
      have HK' := Aside0.mk (show i + 1 + k1 = k.Ls.length by have := HK.out; omega)
      obtain ⟨y, hy⟩ : ∃ y, k.Ls[i]? = some y := ⟨_, List.getElem?_eq_getElem (show i < k.Ls.length by omega)⟩
      obtain ⟨bb, hbb⟩ : ∃ bb, k.Bs[i]? = some bb := ⟨_, List.getElem?_eq_getElem (show i < k.Bs.length by rw [HE.out]; omega)⟩
      have HT := Aside0.mk (leftL_take k.Ls k.Bs HE.out i y bb hy hbb)
      obtain ⟨a1, ha1, x0, x1, x2, x3⟩ := OwnL.adr HI.out.rowL i y hy
      obtain ⟨q, hq⟩ := ownsRow_addr HI.out.rowB (show 0 < k.Bs.length by rw [HE.out]; omega)
      have hrB := HI.out.rowB
      rw [hq] at hrB
      have xb : wr.cell? ⟨q, i, none⟩ = some (.bool bb) := by
        rw [hrB.cellAt i (by rw [HE.out]; omega)]
        unfold bcells
        rw [List.getElem?_map, hbb]
        rfl
      rw [ha1] at c0
      rw [hq] at c1
      have HLT := Aside0.mk (leftL_length (k.Ls.take i) (k.Bs.take i))
      clear hrB ci hy hbb ha1 hq HK
      cases bb with
      | true =>
        rw [if_pos rfl, List.append_nil] at HT
        go_wp2_with fail
        go_roundg k1
        case measure => have := HK'.out; omega
        case rel => exact ⟨i + 1, A', cap', by rw [HT.out], congrArg (Value.int .i64) (by omega), HK', HB, ⟨by rw [HT.out]; exact HO.out⟩⟩
      | false =>
        rw [if_neg (by decide)] at HT
        obtain ⟨i0, hi, hz0, hz1, hz2⟩ := info_parts info33
        have HI4 := Aside0.mk (And.intro hi (And.intro hz0 (And.intro hz1 hz2)))
        clear hi hz0 hz1 hz2
        have HOne := Aside0.mk (lc_one y)
        generalize leftL (k.Ls.take i) (k.Bs.take i) = M at *
        have HM := Aside0.mk (show M.length ≤ 3000000000000 by
          have h1 := HLT.out
          rw [List.length_take] at h1
          have := HL.out
          omega)
        have D := Aside0.mk (show M.length + 1 ≤ maxLen ∧ (M.length + 1) * 40 ≤ 140737488355328 from ⟨by unfold maxLen; have := HM.out; omega, by have := HM.out; omega⟩)
        have HRS := Aside0.mk (show lcells M ++ [.int .i64 y.i, .int .i64 y.f, .int .i64 y.t, .string y.s] = lcells (M ++ [y]) from (lcells_app M [y]).symm)
        have HLM := Aside0.mk (show M.length + 1 = (M ++ [y]).length by simp)
        go_wp2_with (at_builtin; refine wpList_append_own_at _ rfl _ _ 57 rfl w.heap.size 33 i0 (.agg #[.int .i64 0, .int .i64 0, .int .i64 0, .string ByteArray.empty]) 4 40 Try.underlying57 HI4.out.1 HI4.out.2.1 HI4.out.2.2.1 HI4.out.2.2.2 rfl (by decide) (.slice A' M.length cap') M.length (lcells M) rfl (World.ownsRow.alloc HO.out _) ⟨wr.heap.size, 0, none⟩ 1 1 [.int .i64 y.i, .int .i64 y.f, .int .i64 y.t, .string y.s] rfl rfl (new_cells _ _ _) HOne.out D.out.1 D.out.2 (le_alloc HB.out.size) ?_; intro v' w5 hown hgrow _ hat; obtain ⟨A5, c5, rfl⟩ := own_form hown; rw [rowB_own] at hgrow; rw [HRS.out, HLM.out] at hown; have HO5 := Aside0.mk hown; have HG5 := Aside0.mk hgrow; clear hown hgrow hat)
        have HB5 := Aside0.mk ((below_step HB.out (below2a wr (.cells #[.int .i64 y.i, .int .i64 y.f, .int .i64 y.t, .string y.s] 33))).grown HG5.out (below_step HB.out (below2a wr (.cells #[.int .i64 y.i, .int .i64 y.f, .int .i64 y.t, .string y.s] 33))).size (fun q hq => (ownsRow_lt HO.out q hq).1))
        go_roundg k1
        case measure => have := HK'.out; omega
        case rel => exact ⟨i + 1, A5, c5, by rw [HT.out, HLM.out], congrArg (Value.int .i64) (by rw [hwi]; omega), HK', HB5, ⟨by rw [HT.out]; exact HO5.out⟩⟩
    · have cb : decide ((i : Int) < (k.Ls.length : Int)) = false := decide_eq_false ci
      have cb2 : decide (i < k.Ls.length) = false := decide_eq_false (by omega)
      have hi : i = k.Ls.length := by have := HK.out; omega
      have HT := Aside0.mk (show leftL (k.Ls.take i) (k.Bs.take i) = leftL k.Ls k.Bs by
        rw [hi, List.take_length, ← HE.out, List.take_length])
      clear ci hi
      rw [HT.out] at HO
      go_wp2_with fail
      go_ret
      exact ⟨A', cap', by rw [HT.out]; rfl, HB.out, HO.out⟩

set_option maxHeartbeats 4000000 in
set_option maxRecDepth 100000 in
theorem rcount_calls (B : Nat) (k : Rm) (w : World) (h : k.In B w) (hl : k.Bs.length = k.Ls.length) (hL : k.Ls.length ≤ 3000000000000) :
    Calls Try.prog 45 #[.pointer (some ⟨k.m, 0, none⟩)] w fun e w' => e = .returned (.int .i64 ((leftL k.Ls k.Bs).length : Int)) ∧ Below w.heap.size w w' := by
  have H := Aside0.mk h
  have HL := Aside0.mk hL
  have HE := Aside0.mk hl
  clear h hL hl
  go_enter Try.func45, Try.ntmps45
  go_wp2_with (go_at_call 27; (with_reducible refine (rflying_calls B k _ H.out HE.out HL.out).mono ?_); rintro e w6 ⟨Al, cl, rfl, hb, ho⟩; have HB := Aside0.mk hb; clear hb ho)
  go_ret
  exact ⟨rfl, HB.out⟩

end Go.Proofs.Ytadbcekglcmccaa.Q
