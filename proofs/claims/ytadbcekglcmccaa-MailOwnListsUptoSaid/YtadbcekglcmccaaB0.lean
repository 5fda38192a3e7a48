/- Contracts of (*mail.Mail).Flying, of slices.Clone of letters and of granarylaw13.sameLetters at equal lists; letters and which of them are out. Condition: block g is a mail; the lists lie in rows of the call's own. -/
import Derived.Test.YtadbcekglcmccaaProg
import Derived.Below
import Derived.Deep.Draws
import Derived.Deep.AppendLies
import Derived.Maps.AppendAt
import Derived.OwnWalk
import Derived.Laws.BytesArg
import Derived.Laws.MakeOwn
import Derived.Laws.OwnMore
import Derived.Deep.OwnRows
import Derived.Tactics
import Derived.Lib.ConvBytes
import Derived.Laws.Slices
import Derived.WalkKit
import Derived.KernelRfl
import Derived.RowKit3
import Derived.Deep.LoopGhost
import Derived.Deep.QuietTactic
import Derived.BigQuiet
import Derived.WideLaws
import Derived.Deep.DeepCutAuto
import Derived.Deep.CutBlock
import Derived.Deep.RegionHeld3
import Derived.Laws.Rows
import Derived.Lib.AppendStr
import Derived.ArgAppend
import Derived.Laws.IdiomCopy
import Derived.OrdersHeld
import Derived.Laws.BitsLemmas
import Derived.RowKit
import Derived.Test.YtadbcekglcmccaaWWords
import Derived.Test.YtadbcekglcmccaaWLast
import Derived.Test.YtadbcekglcmccaaWTab
import Derived.Test.YtadbcekglcmccaaWFour
import Derived.Test.YtadbcekglcmccaaWQPut
import Derived.Test.YtadbcekglcmccaaWApart
import Derived.Test.YtadbcekglcmccaaWArr
import Derived.Test.YtadbcekglcmccaaWZeros
import Derived.Test.YtadbcekglcmccaaWFoot
import Derived.Test.YtadbcekglcmccaaWKept
import Derived.Test.YtadbcekglcmccaaWShare
import Derived.Test.YtadbcekglcmccaaWN
import Derived.Test.YtadbcekglcmccaaWFootNe
import Derived.Test.YtadbcekglcmccaaWAt
import Derived.Test.YtadbcekglcmccaaWEqStruct
import Derived.Test.YtadbcekglcmccaaWRepsOne
import Derived.Test.YtadbcekglcmccaaWInv
import Derived.Test.YtadbcekglcmccaaWInvWords
import Derived.Test.YtadbcekglcmccaaWGuard
import Derived.Test.YtadbcekglcmccaaWNEv
import Derived.Test.YtadbcekglcmccaaWMore
import Derived.Test.YtadbcekglcmccaaA9
import Derived.Lib.BufferMore
set_option linter.unusedVariables false
set_option linter.unusedSimpArgs false
namespace Go.Proofs.Ytadbcekglcmccaa.Q
open Go.RowKit Go.Proofs.YtadbcekglcmccaaW.PrintWords Go.Proofs.YtadbcekglcmccaaW.PrintLast Go.Proofs.YtadbcekglcmccaaW.PrintMore
open Go.FM Go.Plan

def FRes (L : List Lt) (w : World) (e : Ending) (w' : World) : Prop := ∃ A' cap', e = .returned (.slice A' L.length cap') ∧ Below w.heap.size w w' ∧ OwnL w' w.heap.size A' cap' L
set_option maxHeartbeats 4000000 in
set_option maxRecDepth 100000 in
theorem clone_calls (B : Nat) (A : Option Addr) (cap : Nat) (L : List Lt) (w : World) (h : OwnL w B A cap L) (hL : L.length ≤ 1024) :
    Calls Try.prog 49 #[.slice A L.length cap] w (FRes L w) := by
  have H := Aside0.mk h
  have HL := Aside0.mk hL
  rcases h.2 with ⟨h', h0⟩ | ⟨q, cap', cur, h', hb, hg, hnc, hcm, hcs, htk⟩
  · have hL0 : L = [] := List.eq_nil_of_length_eq_zero h0
    subst hL0
    simp only [Value.slice.injEq, and_true, true_and] at h'
    obtain ⟨rfl, -, rfl⟩ := h'
    clear h0 H
    have he := Go.Lib.run_eql_slice_nil_nil (P := Try.prog) w (t := 57) (e := 33) 0 0 Try.underlying57
    go_enter Try.func49, Try.ntmps49
    go_wp2_with fail
    go_ret
    exact ⟨none, 0, rfl, Below.refl _ _, World.ownsRow_nil _ _ _ _⟩
  · simp only [Value.slice.injEq, and_true, true_and] at h'
    obtain ⟨rfl, rfl⟩ := h'
    clear h hb hg hnc hcm hcs htk hL
    have he := Go.Lib.run_eql_slice_some_nil (P := Try.prog) w (t := 57) (e := 33) ⟨q, 0, none⟩ L.length cap Try.underlying57
    go_enter Try.func49, Try.ntmps49
    have H1 := Aside0.mk (show (w.alloc (.cells #[] 33)).ownsRow B 33 4 (.slice (some ⟨q, 0, none⟩) L.length cap) L.length (lcells L) from World.ownsRow.alloc H.out _)
    have HN := Aside0.mk (World.ownsRow_lit (base := w.heap.size) (e := 33) (size := 4) w #[] 0 (Nat.le_refl _) (by decide) rfl)
    obtain ⟨i0, hi, hz0, hz1, hz2⟩ := info_parts info33
    have HO := Aside0.mk (show ∀ u ∈ lcells L, u.oneCell' = true from fun u hu => by
      unfold lcells at hu
      rw [List.mem_flatMap] at hu
      obtain ⟨x, _, hx⟩ := hu
      exact lc_one x u hx)
    have D := Aside0.mk (show 0 + L.length ≤ maxLen ∧ (0 + L.length) * 40 ≤ 140737488355328 from ⟨by unfold maxLen; have := HL.out; omega, by have := HL.out; omega⟩)
    have HLn := Aside0.mk (show (lcells L).length = L.length * 4 from rc_length (c := lc) (sz := 4) (fun x => rfl) L)
    go_wp2_with (at_builtin; refine wpList_append_own_at _ rfl _ _ 57 rfl w.heap.size 33 i0 (.agg #[.int .i64 0, .int .i64 0, .int .i64 0, .string ByteArray.empty]) 4 40 Try.underlying57 hi hz0 hz1 hz2 rfl (by decide) (.slice (some ⟨w.heap.size, 0, none⟩) 0 0) 0 [] rfl HN.out ⟨q, 0, none⟩ L.length cap (lcells L) rfl HLn.out (World.ownsRow.cells H1.out rfl) HO.out D.out.1 D.out.2 (le_alloc (Nat.le_refl _)) ?_; intro v' w5 hown hgrow _ hat; obtain ⟨A', cap', rfl⟩ := own_form hown; have HOwn := Aside0.mk hown; have HG := Aside0.mk hgrow; clear hown hgrow hat)
    have h1 := HOwn.out
    rw [Nat.zero_add, List.nil_append] at h1
    have hb : Below w.heap.size w w5 := (below2a w (.cells #[] 33)).grown HG.out (below2a w (.cells #[] 33)).size (fun q hq => by simp [Value.ownBlock] at hq; omega)
    have HB := Aside0.mk hb
    have H5 := Aside0.mk h1
    clear h1 hb
    go_ret
    exact ⟨A', cap', rfl, HB.out, H5.out⟩
set_option maxHeartbeats 4000000 in
set_option maxRecDepth 100000 in
theorem flying_calls (B : Nat) (x : Pm) (w : World) (h : x.In B w) (hL : x.L.length ≤ 1024) : Calls Try.prog 25 #[.pointer (some ⟨x.g, 0, none⟩)] w (FRes x.L w) := by
  have c2 := h.c2
  have HR := Aside0.mk h.row
  have HL := Aside0.mk hL
  clear h hL
  go_enter Try.func25, Try.ntmps25
  go_wp2_with (go_at_call 49; (with_reducible refine (clone_calls B x.A x.cap x.L _ HR.out HL.out).mono ?_); rintro e w3 ⟨A', cap', rfl, hb, ho⟩; have HB := Aside0.mk hb; have HO := Aside0.mk ho; clear hb ho)
  go_ret
  exact ⟨A', cap', rfl, HB.out, HO.out⟩

set_option maxHeartbeats 4000000 in
set_option maxRecDepth 100000 in
theorem same_calls (B1 B2 : Nat) (A1 A2 : Option Addr) (cap1 cap2 : Nat) (L : List Lt) (w : World) (h1 : OwnL w B1 A1 cap1 L) (h2 : OwnL w B2 A2 cap2 L) (hL : L.length ≤ 4611686018427387904) :
    Calls Try.prog 26 #[.slice A1 L.length cap1, .slice A2 L.length cap2] w fun e w' => e = .returned (.bool true) ∧ Below w.heap.size w w' := by
  have H1 := Aside0.mk h1
  have H2 := Aside0.mk h2
  have HL := Aside0.mk hL
  clear h1 h2 hL
  go_enter Try.func26, Try.ntmps26
  go_wp2_with fail
  go_loopg [5] L.length (fun kq v5 w' => ∃ (i : Nat), v5 = .int .i64 (i : Int) ∧ Aside0 (i + kq = L.length) ∧ Aside0 (Below w.heap.size w w'))
  case atStart => exact ⟨0, rfl, ⟨by omega⟩, ⟨Below.refl _ _⟩⟩
  case round =>
    obtain ⟨i, rfl, HK, HB⟩ := hrel
    by_cases ci : (i : Int) < (L.length : Int)
    · cases gk with
      | zero => exact absurd HK.out (by omega)
      | succ k1 =>
      have cb : decide ((i : Int) < (L.length : Int)) = true := decide_eq_true ci
      have cb2 : decide (i < L.length) = true := decide_eq_true (by omega)
      have p2 : (0 ≤ (i : Int)) = True := eq_true (by omega)
      have p3 : ((i : Int) < (L.length : Int)) = True := eq_true ci
      have hwi : wrap64 ((i : Int) + 1) = (i : Int) + 1 := Go.IntWalk.wrap64_in _ (by have := HL.out; omega)
      have HK' := Aside0.mk (show i + 1 + k1 = L.length by have := HK.out; omega)
      obtain ⟨y, hy⟩ : ∃ y, L[i]? = some y := ⟨_, List.getElem?_eq_getElem (show i < L.length by omega)⟩
      have HR1 := Aside0.mk (ownsRow_keep H1.out (fun q hq => HB.out.block q (ownsRow_lt H1.out q hq).2))
      have HR2 := Aside0.mk (ownsRow_keep H2.out (fun q hq => HB.out.block q (ownsRow_lt H2.out q hq).2))
      obtain ⟨a1, rfl, x0, x1, x2, x3⟩ := OwnL.adr HR1.out i y hy
      obtain ⟨a2, rfl, y0, y1, y2, y3⟩ := OwnL.adr HR2.out i y hy
      have hne : (y.s != y.s) = false := by have := (MapKept.bytes_beq y.s y.s).2 rfl; simp [bne, this]
      clear ci hy HK
      go_wp2_with fail
      go_quiet (fail)
      have HB3 := Aside0.mk (below_step HB.out (below_drewN wr nq))
      go_wp2_with fail
      go_roundg k1
      case measure => have := HK'.out; omega
      case rel => exact ⟨i + 1, congrArg (Value.int .i64) (by omega), HK', HB3⟩
    · have cb : decide ((i : Int) < (L.length : Int)) = false := decide_eq_false ci
      have cb2 : decide (i < L.length) = false := decide_eq_false (by omega)
      clear ci
      go_wp2_with fail
      go_ret
      exact ⟨rfl, HB.out⟩

/-! ### Letters, and which of them are out -/
def leftL : List Lt → List Bool → List Lt
  | y :: ls, b :: bs => if b = true then leftL ls bs else y :: leftL ls bs
  | _, _ => []
theorem leftL_app : ∀ (Ls : List Lt) (Bs : List Bool) (y : Lt) (b : Bool), Bs.length = Ls.length → leftL (Ls ++ [y]) (Bs ++ [b]) = leftL Ls Bs ++ (if b = true then [] else [y]) := by
  intro Ls
  induction Ls with
  | nil =>
    intro Bs y b h
    obtain rfl := List.eq_nil_of_length_eq_zero h
    simp [leftL]
  | cons x l ih =>
    intro Bs y b h
    cases Bs with
    | nil => simp at h
    | cons c bs =>
      have h' : bs.length = l.length := by simpa using h
      simp only [List.cons_append, leftL]
      rw [ih bs y b h']
      cases c <;> simp
theorem leftL_out : ∀ (Ls : List Lt) (Bs : List Bool) (n : Nat) (y : Lt), Bs.length = Ls.length → (leftL Ls Bs)[n]? = some y → ∃ j, Ls[j]? = some y ∧ Bs[j]? = some false ∧ leftL Ls (Bs.set j true) = (leftL Ls Bs).eraseIdx n := by
  intro Ls
  induction Ls with
  | nil => intro Bs n y _ h; simp [leftL] at h
  | cons x l ih =>
    intro Bs n y h hn
    cases Bs with
    | nil => simp at h
    | cons c bs =>
      have h' : bs.length = l.length := by simpa using h
      cases c with
      | true =>
        simp only [leftL, if_true] at hn
        obtain ⟨j, h1, h2, h3⟩ := ih bs n y h' hn
        exact ⟨j + 1, by simpa using h1, by simpa using h2, by simp only [List.set_cons_succ, leftL, if_true]; exact h3⟩
      | false =>
        simp only [leftL] at hn
        rw [if_neg (by decide)] at hn
        cases n with
        | zero =>
          simp only [List.getElem?_cons_zero, Option.some.injEq] at hn
          subst hn
          exact ⟨0, rfl, rfl, by simp [leftL]⟩
        | succ n =>
          rw [List.getElem?_cons_succ] at hn
          obtain ⟨j, h1, h2, h3⟩ := ih bs n y h' hn
          refine ⟨j + 1, by simpa using h1, by simpa using h2, ?_⟩
          simp only [List.set_cons_succ, leftL]
          rw [if_neg (by decide), if_neg (by decide), List.eraseIdx_cons_succ, h3]
theorem leftL_length : ∀ (Ls : List Lt) (Bs : List Bool), (leftL Ls Bs).length ≤ Ls.length := by
  intro Ls
  induction Ls with
  | nil => intro Bs; simp [leftL]
  | cons x l ih =>
    intro Bs
    cases Bs with
    | nil => simp [leftL]
    | cons c bs =>
      have := ih bs
      cases c <;> simp [leftL] <;> omega
theorem leftL_take (Ls : List Lt) (Bs : List Bool) (h : Bs.length = Ls.length) (i : Nat) (y : Lt) (b : Bool) (hy : Ls[i]? = some y) (hb : Bs[i]? = some b) : leftL (Ls.take (i + 1)) (Bs.take (i + 1)) = leftL (Ls.take i) (Bs.take i) ++ (if b = true then [] else [y]) := by
  rw [List.take_add_one, List.take_add_one, hy, hb]
  exact leftL_app _ _ y b (by rw [List.length_take, List.length_take, h])

end Go.Proofs.Ytadbcekglcmccaa.Q
