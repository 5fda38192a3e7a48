/- The walk of granarylaw13.MailAnyOrder: it answers true at every input. Condition: the slices are read. -/
import Derived.Test.YtadbcekglcmccaaProg
import Derived.Below
import Derived.Deep.Draws
import Derived.Deep.AppendLies
import Derived.Maps.AppendAt
import Derived.OwnWalk
import Derived.Laws.BytesArg
import Derived.Laws.MakeOwn
import Derived.Laws.OwnMore
import Derived.Deep.OwnRows
import Derived.Tactics
import Derived.Lib.ConvBytes
import Derived.Laws.Slices
import Derived.WalkKit
import Derived.KernelRfl
import Derived.RowKit3
import Derived.Deep.LoopGhost
import Derived.Deep.QuietTactic
import Derived.BigQuiet
import Derived.WideLaws
import Derived.Deep.DeepCutAuto
import Derived.Deep.CutBlock
import Derived.Deep.RegionHeld3
import Derived.Laws.Rows
import Derived.Lib.AppendStr
import Derived.ArgAppend
import Derived.Laws.IdiomCopy
import Derived.OrdersHeld
import Derived.Laws.BitsLemmas
import Derived.RowKit
import Derived.Test.YtadbcekglcmccaaWWords
import Derived.Test.YtadbcekglcmccaaWLast
import Derived.Test.YtadbcekglcmccaaWTab
import Derived.Test.YtadbcekglcmccaaWFour
import Derived.Test.YtadbcekglcmccaaWQPut
import Derived.Test.YtadbcekglcmccaaWApart
import Derived.Test.YtadbcekglcmccaaWArr
import Derived.Test.YtadbcekglcmccaaWZeros
import Derived.Test.YtadbcekglcmccaaWFoot
import Derived.Test.YtadbcekglcmccaaWKept
import Derived.Test.YtadbcekglcmccaaWShare
import Derived.Test.YtadbcekglcmccaaWN
import Derived.Test.YtadbcekglcmccaaWFootNe
import Derived.Test.YtadbcekglcmccaaWAt
import Derived.Test.YtadbcekglcmccaaWEqStruct
import Derived.Test.YtadbcekglcmccaaWRepsOne
import Derived.Test.YtadbcekglcmccaaWInv
import Derived.Test.YtadbcekglcmccaaWInvWords
import Derived.Test.YtadbcekglcmccaaWGuard
import Derived.Test.YtadbcekglcmccaaWNEv
import Derived.Test.YtadbcekglcmccaaWMore
import Derived.Test.YtadbcekglcmccaaA8
set_option linter.unusedVariables false
set_option linter.unusedSimpArgs false
namespace Go.Proofs.Ytadbcekglcmccaa.Q
open Go.RowKit Go.Proofs.YtadbcekglcmccaaW.PrintWords Go.Proofs.YtadbcekglcmccaaW.PrintLast Go.Proofs.YtadbcekglcmccaaW.PrintMore
open Go.FM Go.Plan

/-- The j-th letter that MailAnyOrder sends. -/
def ao (FS : List ByteArray) (j : Nat) : Lt := ⟨(j : Int) + 1, (j : Int) % 7, (j : Int) % 5, FS.getD j ⟨#[]⟩⟩
theorem ao_adr (FS : List ByteArray) (j : Nat) : adB (ao FS j).f = true ∧ adB (ao FS j).t = true := by
  unfold adB ao
  dsimp only
  constructor <;> simp <;> omega
theorem cutN_none (a b : Int) : cutN (fun _ => none) a b = 0 := rfl
/-- The first n letters sent. -/
def sentL (FS : List ByteArray) (n : Nat) : List Lt := (List.range n).map (ao FS)
theorem sentL_succ (FS : List ByteArray) (n : Nat) : sentL FS (n + 1) = sentL FS n ++ [ao FS n] := by unfold sentL; rw [List.range_succ, List.map_append]; rfl
/-- What is still in flight: the letters js, each of them not seen. -/
structure Fly (FS : List ByteArray) (np : Bool) (n i : Nat) (L : List Lt) (bs : List Bool) (js : List Nat) : Prop where
  L : L = js.map (ao FS)
  nd : js.Nodup
  len : js.length + i = n
  lb : bs.length = n
  seen : ∀ j, j ∈ js → j < n ∧ bs[j]? = some false
  ord : np = true → js = List.range' i (n - i)
theorem Fly.start (FS : List ByteArray) (np : Bool) (n : Nat) : Fly FS np n 0 (sentL FS n) (List.replicate n false) (List.range n) :=
  ⟨rfl, List.nodup_range, by simp, by simp, fun j hj => by
    have := List.mem_range.1 hj
    exact ⟨this, by rw [List.getElem?_replicate, if_pos this]⟩, fun _ => by rw [Nat.sub_zero, List.range_eq_range']⟩
theorem Fly.next {FS : List ByteArray} {np : Bool} {n i : Nat} {L : List Lt} {bs : List Bool} {js : List Nat} (h : Fly FS np n i L bs js) (a : Nat) (j : Nat) (hj : js[a]? = some j) (h0 : np = true → a = 0) :
    Fly FS np n (i + 1) (L.eraseIdx a) (bs.set j true) (js.eraseIdx a) := by
  have hal := (List.getElem?_eq_some_iff.1 hj).1
  refine ⟨by rw [h.L]; simp [List.eraseIdx_eq_take_drop_succ, List.map_take, List.map_drop], h.nd.eraseIdx _, by rw [List.length_eraseIdx, if_pos hal]; have := h.len; omega, by rw [List.length_set]; exact h.lb, fun k hk => ?_, fun hn => ?_⟩
  · have hk' := List.mem_of_mem_eraseIdx hk
    obtain ⟨h1, h2⟩ := h.seen k hk'
    refine ⟨h1, ?_⟩
    rw [List.getElem?_set_ne]
    · exact h2
    · rintro rfl
      obtain ⟨b, hne, hb⟩ := List.mem_eraseIdx_iff_getElem?.1 hk
      have hp := List.pairwise_iff_getElem.1 h.nd
      obtain ⟨hbl, hbe⟩ := List.getElem?_eq_some_iff.1 hb
      obtain ⟨_, hje⟩ := List.getElem?_eq_some_iff.1 hj
      rcases Nat.lt_or_gt_of_ne hne with q | q
      · exact hp b a hbl hal q (hbe.trans hje.symm)
      · exact hp a b hal hbl q (hje.trans hbe.symm)
  · have := h0 hn
    subst this
    rw [h.ord hn] at hal ⊢
    have hl := h.len
    have : js.length = n - i := by rw [h.ord hn]; simp
    rw [List.length_range'] at hal
    obtain ⟨m, hm⟩ : ∃ m, n - i = m + 1 := ⟨n - i - 1, by omega⟩
    rw [hm, List.range'_succ, List.eraseIdx_cons_zero]
    congr 1
    omega
theorem info4 : (Try.prog.info? 4).map (fun i => (i.zero, i.size, i.bytes)) = some (some (.bool false), 1, 1) := by kernel_rfl
/-- Which one of m letters a pick means. -/
def atV (p : Int) (m : Nat) : Nat := ((p.tmod m + m).tmod m).toNat
theorem atV_lt (p : Int) (m : Nat) (hm : 0 < m) : atV p m < m ∧ (p.tmod m + m).tmod m = ((atV p m : Nat) : Int) ∧ -(m : Int) < p.tmod m ∧ p.tmod m < m := by
  have h4 : (p.tmod m).natAbs < m := by
    rw [Int.natAbs_tmod]
    exact Nat.mod_lt _ hm
  have h3 : 0 ≤ p.tmod m + m := by omega
  have h5 := Int.emod_nonneg (p.tmod m + m) (show (m : Int) ≠ 0 by omega)
  have h6 := Int.emod_lt_of_pos (p.tmod m + m) (show (0 : Int) < m by omega)
  unfold atV
  rw [Int.tmod_eq_emod_of_nonneg h3]
  exact ⟨by omega, by omega, by omega, by omega⟩

set_option maxHeartbeats 16000000 in
set_option maxRecDepth 100000 in
theorem anyorder_calls (A : Option Addr) (cA : Nat) (FS : List ByteArray) (A2 : Option Addr) (c2 : Nat) (ps : List Int) (w : World) (hA : RCol Value.string w A FS) (hP : RCol (Value.int .i64) w A2 ps) (hc1 : FS.length ≤ cA) (hc2 : ps.length ≤ c2) :
    Calls Try.prog 3 #[.slice A FS.length cA, .slice A2 ps.length c2] w fun e w' => e = .returned (.bool true) ∧ Below w.heap.size w w' := by
  have hl1 := hA.1
  have hl2 := hP.1
  have HA := Aside0.mk hA
  have HP := Aside0.mk hP
  have HL1 := Aside0.mk hl1
  have HL2 := Aside0.mk hl2
  have HC := Aside0.mk (And.intro hc1 hc2)
  clear hA hP hl1 hl2 hc1 hc2
  obtain ⟨pl, hpl⟩ : ∃ pl, ps.length = pl := ⟨_, rfl⟩
  rw [hpl]
  have HPL := Aside0.mk hpl
  clear hpl
  obtain ⟨N, hN⟩ : ∃ N, min FS.length 1024 = N := ⟨_, rfl⟩
  have HN := Aside0.mk (show N ≤ FS.length ∧ N ≤ 1024 ∧ (N = FS.length ∨ N = 1024) by omega)
  clear hN
  go_enter Try.func3, Try.ntmps3
  go_wp2_with (first
    | (go_at_call 10; (with_reducible refine (new_yes 1024 _ (by unfold okLim; omega)).mono ?_); rintro e w1 ⟨rfl, hi, hb, hz⟩; have HI := Aside0.mk (show (Pm.fresh (w.heap.size + 1) w.heap.size 1024).Own w w1 from ⟨hi _, hb, by show w.heap.size ≤ w.heap.size + 1; omega, Nat.le_refl _⟩); clear hi hb hz)
    | (go_at_call 11; refine (num_calls _ _).mono ?_; rintro e w' ⟨rfl, rfl⟩))
  generalize hg : w.heap.size + 1 = g at *
  clear hg
  go_loopg [7, 8] N (fun kq v7 v8 w' => ∃ (i : Nat) (A' : Option Addr) (cap : Nat), v7 = .int .i64 (i : Int) ∧ v8 = .int .i64 (i : Int) ∧ Aside0 (i + kq = N) ∧ Aside0 ((⟨g, w.heap.size, A', cap, 1024, (i : Int), sentL FS i, fun _ => none⟩ : Pm).Own w w'))
  case atStart => exact ⟨0, none, 0, rfl, rfl, ⟨by omega⟩, HI⟩
  case round =>
    clear HI
    obtain ⟨i, A', cap, rfl, rfl, HK, HJ⟩ := hrel
    go_upto_region 6 with fail
    go_cut [37] (fun v37 wx => (∃ bb : Bool, v37 = .bool bb ∧ Aside0 (bb = true ↔ i < N)) ∧ wr = wx)
    case first =>
      by_cases c1 : (i : Int) < (FS.length : Int)
      · have cb : decide ((i : Int) < (FS.length : Int)) = true := by simpa using c1
        have cb2 : decide (i < FS.length) = true := by simp; omega
        by_cases c2 : (i : Int) < 1024
        · have cc : decide ((i : Int) < 1024) = true := by simpa using c2
          have cd := Aside0.mk (show i < N by have := HN.out; omega)
          clear c1 c2
          go_wp2_with fail
          go_meet
          exact ⟨⟨true, rfl, ⟨⟨fun _ => cd.out, fun _ => rfl⟩⟩⟩, rfl⟩
        · have cc : decide ((i : Int) < 1024) = false := by simpa using c2
          have cd := Aside0.mk (show ¬ i < N by have := HN.out; omega)
          clear c1 c2
          go_wp2_with fail
          go_meet
          exact ⟨⟨false, rfl, ⟨⟨(by intro e; cases e), fun e => absurd e cd.out⟩⟩⟩, rfl⟩
      · have cb : decide ((i : Int) < (FS.length : Int)) = false := by simpa using c1
        have cb2 : decide (i < FS.length) = false := by simp; omega
        have cd := Aside0.mk (show ¬ i < N by have := HN.out; omega)
        clear c1
        go_wp2_with fail
        go_meet
        exact ⟨⟨false, rfl, ⟨⟨(by intro e; cases e), fun e => absurd e cd.out⟩⟩⟩, rfl⟩
    case rest =>
    obtain ⟨⟨bb, rfl, HBB⟩, rfl⟩ := hcut
    cases bb with
    | true =>
      have c := HBB.out.1 rfl
      clear HBB
      obtain ⟨s, hs⟩ : ∃ s, FS[i]? = some s := ⟨_, List.getElem?_eq_getElem (show i < FS.length by have := HN.out; omega)⟩
      have HSS := Aside0.mk (show ao FS i = ⟨(i : Int) + 1, (i : Int) % 7, (i : Int) % 5, s⟩ by unfold ao; rw [List.getD_eq_getElem?_getD, hs]; rfl)
      obtain ⟨ad, rfl, hx⟩ := HA.out.at_ HJ.out.below i _ hs
      have cb : decide ((i : Int) < (FS.length : Int)) = true := by have := HN.out; simp; omega
      have cb2 : decide (i < FS.length) = true := by have := HN.out; simp; omega
      have cc : decide ((i : Int) < 1024) = true := by have := HN.out; simp; omega
      have p2 : (0 ≤ (i : Int)) = True := eq_true (by omega)
      have p3 : ((i : Int) < (FS.length : Int)) = True := eq_true (by have := HN.out; omega)
      have hwi : wrap64 ((i : Int) + 1) = (i : Int) + 1 := Go.IntWalk.wrap64_in _ (by have := HN.out; omega)
      have hsb : sendB ⟨g, w.heap.size, A', cap, 1024, (i : Int), sentL FS i, fun _ => none⟩ ((i : Int) % 7) ((i : Int) % 5) = 0 := by
        have h1 := ao_adr FS i
        unfold sendB
        rw [if_neg (by rw [show adB ((i : Int) % 7) = true from h1.1, show adB ((i : Int) % 5) = true from h1.2]; decide), if_neg (by rw [cutN_none]; decide), if_neg]
        show ¬ (1024 : Int) ≤ ((sentL FS i).length : Int)
        unfold sentL
        rw [List.length_map, List.length_range]
        have := HN.out
        omega
      have z1 : ((i : Int) + 1 != (i : Int) + 1) = false := by simp
      have HSB := Aside0.mk hsb
      have HCi := Aside0.mk c
      clear hsb c hs
      cases gk with
      | zero => exact absurd HK.out (by have := HCi.out; omega)
      | succ k1 =>
      go_wp2_with (first
        | (go_at_call 12; (with_reducible refine (send_calls w.heap.size ⟨g, w.heap.size, A', cap, 1024, (i : Int), sentL FS i, fun _ => none⟩ ((i : Int) % 7) ((i : Int) % 5) s _ HJ.out.inn HJ.out.below.size (Int.le_refl 1024) (by have := HN.out; have := HCi.out; exact ⟨by show (0 : Int) ≤ (i : Int); omega, by show (i : Int) ≤ _; omega⟩)).mono ?_); rintro e w3 ⟨rfl, A3, cap3, hd⟩; unfold sentOf lettersOf at hd; rw [HSB.out, if_pos rfl, if_pos rfl] at hd; rw [HSB.out, if_pos rfl]; have HI3 := Aside0.mk (HJ.out.done hd); clear hd)
        | (go_at_call 11; refine (num_calls _ _).mono ?_; rintro e w' ⟨rfl, rfl⟩))
      have HI4 : Aside0 ((⟨g, w.heap.size, A3, cap3, 1024, ((i + 1 : Nat) : Int), sentL FS (i + 1), fun _ => none⟩ : Pm).Own w w3) := ⟨by rw [sentL_succ, HSS.out]; exact HI3.out⟩
      clear HI3
      go_roundg k1
      case measure => have := HK.out; omega
      case rel => exact ⟨i + 1, A3, cap3, congrArg (Value.int .i64) (by omega), congrArg (Value.int .i64) (by omega), ⟨by have := HK.out; omega⟩, HI4⟩
    | false =>
      have c : ¬ i < N := fun e => by cases HBB.out.2 e
      clear HBB
      have hi : i = N := by have := HK.out; omega
      subst hi
      have HJ0 := HJ
      clear HK c HJ
      obtain ⟨i0, hi0, hz0, hz1, hz2⟩ := info_parts info4
      have HI4 := Aside0.mk (And.intro hi0 (And.intro hz0 (And.intro hz1 hz2)))
      clear hi0 hz0 hz1 hz2
      have own0 := Aside0.mk (World.ownsRow_nil wr w.heap.size 4 1)
      go_wp2_with fail
      go_loopg [11, 12] i (fun kq v11 v12 w' => ∃ (k : Nat) (As : Option Addr) (cs : Nat), v11 = .slice As k cs ∧ v12 = .int .i64 (k : Int) ∧ Aside0 (k + kq = i) ∧ Aside0 ((⟨g, w.heap.size, A', cap, 1024, (i : Int), sentL FS i, fun _ => none⟩ : Pm).Own w w') ∧ Aside0 (w'.ownsRow w.heap.size 4 1 (.slice As k cs) k ((List.replicate k false).map Value.bool)))
      case atStart => exact ⟨0, none, 0, rfl, rfl, ⟨by omega⟩, HJ0, own0⟩
      case round =>
        clear HJ0 own0
        obtain ⟨k, As, cs, rfl, rfl, HK, HJ, HO⟩ := hrel
        by_cases ck : (k : Int) < (i : Int)
        · cases gk with
          | zero => exact absurd HK.out (by omega)
          | succ k1 =>
          have cb : decide ((k : Int) < (i : Int)) = true := by simpa using ck
          have cb2 : decide (k < i) = true := by simp; omega
          have hwk : wrap64 ((k : Int) + 1) = (k : Int) + 1 := Go.IntWalk.wrap64_in _ (by have := HN.out; omega)
          have hone : ∀ u ∈ [Value.bool false], u.oneCell' = true := by intro u hu; simp at hu; subst hu; rfl
          have D := Aside0.mk (show k + 1 ≤ maxLen ∧ (k + 1) * 1 ≤ 140737488355328 from ⟨by unfold maxLen; have := HN.out; omega, by have := HN.out; omega⟩)
          have HOne := Aside0.mk hone
          have HRS := Aside0.mk (show (List.replicate k false).map Value.bool ++ [.bool false] = (List.replicate (k + 1) false).map Value.bool by rw [List.replicate_succ', List.map_append]; rfl)
          clear hone ck
          go_wp2_with (at_builtin; refine wpList_append_own_at _ rfl _ _ 31 rfl w.heap.size 4 i0 (.bool false) 1 1 Try.underlying31 HI4.out.1 HI4.out.2.1 HI4.out.2.2.1 HI4.out.2.2.2 rfl (by decide) (.slice As k cs) k ((List.replicate k false).map Value.bool) rfl (HO.out.alloc _) ⟨wr.heap.size, 0, none⟩ 1 1 [.bool false] rfl rfl (cell_one_new _ _ _) HOne.out D.out.1 D.out.2 (le_alloc HJ.out.below.size) ?_; intro v' w5 hown hgrow _ hat; obtain ⟨A5, c5, rfl⟩ := own_form hown; rw [rowB_own] at hgrow; rw [HRS.out] at hown; have HO5 := Aside0.mk hown; have HJ5 := Aside0.mk ((HJ.out.grow (below2a wr (.cells #[.bool false] 4))).grown hgrow ((HJ.out.grow (below2a wr (.cells #[.bool false] 4))).apart (HO.out.alloc _) (by decide) (by decide))); clear hown hgrow hat)
          go_roundg k1
          case measure => have := HK.out; omega
          case rel => exact ⟨k + 1, A5, c5, rfl, congrArg (Value.int .i64) (by omega), ⟨by have := HK.out; omega⟩, HJ5, HO5⟩
        · have cb : decide ((k : Int) < (i : Int)) = false := by simpa using ck
          have cb2 : decide (k < i) = false := by simp; omega
          have hk : k = i := by have := HK.out; omega
          subst hk
          clear HK ck
          have HF0 := Aside0.mk (Fly.start FS (decide (pl = 0)) k)
          have HJ0 := HJ
          have HO0 := HO
          clear HJ HO
          go_wp2_with fail
          go_loopg [13] k (fun kq v13 w' => ∃ (i : Nat) (A' : Option Addr) (cap : Nat) (L : List Lt) (bs : List Bool) (js : List Nat), v13 = .int .i64 (i : Int) ∧ Aside0 (i + kq = k) ∧ Aside0 ((⟨g, w.heap.size, A', cap, 1024, (k : Int), L, fun _ => none⟩ : Pm).Own w w') ∧ Aside0 (w'.ownsRow w.heap.size 4 1 (.slice As k cs) k (bs.map Value.bool)) ∧ Aside0 (Fly FS (decide (pl = 0)) k i L bs js))
          case atStart => exact ⟨0, A', cap, _, _, _, rfl, ⟨by omega⟩, HJ0, HO0, HF0⟩
          case round =>
            clear HJ0 HO0 HF0
            obtain ⟨i, A', cap, L, bs, js, rfl, HK, HJ, HO, HF⟩ := hrel
            have hkl : k ≤ 1024 := HN.out.2.1
            by_cases ci : (i : Int) < (k : Int)
            · cases gk with
              | zero => exact absurd HK.out (by omega)
              | succ k1 =>
              have cb : decide ((i : Int) < (k : Int)) = true := by simpa using ci
              have cb2 : decide (i < k) = true := by simp; omega
              go_upto_if 79 with fail
              go_cut [14] (fun v14 wx => (∃ a : Nat, v14 = .int .i64 (a : Int) ∧ Aside0 (a < k - i ∧ (pl = 0 → a = 0))) ∧ wr = wx)
              case first =>
                by_cases hp : pl = 0
                · have cp2 : decide (0 < pl) = false := decide_eq_false (by omega)
                  generalize decide (0 < pl) = bb at *
                  subst cp2
                  have ce := Aside0.mk (show 0 < k - i by omega)
                  clear hp ci
                  go_wp2_with fail
                  go_meet
                  exact ⟨⟨0, rfl, ⟨ce.out, fun _ => rfl⟩⟩, rfl⟩
                · have cp : decide (0 < (pl : Int)) = true := decide_eq_true (by omega)
                  have cp2 : decide (0 < pl) = true := decide_eq_true (by omega)
                  have hml : i % pl < pl := Nat.mod_lt _ (by omega)
                  obtain ⟨p, hps⟩ : ∃ p, ps[i % pl]? = some p := ⟨_, List.getElem?_eq_getElem (by rw [HPL.out]; exact hml)⟩
                  obtain ⟨a1, a2, a3, a4⟩ := atV_lt p (k - i) (by omega)
                  have hr1 : (i : Int) % (pl : Int) = ((i % pl : Nat) : Int) := by simp
                  have hs1 : wrap64 ((k : Int) - (i : Int)) = ((k - i : Nat) : Int) := by rw [Go.IntWalk.wrap64_in _ (by omega)]; omega
                  have hs2 : wrap64 (p.tmod ((k - i : Nat) : Int) + ((k - i : Nat) : Int)) = p.tmod ((k - i : Nat) : Int) + ((k - i : Nat) : Int) := Go.IntWalk.wrap64_in _ (by omega)
                  obtain ⟨m, hm⟩ : ∃ m, k - i = m := ⟨_, rfl⟩
                  have hm0 : 0 < m := by omega
                  generalize i % pl = ix at *
                  obtain ⟨ad, rfl, hx⟩ := HP.out.at_ HJ.out.below _ _ hps
                  have ce := Aside0.mk a1
                  rw [hm] at a2 hs1 hs2
                  have p2 : (0 ≤ (ix : Int)) = True := eq_true (by omega)
                  have p3 : ((ix : Int) < (pl : Int)) = True := eq_true (by omega)
                  have cz := Aside0.mk hp
                  have nz : ¬ (pl : Int) = 0 := by omega
                  have nz2 : ¬ (m : Int) = 0 := by omega
                  have HM := Aside0.mk hm
                  clear a1 a3 a4 hml hps ci hp hm
                  go_wp2_with fail
                  go_meet
                  exact ⟨⟨atV p m, rfl, ⟨by rw [← HM.out]; exact ce.out, fun e => absurd e cz.out⟩⟩, rfl⟩
              case rest =>
              obtain ⟨⟨a, rfl, HAT⟩, rfl⟩ := hcut
              have hjl := HF.out.len
              obtain ⟨j, hj⟩ : ∃ j, js[a]? = some j := ⟨_, List.getElem?_eq_getElem (by have := HAT.out.1; omega)⟩
              have hseen := HF.out.seen j (List.mem_of_getElem? hj)
              have hy : L[a]? = some (ao FS j) := by rw [HF.out.L, List.getElem?_map, hj]; rfl
              have hll : L.length ≤ 1024 := by rw [HF.out.L, List.length_map]; omega
              obtain ⟨s, hs⟩ : ∃ s, FS[j]? = some s := ⟨_, List.getElem?_eq_getElem (show j < FS.length by have := HN.out.1; have := hseen.1; omega)⟩
              have hao : ao FS j = ⟨(j : Int) + 1, (j : Int) % 7, (j : Int) % 5, s⟩ := by unfold ao; rw [List.getD_eq_getElem?_getD, hs]; rfl
              have hadr := ao_adr FS j
              rw [hao] at hy hadr
              have HY := Aside0.mk hy
              have HADR := Aside0.mk hadr
              have HLL := Aside0.mk hll
              have HSN := Aside0.mk hseen
              have HSS := Aside0.mk hs
              have HJS := Aside0.mk hj
              clear hjl hy hadr hll hseen hs hj hao ci
              go_wp2_with (go_at_call 13; (with_reducible refine (deliver_ok w.heap.size ⟨g, w.heap.size, A', cap, 1024, (k : Int), L, fun _ => none⟩ a ⟨(j : Int) + 1, (j : Int) % 7, (j : Int) % 5, s⟩ _ HJ.out.inn HY.out HLL.out HADR.out.1 HADR.out.2 (by rw [cutN_none]; decide)).mono ?_); rintro e w3 ⟨rfl, A3, cap3, hd⟩; have HD := Aside0.mk hd; clear hd)
              have hJ3 := HJ.out.done HD.out
              have hO3 := ownsRow_keep HO.out (fun q hq => HD.out.fr.block q (ownsRow_lt HO.out q hq).2 ((HJ.out.apart HO.out (by decide) (by decide)) q hq).2)
              have HJ4 := Aside0.mk (hJ3.grow (below2a w3 (.cells #[.int .i64 ((j : Int) + 1), .int .i64 ((j : Int) % 7), .int .i64 ((j : Int) % 5), .string s] 33)))
              have HO4 := Aside0.mk (hO3.alloc (.cells #[.int .i64 ((j : Int) + 1), .int .i64 ((j : Int) % 7), .int .i64 ((j : Int) % 5), .string s] 33))
              have HX4 := Aside0.mk (blk_new w3 (.cells #[.int .i64 ((j : Int) + 1), .int .i64 ((j : Int) % 7), .int .i64 ((j : Int) % 5), .string s] 33))
              clear hJ3 hO3 HD HJ HO
              generalize w3.heap.size = d at *
              generalize w3.alloc (.cells #[.int .i64 ((j : Int) + 1), .int .i64 ((j : Int) % 7), .int .i64 ((j : Int) % 5), .string s] 33) = w4 at *
              obtain ⟨q, hq⟩ := ownsRow_addr HO4.out (show 0 < k by have := HSN.out.1; omega)
              subst hq
              obtain ⟨ad, rfl, hx⟩ := HA.out.at_ HJ4.out.below j s HSS.out
              have hsc : w4.cell? ⟨q, j, none⟩ = some (.bool false) := by
                rw [HO4.out.cellAt j (by have := HSN.out.1; omega), List.getElem?_map, HSN.out.2]
                rfl
              have e0 := blk_cell HX4.out 0
              have e1 := blk_cell HX4.out 1
              have e2 := blk_cell HX4.out 2
              have e3 := blk_cell HX4.out 3
              have hw1 : IntKind.i64.wrap ((j : Int) + 1 - 1) = (j : Int) := by rw [i64_w, Go.IntWalk.wrap64_in _ (by have := HSN.out.1; omega)]; omega
              have hw2 : wrap64 ((j : Int) + 1 - 1) = (j : Int) := by rw [Go.IntWalk.wrap64_in _ (by have := HSN.out.1; omega)]; omega
              have hw3 : IntKind.i64.wrap (j : Int) = (j : Int) := by rw [i64_w, Go.IntWalk.wrap64_in _ (by have := HSN.out.1; omega)]
              have hw4 : wrap64 (j : Int) = (j : Int) := Go.IntWalk.wrap64_in _ (by have := HSN.out.1; omega)
              have p2 : (0 ≤ (j : Int)) = True := eq_true (by omega)
              have p3 : ((j : Int) < (k : Int)) = True := eq_true (by have := HSN.out.1; omega)
              have p4 : ((j : Int) < (FS.length : Int)) = True := eq_true (by have := HSN.out.1; have := HN.out.1; omega)
              have b1 : decide ((j : Int) + 1 < 1) = false := decide_eq_false (by omega)
              have b2 : decide ((k : Int) < (j : Int) + 1) = false := decide_eq_false (by have := HSN.out.1; omega)
              have r7 : (j : Int).tmod 7 = (j : Int) % 7 := Int.tmod_eq_emod_of_nonneg (by omega)
              have r5 : (j : Int).tmod 5 = (j : Int) % 5 := Int.tmod_eq_emod_of_nonneg (by omega)
              have z7 : ((j : Int) % 7 != (j : Int) % 7) = false := by simp
              have z5 : ((j : Int) % 5 != (j : Int) % 5) = false := by simp
              have zs : (s != s) = false := by have := (MapKept.bytes_beq s s).2 rfl; simp [bne, this]
              go_quiet ((go_at_call 11; exact Calls.quiet_of_same (num_same _ _)))
              have HJ5 := Aside0.mk (HJ4.out.grow (below_drewN w4 nq))
              have HO5 := Aside0.mk (pw_own_drewN HO4.out nq)
              have HX5 := Aside0.mk (show (w4.drewN nq).heap[d]? = some (.cells #[.int .i64 ((j : Int) + 1), .int .i64 ((j : Int) % 7), .int .i64 ((j : Int) % 5), .string s] 33 (0, 0)) from HX4.out)
              clear e0 e1 e2 e3 hx hsc HJ4 HO4 HX4
              generalize w4.drewN nq = w5 at *
              have e0 := blk_cell HX5.out 0
              have hsc : w5.cell? ⟨q, j, none⟩ = some (.bool false) := by
                rw [HO5.out.cellAt j (by have := HSN.out.1; omega), List.getElem?_map, HSN.out.2]
                rfl
              have hsf := HO5.out.frozenAt j
              obtain ⟨hst, hgr⟩ := HO5.out.stored j (.bool true)
              have HO6 : Aside0 ((w5.setCell ⟨q, j, none⟩ (.bool true)).ownsRow w.heap.size 4 1 (.slice (some ⟨q, 0, none⟩) k cs) k ((bs.set j true).map Value.bool)) := ⟨by rw [List.map_set]; exact hst⟩
              have HJ6 := Aside0.mk (HJ5.out.grown hgr (HJ5.out.apart HO5.out (by decide) (by decide)))
              have HF6 := Aside0.mk (HF.out.next a j HJS.out (fun e => HAT.out.2 (by simpa using e)))
              clear hst hgr
              have hwi : wrap64 ((i : Int) + 1) = (i : Int) + 1 := Go.IntWalk.wrap64_in _ (by have := HK.out; omega)
              have HCI := Aside0.mk (show Value.int .i64 (wrap64 ((i : Int) + 1)) = .int .i64 ((i + 1 : Nat) : Int) from congrArg _ (by rw [hwi]; omega))
              have HK6 := Aside0.mk (show i + 1 + k1 = k by have := HK.out; omega)
              by_cases hp : pl = 0
              · have hji : j = i := by
                  have h1 := HJS.out
                  rw [HAT.out.2 hp, HF.out.ord (by simpa using hp)] at h1
                  obtain ⟨h2, h3⟩ := List.getElem?_eq_some_iff.1 h1
                  rw [List.getElem_range'] at h3
                  omega
                have pz : ((pl : Int) == 0) = true := by simp; omega
                have zj : ((j : Int) + 1 != (i : Int) + 1) = false := by simp; omega
                have zj2 : ((j : Int) != (i : Int)) = false := by simp; omega
                clear hp hji
                go_wp2_with fail
                go_roundg k1
                case measure => have := HK.out; omega
                case rel => exact ⟨i + 1, A3, cap3, L.eraseIdx a, bs.set j true, js.eraseIdx a, HCI.out, HK6, HJ6, HO6, HF6⟩
              · have pz : ((pl : Int) == 0) = false := by simp; omega
                clear hp
                go_wp2_with fail
                go_roundg k1
                case measure => have := HK.out; omega
                case rel => exact ⟨i + 1, A3, cap3, L.eraseIdx a, bs.set j true, js.eraseIdx a, HCI.out, HK6, HJ6, HO6, HF6⟩
            · have cb : decide ((i : Int) < (k : Int)) = false := decide_eq_false ci
              have cb2 : decide (i < k) = false := decide_eq_false (by omega)
              have hjl := HF.out.len
              have hj0 : js = [] := List.eq_nil_of_length_eq_zero (by have := HK.out; omega)
              have hL0 : L = [] := by rw [HF.out.L, hj0]; rfl
              subst hL0
              clear hj0 hjl ci
              go_wp2_with (first
                | (go_at_call 13; (with_reducible refine (deliver_no w.heap.size ⟨g, w.heap.size, A', cap, 1024, (k : Int), [], fun _ => none⟩ 0 _ HJ.out.inn rfl).mono ?_); rintro e w3 ⟨rfl, A3, cap3, hd⟩; have HJ3 := Aside0.mk ((HJ.out.done hd).grow (below2a w3 (.cells #[.int .i64 0, .int .i64 0, .int .i64 0, .string ⟨#[]⟩] 33))); clear hd)
                | (go_at_call 14; (with_reducible refine (count_calls w.heap.size ⟨g, w.heap.size, A3, cap3, 1024, (k : Int), [], fun _ => none⟩ _ HJ3.out.inn).mono ?_); rintro e w' ⟨rfl, rfl⟩)
                | (go_at_call 11; refine (num_calls _ _).mono ?_; rintro e w' ⟨rfl, rfl⟩))
              go_ret
              exact ⟨rfl, HJ3.out.below⟩

end Go.Proofs.Ytadbcekglcmccaa.Q
