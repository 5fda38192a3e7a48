-- written by a program of this session (wip/tools), out of the translation; Lean checks it
import Derived.Test.YtkfhedppnlocpaaE9
import Derived.Test.YtkfhedppnlocpaaQx0
import Derived.Test.YtkfhedppnlocpaaQx8
namespace Go.Proofs.Ytkfhedppnlocpaa.Q
open Go.RowKit Go.Proofs.YtkfhedppnlocpaaW.PrintWords Go.Proofs.YtkfhedppnlocpaaW.PrintLast Go.Proofs.YtkfhedppnlocpaaW.PrintMore
attribute [local go_sem] max2_int min2_int max_two min_two max_three min_three max_four min_four leq_str gtr_str geq_str   -- for this text's walks alone
set_option linter.unusedVariables false
set_option linter.unusedSimpArgs false

/-! ### granarylaw3_putGroup: function 75 -/
mutual
def granarylaw3_putGroup.l0 : Nat → List (S80) → ByteArray → List (S80) → Bool → Int → ByteArray → ByteArray → Option ((List (S80)))
  | 0, _, _, _, _, _, _, _ => none
  | k + 1, x0, x1, x7, x8, x9, x313000, x313001 => if x9 < (x0.length : Int) then (if x8 = true then (granarylaw3_putGroup.j1 k x0 x1 x7 x8 x9 false x313000 x313001) else (if 0 ≤ x9 then (granarylaw3_putGroup.j1 k x0 x1 x7 x8 x9 (!(Op.bytesLess (((rd_T80 x0 x9).f0).toList) x1.toList)) x313000 x313001) else (none))) else (if x8 = true then (some x7) else (if x7.length < 3518437208883 then (some (x7 ++ [(⟨x1, (([(⟨x313000, x313001⟩ : S94)] : List (S94)))⟩ : S80)])) else (none)))
def granarylaw3_putGroup.j1 : Nat → List (S80) → ByteArray → List (S80) → Bool → Int → Bool → ByteArray → ByteArray → Option ((List (S80)))
  | 0, _, _, _, _, _, _, _, _ => none
  | k + 1, x0, x1, x7, x8, x9, x27, x313000, x313001 => if x27 = true then (if 0 ≤ x9 then (if x9 < (x0.length : Int) then (if x1.toList = ((rd_T80 x0 x9).f0).toList then ((granarylaw3_putPair.f k ((rd_T80 x0 x9).f1) x313000 x313001).bind fun t325 => (if x7.length < 3518437208883 then ((some (x7 ++ [(⟨x1, t325⟩ : S80)] : List (S80))).bind fun y328 => (if ((rd_T80 x0 x9).f0).toList = x1.toList then (granarylaw3_putGroup.l0 k x0 x1 y328 true (wrap64 (x9 + 1)) x313000 x313001) else (if y328.length < 3518437208883 then (granarylaw3_putGroup.l0 k x0 x1 (y328 ++ [(⟨(rd_T80 x0 x9).f0, (rd_T80 x0 x9).f1⟩ : S80)]) true (wrap64 (x9 + 1)) x313000 x313001) else (none)))) else (none))) else (if x7.length < 3518437208883 then ((some (x7 ++ [(⟨x1, (([(⟨x313000, x313001⟩ : S94)] : List (S94)))⟩ : S80)] : List (S80))).bind fun y336 => (if ((rd_T80 x0 x9).f0).toList = x1.toList then (granarylaw3_putGroup.l0 k x0 x1 y336 true (wrap64 (x9 + 1)) x313000 x313001) else (if y336.length < 3518437208883 then (granarylaw3_putGroup.l0 k x0 x1 (y336 ++ [(⟨(rd_T80 x0 x9).f0, (rd_T80 x0 x9).f1⟩ : S80)]) true (wrap64 (x9 + 1)) x313000 x313001) else (none)))) else (none))) else (none)) else (none)) else (if 0 ≤ x9 then (if x9 < (x0.length : Int) then (if ((rd_T80 x0 x9).f0).toList = x1.toList then (granarylaw3_putGroup.l0 k x0 x1 x7 x8 (wrap64 (x9 + 1)) x313000 x313001) else (if x7.length < 3518437208883 then (granarylaw3_putGroup.l0 k x0 x1 (x7 ++ [(⟨(rd_T80 x0 x9).f0, (rd_T80 x0 x9).f1⟩ : S80)]) x8 (wrap64 (x9 + 1)) x313000 x313001) else (none))) else (none)) else (none))
end
def granarylaw3_putGroup.f (k : Nat) (l0 : List (S80)) (a1 : ByteArray) (a2_0 : ByteArray) (a2_1 : ByteArray) : Option ((List (S80))) := granarylaw3_putGroup.l0 k l0 a1 ([] : List (S80)) false 0 a2_0 a2_1
def granarylaw3_putGroup.T9 : Bool × List (List Nat × List Nat) := (true, [([], []), ([], []), ([0, 1], [0, 1]), ([2], [2]), ([3], [3]), ([], []), ([4, 5], [4, 5]), ([6, 6, 0, 1, 2, 3, 4, 5, 6], [6])])
def granarylaw3_putGroup.B9 : List Nat := [0, 0, 3, 7, 15, 0, 63, 127]
theorem granarylaw3_putGroup.tab9 : rtab .any (opsOf Try.f75 9) = granarylaw3_putGroup.T9 := by kernel_rfl
theorem granarylaw3_putGroup.bits9 : waitsOk granarylaw3_putGroup.T9.2 granarylaw3_putGroup.B9 = true := by kernel_rfl
set_option maxHeartbeats 8000000 in
set_option maxRecDepth 100000 in
theorem granarylaw3_putGroup.calls (k : Nat) (P0_ : Nat → Prop) (A0 : Option Addr) (c0 : Nat) (l0 : List (S80)) (a1 : ByteArray) (a2_0 : ByteArray) (a2_1 : ByteArray) (r : List (S80)) (w : World) (hs0 : Kd.V k80 80 w w.heap.size (fun k_ => P0_ k_) (.slice A0 l0.length c0) l0) (h : granarylaw3_putGroup.f k l0 a1 a2_0 a2_1 = some r) :
    Calls Try.prog 75 #[.slice A0 l0.length c0, .string a1, .agg #[.string a2_0, .string a2_1]] w fun e w' => ∃ v0_ : Value, e = .returned (v0_) ∧ Kd.N k80 80 w' w.heap.size (fun k_ => (P0_ k_ ∨ w.heap.size ≤ k_)) v0_ r ∧ Below w.heap.size w w' := by
  have hu94 := Try.underlying94
  have hu80 := Try.underlying80
  have HO0 := Aside0.mk (show Kd.V k80 80 w w.heap.size (fun k_ => (P0_ k_ ∨ w.heap.size ≤ k_)) (.slice A0 l0.length c0) l0 from Kd.V_mono hs0 (fun k_ hk => .inl hk))
  have HB := Aside0.mk (Below.refl w.heap.size w)
  have H : (granarylaw3_putGroup.l0 k l0 a1 ([] : List (S80)) false 0 a2_0 a2_1) = some r := h
  clear h
  have H' := Aside0.mk H
  clear H
  go_enter Try.func75, Try.ntmps75
  go_wp2_with (first | ((with_reducible refine gate_dst (N := 5) rfl ?_); refine box_event ?hg (N := 5) ?hd (cs := #[.string a2_0, .string a2_1]) (t := 94) ?hr ?_; (case hd => rfl); (case hg => rfl); (case hr => first | (go_simp; done) | (go_simp; rfl)); intro gb312 hg w4 hbox hb; have n0_ := Aside0.mk (Kd.V_below (Kd.V_elderB (by (with_reducible repeat (first | apply Kd.V_alloc | apply Kd.V_drewN | apply Kd.V_drew)); exact HO0.out) gb312 (Nat.le_of_eq hg.symm)) hb); have n1_ := Aside0.mk (below_step (by repeat (first | (with_reducible first | exact HB.out | apply below_alloc | apply pw_below_drewN | apply below_drew1) | exact HB.out)) hb); have n2_ := Aside0.mk (hbox); have n3_ := Aside0.mk ((by rw [hg]; exact (below_size (by repeat (first | (with_reducible first | exact HB.out | apply below_alloc | apply pw_below_drewN | apply below_drew1) | exact HB.out))) : w.heap.size ≤ gb312)); have n4_ := Aside0.mk ((by rw [hg]; exact (below_size (by repeat (first | (with_reducible first | exact HB.out | apply below_alloc | apply pw_below_drewN | apply below_drew1) | exact HB.out))) : w.heap.size ≤ gb312)); clear HO0; clear HB; have HO0 := n0_; have HB := n1_; have BK312 := n2_; have GW312 := n3_; have GE312 := n4_; clear n0_ n1_ n2_ n3_ n4_; clear hb hbox hg))
  go_loopg [7, 8, 9] k (fun kq v7 v8 v9 w' => ∃ (x7_1 : List (S80)) (x8_1 : Bool) (x9_1 : Int), v8 = .bool x8_1 ∧ v9 = .int .i64 x9_1 ∧ Aside0 (granarylaw3_putGroup.l0 kq l0 a1 x7_1 x8_1 x9_1 a2_0 a2_1 = some r) ∧ Aside0 (kq ≤ k) ∧ Aside0 (Kd.V k80 80 w' w.heap.size (fun k_ => (P0_ k_ ∨ w.heap.size ≤ k_) ∧ some k_ ≠ (v7 : Value).ownBlock ∧ k_ ≠ gb312) (.slice A0 l0.length c0) l0) ∧ Aside0 (Kd.N k80 80 w' w.heap.size (fun k_ => (P0_ k_ ∨ w.heap.size ≤ k_) ∧ k_ ≠ gb312) v7 x7_1) ∧ Aside0 (w'.heap[gb312]? = some (.cells #[.string a2_0, .string a2_1] 94 (0, 0))) ∧ Aside0 (Below w.heap.size w w'))
  case atStart => exact ⟨(([] : List (S80))), (false), (0), (by first | rfl | exact congrArg Value.bool (bl_total _ _) | (simp; done) | (simp [*]; done)), (by first | rfl | exact congrArg Value.bool (bl_total _ _) | (simp; done) | (simp [*]; done)), H', ⟨Nat.le_refl _⟩, ⟨by (with_reducible repeat (first | apply Kd.V_alloc | apply Kd.V_drewN | apply Kd.V_drew)); exact Kd.V_mono HO0.out (fun _ hk => ⟨hk.1, ⟨(by simp [Value.ownBlock]), hk.2⟩⟩)⟩, ⟨by first | exact Kd.S_nil _ _ _ _ _ | exact Kd.N_nil _ _ _ _ _ | exact Kd.V_nil _ _ _ _ _ | exact Kd.Q_nil _ _ _ _ _ | exact Kd.R_nil _ _ _ _ _⟩, ⟨by (with_reducible repeat (first | refine blk_drewN ?_ _ | refine blk_drew ?_ | refine blk_alloc ?_ _)); exact BK312.out⟩, ⟨by repeat (first | (with_reducible first | exact HB.out | apply below_alloc | apply pw_below_drewN | apply below_drew1 | refine below_set ?_ GE312.out) | exact HB.out)⟩⟩
  case round =>
    clear H'
    try clear p2
    obtain ⟨x7_1, x8_1, x9_1, rfl, rfl, HA, HK1, HO_0, HO_7, BK312, HB⟩ := hrel
    cases gk with
    | zero => exact absurd HA.out (by simp [granarylaw3_putGroup.l0])
    | succ k1 =>
      have H := HA.out
      clear HA
      simp only [granarylaw3_putGroup.l0] at H
      by_cases c5 : x9_1 < (l0.length : Int)
      · rw [if_pos c5] at H
        have c5b0 : decide (x9_1 < (l0.length : Int)) = true := decide_eq_true c5
        clear c5
        have HC6 := Aside0.mk H
        clear H
        go_upto_region 6 with (fail)
        go_cut [27] (fun v27 wc => ∃ (kq : Nat) (x27_5 : Bool), v27 = .bool x27_5 ∧ Aside0 (granarylaw3_putGroup.j1 kq l0 a1 x7_1 x8_1 x9_1 x27_5 a2_0 a2_1 = some r) ∧ Aside0 (kq ≤ k1) ∧ Aside0 (Kd.V k80 80 wc w.heap.size (fun k_ => (P0_ k_ ∨ w.heap.size ≤ k_) ∧ some k_ ≠ (u7 : Value).ownBlock ∧ k_ ≠ gb312) (.slice A0 l0.length c0) l0) ∧ Aside0 (Kd.N k80 80 wc w.heap.size (fun k_ => (P0_ k_ ∨ w.heap.size ≤ k_) ∧ k_ ≠ gb312) u7 x7_1) ∧ Aside0 (wc.heap[gb312]? = some (.cells #[.string a2_0, .string a2_1] 94 (0, 0))) ∧ Aside0 (Below w.heap.size w wc))
        case first =>
          have H := HC6.out
          clear HC6
          by_cases c7 : x8_1 = true
          · subst c7
            have H1 : (granarylaw3_putGroup.j1 k1 l0 a1 x7_1 true x9_1 false a2_0 a2_1) = some r := by rw [if_pos rfl] at H; exact H
            clear H
            have H := H1
            clear H1
            have H' := Aside0.mk H
            clear H
            go_wp2
            go_meet
            case rel => exact ⟨_, (false), (by first | rfl | exact congrArg Value.bool (bl_total _ _) | (simp; done) | (simp [*]; done)), H', ⟨by have := HK1.out; first | omega | exact Nat.le_refl _⟩, ⟨by (with_reducible repeat (first | apply Kd.V_alloc | apply Kd.V_drewN | apply Kd.V_drew)); exact HO_0.out⟩, ⟨by (with_reducible repeat (first | apply Kd.N_alloc | apply Kd.N_drewN | apply Kd.N_drew)); exact HO_7.out⟩, ⟨by (with_reducible repeat (first | refine blk_drewN ?_ _ | refine blk_drew ?_ | refine blk_alloc ?_ _)); exact BK312.out⟩, ⟨by repeat (first | (with_reducible first | exact HB.out | apply below_alloc | apply pw_below_drewN | apply below_drew1 | refine below_set ?_ GE312.out) | exact HB.out)⟩⟩
          · replace c7 := Bool.eq_false_iff.mpr c7
            subst c7
            have H1 : (if 0 ≤ x9_1 then (granarylaw3_putGroup.j1 k1 l0 a1 x7_1 false x9_1 (!(Op.bytesLess (((rd_T80 l0 x9_1).f0).toList) a1.toList)) a2_0 a2_1) else (none)) = some r := by rw [if_neg (show ¬ (false = true) by decide)] at H; exact H
            clear H
            have H := H1
            clear H1
            by_cases c8 : 0 ≤ x9_1
            · rw [if_pos c8] at H
              have c8b0 : decide (0 ≤ x9_1) = true := decide_eq_true c8
              clear c8
              (first | rw [c8b0] | (simp only [i64_w, i32_w]; rw [c8b0]) | skip)
              have H' := Aside0.mk H
              clear H
              have p319 : 0 ≤ (x9_1 : Int) := of_decide_eq_true (by first | (with_reducible assumption) | assumption)
              have q319 : x9_1 < (l0.length : Int) := of_decide_eq_true (by first | (with_reducible assumption) | assumption)
              obtain ⟨ad319, A319_1, c319_1, e319, hx319_0, hx319_1, hl319_1, hi319_1⟩ := at_T80 (Kd.V_reads' HO_0.out).2.2 x9_1 p319 q319
              cases e319
              obtain ⟨ce319, hce319, hMe319, hcc319⟩ := Kd.V_get HO_0.out z80 x9_1 p319 (by first | exact q319 | exact of_decide_eq_true (by first | (with_reducible assumption) | assumption) | (have e_ := (Kd.V_reads' HO_0.out).1; omega))
              obtain ⟨ua319_1, uc319_1, rfl, ul319_1, ge319_1⟩ := k80_openF hMe319
              have hv319_1 := hcc319 1 _ rfl
              rw [add_field _ _ 1 (by omega)] at hv319_1
              replace hv319_1 := Option.some.inj (hv319_1.symm.trans hx319_1)
              injection hv319_1 with hva_ hvn_ hvc_
              rw [hva_] at ge319_1
              rw [hvc_] at ul319_1
              have HL319_1 := Aside0.mk (show Kd.V k94 94 _ w.heap.size _ _ ((rd_T80 l0 x9_1).f1) from Kd.V_mk ul319_1 ge319_1)
              clear hva_ hvn_ hvc_ ge319_1 ul319_1
              clear hcc319 hce319
              have HR319_1 := Aside0.mk hi319_1
              have HC319_1 := Aside0.mk hl319_1
              clear hi319_1 hl319_1
              replace p319 := eq_true p319
              replace q319 := eq_true q319
              go_wp2
              go_meet
              case rel => exact ⟨_, (!(Op.bytesLess (((rd_T80 l0 x9_1).f0).toList) a1.toList)), (by first | rfl | exact congrArg Value.bool (bl_total _ _) | (simp; done) | (simp [*]; done)), H', ⟨by have := HK1.out; first | omega | exact Nat.le_refl _⟩, ⟨by (with_reducible repeat (first | apply Kd.V_alloc | apply Kd.V_drewN | apply Kd.V_drew)); exact HO_0.out⟩, ⟨by (with_reducible repeat (first | apply Kd.N_alloc | apply Kd.N_drewN | apply Kd.N_drew)); exact HO_7.out⟩, ⟨by (with_reducible repeat (first | refine blk_drewN ?_ _ | refine blk_drew ?_ | refine blk_alloc ?_ _)); exact BK312.out⟩, ⟨by repeat (first | (with_reducible first | exact HB.out | apply below_alloc | apply pw_below_drewN | apply below_drew1 | refine below_set ?_ GE312.out) | exact HB.out)⟩⟩
            · rw [if_neg c8] at H
              exact absurd H (by simp)
        case rest =>
          clear HC6
          try clear p2
          try clear c3
          try clear p3
          try clear q3
          try clear hx3
          try clear c5
          try clear c5b0
          try clear c7
          try clear c8
          try clear c8b0
          try clear hx319_0
          try clear hx319_1
          try clear p2
          try clear p319
          try clear q319
          obtain ⟨kq, x27_5, rfl, HA, HJ5, HO_0, HO_7, BK312, HB⟩ := hcut
          cases kq with
          | zero => exact absurd HA.out (by simp [granarylaw3_putGroup.j1])
          | succ kj5 =>
            have H := HA.out
            clear HA
            simp only [granarylaw3_putGroup.j1] at H
            by_cases c9 : x27_5 = true
            · subst c9
              have H1 : (if 0 ≤ x9_1 then (if x9_1 < (l0.length : Int) then (if a1.toList = ((rd_T80 l0 x9_1).f0).toList then ((granarylaw3_putPair.f kj5 ((rd_T80 l0 x9_1).f1) a2_0 a2_1).bind fun t325 => (if x7_1.length < 3518437208883 then ((some (x7_1 ++ [(⟨a1, t325⟩ : S80)] : List (S80))).bind fun y328 => (if ((rd_T80 l0 x9_1).f0).toList = a1.toList then (granarylaw3_putGroup.l0 kj5 l0 a1 y328 true (wrap64 (x9_1 + 1)) a2_0 a2_1) else (if y328.length < 3518437208883 then (granarylaw3_putGroup.l0 kj5 l0 a1 (y328 ++ [(⟨(rd_T80 l0 x9_1).f0, (rd_T80 l0 x9_1).f1⟩ : S80)]) true (wrap64 (x9_1 + 1)) a2_0 a2_1) else (none)))) else (none))) else (if x7_1.length < 3518437208883 then ((some (x7_1 ++ [(⟨a1, (([(⟨a2_0, a2_1⟩ : S94)] : List (S94)))⟩ : S80)] : List (S80))).bind fun y336 => (if ((rd_T80 l0 x9_1).f0).toList = a1.toList then (granarylaw3_putGroup.l0 kj5 l0 a1 y336 true (wrap64 (x9_1 + 1)) a2_0 a2_1) else (if y336.length < 3518437208883 then (granarylaw3_putGroup.l0 kj5 l0 a1 (y336 ++ [(⟨(rd_T80 l0 x9_1).f0, (rd_T80 l0 x9_1).f1⟩ : S80)]) true (wrap64 (x9_1 + 1)) a2_0 a2_1) else (none)))) else (none))) else (none)) else (none)) = some r := by rw [if_pos rfl] at H; exact H
              clear H
              have H := H1
              clear H1
              obtain ⟨y320, hy320⟩ : ∃ y_ : List (S94), y_ = (([(⟨a2_0, a2_1⟩ : S94)] : List (S94))) := ⟨_, rfl⟩
              replace H : (if 0 ≤ x9_1 then (if x9_1 < (l0.length : Int) then (if a1.toList = ((rd_T80 l0 x9_1).f0).toList then ((granarylaw3_putPair.f kj5 ((rd_T80 l0 x9_1).f1) a2_0 a2_1).bind fun t325 => (if x7_1.length < 3518437208883 then ((some (x7_1 ++ [(⟨a1, t325⟩ : S80)] : List (S80))).bind fun y328 => (if ((rd_T80 l0 x9_1).f0).toList = a1.toList then (granarylaw3_putGroup.l0 kj5 l0 a1 y328 true (wrap64 (x9_1 + 1)) a2_0 a2_1) else (if y328.length < 3518437208883 then (granarylaw3_putGroup.l0 kj5 l0 a1 (y328 ++ [(⟨(rd_T80 l0 x9_1).f0, (rd_T80 l0 x9_1).f1⟩ : S80)]) true (wrap64 (x9_1 + 1)) a2_0 a2_1) else (none)))) else (none))) else (if x7_1.length < 3518437208883 then ((some (x7_1 ++ [(⟨a1, y320⟩ : S80)] : List (S80))).bind fun y336 => (if ((rd_T80 l0 x9_1).f0).toList = a1.toList then (granarylaw3_putGroup.l0 kj5 l0 a1 y336 true (wrap64 (x9_1 + 1)) a2_0 a2_1) else (if y336.length < 3518437208883 then (granarylaw3_putGroup.l0 kj5 l0 a1 (y336 ++ [(⟨(rd_T80 l0 x9_1).f0, (rd_T80 l0 x9_1).f1⟩ : S80)]) true (wrap64 (x9_1 + 1)) a2_0 a2_1) else (none)))) else (none))) else (none)) else (none)) = some r := by first | (rw [hy320]; with_reducible exact H) | (have H2_ := (Option.bind_some _ _).symm.trans H; rw [hy320]; with_reducible exact H2_) | (have H2_ := (Option.bind_some _ _).symm.trans H; with_reducible exact H2_) | with_reducible exact H | (rw [hy320]; exact H) | exact H
              have Ny320 := Aside0.mk hy320
              clear hy320
              by_cases c10 : 0 ≤ x9_1
              · rw [if_pos c10] at H
                have c10b0 : decide (0 ≤ x9_1) = true := decide_eq_true c10
                clear c10
                by_cases c11 : x9_1 < (l0.length : Int)
                · rw [if_pos c11] at H
                  have c11b0 : decide (x9_1 < (l0.length : Int)) = true := decide_eq_true c11
                  clear c11
                  by_cases c12 : a1.toList = ((rd_T80 l0 x9_1).f0).toList
                  · rw [if_pos c12] at H
                    have c12b0 : (a1.toList == ((rd_T80 l0 x9_1).f0).toList) = true := beq_iff_eq.mpr c12
                    have c12b1 : (a1.toList != ((rd_T80 l0 x9_1).f0).toList) = false := bne_eq_false_iff_eq.mpr c12
                    clear c12
                    replace H := Option.bind_eq_some_iff.mp H
                    obtain ⟨t325, A130, H⟩ := H
                    replace H : (if x7_1.length < 3518437208883 then ((some (x7_1 ++ [(⟨a1, t325⟩ : S80)] : List (S80))).bind fun y328 => (if ((rd_T80 l0 x9_1).f0).toList = a1.toList then (granarylaw3_putGroup.l0 kj5 l0 a1 y328 true (wrap64 (x9_1 + 1)) a2_0 a2_1) else (if y328.length < 3518437208883 then (granarylaw3_putGroup.l0 kj5 l0 a1 (y328 ++ [(⟨(rd_T80 l0 x9_1).f0, (rd_T80 l0 x9_1).f1⟩ : S80)]) true (wrap64 (x9_1 + 1)) a2_0 a2_1) else (none)))) else (none)) = some r := H
                    have A13 := Aside0.mk A130
                    clear A130
                    by_cases c14 : x7_1.length < 3518437208883
                    · rw [if_pos c14] at H
                      have LMc14 := Aside0.mk c14
                      clear c14
                      obtain ⟨y328, hy328⟩ : ∃ y_ : List (S80), y_ = (x7_1 ++ [(⟨a1, t325⟩ : S80)]) := ⟨_, rfl⟩
                      replace H : (if ((rd_T80 l0 x9_1).f0).toList = a1.toList then (granarylaw3_putGroup.l0 kj5 l0 a1 y328 true (wrap64 (x9_1 + 1)) a2_0 a2_1) else (if y328.length < 3518437208883 then (granarylaw3_putGroup.l0 kj5 l0 a1 (y328 ++ [(⟨(rd_T80 l0 x9_1).f0, (rd_T80 l0 x9_1).f1⟩ : S80)]) true (wrap64 (x9_1 + 1)) a2_0 a2_1) else (none))) = some r := by first | (rw [hy328]; with_reducible exact H) | (have H2_ := (Option.bind_some _ _).symm.trans H; rw [hy328]; with_reducible exact H2_) | (have H2_ := (Option.bind_some _ _).symm.trans H; with_reducible exact H2_) | with_reducible exact H | (rw [hy328]; exact H) | exact H
                      have Ny328 := Aside0.mk hy328
                      clear hy328
                      by_cases c15 : ((rd_T80 l0 x9_1).f0).toList = a1.toList
                      · rw [if_pos c15] at H
                        have c15b0 : (((rd_T80 l0 x9_1).f0).toList == a1.toList) = true := beq_iff_eq.mpr c15
                        have c15b1 : (((rd_T80 l0 x9_1).f0).toList != a1.toList) = false := bne_eq_false_iff_eq.mpr c15
                        clear c15
                        have H' := Aside0.mk H
                        clear H
                        have hcz16_0 : wc.cell? ⟨gb312, 0, none⟩ = some (.string a2_0) := (blk_cell BK312.out 0).trans rfl
                        have hcz16_1 : wc.cell? ⟨gb312, 1, none⟩ = some (.string a2_1) := (blk_cell BK312.out 1).trans rfl
                        have hfz16_0 := blk_frozen BK312.out 0
                        have hfz16_1 := blk_frozen BK312.out 1
                        try go_wp2_with (first | ((with_reducible refine gate_dst (N := 29) rfl ?_); refine Kd.R_lit k94 _ 94 ?hg (N := 29) ?hd (xs := ([(⟨a2_0, a2_1⟩ : S94)] : List (S94))) (inner := [.string a2_0, .string a2_1]) (ok := fun _ => True) (okp := fun _ => True) ?hr ?hp (fun _ hk => hk) trivial (Below.refl _ _) (Nat.le_refl _) (by simp) ?_; (case hd => rfl); (case hg => rfl); (case hr => first | (go_simp; done) | (go_simp; rfl)); (case hp => exact (Reps.c2 (show Kd.M k94 _ _ _ (⟨a2_0, a2_1⟩ : S94) [.string a2_0, .string a2_1] from (k94_mkM _ _ _ (⟨a2_0, a2_1⟩ : S94) )) (Reps.none _ _))); intro v321 w17 ho18 hb hg_ hnew_; clear hg_ hnew_; (first | rw [← Ny320.out] at ho18 | (simp only [Int.reduceToNat] at ho18; rw [← Ny320.out] at ho18)); have n0_ := Aside0.mk (Kd.V_elder' (by (with_reducible repeat (first | apply Kd.V_alloc | apply Kd.V_drewN | apply Kd.V_drew)); exact HO_0.out) (Kd.R_base ho18) hb); have n1_ := Aside0.mk (Kd.N_elder' (by (with_reducible repeat (first | apply Kd.N_alloc | apply Kd.N_drewN | apply Kd.N_drew)); exact HO_7.out) (Kd.R_base ho18) hb); have n2_ := Aside0.mk (Kd.R_lower (Kd.R_newB (Kd.R_newM (M := fun k_ => (w.heap.size ≤ k_)) ho18 (below_size (by repeat (first | (with_reducible first | exact HB.out | apply below_alloc | apply pw_below_drewN | apply below_drew1 | refine below_set ?_ GE312.out) | exact HB.out))) (fun k_ h_ => h_)) (g := gb312) (o := .cells #[.string a2_0, .string a2_1] 94 (0, 0)) (by (with_reducible repeat (first | refine blk_drewN ?_ _ | refine blk_drew ?_ | refine blk_alloc ?_ _)); exact BK312.out)) (below_size (by repeat (first | (with_reducible first | exact HB.out | apply below_alloc | apply pw_below_drewN | apply below_drew1 | refine below_set ?_ GE312.out) | exact HB.out)))); have n3_ := Aside0.mk (blk_below (g := gb312) (o := .cells #[.string a2_0, .string a2_1] 94 (0, 0)) (by (with_reducible repeat (first | refine blk_drewN ?_ _ | refine blk_drew ?_ | refine blk_alloc ?_ _)); exact BK312.out) hb); have n4_ := Aside0.mk (below_step (by repeat (first | (with_reducible first | exact HB.out | apply below_alloc | apply pw_below_drewN | apply below_drew1 | refine below_set ?_ GE312.out) | exact HB.out)) hb); clear HO_0; clear HO_7; clear BK312; clear HB; have HO_0 := n0_; have HO_7 := n1_; have HO322 := n2_; have BK312 := n3_; have HB := n4_; clear n0_ n1_ n2_ n3_ n4_; clear hb ho18; have p323 : 0 ≤ (x9_1 : Int) := of_decide_eq_true (by first | (with_reducible assumption) | assumption); have q323 : x9_1 < (l0.length : Int) := of_decide_eq_true (by first | (with_reducible assumption) | assumption); obtain ⟨ad323, A323_1, c323_1, e323, hx323_0, hx323_1, hl323_1, hi323_1⟩ := at_T80 (Kd.V_reads' HO_0.out).2.2 x9_1 p323 q323; cases e323; obtain ⟨ce323, hce323, hMe323, hcc323⟩ := Kd.V_get HO_0.out z80 x9_1 p323 (by first | exact q323 | exact of_decide_eq_true (by first | (with_reducible assumption) | assumption) | (have e_ := (Kd.V_reads' HO_0.out).1; omega)); obtain ⟨ua323_1, uc323_1, rfl, ul323_1, ge323_1⟩ := k80_openF hMe323; have hv323_1 := hcc323 1 _ rfl; rw [add_field _ _ 1 (by omega)] at hv323_1; replace hv323_1 := Option.some.inj (hv323_1.symm.trans hx323_1); injection hv323_1 with hva_ hvn_ hvc_; rw [hva_] at ge323_1; rw [hvc_] at ul323_1; have HL323_1 := Aside0.mk (show Kd.V k94 94 _ w.heap.size _ _ ((rd_T80 l0 x9_1).f1) from Kd.V_mk ul323_1 ge323_1); clear hva_ hvn_ hvc_ ge323_1 ul323_1; clear hcc323 hce323; have HR323_1 := Aside0.mk hi323_1; have HC323_1 := Aside0.mk hl323_1; clear hi323_1 hl323_1; replace p323 := eq_true p323; replace q323 := eq_true q323))
                        have n0_ := Aside0.mk (Kd.V_drew HO_0.out)
                        have n1_ := Aside0.mk (Kd.N_drew HO_7.out)
                        have n2_ := Aside0.mk (Kd.R_drew HO322.out)
                        have n3_ := Aside0.mk (Kd.V_drew HL323_1.out)
                        have n4_ := Aside0.mk (blk_drew BK312.out)
                        have n5_ := Aside0.mk (Kd.C_drew HR323_1.out)
                        have n6_ := Aside0.mk (below_drew1 HB.out)
                        clear HO_0
                        clear HO_7
                        clear HO322
                        clear HL323_1
                        clear BK312
                        clear HR323_1
                        clear HB
                        have HO_0 := n0_
                        have HO_7 := n1_
                        have HO322 := n2_
                        have HL323_1 := n3_
                        have BK312 := n4_
                        have HR323_1 := n5_
                        have HB := n6_
                        clear n0_ n1_ n2_ n3_ n4_ n5_ n6_
                        have p324 : 0 ≤ (x9_1 : Int) := of_decide_eq_true (by first | (with_reducible assumption) | assumption)
                        have q324 : x9_1 < (l0.length : Int) := of_decide_eq_true (by first | (with_reducible assumption) | assumption)
                        obtain ⟨ad324, A324_1, c324_1, e324, hx324_0, hx324_1, hl324_1, hi324_1⟩ := at_T80 (Kd.V_reads' HO_0.out).2.2 x9_1 p324 q324
                        obtain rfl : ad323 = ad324 := (by injection e324)
                        obtain ⟨ce324, hce324, hMe324, hcc324⟩ := Kd.V_get HO_0.out z80 x9_1 p324 (by first | exact q324 | exact of_decide_eq_true (by first | (with_reducible assumption) | assumption) | (have e_ := (Kd.V_reads' HO_0.out).1; omega))
                        obtain ⟨ua324_1, uc324_1, rfl, ul324_1, ge324_1⟩ := k80_openF hMe324
                        have hv324_1 := hcc324 1 _ rfl
                        rw [add_field _ _ 1 (by omega)] at hv324_1
                        replace hv324_1 := Option.some.inj (hv324_1.symm.trans hx324_1)
                        injection hv324_1 with hva_ hvn_ hvc_
                        rw [hva_] at ge324_1
                        rw [hvc_] at ul324_1
                        have HL324_1 := Aside0.mk (show Kd.V k94 94 _ w.heap.size _ _ ((rd_T80 l0 x9_1).f1) from Kd.V_mk ul324_1 ge324_1)
                        clear hva_ hvn_ hvc_ ge324_1 ul324_1
                        clear hcc324 hce324
                        have HR324_1 := Aside0.mk hi324_1
                        have HC324_1 := Aside0.mk hl324_1
                        clear hi324_1 hl324_1
                        replace p324 := eq_true p324
                        replace q324 := eq_true q324
                        refine start_ (n := 8) (S := fun w' => w'.cell? ⟨gb312, 0, none⟩ = some (.string a2_0) ∧ w'.cell? ⟨gb312, 1, none⟩ = some (.string a2_1) ∧ w'.cell? (ad323.add ((x9_1).toNat * 2)) = some (.string ((rd_T80 l0 x9_1).f0)) ∧ w'.cell? ⟨(ad323.add ((x9_1).toNat * 2)).block, (ad323.add ((x9_1).toNat * 2)).off + 1, none⟩ = some (.slice A324_1 ((rd_T80 l0 x9_1).f1).length c324_1)) (ds := []) #[false, false, false, false, false, false, false, false] (by kernel_rfl) rfl rfl ⟨(blk_cell BK312.out 0).trans rfl, (blk_cell BK312.out 1).trans rfl, hx324_0, hx324_1⟩ (fun hHeld => ?_); refine with_tabW granarylaw3_putGroup.tab9 granarylaw3_putGroup.bits9 (fun HT_ HW_ => ?_)
                        generalize w17.drew = w19 at HO_0 HO_7 HO322 HL323_1 BK312 HR323_1 HB HL324_1 HR324_1 hx324_0 hx324_1 hHeld ⊢
                        refine pure_ (i := 0) (N := some 37) (v := ?_) (a' := ?_) #[true, false, false, false, false, false, false, false] rfl rfl (any_of HT_.out (by kernel_rfl)) (fun _ _ _ h => h) (Or.inl ⟨by rfl, ?_⟩) ?_ ?_
                        rotate_left
                        · intro w'
                          go_simp
                          with_reducible rfl
                        rotate_left
                        · simp only [Act.put, List.setIfInBounds_toArray, List.set_cons_zero, List.set_cons_succ, i64_w, i32_w]
                          rfl
                        refine pure_ (i := 1) (N := some 38) (v := ?_) (a' := ?_) #[true, true, false, false, false, false, false, false] rfl rfl (any_of HT_.out (by kernel_rfl)) (fun _ _ _ h => h) (Or.inl ⟨by rfl, ?_⟩) ?_ ?_
                        rotate_left
                        · intro w'
                          go_simp
                          with_reducible rfl
                        rotate_left
                        · simp only [Act.put, List.setIfInBounds_toArray, List.set_cons_zero, List.set_cons_succ, i64_w, i32_w]
                          rfl
                        refine pure_ (i := 2) (N := some 39) (v := ?_) (a' := ?_) #[true, true, true, false, false, false, false, false] rfl rfl (any_of HT_.out (by kernel_rfl)) (fun _ _ _ h => h) (Or.inl ⟨by rfl, ?_⟩) ?_ ?_
                        rotate_left
                        · intro w'
                          go_simp
                          with_reducible rfl
                        rotate_left
                        · simp only [Act.put, List.setIfInBounds_toArray, List.set_cons_zero, List.set_cons_succ, i64_w, i32_w]
                          rfl
                        refine pure_ (i := 3) (N := some 40) (v := ?_) (a' := ?_) #[true, true, true, true, false, false, false, false] rfl rfl (any_of HT_.out (by kernel_rfl)) (fun _ _ _ h => h) (Or.inl ⟨by rfl, ?_⟩) ?_ ?_
                        rotate_left
                        · intro w'
                          go_simp
                          with_reducible rfl
                        rotate_left
                        · simp only [Act.put, List.setIfInBounds_toArray, List.set_cons_zero, List.set_cons_succ, i64_w, i32_w]
                          rfl
                        refine take_ (i := 4) (N := some 41) (v := ?_) (a' := ?_) #[true, true, true, true, true, false, false, false] rfl rfl (take_ofW HT_.out HW_.out (by kernel_rfl)) (fun _ _ _ h => h) (Or.inl ⟨by rfl, ?_⟩) hHeld ?_ ?_
                        rotate_left
                        · rintro w' ⟨s0, s1, s2, s3⟩
                          go_simp
                          with_reducible rfl
                        rotate_left
                        · simp only [Act.put, List.setIfInBounds_toArray, List.set_cons_zero, List.set_cons_succ, i64_w, i32_w]
                          rfl
                        refine take_ (i := 5) (N := some 42) (v := ?_) (a' := ?_) #[true, true, true, true, true, true, false, false] rfl rfl (take_ofW HT_.out HW_.out (by kernel_rfl)) (fun _ _ _ h => h) (Or.inl ⟨by rfl, ?_⟩) hHeld ?_ ?_
                        rotate_left
                        · rintro w' ⟨s0, s1, s2, s3⟩
                          go_simp
                          with_reducible rfl
                        rotate_left
                        · simp only [Act.put, List.setIfInBounds_toArray, List.set_cons_zero, List.set_cons_succ, i64_w, i32_w]
                          rfl
                        refine one_ (i := 6) (N := some 43) #[true, true, true, true, true, true, true, false] rfl rfl (one_of HT_.out (by kernel_rfl)) (by decide) (fun K hK => ?_)
                        refine goes_ Try.func81 (by kernel_rfl) rfl #[.slice A324_1 ((rd_T80 l0 x9_1).f1).length c324_1, .agg #[.string a2_0, .string a2_1]] (by rfl) rfl rfl (by (try simp only [List.map_toArray, List.map_cons, List.map_nil]); first | done | rfl | (simp only [List.length_drop, List.length_take]; rfl)) ?_
                        with_reducible refine (granarylaw3_putPair.calls kj5 _ _ ((rd_T80 l0 x9_1).f1) a2_0 a2_1 t325 _ ?side1 ?side2 A13.out).mono ?_
                        (case side1 => repeat (first | exact (by repeat (first | (with_reducible exact HR324_1.out) | (with_reducible refine Kd.C_alloc ?_ _) | (with_reducible refine Kd.C_drewN ?_ _) | (with_reducible refine Kd.C_drew ?_) | exact HR324_1.out)) | (with_reducible refine Kd.C_alloc ?_ _) | (with_reducible refine Kd.C_drewN ?_ _) | (with_reducible refine Kd.C_drew ?_)))
                        (case side2 => exact HC324_1.out)
                        rintro e w20 ⟨v326, rfl, ho0, hb⟩
                        have HS2_ := (hb.cell (World.block_lt_of_cell? _ _ (hHeld.2.2.1))).trans (hHeld.2.2.1)
                        have HS3_ := (hb.cell (World.block_lt_of_cell? _ _ (hHeld.2.2.2))).trans (hHeld.2.2.2)
                        refine ⟨_, rfl, ?_⟩
                        have n0_ := Aside0.mk (Kd.V_elder' (by (with_reducible repeat (first | apply Kd.V_alloc | apply Kd.V_drewN | apply Kd.V_drew)); exact HO_0.out) (Kd.R_base ho0) hb)
                        have n1_ := Aside0.mk (Kd.N_elder' (by (with_reducible repeat (first | apply Kd.N_alloc | apply Kd.N_drewN | apply Kd.N_drew)); exact HO_7.out) (Kd.R_base ho0) hb)
                        have n2_ := Aside0.mk (Kd.R_elder' (by (with_reducible repeat (first | apply Kd.R_alloc | apply Kd.R_drewN | apply Kd.R_drew)); exact HO322.out) (Kd.R_base ho0) hb)
                        have n3_ := Aside0.mk (Kd.V_elder' (by (with_reducible repeat (first | apply Kd.V_alloc | apply Kd.V_drewN | apply Kd.V_drew)); exact HL323_1.out) (Kd.R_base ho0) hb)
                        have n4_ := Aside0.mk (Kd.V_elder' (by (with_reducible repeat (first | apply Kd.V_alloc | apply Kd.V_drewN | apply Kd.V_drew)); exact HL324_1.out) (Kd.R_base ho0) hb)
                        have n5_ := Aside0.mk (Kd.R_lower (Kd.R_newB (Kd.R_new' (Kd.R_newM (M := fun k_ => (w.heap.size ≤ k_)) ho0 (below_size (by repeat (first | (with_reducible first | exact HB.out | apply below_alloc | apply pw_below_drewN | apply below_drew1 | refine below_set ?_ GE312.out) | exact HB.out))) (fun k_ h_ => h_)) (Kd.R_lt (by (with_reducible repeat (first | apply Kd.R_alloc | apply Kd.R_drewN | apply Kd.R_drew)); exact HO322.out))) (g := gb312) (o := .cells #[.string a2_0, .string a2_1] 94 (0, 0)) (by (with_reducible repeat (first | refine blk_drewN ?_ _ | refine blk_drew ?_ | refine blk_alloc ?_ _)); exact BK312.out)) (below_size (by repeat (first | (with_reducible first | exact HB.out | apply below_alloc | apply pw_below_drewN | apply below_drew1 | refine below_set ?_ GE312.out) | exact HB.out))))
                        have n6_ := Aside0.mk (blk_below (g := gb312) (o := .cells #[.string a2_0, .string a2_1] 94 (0, 0)) (by (with_reducible repeat (first | refine blk_drewN ?_ _ | refine blk_drew ?_ | refine blk_alloc ?_ _)); exact BK312.out) hb)
                        have n7_ := Aside0.mk (Kd.C_below (by repeat (first | (with_reducible exact HR323_1.out) | (with_reducible refine Kd.C_alloc ?_ _) | (with_reducible refine Kd.C_drewN ?_ _) | (with_reducible refine Kd.C_drew ?_) | exact HR323_1.out)) hb)
                        have n8_ := Aside0.mk (Kd.C_below (by repeat (first | (with_reducible exact HR324_1.out) | (with_reducible refine Kd.C_alloc ?_ _) | (with_reducible refine Kd.C_drewN ?_ _) | (with_reducible refine Kd.C_drew ?_) | exact HR324_1.out)) hb)
                        have n9_ := Aside0.mk (below_step (by repeat (first | (with_reducible first | exact HB.out | apply below_alloc | apply pw_below_drewN | apply below_drew1 | refine below_set ?_ GE312.out) | exact HB.out)) hb)
                        clear HO_0
                        clear HO_7
                        clear HO322
                        clear HL323_1
                        clear HL324_1
                        clear BK312
                        clear HR323_1
                        clear HR324_1
                        clear HB
                        have HO_0 := n0_
                        have HO_7 := n1_
                        have HO322 := n2_
                        have HL323_1 := n3_
                        have HL324_1 := n4_
                        have HO327 := n5_
                        have BK312 := n6_
                        have HR323_1 := n7_
                        have HR324_1 := n8_
                        have HB := n9_
                        clear n0_ n1_ n2_ n3_ n4_ n5_ n6_ n7_ n8_ n9_
                        (try clear hb)
                        (try clear hb2)
                        (try clear hk)
                        (try clear hi)
                        (try clear ho0)
                        refine hK.out _ _ ⟨(blk_cell BK312.out 0).trans rfl, (blk_cell BK312.out 1).trans rfl, HS2_, HS3_⟩ (fun hHeld => ?_)
                        clear hK K
                        refine norm_ (a' := ?_) ?_ ?_
                        rotate_left
                        · show Act.put _ (some 43) _ = _
                          simp only [Act.put, List.setIfInBounds_toArray, List.set_cons_zero, List.set_cons_succ, i64_w, i32_w]
                          rfl
                        refine pure_ (i := 7) (N := some 10) (v := ?_) (a' := ?_) #[true, true, true, true, true, true, true, true] rfl rfl (any_of HT_.out (by kernel_rfl)) (fun _ _ _ h => h) (Or.inl ⟨by rfl, ?_⟩) ?_ ?_
                        rotate_left
                        · intro w'
                          go_simp
                          with_reducible rfl
                        rotate_left
                        · simp only [Act.put, List.setIfInBounds_toArray, List.set_cons_zero, List.set_cons_succ, i64_w, i32_w]
                          rfl
                        refine done_ (done_of HT_.out (by kernel_rfl)) ?_
                        obtain ⟨Ao21, co21, eo21⟩ := Kd.R_slice HO327.out
                        subst eo21
                        try go_wp2_with (first | ((with_reducible refine gate_builtin (b := .append) (xs := #[.tmp 44, .tmp 48]) rfl ?_); at_builtin; refine Kd.N_append k80 (w0 := w) w.heap.size rfl (.tmp 44) (.tmp 48) 54 80 (.agg #[(.string ⟨#[]⟩), (.slice none 0 0)]) 40 rfl Try.underlying54 info80 rfl (by decide) (by omega) u7 x7_1 (⟨a1, t325⟩ : S80) [.string a1, .slice Ao21 t325.length co21] (fun k_ => (P0_ k_ ∨ w.heap.size ≤ k_) ∧ some k_ ≠ (v321 : Value).ownBlock ∧ k_ ≠ gb312) (fun k_ => ((fun k_ => (P0_ k_ ∨ w.heap.size ≤ k_) ∧ some k_ ≠ (v321 : Value).ownBlock ∧ k_ ≠ gb312)) k_ ∧ some k_ ≠ (u7 : Value).ownBlock) rfl rfl ?aP (fun _ hk => hk) ?aF ?aO ?aB ?aS ?aL ?_; (case aP => exact (k80_mkF _ _ (⟨a1, t325⟩ : S80) (Kd.R_reads' (Kd.R_mono (ok' := (fun k_ => ((fun k_ => (P0_ k_ ∨ w.heap.size ≤ k_) ∧ some k_ ≠ (v321 : Value).ownBlock ∧ k_ ≠ gb312)) k_ ∧ some k_ ≠ (u7 : Value).ownBlock)) (Kd.R_apart' (HO327.out) (Kd.N_typed HO_7.out) (by decide)) (fun k_ hk => ⟨⟨(.inr (hk.1.1.1.1)), ⟨hk.1.1.2, hk.1.2⟩⟩, hk.2⟩))).2.1 (Kd.R_F (Kd.R_mono (ok' := (fun k_ => ((fun k_ => (P0_ k_ ∨ w.heap.size ≤ k_) ∧ some k_ ≠ (v321 : Value).ownBlock ∧ k_ ≠ gb312)) k_ ∧ some k_ ≠ (u7 : Value).ownBlock)) (Kd.R_apart' (HO327.out) (Kd.N_typed HO_7.out) (by decide)) (fun k_ hk => ⟨⟨(.inr (hk.1.1.1.1)), ⟨hk.1.1.2, hk.1.2⟩⟩, hk.2⟩))))); (case aB => exact (by repeat (first | (with_reducible first | exact HB.out | apply below_alloc | apply pw_below_drewN | apply below_drew1 | refine below_set ?_ GE312.out) | exact HB.out))); (case aF => exact (fun k_ hk => ⟨(.inr (Nat.le_trans (below_size (by repeat (first | (with_reducible first | exact HB.out | apply below_alloc | apply pw_below_drewN | apply below_drew1 | refine below_set ?_ GE312.out) | exact HB.out))) hk)), Kd.fresh' (Kd.R_lt (by (with_reducible repeat (first | apply Kd.R_alloc | apply Kd.R_drewN | apply Kd.R_drew)); exact HO322.out)) k_ hk, Kd.freshB (g := gb312) (o := .cells #[.string a2_0, .string a2_1] 94 (0, 0)) (by (with_reducible repeat (first | refine blk_drewN ?_ _ | refine blk_drew ?_ | refine blk_alloc ?_ _)); exact BK312.out) k_ hk⟩)); (case aO => exact (by (with_reducible repeat (first | apply Kd.N_alloc | apply Kd.N_drewN | apply Kd.N_drew)); exact Kd.N_mono HO_7.out (fun _ hk => ⟨hk.1.1.1, ⟨hk.1.2, hk.1.1.2⟩⟩))); (case aS => exact (below_size (by repeat (first | (with_reducible first | exact HB.out | apply below_alloc | apply pw_below_drewN | apply below_drew1 | refine below_set ?_ GE312.out) | exact HB.out)))); (case aL => have := LMc14.out; omega); intro v329 w22 ho hb hg hat; rw [← Ny328.out] at ho; have n0_ := Aside0.mk (Kd.V_afterv (ok := (fun k_ => (P0_ k_ ∨ w.heap.size ≤ k_) ∧ some k_ ≠ (v321 : Value).ownBlock ∧ some k_ ≠ (.slice Ao21 t325.length co21 : Value).ownBlock ∧ k_ ≠ gb312)) (by (with_reducible repeat (first | apply Kd.V_alloc | apply Kd.V_drewN | apply Kd.V_drew)); exact Kd.V_mono HO_0.out (fun _ hk => ⟨⟨hk.1.1.1, ⟨hk.1.2, ⟨hk.2, hk.1.1.2.2⟩⟩⟩, hk.1.1.2.1⟩)) hg hat); have n1_ := Aside0.mk (blk_grown (g := gb312) (o := .cells #[.string a2_0, .string a2_1] 94 (0, 0)) (by (with_reducible repeat (first | refine blk_drewN ?_ _ | refine blk_drew ?_ | refine blk_alloc ?_ _)); exact BK312.out) hg (Kd.N_ne HO_7.out BK312.out (by decide))); have n2_ := Aside0.mk (Kd.R_over' (by (with_reducible repeat (first | apply Kd.R_alloc | apply Kd.R_drewN | apply Kd.R_drew)); exact HO322.out) (Kd.N_typed (by (with_reducible repeat (first | apply Kd.N_alloc | apply Kd.N_drewN | apply Kd.N_drew)); exact HO_7.out)) (by decide) hg); have n3_ := Aside0.mk (Kd.V_afterv (ok := (fun k_ => (P0_ k_ ∨ w.heap.size ≤ k_) ∧ some k_ ≠ (v321 : Value).ownBlock ∧ some k_ ≠ (.slice Ao21 t325.length co21 : Value).ownBlock ∧ k_ ≠ gb312)) (by (with_reducible repeat (first | apply Kd.V_alloc | apply Kd.V_drewN | apply Kd.V_drew)); exact Kd.V_mono HL323_1.out (fun _ hk => ⟨⟨hk.1.1.1, ⟨hk.1.2, ⟨hk.2, hk.1.1.2.2⟩⟩⟩, hk.1.1.2.1⟩)) hg hat); have n4_ := Aside0.mk (Kd.V_afterv (ok := (fun k_ => (P0_ k_ ∨ w.heap.size ≤ k_) ∧ some k_ ≠ (v321 : Value).ownBlock ∧ some k_ ≠ (.slice Ao21 t325.length co21 : Value).ownBlock ∧ k_ ≠ gb312)) (by (with_reducible repeat (first | apply Kd.V_alloc | apply Kd.V_drewN | apply Kd.V_drew)); exact Kd.V_mono HL324_1.out (fun _ hk => ⟨⟨hk.1.1.1, ⟨hk.1.2, ⟨hk.2, hk.1.1.2.2⟩⟩⟩, hk.1.1.2.1⟩)) hg hat); have n5_ := Aside0.mk (hb); have n6_ := Aside0.mk (ho); clear HO_0; clear BK312; clear HO322; clear HL323_1; clear HL324_1; clear HB; clear HO_7; clear HO327; have HO_0 := n0_; have BK312 := n1_; have HO322 := n2_; have HL323_1 := n3_; have HL324_1 := n4_; have HB := n5_; have HO330 := n6_; clear n0_ n1_ n2_ n3_ n4_ n5_ n6_; clear ho hb hg hat; have p331 : 0 ≤ (x9_1 : Int) := of_decide_eq_true (by first | (with_reducible assumption) | assumption); have q331 : x9_1 < (l0.length : Int) := of_decide_eq_true (by first | (with_reducible assumption) | assumption); obtain ⟨ad331, A331_1, c331_1, e331, hx331_0, hx331_1, hl331_1, hi331_1⟩ := at_T80 (Kd.V_reads' HO_0.out).2.2 x9_1 p331 q331; obtain rfl : ad323 = ad331 := (by injection e331); obtain ⟨ce331, hce331, hMe331, hcc331⟩ := Kd.V_get HO_0.out z80 x9_1 p331 (by first | exact q331 | exact of_decide_eq_true (by first | (with_reducible assumption) | assumption) | (have e_ := (Kd.V_reads' HO_0.out).1; omega)); obtain ⟨ua331_1, uc331_1, rfl, ul331_1, ge331_1⟩ := k80_openF hMe331; have hv331_1 := hcc331 1 _ rfl; rw [add_field _ _ 1 (by omega)] at hv331_1; replace hv331_1 := Option.some.inj (hv331_1.symm.trans hx331_1); injection hv331_1 with hva_ hvn_ hvc_; rw [hva_] at ge331_1; rw [hvc_] at ul331_1; have HL331_1 := Aside0.mk (show Kd.V k94 94 _ w.heap.size _ _ ((rd_T80 l0 x9_1).f1) from Kd.V_mk ul331_1 ge331_1); clear hva_ hvn_ hvc_ ge331_1 ul331_1; clear hcc331 hce331; have HR331_1 := Aside0.mk hi331_1; have HC331_1 := Aside0.mk hl331_1; clear hi331_1 hl331_1; replace p331 := eq_true p331; replace q331 := eq_true q331))
                        go_roundg kj5
                        case measure => have := HK1.out; have := HJ5.out; omega
                        case rel => exact ⟨(y328), (true), (wrap64 (x9_1 + 1)), (by first | rfl | exact congrArg Value.bool (bl_total _ _) | (simp; done) | (simp [*]; done)), (by first | rfl | exact congrArg Value.bool (bl_total _ _) | (simp; done) | (simp [*]; done)), H', ⟨by have := HK1.out; have := HJ5.out; omega⟩, ⟨by (with_reducible repeat (first | apply Kd.V_alloc | apply Kd.V_drewN | apply Kd.V_drew)); exact Kd.V_mono HO_0.out (fun _ hk => ⟨hk.1.1, ⟨hk.2, hk.1.2.2.2⟩⟩)⟩, ⟨by (with_reducible repeat (first | apply Kd.N_alloc | apply Kd.N_drewN | apply Kd.N_drew)); exact Kd.N_mono HO330.out (fun _ hk => ⟨hk.1, hk.2.2⟩)⟩, ⟨by (with_reducible repeat (first | refine blk_drewN ?_ _ | refine blk_drew ?_ | refine blk_alloc ?_ _)); exact BK312.out⟩, ⟨by repeat (first | (with_reducible first | exact HB.out | apply below_alloc | apply pw_below_drewN | apply below_drew1 | refine below_set ?_ GE312.out) | exact HB.out)⟩⟩
                      · rw [if_neg c15] at H
                        have c15b0 : (((rd_T80 l0 x9_1).f0).toList == a1.toList) = false := beq_eq_false_iff_ne.mpr c15
                        have c15b1 : (((rd_T80 l0 x9_1).f0).toList != a1.toList) = true := bne_iff_ne.mpr c15
                        by_cases c23 : y328.length < 3518437208883
                        · rw [if_pos c23] at H
                          have LMc23 := Aside0.mk c23
                          clear c23
                          obtain ⟨y333, hy333⟩ : ∃ y_ : List (S80), y_ = (y328 ++ [(⟨(rd_T80 l0 x9_1).f0, (rd_T80 l0 x9_1).f1⟩ : S80)]) := ⟨_, rfl⟩
                          replace H : (granarylaw3_putGroup.l0 kj5 l0 a1 y333 true (wrap64 (x9_1 + 1)) a2_0 a2_1) = some r := by first | (rw [hy333]; with_reducible exact H) | (have H2_ := (Option.bind_some _ _).symm.trans H; rw [hy333]; with_reducible exact H2_) | (have H2_ := (Option.bind_some _ _).symm.trans H; with_reducible exact H2_) | with_reducible exact H | (rw [hy333]; exact H) | exact H
                          have Ny333 := Aside0.mk hy333
                          clear hy333
                          have H' := Aside0.mk H
                          clear H
                          have hcz24_0 : wc.cell? ⟨gb312, 0, none⟩ = some (.string a2_0) := (blk_cell BK312.out 0).trans rfl
                          have hcz24_1 : wc.cell? ⟨gb312, 1, none⟩ = some (.string a2_1) := (blk_cell BK312.out 1).trans rfl
                          have hfz24_0 := blk_frozen BK312.out 0
                          have hfz24_1 := blk_frozen BK312.out 1
                          try go_wp2_with (first | ((with_reducible refine gate_dst (N := 29) rfl ?_); refine Kd.R_lit k94 _ 94 ?hg (N := 29) ?hd (xs := ([(⟨a2_0, a2_1⟩ : S94)] : List (S94))) (inner := [.string a2_0, .string a2_1]) (ok := fun _ => True) (okp := fun _ => True) ?hr ?hp (fun _ hk => hk) trivial (Below.refl _ _) (Nat.le_refl _) (by simp) ?_; (case hd => rfl); (case hg => rfl); (case hr => first | (go_simp; done) | (go_simp; rfl)); (case hp => exact (Reps.c2 (show Kd.M k94 _ _ _ (⟨a2_0, a2_1⟩ : S94) [.string a2_0, .string a2_1] from (k94_mkM _ _ _ (⟨a2_0, a2_1⟩ : S94) )) (Reps.none _ _))); intro v321 w25 ho26 hb hg_ hnew_; clear hg_ hnew_; (first | rw [← Ny320.out] at ho26 | (simp only [Int.reduceToNat] at ho26; rw [← Ny320.out] at ho26)); have n0_ := Aside0.mk (Kd.V_elder' (by (with_reducible repeat (first | apply Kd.V_alloc | apply Kd.V_drewN | apply Kd.V_drew)); exact HO_0.out) (Kd.R_base ho26) hb); have n1_ := Aside0.mk (Kd.N_elder' (by (with_reducible repeat (first | apply Kd.N_alloc | apply Kd.N_drewN | apply Kd.N_drew)); exact HO_7.out) (Kd.R_base ho26) hb); have n2_ := Aside0.mk (Kd.R_lower (Kd.R_newB (Kd.R_newM (M := fun k_ => (w.heap.size ≤ k_)) ho26 (below_size (by repeat (first | (with_reducible first | exact HB.out | apply below_alloc | apply pw_below_drewN | apply below_drew1 | refine below_set ?_ GE312.out) | exact HB.out))) (fun k_ h_ => h_)) (g := gb312) (o := .cells #[.string a2_0, .string a2_1] 94 (0, 0)) (by (with_reducible repeat (first | refine blk_drewN ?_ _ | refine blk_drew ?_ | refine blk_alloc ?_ _)); exact BK312.out)) (below_size (by repeat (first | (with_reducible first | exact HB.out | apply below_alloc | apply pw_below_drewN | apply below_drew1 | refine below_set ?_ GE312.out) | exact HB.out)))); have n3_ := Aside0.mk (blk_below (g := gb312) (o := .cells #[.string a2_0, .string a2_1] 94 (0, 0)) (by (with_reducible repeat (first | refine blk_drewN ?_ _ | refine blk_drew ?_ | refine blk_alloc ?_ _)); exact BK312.out) hb); have n4_ := Aside0.mk (below_step (by repeat (first | (with_reducible first | exact HB.out | apply below_alloc | apply pw_below_drewN | apply below_drew1 | refine below_set ?_ GE312.out) | exact HB.out)) hb); clear HO_0; clear HO_7; clear BK312; clear HB; have HO_0 := n0_; have HO_7 := n1_; have HO322 := n2_; have BK312 := n3_; have HB := n4_; clear n0_ n1_ n2_ n3_ n4_; clear hb ho26; have p323 : 0 ≤ (x9_1 : Int) := of_decide_eq_true (by first | (with_reducible assumption) | assumption); have q323 : x9_1 < (l0.length : Int) := of_decide_eq_true (by first | (with_reducible assumption) | assumption); obtain ⟨ad323, A323_1, c323_1, e323, hx323_0, hx323_1, hl323_1, hi323_1⟩ := at_T80 (Kd.V_reads' HO_0.out).2.2 x9_1 p323 q323; cases e323; obtain ⟨ce323, hce323, hMe323, hcc323⟩ := Kd.V_get HO_0.out z80 x9_1 p323 (by first | exact q323 | exact of_decide_eq_true (by first | (with_reducible assumption) | assumption) | (have e_ := (Kd.V_reads' HO_0.out).1; omega)); obtain ⟨ua323_1, uc323_1, rfl, ul323_1, ge323_1⟩ := k80_openF hMe323; have hv323_1 := hcc323 1 _ rfl; rw [add_field _ _ 1 (by omega)] at hv323_1; replace hv323_1 := Option.some.inj (hv323_1.symm.trans hx323_1); injection hv323_1 with hva_ hvn_ hvc_; rw [hva_] at ge323_1; rw [hvc_] at ul323_1; have HL323_1 := Aside0.mk (show Kd.V k94 94 _ w.heap.size _ _ ((rd_T80 l0 x9_1).f1) from Kd.V_mk ul323_1 ge323_1); clear hva_ hvn_ hvc_ ge323_1 ul323_1; clear hcc323 hce323; have HR323_1 := Aside0.mk hi323_1; have HC323_1 := Aside0.mk hl323_1; clear hi323_1 hl323_1; replace p323 := eq_true p323; replace q323 := eq_true q323))
                          have n0_ := Aside0.mk (Kd.V_drew HO_0.out)
                          have n1_ := Aside0.mk (Kd.N_drew HO_7.out)
                          have n2_ := Aside0.mk (Kd.R_drew HO322.out)
                          have n3_ := Aside0.mk (Kd.V_drew HL323_1.out)
                          have n4_ := Aside0.mk (blk_drew BK312.out)
                          have n5_ := Aside0.mk (Kd.C_drew HR323_1.out)
                          have n6_ := Aside0.mk (below_drew1 HB.out)
                          clear HO_0
                          clear HO_7
                          clear HO322
                          clear HL323_1
                          clear BK312
                          clear HR323_1
                          clear HB
                          have HO_0 := n0_
                          have HO_7 := n1_
                          have HO322 := n2_
                          have HL323_1 := n3_
                          have BK312 := n4_
                          have HR323_1 := n5_
                          have HB := n6_
                          clear n0_ n1_ n2_ n3_ n4_ n5_ n6_
                          have p324 : 0 ≤ (x9_1 : Int) := of_decide_eq_true (by first | (with_reducible assumption) | assumption)
                          have q324 : x9_1 < (l0.length : Int) := of_decide_eq_true (by first | (with_reducible assumption) | assumption)
                          obtain ⟨ad324, A324_1, c324_1, e324, hx324_0, hx324_1, hl324_1, hi324_1⟩ := at_T80 (Kd.V_reads' HO_0.out).2.2 x9_1 p324 q324
                          obtain rfl : ad323 = ad324 := (by injection e324)
                          obtain ⟨ce324, hce324, hMe324, hcc324⟩ := Kd.V_get HO_0.out z80 x9_1 p324 (by first | exact q324 | exact of_decide_eq_true (by first | (with_reducible assumption) | assumption) | (have e_ := (Kd.V_reads' HO_0.out).1; omega))
                          obtain ⟨ua324_1, uc324_1, rfl, ul324_1, ge324_1⟩ := k80_openF hMe324
                          have hv324_1 := hcc324 1 _ rfl
                          rw [add_field _ _ 1 (by omega)] at hv324_1
                          replace hv324_1 := Option.some.inj (hv324_1.symm.trans hx324_1)
                          injection hv324_1 with hva_ hvn_ hvc_
                          rw [hva_] at ge324_1
                          rw [hvc_] at ul324_1
                          have HL324_1 := Aside0.mk (show Kd.V k94 94 _ w.heap.size _ _ ((rd_T80 l0 x9_1).f1) from Kd.V_mk ul324_1 ge324_1)
                          clear hva_ hvn_ hvc_ ge324_1 ul324_1
                          clear hcc324 hce324
                          have HR324_1 := Aside0.mk hi324_1
                          have HC324_1 := Aside0.mk hl324_1
                          clear hi324_1 hl324_1
                          replace p324 := eq_true p324
                          replace q324 := eq_true q324
                          refine start_ (n := 8) (S := fun w' => w'.cell? ⟨gb312, 0, none⟩ = some (.string a2_0) ∧ w'.cell? ⟨gb312, 1, none⟩ = some (.string a2_1) ∧ w'.cell? (ad323.add ((x9_1).toNat * 2)) = some (.string ((rd_T80 l0 x9_1).f0)) ∧ w'.cell? ⟨(ad323.add ((x9_1).toNat * 2)).block, (ad323.add ((x9_1).toNat * 2)).off + 1, none⟩ = some (.slice A324_1 ((rd_T80 l0 x9_1).f1).length c324_1)) (ds := []) #[false, false, false, false, false, false, false, false] (by kernel_rfl) rfl rfl ⟨(blk_cell BK312.out 0).trans rfl, (blk_cell BK312.out 1).trans rfl, hx324_0, hx324_1⟩ (fun hHeld => ?_); refine with_tabW granarylaw3_putGroup.tab9 granarylaw3_putGroup.bits9 (fun HT_ HW_ => ?_)
                          generalize w25.drew = w27 at HO_0 HO_7 HO322 HL323_1 BK312 HR323_1 HB HL324_1 HR324_1 hx324_0 hx324_1 hHeld ⊢
                          refine pure_ (i := 0) (N := some 37) (v := ?_) (a' := ?_) #[true, false, false, false, false, false, false, false] rfl rfl (any_of HT_.out (by kernel_rfl)) (fun _ _ _ h => h) (Or.inl ⟨by rfl, ?_⟩) ?_ ?_
                          rotate_left
                          · intro w'
                            go_simp
                            with_reducible rfl
                          rotate_left
                          · simp only [Act.put, List.setIfInBounds_toArray, List.set_cons_zero, List.set_cons_succ, i64_w, i32_w]
                            rfl
                          refine pure_ (i := 1) (N := some 38) (v := ?_) (a' := ?_) #[true, true, false, false, false, false, false, false] rfl rfl (any_of HT_.out (by kernel_rfl)) (fun _ _ _ h => h) (Or.inl ⟨by rfl, ?_⟩) ?_ ?_
                          rotate_left
                          · intro w'
                            go_simp
                            with_reducible rfl
                          rotate_left
                          · simp only [Act.put, List.setIfInBounds_toArray, List.set_cons_zero, List.set_cons_succ, i64_w, i32_w]
                            rfl
                          refine pure_ (i := 2) (N := some 39) (v := ?_) (a' := ?_) #[true, true, true, false, false, false, false, false] rfl rfl (any_of HT_.out (by kernel_rfl)) (fun _ _ _ h => h) (Or.inl ⟨by rfl, ?_⟩) ?_ ?_
                          rotate_left
                          · intro w'
                            go_simp
                            with_reducible rfl
                          rotate_left
                          · simp only [Act.put, List.setIfInBounds_toArray, List.set_cons_zero, List.set_cons_succ, i64_w, i32_w]
                            rfl
                          refine pure_ (i := 3) (N := some 40) (v := ?_) (a' := ?_) #[true, true, true, true, false, false, false, false] rfl rfl (any_of HT_.out (by kernel_rfl)) (fun _ _ _ h => h) (Or.inl ⟨by rfl, ?_⟩) ?_ ?_
                          rotate_left
                          · intro w'
                            go_simp
                            with_reducible rfl
                          rotate_left
                          · simp only [Act.put, List.setIfInBounds_toArray, List.set_cons_zero, List.set_cons_succ, i64_w, i32_w]
                            rfl
                          refine take_ (i := 4) (N := some 41) (v := ?_) (a' := ?_) #[true, true, true, true, true, false, false, false] rfl rfl (take_ofW HT_.out HW_.out (by kernel_rfl)) (fun _ _ _ h => h) (Or.inl ⟨by rfl, ?_⟩) hHeld ?_ ?_
                          rotate_left
                          · rintro w' ⟨s0, s1, s2, s3⟩
                            go_simp
                            with_reducible rfl
                          rotate_left
                          · simp only [Act.put, List.setIfInBounds_toArray, List.set_cons_zero, List.set_cons_succ, i64_w, i32_w]
                            rfl
                          refine take_ (i := 5) (N := some 42) (v := ?_) (a' := ?_) #[true, true, true, true, true, true, false, false] rfl rfl (take_ofW HT_.out HW_.out (by kernel_rfl)) (fun _ _ _ h => h) (Or.inl ⟨by rfl, ?_⟩) hHeld ?_ ?_
                          rotate_left
                          · rintro w' ⟨s0, s1, s2, s3⟩
                            go_simp
                            with_reducible rfl
                          rotate_left
                          · simp only [Act.put, List.setIfInBounds_toArray, List.set_cons_zero, List.set_cons_succ, i64_w, i32_w]
                            rfl
                          refine one_ (i := 6) (N := some 43) #[true, true, true, true, true, true, true, false] rfl rfl (one_of HT_.out (by kernel_rfl)) (by decide) (fun K hK => ?_)
                          refine goes_ Try.func81 (by kernel_rfl) rfl #[.slice A324_1 ((rd_T80 l0 x9_1).f1).length c324_1, .agg #[.string a2_0, .string a2_1]] (by rfl) rfl rfl (by (try simp only [List.map_toArray, List.map_cons, List.map_nil]); first | done | rfl | (simp only [List.length_drop, List.length_take]; rfl)) ?_
                          with_reducible refine (granarylaw3_putPair.calls kj5 _ _ ((rd_T80 l0 x9_1).f1) a2_0 a2_1 t325 _ ?side1 ?side2 A13.out).mono ?_
                          (case side1 => repeat (first | exact (by repeat (first | (with_reducible exact HR324_1.out) | (with_reducible refine Kd.C_alloc ?_ _) | (with_reducible refine Kd.C_drewN ?_ _) | (with_reducible refine Kd.C_drew ?_) | exact HR324_1.out)) | (with_reducible refine Kd.C_alloc ?_ _) | (with_reducible refine Kd.C_drewN ?_ _) | (with_reducible refine Kd.C_drew ?_)))
                          (case side2 => exact HC324_1.out)
                          rintro e w28 ⟨v326, rfl, ho0, hb⟩
                          have HS2_ := (hb.cell (World.block_lt_of_cell? _ _ (hHeld.2.2.1))).trans (hHeld.2.2.1)
                          have HS3_ := (hb.cell (World.block_lt_of_cell? _ _ (hHeld.2.2.2))).trans (hHeld.2.2.2)
                          refine ⟨_, rfl, ?_⟩
                          have n0_ := Aside0.mk (Kd.V_elder' (by (with_reducible repeat (first | apply Kd.V_alloc | apply Kd.V_drewN | apply Kd.V_drew)); exact HO_0.out) (Kd.R_base ho0) hb)
                          have n1_ := Aside0.mk (Kd.N_elder' (by (with_reducible repeat (first | apply Kd.N_alloc | apply Kd.N_drewN | apply Kd.N_drew)); exact HO_7.out) (Kd.R_base ho0) hb)
                          have n2_ := Aside0.mk (Kd.R_elder' (by (with_reducible repeat (first | apply Kd.R_alloc | apply Kd.R_drewN | apply Kd.R_drew)); exact HO322.out) (Kd.R_base ho0) hb)
                          have n3_ := Aside0.mk (Kd.V_elder' (by (with_reducible repeat (first | apply Kd.V_alloc | apply Kd.V_drewN | apply Kd.V_drew)); exact HL323_1.out) (Kd.R_base ho0) hb)
                          have n4_ := Aside0.mk (Kd.V_elder' (by (with_reducible repeat (first | apply Kd.V_alloc | apply Kd.V_drewN | apply Kd.V_drew)); exact HL324_1.out) (Kd.R_base ho0) hb)
                          have n5_ := Aside0.mk (Kd.R_lower (Kd.R_newB (Kd.R_new' (Kd.R_newM (M := fun k_ => (w.heap.size ≤ k_)) ho0 (below_size (by repeat (first | (with_reducible first | exact HB.out | apply below_alloc | apply pw_below_drewN | apply below_drew1 | refine below_set ?_ GE312.out) | exact HB.out))) (fun k_ h_ => h_)) (Kd.R_lt (by (with_reducible repeat (first | apply Kd.R_alloc | apply Kd.R_drewN | apply Kd.R_drew)); exact HO322.out))) (g := gb312) (o := .cells #[.string a2_0, .string a2_1] 94 (0, 0)) (by (with_reducible repeat (first | refine blk_drewN ?_ _ | refine blk_drew ?_ | refine blk_alloc ?_ _)); exact BK312.out)) (below_size (by repeat (first | (with_reducible first | exact HB.out | apply below_alloc | apply pw_below_drewN | apply below_drew1 | refine below_set ?_ GE312.out) | exact HB.out))))
                          have n6_ := Aside0.mk (blk_below (g := gb312) (o := .cells #[.string a2_0, .string a2_1] 94 (0, 0)) (by (with_reducible repeat (first | refine blk_drewN ?_ _ | refine blk_drew ?_ | refine blk_alloc ?_ _)); exact BK312.out) hb)
                          have n7_ := Aside0.mk (Kd.C_below (by repeat (first | (with_reducible exact HR323_1.out) | (with_reducible refine Kd.C_alloc ?_ _) | (with_reducible refine Kd.C_drewN ?_ _) | (with_reducible refine Kd.C_drew ?_) | exact HR323_1.out)) hb)
                          have n8_ := Aside0.mk (Kd.C_below (by repeat (first | (with_reducible exact HR324_1.out) | (with_reducible refine Kd.C_alloc ?_ _) | (with_reducible refine Kd.C_drewN ?_ _) | (with_reducible refine Kd.C_drew ?_) | exact HR324_1.out)) hb)
                          have n9_ := Aside0.mk (below_step (by repeat (first | (with_reducible first | exact HB.out | apply below_alloc | apply pw_below_drewN | apply below_drew1 | refine below_set ?_ GE312.out) | exact HB.out)) hb)
                          clear HO_0
                          clear HO_7
                          clear HO322
                          clear HL323_1
                          clear HL324_1
                          clear BK312
                          clear HR323_1
                          clear HR324_1
                          clear HB
                          have HO_0 := n0_
                          have HO_7 := n1_
                          have HO322 := n2_
                          have HL323_1 := n3_
                          have HL324_1 := n4_
                          have HO327 := n5_
                          have BK312 := n6_
                          have HR323_1 := n7_
                          have HR324_1 := n8_
                          have HB := n9_
                          clear n0_ n1_ n2_ n3_ n4_ n5_ n6_ n7_ n8_ n9_
                          (try clear hb)
                          (try clear hb2)
                          (try clear hk)
                          (try clear hi)
                          (try clear ho0)
                          refine hK.out _ _ ⟨(blk_cell BK312.out 0).trans rfl, (blk_cell BK312.out 1).trans rfl, HS2_, HS3_⟩ (fun hHeld => ?_)
                          clear hK K
                          refine norm_ (a' := ?_) ?_ ?_
                          rotate_left
                          · show Act.put _ (some 43) _ = _
                            simp only [Act.put, List.setIfInBounds_toArray, List.set_cons_zero, List.set_cons_succ, i64_w, i32_w]
                            rfl
                          refine pure_ (i := 7) (N := some 10) (v := ?_) (a' := ?_) #[true, true, true, true, true, true, true, true] rfl rfl (any_of HT_.out (by kernel_rfl)) (fun _ _ _ h => h) (Or.inl ⟨by rfl, ?_⟩) ?_ ?_
                          rotate_left
                          · intro w'
                            go_simp
                            with_reducible rfl
                          rotate_left
                          · simp only [Act.put, List.setIfInBounds_toArray, List.set_cons_zero, List.set_cons_succ, i64_w, i32_w]
                            rfl
                          refine done_ (done_of HT_.out (by kernel_rfl)) ?_
                          obtain ⟨Ao29, co29, eo29⟩ := Kd.R_slice HO327.out
                          subst eo29
                          try go_wp2_with (first | ((with_reducible refine gate_builtin (b := .append) (xs := #[.tmp 44, .tmp 48]) rfl ?_); at_builtin; refine Kd.N_append k80 (w0 := w) w.heap.size rfl (.tmp 44) (.tmp 48) 54 80 (.agg #[(.string ⟨#[]⟩), (.slice none 0 0)]) 40 rfl Try.underlying54 info80 rfl (by decide) (by omega) u7 x7_1 (⟨a1, t325⟩ : S80) [.string a1, .slice Ao29 t325.length co29] (fun k_ => (P0_ k_ ∨ w.heap.size ≤ k_) ∧ some k_ ≠ (v321 : Value).ownBlock ∧ k_ ≠ gb312) (fun k_ => ((fun k_ => (P0_ k_ ∨ w.heap.size ≤ k_) ∧ some k_ ≠ (v321 : Value).ownBlock ∧ k_ ≠ gb312)) k_ ∧ some k_ ≠ (u7 : Value).ownBlock) rfl rfl ?aP (fun _ hk => hk) ?aF ?aO ?aB ?aS ?aL ?_; (case aP => exact (k80_mkF _ _ (⟨a1, t325⟩ : S80) (Kd.R_reads' (Kd.R_mono (ok' := (fun k_ => ((fun k_ => (P0_ k_ ∨ w.heap.size ≤ k_) ∧ some k_ ≠ (v321 : Value).ownBlock ∧ k_ ≠ gb312)) k_ ∧ some k_ ≠ (u7 : Value).ownBlock)) (Kd.R_apart' (HO327.out) (Kd.N_typed HO_7.out) (by decide)) (fun k_ hk => ⟨⟨(.inr (hk.1.1.1.1)), ⟨hk.1.1.2, hk.1.2⟩⟩, hk.2⟩))).2.1 (Kd.R_F (Kd.R_mono (ok' := (fun k_ => ((fun k_ => (P0_ k_ ∨ w.heap.size ≤ k_) ∧ some k_ ≠ (v321 : Value).ownBlock ∧ k_ ≠ gb312)) k_ ∧ some k_ ≠ (u7 : Value).ownBlock)) (Kd.R_apart' (HO327.out) (Kd.N_typed HO_7.out) (by decide)) (fun k_ hk => ⟨⟨(.inr (hk.1.1.1.1)), ⟨hk.1.1.2, hk.1.2⟩⟩, hk.2⟩))))); (case aB => exact (by repeat (first | (with_reducible first | exact HB.out | apply below_alloc | apply pw_below_drewN | apply below_drew1 | refine below_set ?_ GE312.out) | exact HB.out))); (case aF => exact (fun k_ hk => ⟨(.inr (Nat.le_trans (below_size (by repeat (first | (with_reducible first | exact HB.out | apply below_alloc | apply pw_below_drewN | apply below_drew1 | refine below_set ?_ GE312.out) | exact HB.out))) hk)), Kd.fresh' (Kd.R_lt (by (with_reducible repeat (first | apply Kd.R_alloc | apply Kd.R_drewN | apply Kd.R_drew)); exact HO322.out)) k_ hk, Kd.freshB (g := gb312) (o := .cells #[.string a2_0, .string a2_1] 94 (0, 0)) (by (with_reducible repeat (first | refine blk_drewN ?_ _ | refine blk_drew ?_ | refine blk_alloc ?_ _)); exact BK312.out) k_ hk⟩)); (case aO => exact (by (with_reducible repeat (first | apply Kd.N_alloc | apply Kd.N_drewN | apply Kd.N_drew)); exact Kd.N_mono HO_7.out (fun _ hk => ⟨hk.1.1.1, ⟨hk.1.2, hk.1.1.2⟩⟩))); (case aS => exact (below_size (by repeat (first | (with_reducible first | exact HB.out | apply below_alloc | apply pw_below_drewN | apply below_drew1 | refine below_set ?_ GE312.out) | exact HB.out)))); (case aL => have := LMc14.out; omega); intro v329 w30 ho hb hg hat; rw [← Ny328.out] at ho; have n0_ := Aside0.mk (Kd.V_afterv (ok := (fun k_ => (P0_ k_ ∨ w.heap.size ≤ k_) ∧ some k_ ≠ (v321 : Value).ownBlock ∧ some k_ ≠ (.slice Ao29 t325.length co29 : Value).ownBlock ∧ k_ ≠ gb312)) (by (with_reducible repeat (first | apply Kd.V_alloc | apply Kd.V_drewN | apply Kd.V_drew)); exact Kd.V_mono HO_0.out (fun _ hk => ⟨⟨hk.1.1.1, ⟨hk.1.2, ⟨hk.2, hk.1.1.2.2⟩⟩⟩, hk.1.1.2.1⟩)) hg hat); have n1_ := Aside0.mk (blk_grown (g := gb312) (o := .cells #[.string a2_0, .string a2_1] 94 (0, 0)) (by (with_reducible repeat (first | refine blk_drewN ?_ _ | refine blk_drew ?_ | refine blk_alloc ?_ _)); exact BK312.out) hg (Kd.N_ne HO_7.out BK312.out (by decide))); have n2_ := Aside0.mk (Kd.R_over' (by (with_reducible repeat (first | apply Kd.R_alloc | apply Kd.R_drewN | apply Kd.R_drew)); exact HO322.out) (Kd.N_typed (by (with_reducible repeat (first | apply Kd.N_alloc | apply Kd.N_drewN | apply Kd.N_drew)); exact HO_7.out)) (by decide) hg); have n3_ := Aside0.mk (Kd.V_afterv (ok := (fun k_ => (P0_ k_ ∨ w.heap.size ≤ k_) ∧ some k_ ≠ (v321 : Value).ownBlock ∧ some k_ ≠ (.slice Ao29 t325.length co29 : Value).ownBlock ∧ k_ ≠ gb312)) (by (with_reducible repeat (first | apply Kd.V_alloc | apply Kd.V_drewN | apply Kd.V_drew)); exact Kd.V_mono HL323_1.out (fun _ hk => ⟨⟨hk.1.1.1, ⟨hk.1.2, ⟨hk.2, hk.1.1.2.2⟩⟩⟩, hk.1.1.2.1⟩)) hg hat); have n4_ := Aside0.mk (Kd.V_afterv (ok := (fun k_ => (P0_ k_ ∨ w.heap.size ≤ k_) ∧ some k_ ≠ (v321 : Value).ownBlock ∧ some k_ ≠ (.slice Ao29 t325.length co29 : Value).ownBlock ∧ k_ ≠ gb312)) (by (with_reducible repeat (first | apply Kd.V_alloc | apply Kd.V_drewN | apply Kd.V_drew)); exact Kd.V_mono HL324_1.out (fun _ hk => ⟨⟨hk.1.1.1, ⟨hk.1.2, ⟨hk.2, hk.1.1.2.2⟩⟩⟩, hk.1.1.2.1⟩)) hg hat); have n5_ := Aside0.mk (hb); have n6_ := Aside0.mk (ho); clear HO_0; clear BK312; clear HO322; clear HL323_1; clear HL324_1; clear HB; clear HO_7; clear HO327; have HO_0 := n0_; have BK312 := n1_; have HO322 := n2_; have HL323_1 := n3_; have HL324_1 := n4_; have HB := n5_; have HO330 := n6_; clear n0_ n1_ n2_ n3_ n4_ n5_ n6_; clear ho hb hg hat; have p331 : 0 ≤ (x9_1 : Int) := of_decide_eq_true (by first | (with_reducible assumption) | assumption); have q331 : x9_1 < (l0.length : Int) := of_decide_eq_true (by first | (with_reducible assumption) | assumption); obtain ⟨ad331, A331_1, c331_1, e331, hx331_0, hx331_1, hl331_1, hi331_1⟩ := at_T80 (Kd.V_reads' HO_0.out).2.2 x9_1 p331 q331; obtain rfl : ad323 = ad331 := (by injection e331); obtain ⟨ce331, hce331, hMe331, hcc331⟩ := Kd.V_get HO_0.out z80 x9_1 p331 (by first | exact q331 | exact of_decide_eq_true (by first | (with_reducible assumption) | assumption) | (have e_ := (Kd.V_reads' HO_0.out).1; omega)); obtain ⟨ua331_1, uc331_1, rfl, ul331_1, ge331_1⟩ := k80_openF hMe331; have hv331_1 := hcc331 1 _ rfl; rw [add_field _ _ 1 (by omega)] at hv331_1; replace hv331_1 := Option.some.inj (hv331_1.symm.trans hx331_1); injection hv331_1 with hva_ hvn_ hvc_; rw [hva_] at ge331_1; rw [hvc_] at ul331_1; have HL331_1 := Aside0.mk (show Kd.V k94 94 _ w.heap.size _ _ ((rd_T80 l0 x9_1).f1) from Kd.V_mk ul331_1 ge331_1); clear hva_ hvn_ hvc_ ge331_1 ul331_1; clear hcc331 hce331; have HR331_1 := Aside0.mk hi331_1; have HC331_1 := Aside0.mk hl331_1; clear hi331_1 hl331_1; replace p331 := eq_true p331; replace q331 := eq_true q331; have p332 : 0 ≤ (x9_1 : Int) := of_decide_eq_true (by first | (with_reducible assumption) | assumption); have q332 : x9_1 < (l0.length : Int) := of_decide_eq_true (by first | (with_reducible assumption) | assumption); obtain ⟨ad332, A332_1, c332_1, e332, hx332_0, hx332_1, hl332_1, hi332_1⟩ := at_T80 (Kd.V_reads' HO_0.out).2.2 x9_1 p332 q332; obtain rfl : ad323 = ad332 := (by injection e332); obtain ⟨ce332, hce332, hMe332, hcc332⟩ := Kd.V_get HO_0.out z80 x9_1 p332 (by first | exact q332 | exact of_decide_eq_true (by first | (with_reducible assumption) | assumption) | (have e_ := (Kd.V_reads' HO_0.out).1; omega)); obtain ⟨ua332_1, uc332_1, rfl, ul332_1, ge332_1⟩ := k80_openF hMe332; have hv332_1 := hcc332 1 _ rfl; rw [add_field _ _ 1 (by omega)] at hv332_1; replace hv332_1 := Option.some.inj (hv332_1.symm.trans hx332_1); injection hv332_1 with hva_ hvn_ hvc_; rw [hva_] at ge332_1; rw [hvc_] at ul332_1; have HL332_1 := Aside0.mk (show Kd.V k94 94 _ w.heap.size _ _ ((rd_T80 l0 x9_1).f1) from Kd.V_mk ul332_1 ge332_1); clear hva_ hvn_ hvc_ ge332_1 ul332_1; clear hcc332 hce332; have HR332_1 := Aside0.mk hi332_1; have HC332_1 := Aside0.mk hl332_1; clear hi332_1 hl332_1; replace p332 := eq_true p332; replace q332 := eq_true q332; have ea_ := Option.some.inj (hx331_1.symm.trans hx332_1); injection ea_ with ea_ en_ ec_; subst ea_; subst ec_; clear en_) | ((with_reducible refine gate_builtin (b := .append) (xs := #[.tmp 57, .tmp 62]) rfl ?_); at_builtin; refine Kd.N_append k80 (w0 := w) w.heap.size rfl (.tmp 57) (.tmp 62) 54 80 (.agg #[(.string ⟨#[]⟩), (.slice none 0 0)]) 40 rfl Try.underlying54 info80 rfl (by decide) (by omega) v329 y328 (⟨(rd_T80 l0 x9_1).f0, (rd_T80 l0 x9_1).f1⟩ : S80) [.string ((rd_T80 l0 x9_1).f0), .slice A331_1 ((rd_T80 l0 x9_1).f1).length c331_1] (fun k_ => (P0_ k_ ∨ w.heap.size ≤ k_) ∧ some k_ ≠ (v321 : Value).ownBlock ∧ k_ ≠ gb312) (fun k_ => ((fun k_ => (P0_ k_ ∨ w.heap.size ≤ k_) ∧ some k_ ≠ (v321 : Value).ownBlock ∧ k_ ≠ gb312)) k_ ∧ some k_ ≠ (v329 : Value).ownBlock) rfl rfl ?aP (fun _ hk => hk) ?aF ?aO ?aB ?aS ?aL ?_; (case aP => exact (k80_mkF _ _ (⟨(rd_T80 l0 x9_1).f0, (rd_T80 l0 x9_1).f1⟩ : S80) (Kd.V_reads' (Kd.V_mono (ok' := (fun k_ => ((fun k_ => (P0_ k_ ∨ w.heap.size ≤ k_) ∧ some k_ ≠ (v321 : Value).ownBlock ∧ k_ ≠ gb312)) k_ ∧ some k_ ≠ (v329 : Value).ownBlock)) (HL332_1.out) (fun k_ hk => ⟨⟨hk.1.1, ⟨hk.1.2.1, hk.1.2.2.2⟩⟩, hk.2⟩))).2.1 (Kd.V_F (Kd.V_mono (ok' := (fun k_ => ((fun k_ => (P0_ k_ ∨ w.heap.size ≤ k_) ∧ some k_ ≠ (v321 : Value).ownBlock ∧ k_ ≠ gb312)) k_ ∧ some k_ ≠ (v329 : Value).ownBlock)) (HL332_1.out) (fun k_ hk => ⟨⟨hk.1.1, ⟨hk.1.2.1, hk.1.2.2.2⟩⟩, hk.2⟩))))); (case aB => exact (by repeat (first | (with_reducible first | exact HB.out | apply below_alloc | apply pw_below_drewN | apply below_drew1 | refine below_set ?_ GE312.out) | exact HB.out))); (case aF => exact (fun k_ hk => ⟨(.inr (Nat.le_trans (below_size (by repeat (first | (with_reducible first | exact HB.out | apply below_alloc | apply pw_below_drewN | apply below_drew1 | refine below_set ?_ GE312.out) | exact HB.out))) hk)), Kd.fresh' (Kd.R_lt (by (with_reducible repeat (first | apply Kd.R_alloc | apply Kd.R_drewN | apply Kd.R_drew)); exact HO322.out)) k_ hk, Kd.freshB (g := gb312) (o := .cells #[.string a2_0, .string a2_1] 94 (0, 0)) (by (with_reducible repeat (first | refine blk_drewN ?_ _ | refine blk_drew ?_ | refine blk_alloc ?_ _)); exact BK312.out) k_ hk⟩)); (case aO => exact (by (with_reducible repeat (first | apply Kd.N_alloc | apply Kd.N_drewN | apply Kd.N_drew)); exact HO330.out)); (case aS => exact (below_size (by repeat (first | (with_reducible first | exact HB.out | apply below_alloc | apply pw_below_drewN | apply below_drew1 | refine below_set ?_ GE312.out) | exact HB.out)))); (case aL => have := LMc23.out; omega); intro v334 w31 ho hb hg hat; rw [← Ny333.out] at ho; have n0_ := Aside0.mk (Kd.V_afterv (ok := (fun k_ => (P0_ k_ ∨ w.heap.size ≤ k_) ∧ some k_ ≠ (v321 : Value).ownBlock ∧ k_ ≠ gb312)) (by (with_reducible repeat (first | apply Kd.V_alloc | apply Kd.V_drewN | apply Kd.V_drew)); exact Kd.V_mono HO_0.out (fun _ hk => ⟨⟨hk.1.1, ⟨hk.1.2.1, hk.1.2.2.2⟩⟩, hk.2⟩)) hg hat); have n1_ := Aside0.mk (blk_grown (g := gb312) (o := .cells #[.string a2_0, .string a2_1] 94 (0, 0)) (by (with_reducible repeat (first | refine blk_drewN ?_ _ | refine blk_drew ?_ | refine blk_alloc ?_ _)); exact BK312.out) hg (Kd.N_ne HO330.out BK312.out (by decide))); have n2_ := Aside0.mk (Kd.R_over' (by (with_reducible repeat (first | apply Kd.R_alloc | apply Kd.R_drewN | apply Kd.R_drew)); exact HO322.out) (Kd.N_typed (by (with_reducible repeat (first | apply Kd.N_alloc | apply Kd.N_drewN | apply Kd.N_drew)); exact HO330.out)) (by decide) hg); have n3_ := Aside0.mk (Kd.V_afterv (ok := (fun k_ => (P0_ k_ ∨ w.heap.size ≤ k_) ∧ some k_ ≠ (v321 : Value).ownBlock ∧ k_ ≠ gb312)) (by (with_reducible repeat (first | apply Kd.V_alloc | apply Kd.V_drewN | apply Kd.V_drew)); exact Kd.V_mono HL323_1.out (fun _ hk => ⟨⟨hk.1.1, ⟨hk.1.2.1, hk.1.2.2.2⟩⟩, hk.2⟩)) hg hat); have n4_ := Aside0.mk (Kd.V_afterv (ok := (fun k_ => (P0_ k_ ∨ w.heap.size ≤ k_) ∧ some k_ ≠ (v321 : Value).ownBlock ∧ k_ ≠ gb312)) (by (with_reducible repeat (first | apply Kd.V_alloc | apply Kd.V_drewN | apply Kd.V_drew)); exact Kd.V_mono HL324_1.out (fun _ hk => ⟨⟨hk.1.1, ⟨hk.1.2.1, hk.1.2.2.2⟩⟩, hk.2⟩)) hg hat); have n5_ := Aside0.mk (Kd.V_afterv (ok := (fun k_ => (P0_ k_ ∨ w.heap.size ≤ k_) ∧ some k_ ≠ (v321 : Value).ownBlock ∧ k_ ≠ gb312)) (by (with_reducible repeat (first | apply Kd.V_alloc | apply Kd.V_drewN | apply Kd.V_drew)); exact Kd.V_mono HL331_1.out (fun _ hk => ⟨⟨hk.1.1, ⟨hk.1.2.1, hk.1.2.2.2⟩⟩, hk.2⟩)) hg hat); have n6_ := Aside0.mk (Kd.V_afterv (ok := (fun k_ => (P0_ k_ ∨ w.heap.size ≤ k_) ∧ some k_ ≠ (v321 : Value).ownBlock ∧ k_ ≠ gb312)) (by (with_reducible repeat (first | apply Kd.V_alloc | apply Kd.V_drewN | apply Kd.V_drew)); exact Kd.V_mono HL332_1.out (fun _ hk => ⟨⟨hk.1.1, ⟨hk.1.2.1, hk.1.2.2.2⟩⟩, hk.2⟩)) hg hat); have n7_ := Aside0.mk (hb); have n8_ := Aside0.mk (ho); clear HO_0; clear BK312; clear HO322; clear HL323_1; clear HL324_1; clear HL331_1; clear HL332_1; clear HB; clear HO330; have HO_0 := n0_; have BK312 := n1_; have HO322 := n2_; have HL323_1 := n3_; have HL324_1 := n4_; have HL331_1 := n5_; have HL332_1 := n6_; have HB := n7_; have HO335 := n8_; clear n0_ n1_ n2_ n3_ n4_ n5_ n6_ n7_ n8_; clear ho hb hg hat))
                          go_roundg kj5
                          case measure => have := HK1.out; have := HJ5.out; omega
                          case rel => exact ⟨(y333), (true), (wrap64 (x9_1 + 1)), (by first | rfl | exact congrArg Value.bool (bl_total _ _) | (simp; done) | (simp [*]; done)), (by first | rfl | exact congrArg Value.bool (bl_total _ _) | (simp; done) | (simp [*]; done)), H', ⟨by have := HK1.out; have := HJ5.out; omega⟩, ⟨by (with_reducible repeat (first | apply Kd.V_alloc | apply Kd.V_drewN | apply Kd.V_drew)); exact Kd.V_mono HO_0.out (fun _ hk => ⟨hk.1.1, ⟨hk.2, hk.1.2.2⟩⟩)⟩, ⟨by (with_reducible repeat (first | apply Kd.N_alloc | apply Kd.N_drewN | apply Kd.N_drew)); exact Kd.N_mono HO335.out (fun _ hk => ⟨hk.1, hk.2.2⟩)⟩, ⟨by (with_reducible repeat (first | refine blk_drewN ?_ _ | refine blk_drew ?_ | refine blk_alloc ?_ _)); exact BK312.out⟩, ⟨by repeat (first | (with_reducible first | exact HB.out | apply below_alloc | apply pw_below_drewN | apply below_drew1 | refine below_set ?_ GE312.out) | exact HB.out)⟩⟩
                        · rw [if_neg c23] at H
                          exact absurd H (by simp)
                    · rw [if_neg c14] at H
                      exact absurd H (by simp)
                  · rw [if_neg c12] at H
                    have c12b0 : (a1.toList == ((rd_T80 l0 x9_1).f0).toList) = false := beq_eq_false_iff_ne.mpr c12
                    have c12b1 : (a1.toList != ((rd_T80 l0 x9_1).f0).toList) = true := bne_iff_ne.mpr c12
                    by_cases c32 : x7_1.length < 3518437208883
                    · rw [if_pos c32] at H
                      have LMc32 := Aside0.mk c32
                      clear c32
                      obtain ⟨y336, hy336⟩ : ∃ y_ : List (S80), y_ = (x7_1 ++ [(⟨a1, y320⟩ : S80)]) := ⟨_, rfl⟩
                      replace H : (if ((rd_T80 l0 x9_1).f0).toList = a1.toList then (granarylaw3_putGroup.l0 kj5 l0 a1 y336 true (wrap64 (x9_1 + 1)) a2_0 a2_1) else (if y336.length < 3518437208883 then (granarylaw3_putGroup.l0 kj5 l0 a1 (y336 ++ [(⟨(rd_T80 l0 x9_1).f0, (rd_T80 l0 x9_1).f1⟩ : S80)]) true (wrap64 (x9_1 + 1)) a2_0 a2_1) else (none))) = some r := by first | (rw [hy336]; with_reducible exact H) | (have H2_ := (Option.bind_some _ _).symm.trans H; rw [hy336]; with_reducible exact H2_) | (have H2_ := (Option.bind_some _ _).symm.trans H; with_reducible exact H2_) | with_reducible exact H | (rw [hy336]; exact H) | exact H
                      have Ny336 := Aside0.mk hy336
                      clear hy336
                      by_cases c33 : ((rd_T80 l0 x9_1).f0).toList = a1.toList
                      · rw [if_pos c33] at H
                        have c33b0 : (((rd_T80 l0 x9_1).f0).toList == a1.toList) = true := beq_iff_eq.mpr c33
                        have c33b1 : (((rd_T80 l0 x9_1).f0).toList != a1.toList) = false := bne_eq_false_iff_eq.mpr c33
                        clear c33
                        have H' := Aside0.mk H
                        clear H
                        have hcz34_0 : wc.cell? ⟨gb312, 0, none⟩ = some (.string a2_0) := (blk_cell BK312.out 0).trans rfl
                        have hcz34_1 : wc.cell? ⟨gb312, 1, none⟩ = some (.string a2_1) := (blk_cell BK312.out 1).trans rfl
                        have hfz34_0 := blk_frozen BK312.out 0
                        have hfz34_1 := blk_frozen BK312.out 1
                        go_wp2_with (first | ((with_reducible refine gate_dst (N := 29) rfl ?_); refine Kd.R_lit k94 _ 94 ?hg (N := 29) ?hd (xs := ([(⟨a2_0, a2_1⟩ : S94)] : List (S94))) (inner := [.string a2_0, .string a2_1]) (ok := fun _ => True) (okp := fun _ => True) ?hr ?hp (fun _ hk => hk) trivial (Below.refl _ _) (Nat.le_refl _) (by simp) ?_; (case hd => rfl); (case hg => rfl); (case hr => first | (go_simp; done) | (go_simp; rfl)); (case hp => exact (Reps.c2 (show Kd.M k94 _ _ _ (⟨a2_0, a2_1⟩ : S94) [.string a2_0, .string a2_1] from (k94_mkM _ _ _ (⟨a2_0, a2_1⟩ : S94) )) (Reps.none _ _))); intro v321 w35 ho36 hb hg_ hnew_; clear hg_ hnew_; (first | rw [← Ny320.out] at ho36 | (simp only [Int.reduceToNat] at ho36; rw [← Ny320.out] at ho36)); have n0_ := Aside0.mk (Kd.V_elder' (by (with_reducible repeat (first | apply Kd.V_alloc | apply Kd.V_drewN | apply Kd.V_drew)); exact HO_0.out) (Kd.R_base ho36) hb); have n1_ := Aside0.mk (Kd.N_elder' (by (with_reducible repeat (first | apply Kd.N_alloc | apply Kd.N_drewN | apply Kd.N_drew)); exact HO_7.out) (Kd.R_base ho36) hb); have n2_ := Aside0.mk (Kd.R_lower (Kd.R_newB (Kd.R_newM (M := fun k_ => (w.heap.size ≤ k_)) ho36 (below_size (by repeat (first | (with_reducible first | exact HB.out | apply below_alloc | apply pw_below_drewN | apply below_drew1 | refine below_set ?_ GE312.out) | exact HB.out))) (fun k_ h_ => h_)) (g := gb312) (o := .cells #[.string a2_0, .string a2_1] 94 (0, 0)) (by (with_reducible repeat (first | refine blk_drewN ?_ _ | refine blk_drew ?_ | refine blk_alloc ?_ _)); exact BK312.out)) (below_size (by repeat (first | (with_reducible first | exact HB.out | apply below_alloc | apply pw_below_drewN | apply below_drew1 | refine below_set ?_ GE312.out) | exact HB.out)))); have n3_ := Aside0.mk (blk_below (g := gb312) (o := .cells #[.string a2_0, .string a2_1] 94 (0, 0)) (by (with_reducible repeat (first | refine blk_drewN ?_ _ | refine blk_drew ?_ | refine blk_alloc ?_ _)); exact BK312.out) hb); have n4_ := Aside0.mk (below_step (by repeat (first | (with_reducible first | exact HB.out | apply below_alloc | apply pw_below_drewN | apply below_drew1 | refine below_set ?_ GE312.out) | exact HB.out)) hb); clear HO_0; clear HO_7; clear BK312; clear HB; have HO_0 := n0_; have HO_7 := n1_; have HO322 := n2_; have BK312 := n3_; have HB := n4_; clear n0_ n1_ n2_ n3_ n4_; clear hb ho36; have p323 : 0 ≤ (x9_1 : Int) := of_decide_eq_true (by first | (with_reducible assumption) | assumption); have q323 : x9_1 < (l0.length : Int) := of_decide_eq_true (by first | (with_reducible assumption) | assumption); obtain ⟨ad323, A323_1, c323_1, e323, hx323_0, hx323_1, hl323_1, hi323_1⟩ := at_T80 (Kd.V_reads' HO_0.out).2.2 x9_1 p323 q323; cases e323; obtain ⟨ce323, hce323, hMe323, hcc323⟩ := Kd.V_get HO_0.out z80 x9_1 p323 (by first | exact q323 | exact of_decide_eq_true (by first | (with_reducible assumption) | assumption) | (have e_ := (Kd.V_reads' HO_0.out).1; omega)); obtain ⟨ua323_1, uc323_1, rfl, ul323_1, ge323_1⟩ := k80_openF hMe323; have hv323_1 := hcc323 1 _ rfl; rw [add_field _ _ 1 (by omega)] at hv323_1; replace hv323_1 := Option.some.inj (hv323_1.symm.trans hx323_1); injection hv323_1 with hva_ hvn_ hvc_; rw [hva_] at ge323_1; rw [hvc_] at ul323_1; have HL323_1 := Aside0.mk (show Kd.V k94 94 _ w.heap.size _ _ ((rd_T80 l0 x9_1).f1) from Kd.V_mk ul323_1 ge323_1); clear hva_ hvn_ hvc_ ge323_1 ul323_1; clear hcc323 hce323; have HR323_1 := Aside0.mk hi323_1; have HC323_1 := Aside0.mk hl323_1; clear hi323_1 hl323_1; replace p323 := eq_true p323; replace q323 := eq_true q323; obtain ⟨Ao37, co37, eo37⟩ := Kd.R_slice HO322.out; subst eo37) | ((with_reducible refine gate_builtin (b := .append) (xs := #[.tmp 44, .tmp 48]) rfl ?_); at_builtin; refine Kd.N_append k80 (w0 := w) w.heap.size rfl (.tmp 44) (.tmp 48) 54 80 (.agg #[(.string ⟨#[]⟩), (.slice none 0 0)]) 40 rfl Try.underlying54 info80 rfl (by decide) (by omega) u7 x7_1 (⟨a1, y320⟩ : S80) [.string a1, .slice Ao37 y320.length co37] (fun k_ => (P0_ k_ ∨ w.heap.size ≤ k_) ∧ k_ ≠ gb312) (fun k_ => ((fun k_ => (P0_ k_ ∨ w.heap.size ≤ k_) ∧ k_ ≠ gb312)) k_ ∧ some k_ ≠ (u7 : Value).ownBlock) rfl rfl ?aP (fun _ hk => hk) ?aF ?aO ?aB ?aS ?aL ?_; (case aP => exact (k80_mkF _ _ (⟨a1, y320⟩ : S80) (Kd.R_reads' (Kd.R_mono (ok' := (fun k_ => ((fun k_ => (P0_ k_ ∨ w.heap.size ≤ k_) ∧ k_ ≠ gb312)) k_ ∧ some k_ ≠ (u7 : Value).ownBlock)) (Kd.R_apart' (HO322.out) (Kd.N_typed HO_7.out) (by decide)) (fun k_ hk => ⟨⟨(.inr (hk.1.1.1)), hk.1.2⟩, hk.2⟩))).2.1 (Kd.R_F (Kd.R_mono (ok' := (fun k_ => ((fun k_ => (P0_ k_ ∨ w.heap.size ≤ k_) ∧ k_ ≠ gb312)) k_ ∧ some k_ ≠ (u7 : Value).ownBlock)) (Kd.R_apart' (HO322.out) (Kd.N_typed HO_7.out) (by decide)) (fun k_ hk => ⟨⟨(.inr (hk.1.1.1)), hk.1.2⟩, hk.2⟩))))); (case aB => exact (by repeat (first | (with_reducible first | exact HB.out | apply below_alloc | apply pw_below_drewN | apply below_drew1 | refine below_set ?_ GE312.out) | exact HB.out))); (case aF => exact (fun k_ hk => ⟨(.inr (Nat.le_trans (below_size (by repeat (first | (with_reducible first | exact HB.out | apply below_alloc | apply pw_below_drewN | apply below_drew1 | refine below_set ?_ GE312.out) | exact HB.out))) hk)), Kd.freshB (g := gb312) (o := .cells #[.string a2_0, .string a2_1] 94 (0, 0)) (by (with_reducible repeat (first | refine blk_drewN ?_ _ | refine blk_drew ?_ | refine blk_alloc ?_ _)); exact BK312.out) k_ hk⟩)); (case aO => exact (by (with_reducible repeat (first | apply Kd.N_alloc | apply Kd.N_drewN | apply Kd.N_drew)); exact Kd.N_mono HO_7.out (fun _ hk => ⟨hk.1.1, hk.1.2⟩))); (case aS => exact (below_size (by repeat (first | (with_reducible first | exact HB.out | apply below_alloc | apply pw_below_drewN | apply below_drew1 | refine below_set ?_ GE312.out) | exact HB.out)))); (case aL => have := LMc32.out; omega); intro v337 w38 ho hb hg hat; rw [← Ny336.out] at ho; have n0_ := Aside0.mk (Kd.V_afterv (ok := (fun k_ => (P0_ k_ ∨ w.heap.size ≤ k_) ∧ some k_ ≠ (.slice Ao37 y320.length co37 : Value).ownBlock ∧ k_ ≠ gb312)) (by (with_reducible repeat (first | apply Kd.V_alloc | apply Kd.V_drewN | apply Kd.V_drew)); exact Kd.V_mono HO_0.out (fun _ hk => ⟨⟨hk.1.1, ⟨hk.2, hk.1.2.2⟩⟩, hk.1.2.1⟩)) hg hat); have n1_ := Aside0.mk (blk_grown (g := gb312) (o := .cells #[.string a2_0, .string a2_1] 94 (0, 0)) (by (with_reducible repeat (first | refine blk_drewN ?_ _ | refine blk_drew ?_ | refine blk_alloc ?_ _)); exact BK312.out) hg (Kd.N_ne HO_7.out BK312.out (by decide))); have n2_ := Aside0.mk (Kd.V_afterv (ok := (fun k_ => (P0_ k_ ∨ w.heap.size ≤ k_) ∧ some k_ ≠ (.slice Ao37 y320.length co37 : Value).ownBlock ∧ k_ ≠ gb312)) (by (with_reducible repeat (first | apply Kd.V_alloc | apply Kd.V_drewN | apply Kd.V_drew)); exact Kd.V_mono HL323_1.out (fun _ hk => ⟨⟨hk.1.1, ⟨hk.2, hk.1.2.2⟩⟩, hk.1.2.1⟩)) hg hat); have n3_ := Aside0.mk (hb); have n4_ := Aside0.mk (ho); clear HO_0; clear BK312; clear HL323_1; clear HB; clear HO_7; clear HO322; have HO_0 := n0_; have BK312 := n1_; have HL323_1 := n2_; have HB := n3_; have HO338 := n4_; clear n0_ n1_ n2_ n3_ n4_; clear ho hb hg hat; have p339 : 0 ≤ (x9_1 : Int) := of_decide_eq_true (by first | (with_reducible assumption) | assumption); have q339 : x9_1 < (l0.length : Int) := of_decide_eq_true (by first | (with_reducible assumption) | assumption); obtain ⟨ad339, A339_1, c339_1, e339, hx339_0, hx339_1, hl339_1, hi339_1⟩ := at_T80 (Kd.V_reads' HO_0.out).2.2 x9_1 p339 q339; obtain rfl : ad323 = ad339 := (by injection e339); obtain ⟨ce339, hce339, hMe339, hcc339⟩ := Kd.V_get HO_0.out z80 x9_1 p339 (by first | exact q339 | exact of_decide_eq_true (by first | (with_reducible assumption) | assumption) | (have e_ := (Kd.V_reads' HO_0.out).1; omega)); obtain ⟨ua339_1, uc339_1, rfl, ul339_1, ge339_1⟩ := k80_openF hMe339; have hv339_1 := hcc339 1 _ rfl; rw [add_field _ _ 1 (by omega)] at hv339_1; replace hv339_1 := Option.some.inj (hv339_1.symm.trans hx339_1); injection hv339_1 with hva_ hvn_ hvc_; rw [hva_] at ge339_1; rw [hvc_] at ul339_1; have HL339_1 := Aside0.mk (show Kd.V k94 94 _ w.heap.size _ _ ((rd_T80 l0 x9_1).f1) from Kd.V_mk ul339_1 ge339_1); clear hva_ hvn_ hvc_ ge339_1 ul339_1; clear hcc339 hce339; have HR339_1 := Aside0.mk hi339_1; have HC339_1 := Aside0.mk hl339_1; clear hi339_1 hl339_1; replace p339 := eq_true p339; replace q339 := eq_true q339))
                        go_roundg kj5
                        case measure => have := HK1.out; have := HJ5.out; omega
                        case rel => exact ⟨(y336), (true), (wrap64 (x9_1 + 1)), (by first | rfl | exact congrArg Value.bool (bl_total _ _) | (simp; done) | (simp [*]; done)), (by first | rfl | exact congrArg Value.bool (bl_total _ _) | (simp; done) | (simp [*]; done)), H', ⟨by have := HK1.out; have := HJ5.out; omega⟩, ⟨by (with_reducible repeat (first | apply Kd.V_alloc | apply Kd.V_drewN | apply Kd.V_drew)); exact Kd.V_mono HO_0.out (fun _ hk => ⟨hk.1.1, ⟨hk.2, hk.1.2.2⟩⟩)⟩, ⟨by (with_reducible repeat (first | apply Kd.N_alloc | apply Kd.N_drewN | apply Kd.N_drew)); exact HO338.out⟩, ⟨by (with_reducible repeat (first | refine blk_drewN ?_ _ | refine blk_drew ?_ | refine blk_alloc ?_ _)); exact BK312.out⟩, ⟨by repeat (first | (with_reducible first | exact HB.out | apply below_alloc | apply pw_below_drewN | apply below_drew1 | refine below_set ?_ GE312.out) | exact HB.out)⟩⟩
                      · rw [if_neg c33] at H
                        have c33b0 : (((rd_T80 l0 x9_1).f0).toList == a1.toList) = false := beq_eq_false_iff_ne.mpr c33
                        have c33b1 : (((rd_T80 l0 x9_1).f0).toList != a1.toList) = true := bne_iff_ne.mpr c33
                        by_cases c39 : y336.length < 3518437208883
                        · rw [if_pos c39] at H
                          have LMc39 := Aside0.mk c39
                          clear c39
                          obtain ⟨y341, hy341⟩ : ∃ y_ : List (S80), y_ = (y336 ++ [(⟨(rd_T80 l0 x9_1).f0, (rd_T80 l0 x9_1).f1⟩ : S80)]) := ⟨_, rfl⟩
                          replace H : (granarylaw3_putGroup.l0 kj5 l0 a1 y341 true (wrap64 (x9_1 + 1)) a2_0 a2_1) = some r := by first | (rw [hy341]; with_reducible exact H) | (have H2_ := (Option.bind_some _ _).symm.trans H; rw [hy341]; with_reducible exact H2_) | (have H2_ := (Option.bind_some _ _).symm.trans H; with_reducible exact H2_) | with_reducible exact H | (rw [hy341]; exact H) | exact H
                          have Ny341 := Aside0.mk hy341
                          clear hy341
                          have H' := Aside0.mk H
                          clear H
                          have hcz40_0 : wc.cell? ⟨gb312, 0, none⟩ = some (.string a2_0) := (blk_cell BK312.out 0).trans rfl
                          have hcz40_1 : wc.cell? ⟨gb312, 1, none⟩ = some (.string a2_1) := (blk_cell BK312.out 1).trans rfl
                          have hfz40_0 := blk_frozen BK312.out 0
                          have hfz40_1 := blk_frozen BK312.out 1
                          go_wp2_with (first | ((with_reducible refine gate_dst (N := 29) rfl ?_); refine Kd.R_lit k94 _ 94 ?hg (N := 29) ?hd (xs := ([(⟨a2_0, a2_1⟩ : S94)] : List (S94))) (inner := [.string a2_0, .string a2_1]) (ok := fun _ => True) (okp := fun _ => True) ?hr ?hp (fun _ hk => hk) trivial (Below.refl _ _) (Nat.le_refl _) (by simp) ?_; (case hd => rfl); (case hg => rfl); (case hr => first | (go_simp; done) | (go_simp; rfl)); (case hp => exact (Reps.c2 (show Kd.M k94 _ _ _ (⟨a2_0, a2_1⟩ : S94) [.string a2_0, .string a2_1] from (k94_mkM _ _ _ (⟨a2_0, a2_1⟩ : S94) )) (Reps.none _ _))); intro v321 w41 ho42 hb hg_ hnew_; clear hg_ hnew_; (first | rw [← Ny320.out] at ho42 | (simp only [Int.reduceToNat] at ho42; rw [← Ny320.out] at ho42)); have n0_ := Aside0.mk (Kd.V_elder' (by (with_reducible repeat (first | apply Kd.V_alloc | apply Kd.V_drewN | apply Kd.V_drew)); exact HO_0.out) (Kd.R_base ho42) hb); have n1_ := Aside0.mk (Kd.N_elder' (by (with_reducible repeat (first | apply Kd.N_alloc | apply Kd.N_drewN | apply Kd.N_drew)); exact HO_7.out) (Kd.R_base ho42) hb); have n2_ := Aside0.mk (Kd.R_lower (Kd.R_newB (Kd.R_newM (M := fun k_ => (w.heap.size ≤ k_)) ho42 (below_size (by repeat (first | (with_reducible first | exact HB.out | apply below_alloc | apply pw_below_drewN | apply below_drew1 | refine below_set ?_ GE312.out) | exact HB.out))) (fun k_ h_ => h_)) (g := gb312) (o := .cells #[.string a2_0, .string a2_1] 94 (0, 0)) (by (with_reducible repeat (first | refine blk_drewN ?_ _ | refine blk_drew ?_ | refine blk_alloc ?_ _)); exact BK312.out)) (below_size (by repeat (first | (with_reducible first | exact HB.out | apply below_alloc | apply pw_below_drewN | apply below_drew1 | refine below_set ?_ GE312.out) | exact HB.out)))); have n3_ := Aside0.mk (blk_below (g := gb312) (o := .cells #[.string a2_0, .string a2_1] 94 (0, 0)) (by (with_reducible repeat (first | refine blk_drewN ?_ _ | refine blk_drew ?_ | refine blk_alloc ?_ _)); exact BK312.out) hb); have n4_ := Aside0.mk (below_step (by repeat (first | (with_reducible first | exact HB.out | apply below_alloc | apply pw_below_drewN | apply below_drew1 | refine below_set ?_ GE312.out) | exact HB.out)) hb); clear HO_0; clear HO_7; clear BK312; clear HB; have HO_0 := n0_; have HO_7 := n1_; have HO322 := n2_; have BK312 := n3_; have HB := n4_; clear n0_ n1_ n2_ n3_ n4_; clear hb ho42; have p323 : 0 ≤ (x9_1 : Int) := of_decide_eq_true (by first | (with_reducible assumption) | assumption); have q323 : x9_1 < (l0.length : Int) := of_decide_eq_true (by first | (with_reducible assumption) | assumption); obtain ⟨ad323, A323_1, c323_1, e323, hx323_0, hx323_1, hl323_1, hi323_1⟩ := at_T80 (Kd.V_reads' HO_0.out).2.2 x9_1 p323 q323; cases e323; obtain ⟨ce323, hce323, hMe323, hcc323⟩ := Kd.V_get HO_0.out z80 x9_1 p323 (by first | exact q323 | exact of_decide_eq_true (by first | (with_reducible assumption) | assumption) | (have e_ := (Kd.V_reads' HO_0.out).1; omega)); obtain ⟨ua323_1, uc323_1, rfl, ul323_1, ge323_1⟩ := k80_openF hMe323; have hv323_1 := hcc323 1 _ rfl; rw [add_field _ _ 1 (by omega)] at hv323_1; replace hv323_1 := Option.some.inj (hv323_1.symm.trans hx323_1); injection hv323_1 with hva_ hvn_ hvc_; rw [hva_] at ge323_1; rw [hvc_] at ul323_1; have HL323_1 := Aside0.mk (show Kd.V k94 94 _ w.heap.size _ _ ((rd_T80 l0 x9_1).f1) from Kd.V_mk ul323_1 ge323_1); clear hva_ hvn_ hvc_ ge323_1 ul323_1; clear hcc323 hce323; have HR323_1 := Aside0.mk hi323_1; have HC323_1 := Aside0.mk hl323_1; clear hi323_1 hl323_1; replace p323 := eq_true p323; replace q323 := eq_true q323; obtain ⟨Ao43, co43, eo43⟩ := Kd.R_slice HO322.out; subst eo43) | ((with_reducible refine gate_builtin (b := .append) (xs := #[.tmp 44, .tmp 48]) rfl ?_); at_builtin; refine Kd.N_append k80 (w0 := w) w.heap.size rfl (.tmp 44) (.tmp 48) 54 80 (.agg #[(.string ⟨#[]⟩), (.slice none 0 0)]) 40 rfl Try.underlying54 info80 rfl (by decide) (by omega) u7 x7_1 (⟨a1, y320⟩ : S80) [.string a1, .slice Ao43 y320.length co43] (fun k_ => (P0_ k_ ∨ w.heap.size ≤ k_) ∧ k_ ≠ gb312) (fun k_ => ((fun k_ => (P0_ k_ ∨ w.heap.size ≤ k_) ∧ k_ ≠ gb312)) k_ ∧ some k_ ≠ (u7 : Value).ownBlock) rfl rfl ?aP (fun _ hk => hk) ?aF ?aO ?aB ?aS ?aL ?_; (case aP => exact (k80_mkF _ _ (⟨a1, y320⟩ : S80) (Kd.R_reads' (Kd.R_mono (ok' := (fun k_ => ((fun k_ => (P0_ k_ ∨ w.heap.size ≤ k_) ∧ k_ ≠ gb312)) k_ ∧ some k_ ≠ (u7 : Value).ownBlock)) (Kd.R_apart' (HO322.out) (Kd.N_typed HO_7.out) (by decide)) (fun k_ hk => ⟨⟨(.inr (hk.1.1.1)), hk.1.2⟩, hk.2⟩))).2.1 (Kd.R_F (Kd.R_mono (ok' := (fun k_ => ((fun k_ => (P0_ k_ ∨ w.heap.size ≤ k_) ∧ k_ ≠ gb312)) k_ ∧ some k_ ≠ (u7 : Value).ownBlock)) (Kd.R_apart' (HO322.out) (Kd.N_typed HO_7.out) (by decide)) (fun k_ hk => ⟨⟨(.inr (hk.1.1.1)), hk.1.2⟩, hk.2⟩))))); (case aB => exact (by repeat (first | (with_reducible first | exact HB.out | apply below_alloc | apply pw_below_drewN | apply below_drew1 | refine below_set ?_ GE312.out) | exact HB.out))); (case aF => exact (fun k_ hk => ⟨(.inr (Nat.le_trans (below_size (by repeat (first | (with_reducible first | exact HB.out | apply below_alloc | apply pw_below_drewN | apply below_drew1 | refine below_set ?_ GE312.out) | exact HB.out))) hk)), Kd.freshB (g := gb312) (o := .cells #[.string a2_0, .string a2_1] 94 (0, 0)) (by (with_reducible repeat (first | refine blk_drewN ?_ _ | refine blk_drew ?_ | refine blk_alloc ?_ _)); exact BK312.out) k_ hk⟩)); (case aO => exact (by (with_reducible repeat (first | apply Kd.N_alloc | apply Kd.N_drewN | apply Kd.N_drew)); exact Kd.N_mono HO_7.out (fun _ hk => ⟨hk.1.1, hk.1.2⟩))); (case aS => exact (below_size (by repeat (first | (with_reducible first | exact HB.out | apply below_alloc | apply pw_below_drewN | apply below_drew1 | refine below_set ?_ GE312.out) | exact HB.out)))); (case aL => have := LMc32.out; omega); intro v337 w44 ho hb hg hat; rw [← Ny336.out] at ho; have n0_ := Aside0.mk (Kd.V_afterv (ok := (fun k_ => (P0_ k_ ∨ w.heap.size ≤ k_) ∧ some k_ ≠ (.slice Ao43 y320.length co43 : Value).ownBlock ∧ k_ ≠ gb312)) (by (with_reducible repeat (first | apply Kd.V_alloc | apply Kd.V_drewN | apply Kd.V_drew)); exact Kd.V_mono HO_0.out (fun _ hk => ⟨⟨hk.1.1, ⟨hk.2, hk.1.2.2⟩⟩, hk.1.2.1⟩)) hg hat); have n1_ := Aside0.mk (blk_grown (g := gb312) (o := .cells #[.string a2_0, .string a2_1] 94 (0, 0)) (by (with_reducible repeat (first | refine blk_drewN ?_ _ | refine blk_drew ?_ | refine blk_alloc ?_ _)); exact BK312.out) hg (Kd.N_ne HO_7.out BK312.out (by decide))); have n2_ := Aside0.mk (Kd.V_afterv (ok := (fun k_ => (P0_ k_ ∨ w.heap.size ≤ k_) ∧ some k_ ≠ (.slice Ao43 y320.length co43 : Value).ownBlock ∧ k_ ≠ gb312)) (by (with_reducible repeat (first | apply Kd.V_alloc | apply Kd.V_drewN | apply Kd.V_drew)); exact Kd.V_mono HL323_1.out (fun _ hk => ⟨⟨hk.1.1, ⟨hk.2, hk.1.2.2⟩⟩, hk.1.2.1⟩)) hg hat); have n3_ := Aside0.mk (hb); have n4_ := Aside0.mk (ho); clear HO_0; clear BK312; clear HL323_1; clear HB; clear HO_7; clear HO322; have HO_0 := n0_; have BK312 := n1_; have HL323_1 := n2_; have HB := n3_; have HO338 := n4_; clear n0_ n1_ n2_ n3_ n4_; clear ho hb hg hat; have p339 : 0 ≤ (x9_1 : Int) := of_decide_eq_true (by first | (with_reducible assumption) | assumption); have q339 : x9_1 < (l0.length : Int) := of_decide_eq_true (by first | (with_reducible assumption) | assumption); obtain ⟨ad339, A339_1, c339_1, e339, hx339_0, hx339_1, hl339_1, hi339_1⟩ := at_T80 (Kd.V_reads' HO_0.out).2.2 x9_1 p339 q339; obtain rfl : ad323 = ad339 := (by injection e339); obtain ⟨ce339, hce339, hMe339, hcc339⟩ := Kd.V_get HO_0.out z80 x9_1 p339 (by first | exact q339 | exact of_decide_eq_true (by first | (with_reducible assumption) | assumption) | (have e_ := (Kd.V_reads' HO_0.out).1; omega)); obtain ⟨ua339_1, uc339_1, rfl, ul339_1, ge339_1⟩ := k80_openF hMe339; have hv339_1 := hcc339 1 _ rfl; rw [add_field _ _ 1 (by omega)] at hv339_1; replace hv339_1 := Option.some.inj (hv339_1.symm.trans hx339_1); injection hv339_1 with hva_ hvn_ hvc_; rw [hva_] at ge339_1; rw [hvc_] at ul339_1; have HL339_1 := Aside0.mk (show Kd.V k94 94 _ w.heap.size _ _ ((rd_T80 l0 x9_1).f1) from Kd.V_mk ul339_1 ge339_1); clear hva_ hvn_ hvc_ ge339_1 ul339_1; clear hcc339 hce339; have HR339_1 := Aside0.mk hi339_1; have HC339_1 := Aside0.mk hl339_1; clear hi339_1 hl339_1; replace p339 := eq_true p339; replace q339 := eq_true q339; have p340 : 0 ≤ (x9_1 : Int) := of_decide_eq_true (by first | (with_reducible assumption) | assumption); have q340 : x9_1 < (l0.length : Int) := of_decide_eq_true (by first | (with_reducible assumption) | assumption); obtain ⟨ad340, A340_1, c340_1, e340, hx340_0, hx340_1, hl340_1, hi340_1⟩ := at_T80 (Kd.V_reads' HO_0.out).2.2 x9_1 p340 q340; obtain rfl : ad323 = ad340 := (by injection e340); obtain ⟨ce340, hce340, hMe340, hcc340⟩ := Kd.V_get HO_0.out z80 x9_1 p340 (by first | exact q340 | exact of_decide_eq_true (by first | (with_reducible assumption) | assumption) | (have e_ := (Kd.V_reads' HO_0.out).1; omega)); obtain ⟨ua340_1, uc340_1, rfl, ul340_1, ge340_1⟩ := k80_openF hMe340; have hv340_1 := hcc340 1 _ rfl; rw [add_field _ _ 1 (by omega)] at hv340_1; replace hv340_1 := Option.some.inj (hv340_1.symm.trans hx340_1); injection hv340_1 with hva_ hvn_ hvc_; rw [hva_] at ge340_1; rw [hvc_] at ul340_1; have HL340_1 := Aside0.mk (show Kd.V k94 94 _ w.heap.size _ _ ((rd_T80 l0 x9_1).f1) from Kd.V_mk ul340_1 ge340_1); clear hva_ hvn_ hvc_ ge340_1 ul340_1; clear hcc340 hce340; have HR340_1 := Aside0.mk hi340_1; have HC340_1 := Aside0.mk hl340_1; clear hi340_1 hl340_1; replace p340 := eq_true p340; replace q340 := eq_true q340; have ea_ := Option.some.inj (hx339_1.symm.trans hx340_1); injection ea_ with ea_ en_ ec_; subst ea_; subst ec_; clear en_) | ((with_reducible refine gate_builtin (b := .append) (xs := #[.tmp 57, .tmp 62]) rfl ?_); at_builtin; refine Kd.N_append k80 (w0 := w) w.heap.size rfl (.tmp 57) (.tmp 62) 54 80 (.agg #[(.string ⟨#[]⟩), (.slice none 0 0)]) 40 rfl Try.underlying54 info80 rfl (by decide) (by omega) v337 y336 (⟨(rd_T80 l0 x9_1).f0, (rd_T80 l0 x9_1).f1⟩ : S80) [.string ((rd_T80 l0 x9_1).f0), .slice A339_1 ((rd_T80 l0 x9_1).f1).length c339_1] (fun k_ => (P0_ k_ ∨ w.heap.size ≤ k_) ∧ k_ ≠ gb312) (fun k_ => ((fun k_ => (P0_ k_ ∨ w.heap.size ≤ k_) ∧ k_ ≠ gb312)) k_ ∧ some k_ ≠ (v337 : Value).ownBlock) rfl rfl ?aP (fun _ hk => hk) ?aF ?aO ?aB ?aS ?aL ?_; (case aP => exact (k80_mkF _ _ (⟨(rd_T80 l0 x9_1).f0, (rd_T80 l0 x9_1).f1⟩ : S80) (Kd.V_reads' (Kd.V_mono (ok' := (fun k_ => ((fun k_ => (P0_ k_ ∨ w.heap.size ≤ k_) ∧ k_ ≠ gb312)) k_ ∧ some k_ ≠ (v337 : Value).ownBlock)) (HL340_1.out) (fun k_ hk => ⟨⟨hk.1.1, hk.1.2.2⟩, hk.2⟩))).2.1 (Kd.V_F (Kd.V_mono (ok' := (fun k_ => ((fun k_ => (P0_ k_ ∨ w.heap.size ≤ k_) ∧ k_ ≠ gb312)) k_ ∧ some k_ ≠ (v337 : Value).ownBlock)) (HL340_1.out) (fun k_ hk => ⟨⟨hk.1.1, hk.1.2.2⟩, hk.2⟩))))); (case aB => exact (by repeat (first | (with_reducible first | exact HB.out | apply below_alloc | apply pw_below_drewN | apply below_drew1 | refine below_set ?_ GE312.out) | exact HB.out))); (case aF => exact (fun k_ hk => ⟨(.inr (Nat.le_trans (below_size (by repeat (first | (with_reducible first | exact HB.out | apply below_alloc | apply pw_below_drewN | apply below_drew1 | refine below_set ?_ GE312.out) | exact HB.out))) hk)), Kd.freshB (g := gb312) (o := .cells #[.string a2_0, .string a2_1] 94 (0, 0)) (by (with_reducible repeat (first | refine blk_drewN ?_ _ | refine blk_drew ?_ | refine blk_alloc ?_ _)); exact BK312.out) k_ hk⟩)); (case aO => exact (by (with_reducible repeat (first | apply Kd.N_alloc | apply Kd.N_drewN | apply Kd.N_drew)); exact HO338.out)); (case aS => exact (below_size (by repeat (first | (with_reducible first | exact HB.out | apply below_alloc | apply pw_below_drewN | apply below_drew1 | refine below_set ?_ GE312.out) | exact HB.out)))); (case aL => have := LMc39.out; omega); intro v342 w45 ho hb hg hat; rw [← Ny341.out] at ho; have n0_ := Aside0.mk (Kd.V_afterv (ok := (fun k_ => (P0_ k_ ∨ w.heap.size ≤ k_) ∧ k_ ≠ gb312)) (by (with_reducible repeat (first | apply Kd.V_alloc | apply Kd.V_drewN | apply Kd.V_drew)); exact Kd.V_mono HO_0.out (fun _ hk => ⟨⟨hk.1.1, hk.1.2.2⟩, hk.2⟩)) hg hat); have n1_ := Aside0.mk (blk_grown (g := gb312) (o := .cells #[.string a2_0, .string a2_1] 94 (0, 0)) (by (with_reducible repeat (first | refine blk_drewN ?_ _ | refine blk_drew ?_ | refine blk_alloc ?_ _)); exact BK312.out) hg (Kd.N_ne HO338.out BK312.out (by decide))); have n2_ := Aside0.mk (Kd.V_afterv (ok := (fun k_ => (P0_ k_ ∨ w.heap.size ≤ k_) ∧ k_ ≠ gb312)) (by (with_reducible repeat (first | apply Kd.V_alloc | apply Kd.V_drewN | apply Kd.V_drew)); exact Kd.V_mono HL323_1.out (fun _ hk => ⟨⟨hk.1.1, hk.1.2.2⟩, hk.2⟩)) hg hat); have n3_ := Aside0.mk (Kd.V_afterv (ok := (fun k_ => (P0_ k_ ∨ w.heap.size ≤ k_) ∧ k_ ≠ gb312)) (by (with_reducible repeat (first | apply Kd.V_alloc | apply Kd.V_drewN | apply Kd.V_drew)); exact Kd.V_mono HL339_1.out (fun _ hk => ⟨⟨hk.1.1, hk.1.2.2⟩, hk.2⟩)) hg hat); have n4_ := Aside0.mk (Kd.V_afterv (ok := (fun k_ => (P0_ k_ ∨ w.heap.size ≤ k_) ∧ k_ ≠ gb312)) (by (with_reducible repeat (first | apply Kd.V_alloc | apply Kd.V_drewN | apply Kd.V_drew)); exact Kd.V_mono HL340_1.out (fun _ hk => ⟨⟨hk.1.1, hk.1.2.2⟩, hk.2⟩)) hg hat); have n5_ := Aside0.mk (hb); have n6_ := Aside0.mk (ho); clear HO_0; clear BK312; clear HL323_1; clear HL339_1; clear HL340_1; clear HB; clear HO338; have HO_0 := n0_; have BK312 := n1_; have HL323_1 := n2_; have HL339_1 := n3_; have HL340_1 := n4_; have HB := n5_; have HO343 := n6_; clear n0_ n1_ n2_ n3_ n4_ n5_ n6_; clear ho hb hg hat))
                          go_roundg kj5
                          case measure => have := HK1.out; have := HJ5.out; omega
                          case rel => exact ⟨(y341), (true), (wrap64 (x9_1 + 1)), (by first | rfl | exact congrArg Value.bool (bl_total _ _) | (simp; done) | (simp [*]; done)), (by first | rfl | exact congrArg Value.bool (bl_total _ _) | (simp; done) | (simp [*]; done)), H', ⟨by have := HK1.out; have := HJ5.out; omega⟩, ⟨by (with_reducible repeat (first | apply Kd.V_alloc | apply Kd.V_drewN | apply Kd.V_drew)); exact Kd.V_mono HO_0.out (fun _ hk => ⟨hk.1.1, ⟨hk.2, hk.1.2⟩⟩)⟩, ⟨by (with_reducible repeat (first | apply Kd.N_alloc | apply Kd.N_drewN | apply Kd.N_drew)); exact HO343.out⟩, ⟨by (with_reducible repeat (first | refine blk_drewN ?_ _ | refine blk_drew ?_ | refine blk_alloc ?_ _)); exact BK312.out⟩, ⟨by repeat (first | (with_reducible first | exact HB.out | apply below_alloc | apply pw_below_drewN | apply below_drew1 | refine below_set ?_ GE312.out) | exact HB.out)⟩⟩
                        · rw [if_neg c39] at H
                          exact absurd H (by simp)
                    · rw [if_neg c32] at H
                      exact absurd H (by simp)
                · rw [if_neg c11] at H
                  exact absurd H (by simp)
              · rw [if_neg c10] at H
                exact absurd H (by simp)
            · replace c9 := Bool.eq_false_iff.mpr c9
              subst c9
              have H1 : (if 0 ≤ x9_1 then (if x9_1 < (l0.length : Int) then (if ((rd_T80 l0 x9_1).f0).toList = a1.toList then (granarylaw3_putGroup.l0 kj5 l0 a1 x7_1 x8_1 (wrap64 (x9_1 + 1)) a2_0 a2_1) else (if x7_1.length < 3518437208883 then (granarylaw3_putGroup.l0 kj5 l0 a1 (x7_1 ++ [(⟨(rd_T80 l0 x9_1).f0, (rd_T80 l0 x9_1).f1⟩ : S80)]) x8_1 (wrap64 (x9_1 + 1)) a2_0 a2_1) else (none))) else (none)) else (none)) = some r := by rw [if_neg (show ¬ (false = true) by decide)] at H; exact H
              clear H
              have H := H1
              clear H1
              by_cases c46 : 0 ≤ x9_1
              · rw [if_pos c46] at H
                have c46b0 : decide (0 ≤ x9_1) = true := decide_eq_true c46
                clear c46
                by_cases c47 : x9_1 < (l0.length : Int)
                · rw [if_pos c47] at H
                  have c47b0 : decide (x9_1 < (l0.length : Int)) = true := decide_eq_true c47
                  clear c47
                  by_cases c48 : ((rd_T80 l0 x9_1).f0).toList = a1.toList
                  · rw [if_pos c48] at H
                    have c48b0 : (((rd_T80 l0 x9_1).f0).toList == a1.toList) = true := beq_iff_eq.mpr c48
                    have c48b1 : (((rd_T80 l0 x9_1).f0).toList != a1.toList) = false := bne_eq_false_iff_eq.mpr c48
                    clear c48
                    have H' := Aside0.mk H
                    clear H
                    have p344 : 0 ≤ (x9_1 : Int) := of_decide_eq_true (by first | (with_reducible assumption) | assumption)
                    have q344 : x9_1 < (l0.length : Int) := of_decide_eq_true (by first | (with_reducible assumption) | assumption)
                    obtain ⟨ad344, A344_1, c344_1, e344, hx344_0, hx344_1, hl344_1, hi344_1⟩ := at_T80 (Kd.V_reads' HO_0.out).2.2 x9_1 p344 q344
                    cases e344
                    obtain ⟨ce344, hce344, hMe344, hcc344⟩ := Kd.V_get HO_0.out z80 x9_1 p344 (by first | exact q344 | exact of_decide_eq_true (by first | (with_reducible assumption) | assumption) | (have e_ := (Kd.V_reads' HO_0.out).1; omega))
                    obtain ⟨ua344_1, uc344_1, rfl, ul344_1, ge344_1⟩ := k80_openF hMe344
                    have hv344_1 := hcc344 1 _ rfl
                    rw [add_field _ _ 1 (by omega)] at hv344_1
                    replace hv344_1 := Option.some.inj (hv344_1.symm.trans hx344_1)
                    injection hv344_1 with hva_ hvn_ hvc_
                    rw [hva_] at ge344_1
                    rw [hvc_] at ul344_1
                    have HL344_1 := Aside0.mk (show Kd.V k94 94 _ w.heap.size _ _ ((rd_T80 l0 x9_1).f1) from Kd.V_mk ul344_1 ge344_1)
                    clear hva_ hvn_ hvc_ ge344_1 ul344_1
                    clear hcc344 hce344
                    have HR344_1 := Aside0.mk hi344_1
                    have HC344_1 := Aside0.mk hl344_1
                    clear hi344_1 hl344_1
                    replace p344 := eq_true p344
                    replace q344 := eq_true q344
                    go_wp2
                    go_roundg kj5
                    case measure => have := HK1.out; have := HJ5.out; omega
                    case rel => exact ⟨(x7_1), (x8_1), (wrap64 (x9_1 + 1)), (by first | rfl | exact congrArg Value.bool (bl_total _ _) | (simp; done) | (simp [*]; done)), (by first | rfl | exact congrArg Value.bool (bl_total _ _) | (simp; done) | (simp [*]; done)), H', ⟨by have := HK1.out; have := HJ5.out; omega⟩, ⟨by (with_reducible repeat (first | apply Kd.V_alloc | apply Kd.V_drewN | apply Kd.V_drew)); exact HO_0.out⟩, ⟨by (with_reducible repeat (first | apply Kd.N_alloc | apply Kd.N_drewN | apply Kd.N_drew)); exact HO_7.out⟩, ⟨by (with_reducible repeat (first | refine blk_drewN ?_ _ | refine blk_drew ?_ | refine blk_alloc ?_ _)); exact BK312.out⟩, ⟨by repeat (first | (with_reducible first | exact HB.out | apply below_alloc | apply pw_below_drewN | apply below_drew1 | refine below_set ?_ GE312.out) | exact HB.out)⟩⟩
                  · rw [if_neg c48] at H
                    have c48b0 : (((rd_T80 l0 x9_1).f0).toList == a1.toList) = false := beq_eq_false_iff_ne.mpr c48
                    have c48b1 : (((rd_T80 l0 x9_1).f0).toList != a1.toList) = true := bne_iff_ne.mpr c48
                    by_cases c49 : x7_1.length < 3518437208883
                    · rw [if_pos c49] at H
                      have LMc49 := Aside0.mk c49
                      clear c49
                      obtain ⟨y346, hy346⟩ : ∃ y_ : List (S80), y_ = (x7_1 ++ [(⟨(rd_T80 l0 x9_1).f0, (rd_T80 l0 x9_1).f1⟩ : S80)]) := ⟨_, rfl⟩
                      replace H : (granarylaw3_putGroup.l0 kj5 l0 a1 y346 x8_1 (wrap64 (x9_1 + 1)) a2_0 a2_1) = some r := by first | (rw [hy346]; with_reducible exact H) | (have H2_ := (Option.bind_some _ _).symm.trans H; rw [hy346]; with_reducible exact H2_) | (have H2_ := (Option.bind_some _ _).symm.trans H; with_reducible exact H2_) | with_reducible exact H | (rw [hy346]; exact H) | exact H
                      have Ny346 := Aside0.mk hy346
                      clear hy346
                      have H' := Aside0.mk H
                      clear H
                      have p344 : 0 ≤ (x9_1 : Int) := of_decide_eq_true (by first | (with_reducible assumption) | assumption)
                      have q344 : x9_1 < (l0.length : Int) := of_decide_eq_true (by first | (with_reducible assumption) | assumption)
                      obtain ⟨ad344, A344_1, c344_1, e344, hx344_0, hx344_1, hl344_1, hi344_1⟩ := at_T80 (Kd.V_reads' HO_0.out).2.2 x9_1 p344 q344
                      cases e344
                      obtain ⟨ce344, hce344, hMe344, hcc344⟩ := Kd.V_get HO_0.out z80 x9_1 p344 (by first | exact q344 | exact of_decide_eq_true (by first | (with_reducible assumption) | assumption) | (have e_ := (Kd.V_reads' HO_0.out).1; omega))
                      obtain ⟨ua344_1, uc344_1, rfl, ul344_1, ge344_1⟩ := k80_openF hMe344
                      have hv344_1 := hcc344 1 _ rfl
                      rw [add_field _ _ 1 (by omega)] at hv344_1
                      replace hv344_1 := Option.some.inj (hv344_1.symm.trans hx344_1)
                      injection hv344_1 with hva_ hvn_ hvc_
                      rw [hva_] at ge344_1
                      rw [hvc_] at ul344_1
                      have HL344_1 := Aside0.mk (show Kd.V k94 94 _ w.heap.size _ _ ((rd_T80 l0 x9_1).f1) from Kd.V_mk ul344_1 ge344_1)
                      clear hva_ hvn_ hvc_ ge344_1 ul344_1
                      clear hcc344 hce344
                      have HR344_1 := Aside0.mk hi344_1
                      have HC344_1 := Aside0.mk hl344_1
                      clear hi344_1 hl344_1
                      replace p344 := eq_true p344
                      replace q344 := eq_true q344
                      have p345 : 0 ≤ (x9_1 : Int) := of_decide_eq_true (by first | (with_reducible assumption) | assumption)
                      have q345 : x9_1 < (l0.length : Int) := of_decide_eq_true (by first | (with_reducible assumption) | assumption)
                      obtain ⟨ad345, A345_1, c345_1, e345, hx345_0, hx345_1, hl345_1, hi345_1⟩ := at_T80 (Kd.V_reads' HO_0.out).2.2 x9_1 p345 q345
                      obtain rfl : ad344 = ad345 := (by injection e345)
                      obtain ⟨ce345, hce345, hMe345, hcc345⟩ := Kd.V_get HO_0.out z80 x9_1 p345 (by first | exact q345 | exact of_decide_eq_true (by first | (with_reducible assumption) | assumption) | (have e_ := (Kd.V_reads' HO_0.out).1; omega))
                      obtain ⟨ua345_1, uc345_1, rfl, ul345_1, ge345_1⟩ := k80_openF hMe345
                      have hv345_1 := hcc345 1 _ rfl
                      rw [add_field _ _ 1 (by omega)] at hv345_1
                      replace hv345_1 := Option.some.inj (hv345_1.symm.trans hx345_1)
                      injection hv345_1 with hva_ hvn_ hvc_
                      rw [hva_] at ge345_1
                      rw [hvc_] at ul345_1
                      have HL345_1 := Aside0.mk (show Kd.V k94 94 _ w.heap.size _ _ ((rd_T80 l0 x9_1).f1) from Kd.V_mk ul345_1 ge345_1)
                      clear hva_ hvn_ hvc_ ge345_1 ul345_1
                      clear hcc345 hce345
                      have HR345_1 := Aside0.mk hi345_1
                      have HC345_1 := Aside0.mk hl345_1
                      clear hi345_1 hl345_1
                      replace p345 := eq_true p345
                      replace q345 := eq_true q345
                      have ea_ := Option.some.inj (hx344_1.symm.trans hx345_1)
                      injection ea_ with ea_ en_ ec_
                      subst ea_
                      subst ec_
                      clear en_
                      go_wp2_with (first | ((with_reducible refine gate_builtin (b := .append) (xs := #[.tmp 57, .tmp 62]) rfl ?_); at_builtin; refine Kd.N_append k80 (w0 := w) w.heap.size rfl (.tmp 57) (.tmp 62) 54 80 (.agg #[(.string ⟨#[]⟩), (.slice none 0 0)]) 40 rfl Try.underlying54 info80 rfl (by decide) (by omega) u7 x7_1 (⟨(rd_T80 l0 x9_1).f0, (rd_T80 l0 x9_1).f1⟩ : S80) [.string ((rd_T80 l0 x9_1).f0), .slice A344_1 ((rd_T80 l0 x9_1).f1).length c344_1] (fun k_ => (P0_ k_ ∨ w.heap.size ≤ k_) ∧ k_ ≠ gb312) (fun k_ => ((fun k_ => (P0_ k_ ∨ w.heap.size ≤ k_) ∧ k_ ≠ gb312)) k_ ∧ some k_ ≠ (u7 : Value).ownBlock) rfl rfl ?aP (fun _ hk => hk) ?aF ?aO ?aB ?aS ?aL ?_; (case aP => exact (k80_mkF _ _ (⟨(rd_T80 l0 x9_1).f0, (rd_T80 l0 x9_1).f1⟩ : S80) (Kd.V_reads' (Kd.V_mono (ok' := (fun k_ => ((fun k_ => (P0_ k_ ∨ w.heap.size ≤ k_) ∧ k_ ≠ gb312)) k_ ∧ some k_ ≠ (u7 : Value).ownBlock)) (HL345_1.out) (fun k_ hk => ⟨⟨hk.1, hk.2.2⟩, hk.2.1⟩))).2.1 (Kd.V_F (Kd.V_mono (ok' := (fun k_ => ((fun k_ => (P0_ k_ ∨ w.heap.size ≤ k_) ∧ k_ ≠ gb312)) k_ ∧ some k_ ≠ (u7 : Value).ownBlock)) (HL345_1.out) (fun k_ hk => ⟨⟨hk.1, hk.2.2⟩, hk.2.1⟩))))); (case aB => exact (by repeat (first | (with_reducible first | exact HB.out | apply below_alloc | apply pw_below_drewN | apply below_drew1 | refine below_set ?_ GE312.out) | exact HB.out))); (case aF => exact (fun k_ hk => ⟨(.inr (Nat.le_trans (below_size (by repeat (first | (with_reducible first | exact HB.out | apply below_alloc | apply pw_below_drewN | apply below_drew1 | refine below_set ?_ GE312.out) | exact HB.out))) hk)), Kd.freshB (g := gb312) (o := .cells #[.string a2_0, .string a2_1] 94 (0, 0)) (by (with_reducible repeat (first | refine blk_drewN ?_ _ | refine blk_drew ?_ | refine blk_alloc ?_ _)); exact BK312.out) k_ hk⟩)); (case aO => exact (by (with_reducible repeat (first | apply Kd.N_alloc | apply Kd.N_drewN | apply Kd.N_drew)); exact HO_7.out)); (case aS => exact (below_size (by repeat (first | (with_reducible first | exact HB.out | apply below_alloc | apply pw_below_drewN | apply below_drew1 | refine below_set ?_ GE312.out) | exact HB.out)))); (case aL => have := LMc49.out; omega); intro v347 w50 ho hb hg hat; rw [← Ny346.out] at ho; have n0_ := Aside0.mk (Kd.V_afterv (ok := (fun k_ => (P0_ k_ ∨ w.heap.size ≤ k_) ∧ k_ ≠ gb312)) (by (with_reducible repeat (first | apply Kd.V_alloc | apply Kd.V_drewN | apply Kd.V_drew)); exact Kd.V_mono HO_0.out (fun _ hk => ⟨⟨hk.1, hk.2.2⟩, hk.2.1⟩)) hg hat); have n1_ := Aside0.mk (blk_grown (g := gb312) (o := .cells #[.string a2_0, .string a2_1] 94 (0, 0)) (by (with_reducible repeat (first | refine blk_drewN ?_ _ | refine blk_drew ?_ | refine blk_alloc ?_ _)); exact BK312.out) hg (Kd.N_ne HO_7.out BK312.out (by decide))); have n2_ := Aside0.mk (Kd.V_afterv (ok := (fun k_ => (P0_ k_ ∨ w.heap.size ≤ k_) ∧ k_ ≠ gb312)) (by (with_reducible repeat (first | apply Kd.V_alloc | apply Kd.V_drewN | apply Kd.V_drew)); exact Kd.V_mono HL344_1.out (fun _ hk => ⟨⟨hk.1, hk.2.2⟩, hk.2.1⟩)) hg hat); have n3_ := Aside0.mk (Kd.V_afterv (ok := (fun k_ => (P0_ k_ ∨ w.heap.size ≤ k_) ∧ k_ ≠ gb312)) (by (with_reducible repeat (first | apply Kd.V_alloc | apply Kd.V_drewN | apply Kd.V_drew)); exact Kd.V_mono HL345_1.out (fun _ hk => ⟨⟨hk.1, hk.2.2⟩, hk.2.1⟩)) hg hat); have n4_ := Aside0.mk (hb); have n5_ := Aside0.mk (ho); clear HO_0; clear BK312; clear HL344_1; clear HL345_1; clear HB; clear HO_7; have HO_0 := n0_; have BK312 := n1_; have HL344_1 := n2_; have HL345_1 := n3_; have HB := n4_; have HO348 := n5_; clear n0_ n1_ n2_ n3_ n4_ n5_; clear ho hb hg hat))
                      go_roundg kj5
                      case measure => have := HK1.out; have := HJ5.out; omega
                      case rel => exact ⟨(y346), (x8_1), (wrap64 (x9_1 + 1)), (by first | rfl | exact congrArg Value.bool (bl_total _ _) | (simp; done) | (simp [*]; done)), (by first | rfl | exact congrArg Value.bool (bl_total _ _) | (simp; done) | (simp [*]; done)), H', ⟨by have := HK1.out; have := HJ5.out; omega⟩, ⟨by (with_reducible repeat (first | apply Kd.V_alloc | apply Kd.V_drewN | apply Kd.V_drew)); exact Kd.V_mono HO_0.out (fun _ hk => ⟨hk.1.1, ⟨hk.2, hk.1.2⟩⟩)⟩, ⟨by (with_reducible repeat (first | apply Kd.N_alloc | apply Kd.N_drewN | apply Kd.N_drew)); exact HO348.out⟩, ⟨by (with_reducible repeat (first | refine blk_drewN ?_ _ | refine blk_drew ?_ | refine blk_alloc ?_ _)); exact BK312.out⟩, ⟨by repeat (first | (with_reducible first | exact HB.out | apply below_alloc | apply pw_below_drewN | apply below_drew1 | refine below_set ?_ GE312.out) | exact HB.out)⟩⟩
                    · rw [if_neg c49] at H
                      exact absurd H (by simp)
                · rw [if_neg c47] at H
                  exact absurd H (by simp)
              · rw [if_neg c46] at H
                exact absurd H (by simp)
      · rw [if_neg c5] at H
        have c5b0 : decide (x9_1 < (l0.length : Int)) = false := decide_eq_false c5
        clear c5
        by_cases c51 : x8_1 = true
        · subst c51
          have H1 : (some x7_1) = some r := by rw [if_pos rfl] at H; exact H
          clear H
          have H := H1
          clear H1
          obtain rfl := Option.some.inj H
          go_wp2
          go_ret
          exact ⟨_, by first | rfl | (simp [errW_none, errW_some] <;> rfl) | (simp [*, errW_none, errW_some] <;> rfl), by (with_reducible repeat (first | apply Kd.N_alloc | apply Kd.N_drewN | apply Kd.N_drew)); exact Kd.N_mono HO_7.out (fun _ hk => hk.1), by repeat (first | (with_reducible first | exact HB.out | apply below_alloc | apply pw_below_drewN | apply below_drew1 | refine below_set ?_ GE312.out) | exact HB.out)⟩
        · replace c51 := Bool.eq_false_iff.mpr c51
          subst c51
          have H1 : (if x7_1.length < 3518437208883 then (some (x7_1 ++ [(⟨a1, (([(⟨a2_0, a2_1⟩ : S94)] : List (S94)))⟩ : S80)])) else (none)) = some r := by rw [if_neg (show ¬ (false = true) by decide)] at H; exact H
          clear H
          have H := H1
          clear H1
          obtain ⟨y313, hy313⟩ : ∃ y_ : List (S94), y_ = (([(⟨a2_0, a2_1⟩ : S94)] : List (S94))) := ⟨_, rfl⟩
          replace H : (if x7_1.length < 3518437208883 then (some (x7_1 ++ [(⟨a1, y313⟩ : S80)])) else (none)) = some r := by first | (rw [hy313]; with_reducible exact H) | (have H2_ := (Option.bind_some _ _).symm.trans H; rw [hy313]; with_reducible exact H2_) | (have H2_ := (Option.bind_some _ _).symm.trans H; with_reducible exact H2_) | with_reducible exact H | (rw [hy313]; exact H) | exact H
          have Ny313 := Aside0.mk hy313
          clear hy313
          by_cases c52 : x7_1.length < 3518437208883
          · rw [if_pos c52] at H
            have LMc52 := Aside0.mk c52
            clear c52
            obtain ⟨y316, hy316⟩ : ∃ y_ : List (S80), y_ = (x7_1 ++ [(⟨a1, y313⟩ : S80)]) := ⟨_, rfl⟩
            replace H : (some y316) = some r := by first | (rw [hy316]; with_reducible exact H) | (have H2_ := (Option.bind_some _ _).symm.trans H; rw [hy316]; with_reducible exact H2_) | (have H2_ := (Option.bind_some _ _).symm.trans H; with_reducible exact H2_) | with_reducible exact H | (rw [hy316]; exact H) | exact H
            have Ny316 := Aside0.mk hy316
            clear hy316
            obtain rfl := Option.some.inj H
            have hcz53_0 : wr.cell? ⟨gb312, 0, none⟩ = some (.string a2_0) := (blk_cell BK312.out 0).trans rfl
            have hcz53_1 : wr.cell? ⟨gb312, 1, none⟩ = some (.string a2_1) := (blk_cell BK312.out 1).trans rfl
            have hfz53_0 := blk_frozen BK312.out 0
            have hfz53_1 := blk_frozen BK312.out 1
            go_wp2_with (first | ((with_reducible refine gate_dst (N := 69) rfl ?_); refine Kd.R_lit k94 _ 94 ?hg (N := 69) ?hd (xs := ([(⟨a2_0, a2_1⟩ : S94)] : List (S94))) (inner := [.string a2_0, .string a2_1]) (ok := fun _ => True) (okp := fun _ => True) ?hr ?hp (fun _ hk => hk) trivial (Below.refl _ _) (Nat.le_refl _) (by simp) ?_; (case hd => rfl); (case hg => rfl); (case hr => first | (go_simp; done) | (go_simp; rfl)); (case hp => exact (Reps.c2 (show Kd.M k94 _ _ _ (⟨a2_0, a2_1⟩ : S94) [.string a2_0, .string a2_1] from (k94_mkM _ _ _ (⟨a2_0, a2_1⟩ : S94) )) (Reps.none _ _))); intro v314 w54 ho55 hb hg_ hnew_; clear hg_ hnew_; (first | rw [← Ny313.out] at ho55 | (simp only [Int.reduceToNat] at ho55; rw [← Ny313.out] at ho55)); have n0_ := Aside0.mk (Kd.V_elder' (by (with_reducible repeat (first | apply Kd.V_alloc | apply Kd.V_drewN | apply Kd.V_drew)); exact HO_0.out) (Kd.R_base ho55) hb); have n1_ := Aside0.mk (Kd.N_elder' (by (with_reducible repeat (first | apply Kd.N_alloc | apply Kd.N_drewN | apply Kd.N_drew)); exact HO_7.out) (Kd.R_base ho55) hb); have n2_ := Aside0.mk (Kd.R_lower (Kd.R_newB (Kd.R_newM (M := fun k_ => (w.heap.size ≤ k_)) ho55 (below_size (by repeat (first | (with_reducible first | exact HB.out | apply below_alloc | apply pw_below_drewN | apply below_drew1 | refine below_set ?_ GE312.out) | exact HB.out))) (fun k_ h_ => h_)) (g := gb312) (o := .cells #[.string a2_0, .string a2_1] 94 (0, 0)) (by (with_reducible repeat (first | refine blk_drewN ?_ _ | refine blk_drew ?_ | refine blk_alloc ?_ _)); exact BK312.out)) (below_size (by repeat (first | (with_reducible first | exact HB.out | apply below_alloc | apply pw_below_drewN | apply below_drew1 | refine below_set ?_ GE312.out) | exact HB.out)))); have n3_ := Aside0.mk (blk_below (g := gb312) (o := .cells #[.string a2_0, .string a2_1] 94 (0, 0)) (by (with_reducible repeat (first | refine blk_drewN ?_ _ | refine blk_drew ?_ | refine blk_alloc ?_ _)); exact BK312.out) hb); have n4_ := Aside0.mk (below_step (by repeat (first | (with_reducible first | exact HB.out | apply below_alloc | apply pw_below_drewN | apply below_drew1 | refine below_set ?_ GE312.out) | exact HB.out)) hb); clear HO_0; clear HO_7; clear BK312; clear HB; have HO_0 := n0_; have HO_7 := n1_; have HO315 := n2_; have BK312 := n3_; have HB := n4_; clear n0_ n1_ n2_ n3_ n4_; clear hb ho55; obtain ⟨Ao56, co56, eo56⟩ := Kd.R_slice HO315.out; subst eo56) | ((with_reducible refine gate_builtin (b := .append) (xs := #[.tmp 66, .tmp 71]) rfl ?_); at_builtin; refine Kd.N_append k80 (w0 := w) w.heap.size rfl (.tmp 66) (.tmp 71) 54 80 (.agg #[(.string ⟨#[]⟩), (.slice none 0 0)]) 40 rfl Try.underlying54 info80 rfl (by decide) (by omega) u7 x7_1 (⟨a1, y313⟩ : S80) [.string a1, .slice Ao56 y313.length co56] (fun k_ => (P0_ k_ ∨ w.heap.size ≤ k_) ∧ k_ ≠ gb312) (fun k_ => ((fun k_ => (P0_ k_ ∨ w.heap.size ≤ k_) ∧ k_ ≠ gb312)) k_ ∧ some k_ ≠ (u7 : Value).ownBlock) rfl rfl ?aP (fun _ hk => hk) ?aF ?aO ?aB ?aS ?aL ?_; (case aP => exact (k80_mkF _ _ (⟨a1, y313⟩ : S80) (Kd.R_reads' (Kd.R_mono (ok' := (fun k_ => ((fun k_ => (P0_ k_ ∨ w.heap.size ≤ k_) ∧ k_ ≠ gb312)) k_ ∧ some k_ ≠ (u7 : Value).ownBlock)) (Kd.R_apart' (HO315.out) (Kd.N_typed HO_7.out) (by decide)) (fun k_ hk => ⟨⟨(.inr (hk.1.1.1)), hk.1.2⟩, hk.2⟩))).2.1 (Kd.R_F (Kd.R_mono (ok' := (fun k_ => ((fun k_ => (P0_ k_ ∨ w.heap.size ≤ k_) ∧ k_ ≠ gb312)) k_ ∧ some k_ ≠ (u7 : Value).ownBlock)) (Kd.R_apart' (HO315.out) (Kd.N_typed HO_7.out) (by decide)) (fun k_ hk => ⟨⟨(.inr (hk.1.1.1)), hk.1.2⟩, hk.2⟩))))); (case aB => exact (by repeat (first | (with_reducible first | exact HB.out | apply below_alloc | apply pw_below_drewN | apply below_drew1 | refine below_set ?_ GE312.out) | exact HB.out))); (case aF => exact (fun k_ hk => ⟨(.inr (Nat.le_trans (below_size (by repeat (first | (with_reducible first | exact HB.out | apply below_alloc | apply pw_below_drewN | apply below_drew1 | refine below_set ?_ GE312.out) | exact HB.out))) hk)), Kd.freshB (g := gb312) (o := .cells #[.string a2_0, .string a2_1] 94 (0, 0)) (by (with_reducible repeat (first | refine blk_drewN ?_ _ | refine blk_drew ?_ | refine blk_alloc ?_ _)); exact BK312.out) k_ hk⟩)); (case aO => exact (by (with_reducible repeat (first | apply Kd.N_alloc | apply Kd.N_drewN | apply Kd.N_drew)); exact Kd.N_mono HO_7.out (fun _ hk => ⟨hk.1.1, hk.1.2⟩))); (case aS => exact (below_size (by repeat (first | (with_reducible first | exact HB.out | apply below_alloc | apply pw_below_drewN | apply below_drew1 | refine below_set ?_ GE312.out) | exact HB.out)))); (case aL => have := LMc52.out; omega); intro v317 w57 ho hb hg hat; rw [← Ny316.out] at ho; have n0_ := Aside0.mk (Kd.V_afterv (ok := (fun k_ => (P0_ k_ ∨ w.heap.size ≤ k_) ∧ some k_ ≠ (.slice Ao56 y313.length co56 : Value).ownBlock ∧ k_ ≠ gb312)) (by (with_reducible repeat (first | apply Kd.V_alloc | apply Kd.V_drewN | apply Kd.V_drew)); exact Kd.V_mono HO_0.out (fun _ hk => ⟨⟨hk.1.1, ⟨hk.2, hk.1.2.2⟩⟩, hk.1.2.1⟩)) hg hat); have n1_ := Aside0.mk (blk_grown (g := gb312) (o := .cells #[.string a2_0, .string a2_1] 94 (0, 0)) (by (with_reducible repeat (first | refine blk_drewN ?_ _ | refine blk_drew ?_ | refine blk_alloc ?_ _)); exact BK312.out) hg (Kd.N_ne HO_7.out BK312.out (by decide))); have n2_ := Aside0.mk (hb); have n3_ := Aside0.mk (ho); clear HO_0; clear BK312; clear HB; clear HO_7; clear HO315; have HO_0 := n0_; have BK312 := n1_; have HB := n2_; have HO318 := n3_; clear n0_ n1_ n2_ n3_; clear ho hb hg hat))
            go_ret
            exact ⟨_, by first | rfl | (simp [errW_none, errW_some] <;> rfl) | (simp [*, errW_none, errW_some] <;> rfl), by (with_reducible repeat (first | apply Kd.N_alloc | apply Kd.N_drewN | apply Kd.N_drew)); exact Kd.N_mono HO318.out (fun _ hk => hk.1), by repeat (first | (with_reducible first | exact HB.out | apply below_alloc | apply pw_below_drewN | apply below_drew1 | refine below_set ?_ GE312.out) | exact HB.out)⟩
          · rw [if_neg c52] at H
            exact absurd H (by simp)

/-! ### granarylaw3_valued: function 76 -/
def granarylaw3_valued.f (a0 : ByteArray) : Option (ByteArray) := if (a0.size : Int) > 4096 then (if 0 ≤ 4096 then (if 4096 ≤ (a0.size : Int) then (some (a0.extract 0 4096)) else (none)) else (none)) else (some a0)
set_option maxHeartbeats 8000000 in
set_option maxRecDepth 100000 in
theorem granarylaw3_valued.calls (a0 : ByteArray) (r : ByteArray) (w : World) (h : granarylaw3_valued.f a0 = some r) :
    Calls Try.prog 76 #[.string a0] w fun e w' => e = .returned (.string r) ∧ Drawn0 w w' := by
  have H : (if (a0.size : Int) > 4096 then (if 0 ≤ 4096 then (if 4096 ≤ (a0.size : Int) then (some (a0.extract 0 4096)) else (none)) else (none)) else (some a0)) = some r := h
  clear h
  by_cases c2 : (a0.size : Int) > 4096
  · rw [if_pos c2] at H
    have c2b0 : decide (4096 < (a0.size : Int)) = true := decide_eq_true c2
    have c2b1 : decide (4096 < a0.size) = true := decide_eq_true (by omega)
    clear c2
    by_cases c3 : 0 ≤ 4096
    · rw [if_pos c3] at H
      have c3b0 := eq_true c3
      have c3b1 : decide (0 ≤ 4096) = true := decide_eq_true c3
      clear c3
      by_cases c4 : 4096 ≤ (a0.size : Int)
      · rw [if_pos c4] at H
        have c4b0 := eq_true c4
        have c4b1 : decide (4096 ≤ (a0.size : Int)) = true := decide_eq_true c4
        clear c4
        obtain rfl := Option.some.inj H
        go_enter Try.func76, Try.ntmps76
        go_wp2
        go_ret
        exact ⟨by first | rfl | (simp; done) | (simp [*]; done), by repeat (first | exact Drawn0.refl _ | apply Drawn0.step)⟩
      · rw [if_neg c4] at H
        exact absurd H (by simp)
    · rw [if_neg c3] at H
      exact absurd H (by simp)
  · rw [if_neg c2] at H
    have c2b0 : decide (4096 < (a0.size : Int)) = false := decide_eq_false c2
    have c2b1 : decide (4096 < a0.size) = false := decide_eq_false (by omega)
    clear c2
    obtain rfl := Option.some.inj H
    go_enter Try.func76, Try.ntmps76
    go_wp2
    go_ret
    exact ⟨by first | rfl | (simp; done) | (simp [*]; done), by repeat (first | exact Drawn0.refl _ | apply Drawn0.step)⟩

end Go.Proofs.Ytkfhedppnlocpaa.Q
