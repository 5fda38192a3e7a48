-- written by a program of this session (wip/tools), out of the translation; Lean checks it
import Derived.Test.YtkfhedppnlocpaaQx0
namespace Go.Proofs.Ytkfhedppnlocpaa.Q
open Go.RowKit Go.Proofs.YtkfhedppnlocpaaW.PrintWords Go.Proofs.YtkfhedppnlocpaaW.PrintLast Go.Proofs.YtkfhedppnlocpaaW.PrintMore
attribute [local go_sem] max2_int min2_int max_two min_two max_three min_three max_four min_four   -- for this text's walks alone
set_option linter.unusedVariables false
set_option linter.unusedSimpArgs false

/-! ### granarylaw3_weight: function 77 -/
mutual
def granarylaw3_weight.l0 : Nat → List (S80) → Int → Int → Int → Option (Int × Int)
  | 0, _, _, _, _ => none
  | k + 1, x0, x4, x5, x6 => if x6 < (x0.length : Int) then (if 0 ≤ x6 then (if (((rd_T80 x0 x6).f1).length : Int) > x5 then (granarylaw3_weight.j1 k x0 (wrap64 (x4 + 2)) (((rd_T80 x0 x6).f1).length : Int) x6) else (granarylaw3_weight.j1 k x0 (wrap64 (x4 + 2)) x5 x6)) else (none)) else (some (x4, x5))
def granarylaw3_weight.j1 : Nat → List (S80) → Int → Int → Int → Option (Int × Int)
  | 0, _, _, _, _ => none
  | k + 1, x0, x4, x5, x6 => granarylaw3_weight.l1 k x0 x4 x5 x6 0
def granarylaw3_weight.l1 : Nat → List (S80) → Int → Int → Int → Int → Option (Int × Int)
  | 0, _, _, _, _, _ => none
  | k + 1, x0, x4, x5, x6, x7 => if 0 ≤ x6 then (if x6 < (x0.length : Int) then (if x7 < (((rd_T80 x0 x6).f1).length : Int) then (if 0 ≤ x7 then (granarylaw3_weight.l1 k x0 (wrap64 ((wrap64 ((wrap64 (x4 + 6)) + (((rd_T94 ((rd_T80 x0 x6).f1) x7).f0).size : Int))) + (((rd_T94 ((rd_T80 x0 x6).f1) x7).f1).size : Int))) x5 x6 (wrap64 (x7 + 1))) else (none)) else (granarylaw3_weight.l0 k x0 x4 x5 (wrap64 (x6 + 1)))) else (none)) else (none)
end
def granarylaw3_weight.f (k : Nat) (l0 : List (S80)) : Option (Int × Int) := granarylaw3_weight.l0 k l0 0 0 0
set_option maxHeartbeats 8000000 in
set_option maxRecDepth 100000 in
theorem granarylaw3_weight.calls (k : Nat) (A0 : Option Addr) (c0 : Nat) (l0 : List (S80)) (r1 : Int) (r2 : Int) (w : World) (hr0 : Kd.C k80 w A0 l0.length l0) (hc0 : l0.length ≤ c0) (h : granarylaw3_weight.f k l0 = some (r1, r2)) :
    Calls Try.prog 77 #[.slice A0 l0.length c0] w fun e w' => e = .returned (.tuple #[.int .i64 r1, .int .i64 r2]) ∧ Drawn0 w w' := by
  have HR0 := Aside0.mk hr0
  have HC0 := Aside0.mk hc0
  clear hr0 hc0
  have H : (granarylaw3_weight.l0 k l0 0 0 0) = some (r1, r2) := h
  clear h
  have H' := Aside0.mk H
  clear H
  go_enter Try.func77, Try.ntmps77
  go_wp2
  repeat (go_quiet (fail); try go_wp2)
  go_loopg [4, 5, 6] k (fun kq v4 v5 v6 w' => ∃ (x4_1 : Int) (x5_1 : Int) (x6_1 : Int), v4 = .int .i64 x4_1 ∧ v5 = .int .i64 x5_1 ∧ v6 = .int .i64 x6_1 ∧ Aside0 (granarylaw3_weight.l0 kq l0 x4_1 x5_1 x6_1 = some (r1, r2)) ∧ Aside0 (kq ≤ k) ∧ Drawn0 w w')
  case atStart => exact ⟨(0), (0), (0), (by first | rfl | (simp; done) | (simp [*]; done)), (by first | rfl | (simp; done) | (simp [*]; done)), (by first | rfl | (simp; done) | (simp [*]; done)), H', ⟨Nat.le_refl _⟩, by repeat (first | exact Drawn0.refl _ | apply Drawn0.step)⟩
  case round =>
    clear H'
    obtain ⟨x4_1, x5_1, x6_1, rfl, rfl, rfl, HA, HK1, ⟨m1, rfl⟩⟩ := hrel
    cases gk with
    | zero => exact absurd HA.out (by simp [granarylaw3_weight.l0])
    | succ k1 =>
      have H := HA.out
      clear HA
      simp only [granarylaw3_weight.l0] at H
      by_cases c2 : x6_1 < (l0.length : Int)
      · rw [if_pos c2] at H
        have c2b0 : decide (x6_1 < (l0.length : Int)) = true := decide_eq_true c2
        clear c2
        by_cases c3 : 0 ≤ x6_1
        · rw [if_pos c3] at H
          have c3b0 : decide (0 ≤ x6_1) = true := decide_eq_true c3
          clear c3
          have HC4 := Aside0.mk H
          clear H
          have p349 : 0 ≤ (x6_1 : Int) := of_decide_eq_true (by first | (with_reducible assumption) | assumption)
          have q349 : x6_1 < (l0.length : Int) := of_decide_eq_true (by first | (with_reducible assumption) | assumption)
          obtain ⟨ad349, A349_1, c349_1, e349, hx349_0, hx349_1, hl349_1, hi349_1⟩ := at_T80 HR0.out x6_1 p349 q349
          cases e349
          have HR349_1 := Aside0.mk hi349_1
          have HC349_1 := Aside0.mk hl349_1
          clear hi349_1 hl349_1
          replace p349 := eq_true p349
          replace q349 := eq_true q349
          go_upto_if 23 with (fail)
          repeat (go_quiet (fail); go_upto_if 23 with (fail))
          go_cut [5] (fun v5 wc => ∃ (kq : Nat) (x5_3 : Int), v5 = .int .i64 x5_3 ∧ Aside0 (granarylaw3_weight.j1 kq l0 (wrap64 (x4_1 + 2)) x5_3 x6_1 = some (r1, r2)) ∧ Aside0 (kq ≤ k1) ∧ Drawn0 w wc)
          case first =>
            have H := HC4.out
            clear HC4
            by_cases c5 : (((rd_T80 l0 x6_1).f1).length : Int) > x5_1
            · rw [if_pos c5] at H
              have c5b0 : decide (x5_1 < (((rd_T80 l0 x6_1).f1).length : Int)) = true := decide_eq_true c5
              clear c5
              (first | rw [c5b0] | (simp only [i64_w, i32_w]; rw [c5b0]) | skip)
              have H' := Aside0.mk H
              clear H
              have p350 : 0 ≤ (x6_1 : Int) := of_decide_eq_true (by first | (with_reducible assumption) | assumption)
              have q350 : x6_1 < (l0.length : Int) := of_decide_eq_true (by first | (with_reducible assumption) | assumption)
              obtain ⟨ad350, A350_1, c350_1, e350, hx350_0, hx350_1, hl350_1, hi350_1⟩ := at_T80 HR0.out x6_1 p350 q350
              obtain rfl : ad349 = ad350 := (by injection e350)
              have HR350_1 := Aside0.mk hi350_1
              have HC350_1 := Aside0.mk hl350_1
              clear hi350_1 hl350_1
              replace p350 := eq_true p350
              replace q350 := eq_true q350
              go_wp2
              repeat (go_quiet (fail); try go_wp2)
              go_meet
              case rel => exact ⟨_, ((((rd_T80 l0 x6_1).f1).length : Int)), (by first | rfl | (simp; done) | (simp [*]; done)), H', ⟨by have := HK1.out; first | omega | exact Nat.le_refl _⟩, by repeat (first | exact Drawn0.refl _ | apply Drawn0.step)⟩
            · rw [if_neg c5] at H
              have c5b0 : decide (x5_1 < (((rd_T80 l0 x6_1).f1).length : Int)) = false := decide_eq_false c5
              clear c5
              (first | rw [c5b0] | (simp only [i64_w, i32_w]; rw [c5b0]) | skip)
              have H' := Aside0.mk H
              clear H
              go_wp2
              repeat (go_quiet (fail); try go_wp2)
              go_meet
              case rel => exact ⟨_, (x5_1), (by first | rfl | (simp; done) | (simp [*]; done)), H', ⟨by have := HK1.out; first | omega | exact Nat.le_refl _⟩, by repeat (first | exact Drawn0.refl _ | apply Drawn0.step)⟩
          case rest =>
            clear HC4
            try clear c2
            try clear c2b0
            try clear p2
            try clear c3
            try clear c3b0
            try clear p3
            try clear q3
            try clear hx3
            try clear c5
            try clear c5b0
            try clear hx349_0
            try clear hx349_1
            try clear hx350_0
            try clear hx350_1
            try clear p349
            try clear p350
            try clear q349
            try clear q350
            obtain ⟨kq, x5_3, rfl, HA, HJ3, ⟨mc3, rfl⟩⟩ := hcut
            cases kq with
            | zero => exact absurd HA.out (by simp [granarylaw3_weight.j1])
            | succ kj3 =>
              have H := HA.out
              clear HA
              simp only [granarylaw3_weight.j1] at H
              have H' := Aside0.mk H
              clear H
              go_wp2
              repeat (go_quiet (fail); try go_wp2)
              go_loopg [4, 7] kj3 (fun kq v4 v7 w' => ∃ (x4_3 : Int) (x7_3 : Int), v4 = .int .i64 x4_3 ∧ v7 = .int .i64 x7_3 ∧ Aside0 (granarylaw3_weight.l1 kq l0 x4_3 x5_3 x6_1 x7_3 = some (r1, r2)) ∧ Aside0 (kq ≤ kj3) ∧ Drawn0 w w')
              case atStart => exact ⟨((wrap64 (x4_1 + 2))), (0), (by first | rfl | (simp; done) | (simp [*]; done)), (by first | rfl | (simp; done) | (simp [*]; done)), H', ⟨Nat.le_refl _⟩, by repeat (first | exact Drawn0.refl _ | apply Drawn0.step)⟩
              case round =>
                clear H'
                try clear c2
                try clear c2b0
                try clear p2
                try clear c3
                try clear c3b0
                try clear p3
                try clear q3
                try clear hx3
                try clear c5
                try clear c5b0
                try clear hx349_0
                try clear hx349_1
                try clear hx350_0
                try clear hx350_1
                try clear p2
                try clear p3
                try clear p349
                try clear p350
                try clear q3
                try clear q349
                try clear q350
                obtain ⟨x4_3, x7_3, rfl, rfl, HA, HK3, ⟨m3, rfl⟩⟩ := hrel
                cases gk with
                | zero => exact absurd HA.out (by simp [granarylaw3_weight.l1])
                | succ k3 =>
                  have H := HA.out
                  clear HA
                  simp only [granarylaw3_weight.l1] at H
                  by_cases c6 : 0 ≤ x6_1
                  · rw [if_pos c6] at H
                    have c6b0 : decide (0 ≤ x6_1) = true := decide_eq_true c6
                    clear c6
                    by_cases c7 : x6_1 < (l0.length : Int)
                    · rw [if_pos c7] at H
                      have c7b0 : decide (x6_1 < (l0.length : Int)) = true := decide_eq_true c7
                      clear c7
                      by_cases c8 : x7_3 < (((rd_T80 l0 x6_1).f1).length : Int)
                      · rw [if_pos c8] at H
                        have c8b0 : decide (x7_3 < (((rd_T80 l0 x6_1).f1).length : Int)) = true := decide_eq_true c8
                        clear c8
                        by_cases c9 : 0 ≤ x7_3
                        · rw [if_pos c9] at H
                          have c9b0 : decide (0 ≤ x7_3) = true := decide_eq_true c9
                          clear c9
                          have H' := Aside0.mk H
                          clear H
                          have p351 : 0 ≤ (x6_1 : Int) := of_decide_eq_true (by first | (with_reducible assumption) | assumption)
                          have q351 : x6_1 < (l0.length : Int) := of_decide_eq_true (by first | (with_reducible assumption) | assumption)
                          obtain ⟨ad351, A351_1, c351_1, e351, hx351_0, hx351_1, hl351_1, hi351_1⟩ := at_T80 HR0.out x6_1 p351 q351
                          obtain rfl : ad349 = ad351 := (by injection e351)
                          have HR351_1 := Aside0.mk hi351_1
                          have HC351_1 := Aside0.mk hl351_1
                          clear hi351_1 hl351_1
                          replace p351 := eq_true p351
                          replace q351 := eq_true q351
                          have p352 : 0 ≤ (x6_1 : Int) := of_decide_eq_true (by first | (with_reducible assumption) | assumption)
                          have q352 : x6_1 < (l0.length : Int) := of_decide_eq_true (by first | (with_reducible assumption) | assumption)
                          obtain ⟨ad352, A352_1, c352_1, e352, hx352_0, hx352_1, hl352_1, hi352_1⟩ := at_T80 HR0.out x6_1 p352 q352
                          obtain rfl : ad349 = ad352 := (by injection e352)
                          have HR352_1 := Aside0.mk hi352_1
                          have HC352_1 := Aside0.mk hl352_1
                          clear hi352_1 hl352_1
                          replace p352 := eq_true p352
                          replace q352 := eq_true q352
                          have ea_ := Option.some.inj (hx351_1.symm.trans hx352_1)
                          injection ea_ with ea_ en_ ec_
                          subst ea_
                          subst ec_
                          clear en_
                          have p353 : 0 ≤ (x7_3 : Int) := of_decide_eq_true (by first | (with_reducible assumption) | assumption)
                          have q353 : x7_3 < (((rd_T80 l0 x6_1).f1).length : Int) := of_decide_eq_true (by first | (with_reducible assumption) | assumption)
                          obtain ⟨ad353, e353, hx353_0, hx353_1⟩ := at_T94 HR352_1.out x7_3 p353 q353
                          cases e353
                          replace p353 := eq_true p353
                          replace q353 := eq_true q353
                          have p354 : 0 ≤ (x6_1 : Int) := of_decide_eq_true (by first | (with_reducible assumption) | assumption)
                          have q354 : x6_1 < (l0.length : Int) := of_decide_eq_true (by first | (with_reducible assumption) | assumption)
                          obtain ⟨ad354, A354_1, c354_1, e354, hx354_0, hx354_1, hl354_1, hi354_1⟩ := at_T80 HR0.out x6_1 p354 q354
                          obtain rfl : ad349 = ad354 := (by injection e354)
                          have HR354_1 := Aside0.mk hi354_1
                          have HC354_1 := Aside0.mk hl354_1
                          clear hi354_1 hl354_1
                          replace p354 := eq_true p354
                          replace q354 := eq_true q354
                          have ea_ := Option.some.inj (hx351_1.symm.trans hx354_1)
                          injection ea_ with ea_ en_ ec_
                          subst ea_
                          subst ec_
                          clear en_
                          have p355 : 0 ≤ (x7_3 : Int) := of_decide_eq_true (by first | (with_reducible assumption) | assumption)
                          have q355 : x7_3 < (((rd_T80 l0 x6_1).f1).length : Int) := of_decide_eq_true (by first | (with_reducible assumption) | assumption)
                          obtain ⟨ad355, e355, hx355_0, hx355_1⟩ := at_T94 HR354_1.out x7_3 p355 q355
                          cases e355
                          replace p355 := eq_true p355
                          replace q355 := eq_true q355
                          go_wp2
                          repeat (go_quiet (fail); try go_wp2)
                          go_roundg k3
                          case measure => have := HK1.out; have := HJ3.out; have := HK3.out; omega
                          case rel => exact ⟨(wrap64 ((wrap64 ((wrap64 (x4_3 + 6)) + (((rd_T94 ((rd_T80 l0 x6_1).f1) x7_3).f0).size : Int))) + (((rd_T94 ((rd_T80 l0 x6_1).f1) x7_3).f1).size : Int))), (wrap64 (x7_3 + 1)), (by first | rfl | (simp; done) | (simp [*]; done)), (by first | rfl | (simp; done) | (simp [*]; done)), H', ⟨by have := HK1.out; have := HJ3.out; have := HK3.out; omega⟩, by repeat (first | exact Drawn0.refl _ | apply Drawn0.step)⟩
                        · rw [if_neg c9] at H
                          exact absurd H (by simp)
                      · rw [if_neg c8] at H
                        have c8b0 : decide (x7_3 < (((rd_T80 l0 x6_1).f1).length : Int)) = false := decide_eq_false c8
                        clear c8
                        have H' := Aside0.mk H
                        clear H
                        have p351 : 0 ≤ (x6_1 : Int) := of_decide_eq_true (by first | (with_reducible assumption) | assumption)
                        have q351 : x6_1 < (l0.length : Int) := of_decide_eq_true (by first | (with_reducible assumption) | assumption)
                        obtain ⟨ad351, A351_1, c351_1, e351, hx351_0, hx351_1, hl351_1, hi351_1⟩ := at_T80 HR0.out x6_1 p351 q351
                        obtain rfl : ad349 = ad351 := (by injection e351)
                        have HR351_1 := Aside0.mk hi351_1
                        have HC351_1 := Aside0.mk hl351_1
                        clear hi351_1 hl351_1
                        replace p351 := eq_true p351
                        replace q351 := eq_true q351
                        go_wp2
                        repeat (go_quiet (fail); try go_wp2)
                        go_roundg k3
                        case measure => have := HK1.out; have := HJ3.out; have := HK3.out; omega
                        case rel => exact ⟨(x4_3), (x5_3), (wrap64 (x6_1 + 1)), (by first | rfl | (simp; done) | (simp [*]; done)), (by first | rfl | (simp; done) | (simp [*]; done)), (by first | rfl | (simp; done) | (simp [*]; done)), H', ⟨by have := HK1.out; have := HJ3.out; have := HK3.out; omega⟩, by repeat (first | exact Drawn0.refl _ | apply Drawn0.step)⟩
                    · rw [if_neg c7] at H
                      exact absurd H (by simp)
                  · rw [if_neg c6] at H
                    exact absurd H (by simp)
        · rw [if_neg c3] at H
          exact absurd H (by simp)
      · rw [if_neg c2] at H
        have c2b0 : decide (x6_1 < (l0.length : Int)) = false := decide_eq_false c2
        clear c2
        simp only [Option.some.injEq, Prod.mk.injEq] at H
        obtain ⟨rfl, rfl⟩ := H
        go_wp2
        repeat (go_quiet (fail); try go_wp2)
        go_ret2
        exact ⟨by first | rfl | (simp; done) | (simp [*]; done), by repeat (first | exact Drawn0.refl _ | apply Drawn0.step)⟩

end Go.Proofs.Ytkfhedppnlocpaa.Q
