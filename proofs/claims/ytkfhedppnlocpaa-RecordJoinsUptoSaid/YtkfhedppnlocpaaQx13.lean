-- written by a program of this session (wip/tools), out of the translation; Lean checks it
import Derived.Test.YtkfhedppnlocpaaQx0
namespace Go.Proofs.Ytkfhedppnlocpaa.Q
open Go.RowKit Go.Proofs.YtkfhedppnlocpaaW.PrintWords Go.Proofs.YtkfhedppnlocpaaW.PrintLast Go.Proofs.YtkfhedppnlocpaaW.PrintMore
attribute [local go_sem] max2_int min2_int max_two min_two max_three min_three max_four min_four   -- for this text's walks alone
set_option linter.unusedVariables false
set_option linter.unusedSimpArgs false

/-! ### granarylaw3_holds: function 50 -/
mutual
def granarylaw3_holds.l0 : Nat → List (S80) → ByteArray → ByteArray → Int → Option (ByteArray × Bool)
  | 0, _, _, _, _ => none
  | k + 1, x0, x1, x2, x8 => if x8 < (x0.length : Int) then (granarylaw3_holds.l1 k x0 x1 x2 x8 0) else (some ((⟨#[]⟩ : ByteArray), false))
def granarylaw3_holds.l1 : Nat → List (S80) → ByteArray → ByteArray → Int → Int → Option (ByteArray × Bool)
  | 0, _, _, _, _, _ => none
  | k + 1, x0, x1, x2, x8, x9 => if 0 ≤ x8 then (if x8 < (x0.length : Int) then (if x9 < (((rd_T80 x0 x8).f1).length : Int) then (if ((rd_T80 x0 x8).f0).toList = x1.toList then (if 0 ≤ x9 then (if ((rd_T94 ((rd_T80 x0 x8).f1) x9).f0).toList = x2.toList then (some ((rd_T94 ((rd_T80 x0 x8).f1) x9).f1, true)) else (granarylaw3_holds.l1 k x0 x1 x2 x8 (wrap64 (x9 + 1)))) else (none)) else (granarylaw3_holds.l1 k x0 x1 x2 x8 (wrap64 (x9 + 1)))) else (granarylaw3_holds.l0 k x0 x1 x2 (wrap64 (x8 + 1)))) else (none)) else (none)
end
def granarylaw3_holds.f (k : Nat) (l0 : List (S80)) (a1 : ByteArray) (a2 : ByteArray) : Option (ByteArray × Bool) := granarylaw3_holds.l0 k l0 a1 a2 0
theorem granarylaw3_holds.mono_l : ∀ k, (∀ y0 y1 y2 y3, LeO (granarylaw3_holds.l0 k y0 y1 y2 y3) (granarylaw3_holds.l0 (k + 1) y0 y1 y2 y3)) ∧ (∀ y0 y1 y2 y3 y4, LeO (granarylaw3_holds.l1 k y0 y1 y2 y3 y4) (granarylaw3_holds.l1 (k + 1) y0 y1 y2 y3 y4))
  | 0 => ⟨fun _ _ _ _ r h => by simp [granarylaw3_holds.l0] at h, fun _ _ _ _ _ r h => by simp [granarylaw3_holds.l1] at h⟩
  | k + 1 => by
    obtain ⟨ih0, ih1⟩ := granarylaw3_holds.mono_l k
    refine ⟨?_, ?_⟩
    · intro y0 y1 y2 y3
      unfold granarylaw3_holds.l0
      repeat' first
      | (with_reducible exact ih0 _ _ _ _)
      | (with_reducible exact ih1 _ _ _ _ _)
      | (with_reducible exact LeO.refl _)
      | (with_reducible exact LeO.none _)
      | (with_reducible refine LeO.ite ?_ ?_)
      | (with_reducible refine LeO.bind ?_ (fun _ => ?_))
      | exact ih0 _ _ _ _
      | exact ih1 _ _ _ _ _
      | exact LeO.none _
      | refine LeO.ite ?_ ?_
      | refine LeO.bind ?_ (fun _ => ?_)
    · intro y0 y1 y2 y3 y4
      unfold granarylaw3_holds.l1
      repeat' first
      | (with_reducible exact ih0 _ _ _ _)
      | (with_reducible exact ih1 _ _ _ _ _)
      | (with_reducible exact LeO.refl _)
      | (with_reducible exact LeO.none _)
      | (with_reducible refine LeO.ite ?_ ?_)
      | (with_reducible refine LeO.bind ?_ (fun _ => ?_))
      | exact ih0 _ _ _ _
      | exact ih1 _ _ _ _ _
      | exact LeO.none _
      | refine LeO.ite ?_ ?_
      | refine LeO.bind ?_ (fun _ => ?_)
theorem granarylaw3_holds.mono : ∀ a0 a1 a2 k, LeO (granarylaw3_holds.f k a0 a1 a2) (granarylaw3_holds.f (k + 1) a0 a1 a2) := by
  intro a0 a1 a2 k
  obtain ⟨ih0, ih1⟩ := granarylaw3_holds.mono_l k
  unfold granarylaw3_holds.f
  repeat' first
      | (with_reducible exact ih0 _ _ _ _)
      | (with_reducible exact ih1 _ _ _ _ _)
      | (with_reducible exact LeO.refl _)
      | (with_reducible exact LeO.none _)
      | (with_reducible refine LeO.ite ?_ ?_)
      | (with_reducible refine LeO.bind ?_ (fun _ => ?_))
      | exact ih0 _ _ _ _
      | exact ih1 _ _ _ _ _
      | exact LeO.none _
      | refine LeO.ite ?_ ?_
      | refine LeO.bind ?_ (fun _ => ?_)
set_option maxHeartbeats 8000000 in
set_option maxRecDepth 100000 in
theorem granarylaw3_holds.calls (k : Nat) (A0 : Option Addr) (c0 : Nat) (l0 : List (S80)) (a1 : ByteArray) (a2 : ByteArray) (r1 : ByteArray) (r2 : Bool) (w : World) (hr0 : Kd.C k80 w A0 l0.length l0) (hc0 : l0.length ≤ c0) (h : granarylaw3_holds.f k l0 a1 a2 = some (r1, r2)) :
    Calls Try.prog 50 #[.slice A0 l0.length c0, .string a1, .string a2] w fun e w' => e = .returned (.tuple #[.string r1, .bool r2]) ∧ Drawn0 w w' := by
  have HR0 := Aside0.mk hr0
  have HC0 := Aside0.mk hc0
  clear hr0 hc0
  have H : (granarylaw3_holds.l0 k l0 a1 a2 0) = some (r1, r2) := h
  clear h
  have H' := Aside0.mk H
  clear H
  go_enter Try.func50, Try.ntmps50
  go_wp2
  go_loopg [8] k (fun kq v8 w' => ∃ (x8_1 : Int), v8 = .int .i64 x8_1 ∧ Aside0 (granarylaw3_holds.l0 kq l0 a1 a2 x8_1 = some (r1, r2)) ∧ Aside0 (kq ≤ k) ∧ Drawn0 w w')
  case atStart => exact ⟨(0), (by first | rfl | (simp; done) | (simp [*]; done)), H', ⟨Nat.le_refl _⟩, by repeat (first | exact Drawn0.refl _ | apply Drawn0.step)⟩
  case round =>
    clear H'
    try clear p2
    obtain ⟨x8_1, rfl, HA, HK1, ⟨m1, rfl⟩⟩ := hrel
    cases gk with
    | zero => exact absurd HA.out (by simp [granarylaw3_holds.l0])
    | succ k1 =>
      have H := HA.out
      clear HA
      simp only [granarylaw3_holds.l0] at H
      by_cases c4 : x8_1 < (l0.length : Int)
      · rw [if_pos c4] at H
        have c4b0 : decide (x8_1 < (l0.length : Int)) = true := decide_eq_true c4
        clear c4
        have H' := Aside0.mk H
        clear H
        go_wp2
        go_loopg [9] k1 (fun kq v9 w' => ∃ (x9_2 : Int), v9 = .int .i64 x9_2 ∧ Aside0 (granarylaw3_holds.l1 kq l0 a1 a2 x8_1 x9_2 = some (r1, r2)) ∧ Aside0 (kq ≤ k1) ∧ Drawn0 w w')
        case atStart => exact ⟨(0), (by first | rfl | (simp; done) | (simp [*]; done)), H', ⟨Nat.le_refl _⟩, by repeat (first | exact Drawn0.refl _ | apply Drawn0.step)⟩
        case round =>
          clear H'
          try clear p2
          try clear c4
          try clear c4b0
          try clear p2
          obtain ⟨x9_2, rfl, HA, HK2, ⟨m2, rfl⟩⟩ := hrel
          cases gk with
          | zero => exact absurd HA.out (by simp [granarylaw3_holds.l1])
          | succ k2 =>
            have H := HA.out
            clear HA
            simp only [granarylaw3_holds.l1] at H
            by_cases c5 : 0 ≤ x8_1
            · rw [if_pos c5] at H
              have c5b0 : decide (0 ≤ x8_1) = true := decide_eq_true c5
              clear c5
              by_cases c6 : x8_1 < (l0.length : Int)
              · rw [if_pos c6] at H
                have c6b0 : decide (x8_1 < (l0.length : Int)) = true := decide_eq_true c6
                clear c6
                by_cases c7 : x9_2 < (((rd_T80 l0 x8_1).f1).length : Int)
                · rw [if_pos c7] at H
                  have c7b0 : decide (x9_2 < (((rd_T80 l0 x8_1).f1).length : Int)) = true := decide_eq_true c7
                  clear c7
                  by_cases c8 : ((rd_T80 l0 x8_1).f0).toList = a1.toList
                  · rw [if_pos c8] at H
                    have c8b0 : (((rd_T80 l0 x8_1).f0).toList == a1.toList) = true := beq_iff_eq.mpr c8
                    have c8b1 : (((rd_T80 l0 x8_1).f0).toList != a1.toList) = false := bne_eq_false_iff_eq.mpr c8
                    clear c8
                    by_cases c9 : 0 ≤ x9_2
                    · rw [if_pos c9] at H
                      have c9b0 : decide (0 ≤ x9_2) = true := decide_eq_true c9
                      clear c9
                      by_cases c10 : ((rd_T94 ((rd_T80 l0 x8_1).f1) x9_2).f0).toList = a2.toList
                      · rw [if_pos c10] at H
                        have c10b0 : (((rd_T94 ((rd_T80 l0 x8_1).f1) x9_2).f0).toList == a2.toList) = true := beq_iff_eq.mpr c10
                        have c10b1 : (((rd_T94 ((rd_T80 l0 x8_1).f1) x9_2).f0).toList != a2.toList) = false := bne_eq_false_iff_eq.mpr c10
                        clear c10
                        simp only [Option.some.injEq, Prod.mk.injEq] at H
                        obtain ⟨rfl, rfl⟩ := H
                        have p392 : 0 ≤ (x8_1 : Int) := of_decide_eq_true (by first | (with_reducible assumption) | assumption)
                        have q392 : x8_1 < (l0.length : Int) := of_decide_eq_true (by first | (with_reducible assumption) | assumption)
                        obtain ⟨ad392, A392_1, c392_1, e392, hx392_0, hx392_1, hl392_1, hi392_1⟩ := at_T80 HR0.out x8_1 p392 q392
                        cases e392
                        have HR392_1 := Aside0.mk hi392_1
                        have HC392_1 := Aside0.mk hl392_1
                        clear hi392_1 hl392_1
                        replace p392 := eq_true p392
                        replace q392 := eq_true q392
                        have p393 : 0 ≤ (x8_1 : Int) := of_decide_eq_true (by first | (with_reducible assumption) | assumption)
                        have q393 : x8_1 < (l0.length : Int) := of_decide_eq_true (by first | (with_reducible assumption) | assumption)
                        obtain ⟨ad393, A393_1, c393_1, e393, hx393_0, hx393_1, hl393_1, hi393_1⟩ := at_T80 HR0.out x8_1 p393 q393
                        obtain rfl : ad392 = ad393 := (by injection e393)
                        have HR393_1 := Aside0.mk hi393_1
                        have HC393_1 := Aside0.mk hl393_1
                        clear hi393_1 hl393_1
                        replace p393 := eq_true p393
                        replace q393 := eq_true q393
                        have ea_ := Option.some.inj (hx392_1.symm.trans hx393_1)
                        injection ea_ with ea_ en_ ec_
                        subst ea_
                        subst ec_
                        clear en_
                        have p394 : 0 ≤ (x8_1 : Int) := of_decide_eq_true (by first | (with_reducible assumption) | assumption)
                        have q394 : x8_1 < (l0.length : Int) := of_decide_eq_true (by first | (with_reducible assumption) | assumption)
                        obtain ⟨ad394, A394_1, c394_1, e394, hx394_0, hx394_1, hl394_1, hi394_1⟩ := at_T80 HR0.out x8_1 p394 q394
                        obtain rfl : ad392 = ad394 := (by injection e394)
                        have HR394_1 := Aside0.mk hi394_1
                        have HC394_1 := Aside0.mk hl394_1
                        clear hi394_1 hl394_1
                        replace p394 := eq_true p394
                        replace q394 := eq_true q394
                        have ea_ := Option.some.inj (hx392_1.symm.trans hx394_1)
                        injection ea_ with ea_ en_ ec_
                        subst ea_
                        subst ec_
                        clear en_
                        have p395 : 0 ≤ (x9_2 : Int) := of_decide_eq_true (by first | (with_reducible assumption) | assumption)
                        have q395 : x9_2 < (((rd_T80 l0 x8_1).f1).length : Int) := of_decide_eq_true (by first | (with_reducible assumption) | assumption)
                        obtain ⟨ad395, e395, hx395_0, hx395_1⟩ := at_T94 HR394_1.out x9_2 p395 q395
                        cases e395
                        replace p395 := eq_true p395
                        replace q395 := eq_true q395
                        have p396 : 0 ≤ (x8_1 : Int) := of_decide_eq_true (by first | (with_reducible assumption) | assumption)
                        have q396 : x8_1 < (l0.length : Int) := of_decide_eq_true (by first | (with_reducible assumption) | assumption)
                        obtain ⟨ad396, A396_1, c396_1, e396, hx396_0, hx396_1, hl396_1, hi396_1⟩ := at_T80 HR0.out x8_1 p396 q396
                        obtain rfl : ad392 = ad396 := (by injection e396)
                        have HR396_1 := Aside0.mk hi396_1
                        have HC396_1 := Aside0.mk hl396_1
                        clear hi396_1 hl396_1
                        replace p396 := eq_true p396
                        replace q396 := eq_true q396
                        have ea_ := Option.some.inj (hx392_1.symm.trans hx396_1)
                        injection ea_ with ea_ en_ ec_
                        subst ea_
                        subst ec_
                        clear en_
                        have p397 : 0 ≤ (x9_2 : Int) := of_decide_eq_true (by first | (with_reducible assumption) | assumption)
                        have q397 : x9_2 < (((rd_T80 l0 x8_1).f1).length : Int) := of_decide_eq_true (by first | (with_reducible assumption) | assumption)
                        obtain ⟨ad397, e397, hx397_0, hx397_1⟩ := at_T94 HR396_1.out x9_2 p397 q397
                        cases e397
                        replace p397 := eq_true p397
                        replace q397 := eq_true q397
                        go_wp2
                        go_ret2
                        exact ⟨by first | rfl | (simp; done) | (simp [*]; done), by repeat (first | exact Drawn0.refl _ | apply Drawn0.step)⟩
                      · rw [if_neg c10] at H
                        have c10b0 : (((rd_T94 ((rd_T80 l0 x8_1).f1) x9_2).f0).toList == a2.toList) = false := beq_eq_false_iff_ne.mpr c10
                        have c10b1 : (((rd_T94 ((rd_T80 l0 x8_1).f1) x9_2).f0).toList != a2.toList) = true := bne_iff_ne.mpr c10
                        have H' := Aside0.mk H
                        clear H
                        have p392 : 0 ≤ (x8_1 : Int) := of_decide_eq_true (by first | (with_reducible assumption) | assumption)
                        have q392 : x8_1 < (l0.length : Int) := of_decide_eq_true (by first | (with_reducible assumption) | assumption)
                        obtain ⟨ad392, A392_1, c392_1, e392, hx392_0, hx392_1, hl392_1, hi392_1⟩ := at_T80 HR0.out x8_1 p392 q392
                        cases e392
                        have HR392_1 := Aside0.mk hi392_1
                        have HC392_1 := Aside0.mk hl392_1
                        clear hi392_1 hl392_1
                        replace p392 := eq_true p392
                        replace q392 := eq_true q392
                        have p393 : 0 ≤ (x8_1 : Int) := of_decide_eq_true (by first | (with_reducible assumption) | assumption)
                        have q393 : x8_1 < (l0.length : Int) := of_decide_eq_true (by first | (with_reducible assumption) | assumption)
                        obtain ⟨ad393, A393_1, c393_1, e393, hx393_0, hx393_1, hl393_1, hi393_1⟩ := at_T80 HR0.out x8_1 p393 q393
                        obtain rfl : ad392 = ad393 := (by injection e393)
                        have HR393_1 := Aside0.mk hi393_1
                        have HC393_1 := Aside0.mk hl393_1
                        clear hi393_1 hl393_1
                        replace p393 := eq_true p393
                        replace q393 := eq_true q393
                        have ea_ := Option.some.inj (hx392_1.symm.trans hx393_1)
                        injection ea_ with ea_ en_ ec_
                        subst ea_
                        subst ec_
                        clear en_
                        have p394 : 0 ≤ (x8_1 : Int) := of_decide_eq_true (by first | (with_reducible assumption) | assumption)
                        have q394 : x8_1 < (l0.length : Int) := of_decide_eq_true (by first | (with_reducible assumption) | assumption)
                        obtain ⟨ad394, A394_1, c394_1, e394, hx394_0, hx394_1, hl394_1, hi394_1⟩ := at_T80 HR0.out x8_1 p394 q394
                        obtain rfl : ad392 = ad394 := (by injection e394)
                        have HR394_1 := Aside0.mk hi394_1
                        have HC394_1 := Aside0.mk hl394_1
                        clear hi394_1 hl394_1
                        replace p394 := eq_true p394
                        replace q394 := eq_true q394
                        have ea_ := Option.some.inj (hx392_1.symm.trans hx394_1)
                        injection ea_ with ea_ en_ ec_
                        subst ea_
                        subst ec_
                        clear en_
                        have p395 : 0 ≤ (x9_2 : Int) := of_decide_eq_true (by first | (with_reducible assumption) | assumption)
                        have q395 : x9_2 < (((rd_T80 l0 x8_1).f1).length : Int) := of_decide_eq_true (by first | (with_reducible assumption) | assumption)
                        obtain ⟨ad395, e395, hx395_0, hx395_1⟩ := at_T94 HR394_1.out x9_2 p395 q395
                        cases e395
                        replace p395 := eq_true p395
                        replace q395 := eq_true q395
                        go_wp2
                        go_roundg k2
                        case measure => have := HK1.out; have := HK2.out; omega
                        case rel => exact ⟨(wrap64 (x9_2 + 1)), (by first | rfl | (simp; done) | (simp [*]; done)), H', ⟨by have := HK1.out; have := HK2.out; omega⟩, by repeat (first | exact Drawn0.refl _ | apply Drawn0.step)⟩
                    · rw [if_neg c9] at H
                      exact absurd H (by simp)
                  · rw [if_neg c8] at H
                    have c8b0 : (((rd_T80 l0 x8_1).f0).toList == a1.toList) = false := beq_eq_false_iff_ne.mpr c8
                    have c8b1 : (((rd_T80 l0 x8_1).f0).toList != a1.toList) = true := bne_iff_ne.mpr c8
                    have H' := Aside0.mk H
                    clear H
                    have p392 : 0 ≤ (x8_1 : Int) := of_decide_eq_true (by first | (with_reducible assumption) | assumption)
                    have q392 : x8_1 < (l0.length : Int) := of_decide_eq_true (by first | (with_reducible assumption) | assumption)
                    obtain ⟨ad392, A392_1, c392_1, e392, hx392_0, hx392_1, hl392_1, hi392_1⟩ := at_T80 HR0.out x8_1 p392 q392
                    cases e392
                    have HR392_1 := Aside0.mk hi392_1
                    have HC392_1 := Aside0.mk hl392_1
                    clear hi392_1 hl392_1
                    replace p392 := eq_true p392
                    replace q392 := eq_true q392
                    have p393 : 0 ≤ (x8_1 : Int) := of_decide_eq_true (by first | (with_reducible assumption) | assumption)
                    have q393 : x8_1 < (l0.length : Int) := of_decide_eq_true (by first | (with_reducible assumption) | assumption)
                    obtain ⟨ad393, A393_1, c393_1, e393, hx393_0, hx393_1, hl393_1, hi393_1⟩ := at_T80 HR0.out x8_1 p393 q393
                    obtain rfl : ad392 = ad393 := (by injection e393)
                    have HR393_1 := Aside0.mk hi393_1
                    have HC393_1 := Aside0.mk hl393_1
                    clear hi393_1 hl393_1
                    replace p393 := eq_true p393
                    replace q393 := eq_true q393
                    have ea_ := Option.some.inj (hx392_1.symm.trans hx393_1)
                    injection ea_ with ea_ en_ ec_
                    subst ea_
                    subst ec_
                    clear en_
                    go_wp2
                    go_roundg k2
                    case measure => have := HK1.out; have := HK2.out; omega
                    case rel => exact ⟨(wrap64 (x9_2 + 1)), (by first | rfl | (simp; done) | (simp [*]; done)), H', ⟨by have := HK1.out; have := HK2.out; omega⟩, by repeat (first | exact Drawn0.refl _ | apply Drawn0.step)⟩
                · rw [if_neg c7] at H
                  have c7b0 : decide (x9_2 < (((rd_T80 l0 x8_1).f1).length : Int)) = false := decide_eq_false c7
                  clear c7
                  have H' := Aside0.mk H
                  clear H
                  have p392 : 0 ≤ (x8_1 : Int) := of_decide_eq_true (by first | (with_reducible assumption) | assumption)
                  have q392 : x8_1 < (l0.length : Int) := of_decide_eq_true (by first | (with_reducible assumption) | assumption)
                  obtain ⟨ad392, A392_1, c392_1, e392, hx392_0, hx392_1, hl392_1, hi392_1⟩ := at_T80 HR0.out x8_1 p392 q392
                  cases e392
                  have HR392_1 := Aside0.mk hi392_1
                  have HC392_1 := Aside0.mk hl392_1
                  clear hi392_1 hl392_1
                  replace p392 := eq_true p392
                  replace q392 := eq_true q392
                  go_wp2
                  go_roundg k2
                  case measure => have := HK1.out; have := HK2.out; omega
                  case rel => exact ⟨(wrap64 (x8_1 + 1)), (by first | rfl | (simp; done) | (simp [*]; done)), H', ⟨by have := HK1.out; have := HK2.out; omega⟩, by repeat (first | exact Drawn0.refl _ | apply Drawn0.step)⟩
              · rw [if_neg c6] at H
                exact absurd H (by simp)
            · rw [if_neg c5] at H
              exact absurd H (by simp)
      · rw [if_neg c4] at H
        have c4b0 : decide (x8_1 < (l0.length : Int)) = false := decide_eq_false c4
        clear c4
        simp only [Option.some.injEq, Prod.mk.injEq] at H
        obtain ⟨rfl, rfl⟩ := H
        go_wp2
        go_ret2
        exact ⟨by first | rfl | (simp; done) | (simp [*]; done), by repeat (first | exact Drawn0.refl _ | apply Drawn0.step)⟩

-- NOT PRINTED: function 14 (granarylaw3_RecordKeeps)

end Go.Proofs.Ytkfhedppnlocpaa.Q
