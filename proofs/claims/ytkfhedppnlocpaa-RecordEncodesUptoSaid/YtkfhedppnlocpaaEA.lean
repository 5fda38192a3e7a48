-- written by a program of this session (wip/tools), out of the translation; Lean checks it
import Derived.Test.YtkfhedppnlocpaaQx0
import Derived.Test.YtkfhedppnlocpaaQx1
import Derived.Test.YtkfhedppnlocpaaQx4
import Derived.Test.YtkfhedppnlocpaaQx5
import Derived.Test.YtkfhedppnlocpaaE8
namespace Go.Proofs.Ytkfhedppnlocpaa.Q
open Go.RowKit Go.Proofs.YtkfhedppnlocpaaW.PrintWords Go.Proofs.YtkfhedppnlocpaaW.PrintLast Go.Proofs.YtkfhedppnlocpaaW.PrintMore
attribute [local go_sem] max2_int min2_int max_two min_two max_three min_three max_four min_four   -- for this text's walks alone
set_option linter.unusedVariables false
set_option linter.unusedSimpArgs false

/-! ### granarylaw3_roomy: function 27 -/
def granarylaw3_roomy.f (l0 : List (S94)) : Option ((List (S94))) := if ([] : List (S94)).length + l0.length < 4398046511104 then ((some (([] : List (S94)) ++ l0 : List (S94))).bind fun y207 => ((some (([(⟨(⟨#[98, 101, 104, 105, 110, 100]⟩ : ByteArray), (⟨#[49]⟩ : ByteArray)⟩ : S94), (⟨(⟨#[98, 101, 104, 105, 110, 100]⟩ : ByteArray), (⟨#[50]⟩ : ByteArray)⟩ : S94)] : List (S94)) : List (S94))).bind fun y210 => (if y207.length + y210.length < 4398046511104 then (some (y207 ++ y210)) else (none)))) else (none)
set_option maxHeartbeats 8000000 in
set_option maxRecDepth 100000 in
theorem granarylaw3_roomy.calls (A0 : Option Addr) (c0 : Nat) (l0 : List (S94)) (r : List (S94)) (w : World) (hr0 : Kd.C k94 w A0 l0.length l0) (hc0 : l0.length ≤ c0) (h : granarylaw3_roomy.f l0 = some r) :
    Calls Try.prog 27 #[.slice A0 l0.length c0] w fun e w' => ∃ v0_ : Value, e = .returned (v0_) ∧ Kd.R k94 94 w' w.heap.size (fun _ => True) v0_ r ∧ Below w.heap.size w w' := by
  have hu94 := Try.underlying94
  have HR0 := Aside0.mk hr0
  have HC0 := Aside0.mk hc0
  clear hr0 hc0
  have HB := Aside0.mk (Below.refl w.heap.size w)
  have H : (if ([] : List (S94)).length + l0.length < 4398046511104 then ((some (([] : List (S94)) ++ l0 : List (S94))).bind fun y207 => ((some (([(⟨(⟨#[98, 101, 104, 105, 110, 100]⟩ : ByteArray), (⟨#[49]⟩ : ByteArray)⟩ : S94), (⟨(⟨#[98, 101, 104, 105, 110, 100]⟩ : ByteArray), (⟨#[50]⟩ : ByteArray)⟩ : S94)] : List (S94)) : List (S94))).bind fun y210 => (if y207.length + y210.length < 4398046511104 then (some (y207 ++ y210)) else (none)))) else (none)) = some r := h
  clear h
  by_cases c2 : ([] : List (S94)).length + l0.length < 4398046511104
  · rw [if_pos c2] at H
    have LMc2 := Aside0.mk c2
    clear c2
    obtain ⟨y207, hy207⟩ : ∃ y_ : List (S94), y_ = (([] : List (S94)) ++ l0) := ⟨_, rfl⟩
    replace H : ((some (([(⟨(⟨#[98, 101, 104, 105, 110, 100]⟩ : ByteArray), (⟨#[49]⟩ : ByteArray)⟩ : S94), (⟨(⟨#[98, 101, 104, 105, 110, 100]⟩ : ByteArray), (⟨#[50]⟩ : ByteArray)⟩ : S94)] : List (S94)) : List (S94))).bind fun y210 => (if y207.length + y210.length < 4398046511104 then (some (y207 ++ y210)) else (none))) = some r := by first | (rw [hy207]; with_reducible exact H) | (have H2_ := (Option.bind_some _ _).symm.trans H; rw [hy207]; with_reducible exact H2_) | (have H2_ := (Option.bind_some _ _).symm.trans H; with_reducible exact H2_) | with_reducible exact H | (rw [hy207]; exact H) | exact H
    have Ny207 := Aside0.mk hy207
    clear hy207
    obtain ⟨y210, hy210⟩ : ∃ y_ : List (S94), y_ = (([(⟨(⟨#[98, 101, 104, 105, 110, 100]⟩ : ByteArray), (⟨#[49]⟩ : ByteArray)⟩ : S94), (⟨(⟨#[98, 101, 104, 105, 110, 100]⟩ : ByteArray), (⟨#[50]⟩ : ByteArray)⟩ : S94)] : List (S94))) := ⟨_, rfl⟩
    replace H : (if y207.length + y210.length < 4398046511104 then (some (y207 ++ y210)) else (none)) = some r := by first | (rw [hy210]; with_reducible exact H) | (have H2_ := (Option.bind_some _ _).symm.trans H; rw [hy210]; with_reducible exact H2_) | (have H2_ := (Option.bind_some _ _).symm.trans H; with_reducible exact H2_) | with_reducible exact H | (rw [hy210]; exact H) | exact H
    have Ny210 := Aside0.mk hy210
    clear hy210
    by_cases c3 : y207.length + y210.length < 4398046511104
    · rw [if_pos c3] at H
      have LMc3 := Aside0.mk c3
      clear c3
      obtain ⟨y213, hy213⟩ : ∃ y_ : List (S94), y_ = (y207 ++ y210) := ⟨_, rfl⟩
      replace H : (some y213) = some r := by first | (rw [hy213]; with_reducible exact H) | (have H2_ := (Option.bind_some _ _).symm.trans H; rw [hy213]; with_reducible exact H2_) | (have H2_ := (Option.bind_some _ _).symm.trans H; with_reducible exact H2_) | with_reducible exact H | (rw [hy213]; exact H) | exact H
      have Ny213 := Aside0.mk hy213
      clear hy213
      obtain rfl := Option.some.inj H
      go_enter Try.func27, Try.ntmps27
      go_wp2_with (first | ((with_reducible refine gate_builtin (b := .append) (xs := #[.const (.slice none 0 0), .tmp 4]) rfl ?_); at_builtin; refine Kd.R_append_rows k94 (w0 := w) w.heap.size rfl (.const (.slice none 0 0)) (.tmp 4) 41 94 (.agg #[(.string ⟨#[]⟩), (.string ⟨#[]⟩)]) 32 rfl Try.underlying41 info94 rfl (by decide) (by omega) (.slice none 0 0) ([] : List (S94)) l0 _ _ _ (fun _ => True) (fun _ => False) rfl rfl ?aO ?aR (fun _ _ h => h) (fun _ h => h.elim) ?aF ?aB ?aS ?aL ?_; (case aR => repeat (first | exact HR0.out | (with_reducible refine Kd.C_alloc ?_ _) | (with_reducible refine Kd.C_drewN ?_ _) | (with_reducible refine Kd.C_drew ?_))); (case aB => exact (by repeat (first | (with_reducible first | exact HB.out | apply below_alloc | apply pw_below_drewN | apply below_drew1) | exact HB.out))); (case aF => exact (fun _ _ => trivial)); (case aO => exact ((Kd.R_nil _ _ _ _ (fun _ => True)))); (case aS => exact (below_size (by repeat (first | (with_reducible first | exact HB.out | apply below_alloc | apply pw_below_drewN | apply below_drew1) | exact HB.out)))); (case aL => have := LMc2.out; omega); intro v208 w4 ho hb hg hat; rw [← Ny207.out] at ho; have n0_ := Aside0.mk (hb); have n1_ := Aside0.mk (ho); clear HB; have HB := n0_; have HO209 := n1_; clear n0_ n1_; clear ho hb hg hat) | ((with_reducible refine gate_dst (N := 9) rfl ?_); refine Kd.R_lit k94 _ 94 ?hg (N := 9) ?hd (xs := ([(⟨(⟨#[98, 101, 104, 105, 110, 100]⟩ : ByteArray), (⟨#[49]⟩ : ByteArray)⟩ : S94), (⟨(⟨#[98, 101, 104, 105, 110, 100]⟩ : ByteArray), (⟨#[50]⟩ : ByteArray)⟩ : S94)] : List (S94))) (inner := [.string (⟨#[98, 101, 104, 105, 110, 100]⟩ : ByteArray), .string (⟨#[49]⟩ : ByteArray), .string (⟨#[98, 101, 104, 105, 110, 100]⟩ : ByteArray), .string (⟨#[50]⟩ : ByteArray)]) (ok := fun _ => True) (okp := fun _ => True) ?hr ?hp (fun _ hk => hk) trivial (Below.refl _ _) (Nat.le_refl _) (by simp) ?_; (case hd => rfl); (case hg => rfl); (case hr => first | (go_simp; done) | (go_simp; rfl)); (case hp => exact (Reps.c2 (show Kd.M k94 _ _ _ (⟨(⟨#[98, 101, 104, 105, 110, 100]⟩ : ByteArray), (⟨#[49]⟩ : ByteArray)⟩ : S94) [.string (⟨#[98, 101, 104, 105, 110, 100]⟩ : ByteArray), .string (⟨#[49]⟩ : ByteArray)] from (k94_mkM _ _ _ (⟨(⟨#[98, 101, 104, 105, 110, 100]⟩ : ByteArray), (⟨#[49]⟩ : ByteArray)⟩ : S94) )) (Reps.c2 (show Kd.M k94 _ _ _ (⟨(⟨#[98, 101, 104, 105, 110, 100]⟩ : ByteArray), (⟨#[50]⟩ : ByteArray)⟩ : S94) [.string (⟨#[98, 101, 104, 105, 110, 100]⟩ : ByteArray), .string (⟨#[50]⟩ : ByteArray)] from (k94_mkM _ _ _ (⟨(⟨#[98, 101, 104, 105, 110, 100]⟩ : ByteArray), (⟨#[50]⟩ : ByteArray)⟩ : S94) )) (Reps.none _ _)))); intro v211 w5 ho6 hb hg_ hnew_; clear hg_ hnew_; (first | rw [← Ny210.out] at ho6 | (simp only [Int.reduceToNat] at ho6; rw [← Ny210.out] at ho6)); have n0_ := Aside0.mk (Kd.R_elder' (by (with_reducible repeat (first | apply Kd.R_alloc | apply Kd.R_drewN | apply Kd.R_drew)); exact HO209.out) (Kd.R_base ho6) hb); have n1_ := Aside0.mk (Kd.R_lower (Kd.R_new' ho6 (Kd.R_lt (by (with_reducible repeat (first | apply Kd.R_alloc | apply Kd.R_drewN | apply Kd.R_drew)); exact HO209.out))) (below_size (by repeat (first | (with_reducible first | exact HB.out | apply below_alloc | apply pw_below_drewN | apply below_drew1) | exact HB.out)))); have n2_ := Aside0.mk (below_step (by repeat (first | (with_reducible first | exact HB.out | apply below_alloc | apply pw_below_drewN | apply below_drew1) | exact HB.out)) hb); clear HO209; clear HB; have HO209 := n0_; have HO212 := n1_; have HB := n2_; clear n0_ n1_ n2_; clear hb ho6; obtain ⟨Ao8, co8, eo8⟩ := Kd.R_slice HO212.out; subst eo8) | ((with_reducible refine gate_builtin (b := .append) (xs := #[.tmp 6, .tmp 9]) rfl ?_); at_builtin; refine Kd.R_append_rows k94 (w0 := w) w.heap.size rfl (.tmp 6) (.tmp 9) 41 94 (.agg #[(.string ⟨#[]⟩), (.string ⟨#[]⟩)]) 32 rfl Try.underlying41 info94 rfl (by decide) (by omega) v208 y207 y210 _ _ _ (fun k_ => some k_ ≠ (.slice Ao8 y210.length co8 : Value).ownBlock) (fun _ => False) rfl rfl ?aO ?aR (fun _ _ h => h) (fun _ h => h.elim) ?aF ?aB ?aS ?aL ?_; (case aR => repeat (first | exact (Kd.R_reads' HO212.out).2.2 | (with_reducible refine Kd.C_alloc ?_ _) | (with_reducible refine Kd.C_drewN ?_ _) | (with_reducible refine Kd.C_drew ?_))); (case aB => exact (by repeat (first | (with_reducible first | exact HB.out | apply below_alloc | apply pw_below_drewN | apply below_drew1) | exact HB.out))); (case aF => exact (fun k_ hk => Kd.fresh' (Kd.R_lt (by (with_reducible repeat (first | apply Kd.R_alloc | apply Kd.R_drewN | apply Kd.R_drew)); exact HO212.out)) k_ hk)); (case aO => exact (by (with_reducible repeat (first | apply Kd.R_alloc | apply Kd.R_drewN | apply Kd.R_drew)); exact Kd.R_mono HO209.out (fun _ hk => hk.2))); (case aS => exact (below_size (by repeat (first | (with_reducible first | exact HB.out | apply below_alloc | apply pw_below_drewN | apply below_drew1) | exact HB.out)))); (case aL => have := LMc3.out; omega); intro v214 w7 ho hb hg hat; rw [← Ny213.out] at ho; have n0_ := Aside0.mk (Kd.R_after (ok := (fun _ => True)) (by (with_reducible repeat (first | apply Kd.R_alloc | apply Kd.R_drewN | apply Kd.R_drew)); exact HO212.out) hg hat); have n1_ := Aside0.mk (hb); have n2_ := Aside0.mk (ho); clear HO212; clear HB; clear HO209; have HO212 := n0_; have HB := n1_; have HO215 := n2_; clear n0_ n1_ n2_; clear ho hb hg hat))
      go_ret
      exact ⟨_, by first | rfl | (simp [errW_none, errW_some] <;> rfl) | (simp [*, errW_none, errW_some] <;> rfl), by (with_reducible repeat (first | apply Kd.R_alloc | apply Kd.R_drewN | apply Kd.R_drew)); exact Kd.R_mono HO215.out (fun _ hk => trivial), by repeat (first | (with_reducible first | exact HB.out | apply below_alloc | apply pw_below_drewN | apply below_drew1) | exact HB.out)⟩
    · rw [if_neg c3] at H
      exact absurd H (by simp)
  · rw [if_neg c2] at H
    exact absurd H (by simp)

end Go.Proofs.Ytkfhedppnlocpaa.Q
