/- Contract of granarylaw3.hand. Condition: the groups are read, and are not too many. -/
import Derived.Test.YtkfhedppnlocpaaH0
set_option linter.unusedVariables false
set_option linter.unusedSimpArgs false
namespace Go.Proofs.Ytkfhedppnlocpaa.Q
open Go.RowKit Go.Plan Go.Proofs.YtkfhedppnlocpaaW.PrintWords Go.Proofs.YtkfhedppnlocpaaW.PrintLast Go.Proofs.YtkfhedppnlocpaaW.PrintMore

def mkGE : GE := ⟨⟨#[98, 101, 104, 105, 110, 100]⟩, none, 0, []⟩
def HandRes (l : List S80) (w : World) (e : Ending) (w' : World) : Prop :=
  ∃ (g : Nat) (gA : Option Addr) (gq : Nat) (pA : Option Addr) (pq : Nat) (E : List GE), e = .returned (.pointer (some ⟨g, 0, none⟩)) ∧ E.map GE.g = l ∧ HD w.heap.size w' g gA gq pA pq (E ++ [mkGE]) E ∧ Below w.heap.size w w'

theorem info41 : (Try.prog.info? 41).map (fun i => (i.zero, i.size, i.bytes)) = some (some (.slice none 0 0), 1, 24) := by kernel_rfl
theorem marks_len (l : List S94) : (l ++ marks).length = l.length + 2 := by rw [List.length_append]; rfl
theorem roomy_any (A0 : Option Addr) (c0 : Nat) (l0 : List S94) (w : World) (hK : Kd.C k94 w A0 l0.length l0) (hc : l0.length ≤ c0) (hl : l0.length ≤ 4398046510976) :
    Calls Try.prog 27 #[.slice A0 l0.length c0] w fun e w' => ∃ A c, e = .returned (.slice A (l0.length + 2) c) ∧ OwnP w' w.heap.size A c (l0 ++ marks) ∧ Below w.heap.size w w' := by
  refine (granarylaw3_roomy.calls A0 c0 l0 (l0 ++ marks) w hK hc (roomy_tells l0 hl)).mono ?_
  rintro e w3 ⟨v3, rfl, hR, hb3⟩
  obtain ⟨A, c, rfl, ho⟩ := OwnP.of_R hR
  exact ⟨A, c, by rw [marks_len], ho, hb3⟩
set_option maxHeartbeats 8000000 in
set_option maxRecDepth 100000 in
theorem hand_calls (A0 : Option Addr) (c0 : Nat) (l : List S80) (w : World) (hK : Kd.C k80 w A0 l.length l) (hc : l.length ≤ c0) (hl : l.length ≤ 4194304) (hp : ∀ g ∈ l, g.f1.length ≤ 4194304) :
    Calls Try.prog 33 #[.slice A0 l.length c0] w (HandRes l w) := by
  have HK := Aside0.mk hK
  have HC := Aside0.mk hc
  have HL := Aside0.mk hl
  have HP := Aside0.mk hp
  have hnb : (l.length : Int) ≤ 4194304 := by omega
  clear hK hc hl hp
  have hb0 := blk_new w (.cells #[.slice none 0 0, .slice none 0 0] 130)
  have HH := Aside0.mk (show HD w.heap.size (w.alloc (.cells #[.slice none 0 0, .slice none 0 0] 130)) w.heap.size none 0 none 0 [] [] from ⟨hb0, Nat.le_refl _, World.ownsRow_nil _ _ _ _, World.ownsRow_nil _ _ _ _, fun e he => by cases he⟩)
  have HB := Aside0.mk (below2a w (.cells #[.slice none 0 0, .slice none 0 0] 130))
  have HKB := Aside0.mk (Kd.C_below HK.out (below2a w (.cells #[.slice none 0 0, .slice none 0 0] 130)))
  clear hb0
  go_enter Try.func33, Try.ntmps33
  go_upto_region 2 with fail
  generalize w.alloc (.cells #[.slice none 0 0, .slice none 0 0] 130) = w1 at *
  go_wp2_with fail
  go_loopg [4] l.length (fun kq v4 w' => ∃ (i : Nat) (gA : Option Addr) (gq : Nat) (pA : Option Addr) (pq : Nat) (E : List GE), v4 = .int .i64 (i : Int) ∧ Aside0 (i + kq = l.length) ∧ Aside0 (HD w.heap.size w' w.heap.size gA gq pA pq E E) ∧ Aside0 (E.length = i ∧ E.map GE.g = l.take i) ∧ Aside0 (Below w.heap.size w w') ∧ Aside0 (Kd.C k80 w' A0 l.length l))
  case atStart => exact ⟨0, none, 0, none, 0, [], rfl, ⟨by omega⟩, HH, ⟨rfl, by simp⟩, HB, HKB⟩
  case round =>
    clear HH HB HKB
    obtain ⟨i, gA, gq, pA, pq, E, rfl, HN, HH, HE, HB, HKB⟩ := hrel
    by_cases ci : (i : Int) < (l.length : Int)
    · cases gk with
      | zero => exact absurd HN.out (by omega)
      | succ k1 =>
      have hil : i < l.length := by omega
      have cb : decide ((i : Int) < (l.length : Int)) = true := decide_eq_true ci
      have cb2 : decide (i < l.length) = true := decide_eq_true hil
      have p2 : (0 ≤ (i : Int)) = True := eq_true (by omega)
      have p3 : ((i : Int) < (l.length : Int)) = True := eq_true ci
      have HN' := Aside0.mk (show i + 1 + k1 = l.length by have := HN.out; omega)
      obtain ⟨ad, A1, c1, hA0, z0, z1, hl1, hk1⟩ := at_T80 HKB.out (i : Int) (by omega) (by omega)
      rw [Int.toNat_natCast, rd80_nat] at z0 z1
      rw [rd80_nat] at hl1 hk1
      obtain ⟨G, hG⟩ : ∃ G, l.getD i z80 = G := ⟨_, rfl⟩
      have HGI := Aside0.mk (show l[i]? = some G from by
        rw [← hG, List.getD_eq_getElem?_getD, List.getElem?_eq_getElem hil]
        rfl)
      rw [hG] at z0 z1 hl1 hk1
      have HK1 := Aside0.mk (And.intro hl1 hk1)
      have HIL := Aside0.mk hil
      subst hA0
      clear hl1 hk1 hG hil
      go_upto_region 6 with (go_at_call 27; (with_reducible refine (roomy_any A1 c1 G.f1 _ HK1.out.2 HK1.out.1 (by have := HP.out G (List.mem_of_getElem? HGI.out); omega)).mono ?_); rintro e w3 ⟨A, c, rfl, ho, hb3⟩)
      have HO3 := Aside0.mk (show OwnP w3 w.heap.size A c (G.f1 ++ marks) from own_weaken ho HB.out.size)
      have HH3 := Aside0.mk (HH.out.below hb3)
      have HB3 := Aside0.mk (below_step HB.out hb3)
      have HK3 := Aside0.mk (Kd.C_below HKB.out hb3)
      have y0 := blk_cell HH3.out.bx 0
      have y1 := blk_cell HH3.out.bx 1
      have f1 := blk_frozen HH3.out.bx 1
      clear z0 z1 HK1 ho hb3
      obtain ⟨i1, hi, hz0, hz1, hz2⟩ := info_parts info41
      have D := Aside0.mk (show E.length + 1 ≤ maxLen ∧ (E.length + 1) * 40 ≤ 140737488355328 from ⟨by have := HE.out.1; have := HL.out; have := HIL.out; unfold maxLen; omega, by have := HE.out.1; have := HL.out; have := HIL.out; omega⟩)
      have b3 := Aside0.mk (blk_below HH3.out.bx (below2a w3 (.cells #[.slice A (G.f1.length + 2) c] 41)))
      go_upto_region 7 with (at_builtin; refine wpList_append_own_at _ rfl _ _ 87 rfl w.heap.size 41 i1 (.slice none 0 0) 1 24 Try.underlying87 hi hz0 hz1 hz2 rfl (by decide) (.slice pA E.length pq) E.length (E.flatMap hpc) rfl (HH3.out.pr.alloc _) ⟨w3.heap.size, 0, none⟩ 1 1 (hpc ⟨G.f0, A, c, G.f1⟩) rfl rfl (new_cells _ _ _) (hpc_one _) D.out.1 (by have := D.out.2; omega) (le_alloc HB3.out.size) ?_; intro v' w4 hown hgr _ _; obtain ⟨pA2, pq2, rfl⟩ := own_form hown; rw [rowB_own] at hgr; have HOwn := Aside0.mk hown; have HG := Aside0.mk hgr; have b4 := (hgr.block w.heap.size (blk_lt b3.out) (fun e => HH3.out.pne _ e.symm rfl)).trans b3.out; have f4 := blk_frozen b4 1; have c4 := blk_cell b4 1; clear hown hgr b4)
      obtain ⟨a, rfl⟩ := ownsRow_addr HO3.out (by rw [marks_len]; omega)
      have hcap := (ownsRow_cap HO3.out).1
      rw [marks_len] at hcap
      have HH5 := Aside0.mk ((HH3.out.below (below2a w3 (.cells #[.slice (some ⟨a, 0, none⟩) (G.f1.length + 2) c] 41))).putP (e := ⟨G.f0, some ⟨a, 0, none⟩, c, G.f1⟩) rfl HOwn.out HG.out (HO3.out.alloc _))
      have HB5 := Aside0.mk (bel_put (j := 1) (v := .slice pA2 (E.length + 1) pq2) (below_step HB3.out (below2a w3 (.cells #[.slice (some ⟨a, 0, none⟩) (G.f1.length + 2) c] 41))) (Nat.le_refl _) HG.out (fun k hk => (ownsRow_lt HH3.out.pr k hk).1) (Nat.le_refl _))
      clear y0 y1 f1 f4 c4 b3 HH3 HB3 HK3 HOwn HG hi hz0 hz1 hz2 HO3
      generalize w4.setCell ⟨w.heap.size, 1, none⟩ (.slice pA2 (E.length + 1) pq2) = w5 at *
      have HCA := Aside0.mk (show ∀ W, Below w.heap.size w W → W.cell? (ad.add (i * 2)) = some (.string G.f0) from fun W hW => by
        obtain ⟨ad', A1', c1', ha, z0, _⟩ := at_T80 (Kd.C_below HK.out hW) (i : Int) (by omega) (by omega)
        obtain rfl := Option.some.inj ha
        rw [Int.toNat_natCast, rd80_nat] at z0
        have hg : l.getD i z80 = G := by rw [List.getD_eq_getElem?_getD, HGI.out]; rfl
        rw [hg] at z0
        exact z0)
      have hx5 : w5.cell? ⟨w.heap.size, 0, none⟩ = some (.slice gA E.length gq) ∧ w5.cell? (ad.add (i * 2)) = some (.string G.f0) := ⟨blk_cell HH5.out.bx 0, HCA.out _ HB5.out⟩
      have hsub : IntKind.i64.wrap (((G.f1.length + 2 : Nat) : Int) - 2) = (G.f1.length : Int) := by
        have := HP.out G (List.mem_of_getElem? HGI.out)
        rw [i64_w, Go.IntWalk.wrap64_in _ (by omega)]
        omega
      have hpl : (G.f1.length : Int) ≤ 4194304 := by have := HP.out G (List.mem_of_getElem? HGI.out); omega
      have hw3 : wrap64 (G.f1.length : Int) = (G.f1.length : Int) := Go.IntWalk.wrap64_in _ (by omega)
      have q1 : (0 ≤ (G.f1.length : Int)) = True := eq_true (by omega)
      have q2 : ((G.f1.length : Int) ≤ (c : Int)) = True := eq_true (by omega)
      refine wp_region_planF (quiets [0, 1, 2, 3, 4, 5, 6, 7, 8, 9, 10, 11, 12, 13, 14, 15] ++ ((true, 16) :: ((true, 17) :: (quiets [18, 19] ++ [])))) 20 (fun W => W.cell? ⟨w.heap.size, 0, none⟩ = some (.slice gA E.length gq) ∧ W.cell? (ad.add (i * 2)) = some (.string G.f0)) (by kernel_rfl) (by kernel_rfl) hx5 ?_
      apply mix_quiets [0, 1, 2, 3, 4, 5, 6, 7, 8, 9, 10, 11, 12, 13, 14, 15] _ (by kernel_rfl) hx5
      case h =>
        intro W hW
        have e2 := hW.1
        have e3 := hW.2
        clear hW
        refine still_of_quiet _ _ ?_
        simp only [segOps, List.getElem?_toArray, List.getElem?_cons_zero, List.getElem?_cons_succ, Option.toList_some, List.nil_append, List.cons_append, List.append_nil]
        repeat (go_big_quiet_step (fail))
        exact wpQuiet_nil rfl
      refine mix_writes 16 ⟨some 46, _, _, _, _, _⟩ rfl _ ?_
      change wpList _ _ _ _ _ w5.drew
      have HH6 := Aside0.mk (HH5.out.below (below_drew w5))
      have HB6 := Aside0.mk (below_step HB5.out (below_drew w5))
      clear HH5 HB5 hx5 hsub
      generalize w5.drew = w6 at *
      obtain ⟨i0, hi, hz0, hz1, hz2⟩ := info_parts info80
      go_wp2_with fail
      have b7 := below2a w6 (.cells #[.string G.f0, .slice (some ⟨a, 0, none⟩) G.f1.length c] 80)
      have HH7 := Aside0.mk (HH6.out.below b7)
      have HB7 := Aside0.mk (below_step HB6.out b7)
      clear b7
      refine ⟨⟨blk_cell HH7.out.bx 0, HCA.out _ HB7.out⟩, ?_⟩
      refine mix_writes 17 ⟨some 47, _, _, _, _, _⟩ rfl _ ?_
      refine wpList_append_own_at _ rfl _ _ 54 rfl w.heap.size 80 i0 (.agg #[.string ⟨#[]⟩, .slice none 0 0]) 2 40 Try.underlying54 hi hz0 hz1 hz2 rfl (by decide) (.slice gA E.length gq) E.length (E.flatMap gcell) rfl HH7.out.gr ⟨w6.heap.size, 0, none⟩ 1 1 (gcell ⟨G.f0, some ⟨a, 0, none⟩, c, G.f1⟩) rfl rfl (new_cells w6 (gcell ⟨G.f0, some ⟨a, 0, none⟩, c, G.f1⟩) 80) (gcell_one _) D.out.1 D.out.2 HB7.out.size ?_
      intro v' w8 hown hgr _ _
      obtain ⟨gA2, gq2, rfl⟩ := own_form hown
      rw [rowB_own] at hgr
      have hb8 := (hgr.block w.heap.size (blk_lt HH7.out.bx) (fun e => HH7.out.gne _ e.symm rfl)).trans HH7.out.bx
      have HH9 := Aside0.mk (HH7.out.putG (e := ⟨G.f0, some ⟨a, 0, none⟩, c, G.f1⟩) rfl hown hgr)
      have HB9 := Aside0.mk (bel_put (j := 0) (v := .slice gA2 (E.length + 1) gq2) HB7.out (Nat.le_refl _) hgr (fun k hk => (ownsRow_lt HH7.out.gr k hk).1) (Nat.le_refl _))
      have hc8 := HCA.out _ (HB7.out.grown hgr HB7.out.size (fun k hk => (ownsRow_lt HH7.out.gr k hk).1))
      have HX8 := Aside0.mk (And.intro hb8 hc8)
      clear hown hi hz0 hz1 hz2 hgr hb8 hc8 HH7 HB7 HH6 HB6
      go_wp2_with fail
      refine ⟨⟨blk_cell HX8.out.1 0, HX8.out.2⟩, ?_⟩
      apply mix_quiets [18, 19] _ (by kernel_rfl) ⟨blk_cell HX8.out.1 0, HX8.out.2⟩
      case h =>
        intro W hW
        clear hW
        refine still_of_quiet _ _ ?_
        simp only [segOps, List.getElem?_toArray, List.getElem?_cons_zero, List.getElem?_cons_succ, Option.toList_some, List.nil_append, List.cons_append, List.append_nil]
        repeat (go_big_quiet_step (fail))
        exact wpQuiet_nil rfl
      refine fin_write 20 _ rfl ?_
      have c8 := blk_cell HX8.out.1 0
      have f8 := blk_frozen HX8.out.1 0
      go_wp2_with fail
      refine nq_out ?_
      have HK9 := Aside0.mk (Kd.C_below HK.out HB9.out)
      clear c8 f8 HX8
      generalize w8.setCell ⟨w.heap.size, 0, none⟩ (.slice gA2 (E.length + 1) gq2) = w9 at *
      go_wp2_with fail
      go_roundg k1
      case measure => have := HN'.out; omega
      case rel =>
        refine ⟨i + 1, gA2, gq2, pA2, pq2, _, congrArg (Value.int .i64) (by omega), HN', HH9, ⟨by rw [List.length_append, HE.out.1]; rfl, ?_⟩, HB9, HK9⟩
        rw [List.map_append, HE.out.2, List.take_add_one, HGI.out]
        rfl
    · have cb : decide ((i : Int) < (l.length : Int)) = false := decide_eq_false ci
      have cb2 : decide (i < l.length) = false := decide_eq_false (by omega)
      obtain rfl : gk = 0 := by have := HN.out; omega
      obtain rfl : i = l.length := by have := HN.out; omega
      clear ci
      obtain ⟨i0, hi, hz0, hz1, hz2⟩ := info_parts info80
      have D := Aside0.mk (show E.length + 1 ≤ maxLen ∧ (E.length + 1) * 40 ≤ 140737488355328 from ⟨by have := HE.out.1; have := HL.out; unfold maxLen; omega, by have := HE.out.1; have := HL.out; omega⟩)
      have HH3 := Aside0.mk (HH.out.below (below2a wr (.cells (gcell mkGE).toArray 80)))
      have HB3 := Aside0.mk (below_step HB.out (below2a wr (.cells (gcell mkGE).toArray 80)))
      have y0 := blk_cell HH.out.bx 0
      go_upto_region 9 with (at_builtin; refine wpList_append_own_at _ rfl _ _ 54 rfl w.heap.size 80 i0 (.agg #[.string ⟨#[]⟩, .slice none 0 0]) 2 40 Try.underlying54 hi hz0 hz1 hz2 rfl (by decide) (.slice gA E.length gq) E.length (E.flatMap gcell) rfl HH3.out.gr ⟨wr.heap.size, 0, none⟩ 1 1 (gcell mkGE) rfl rfl (new_cells wr (gcell mkGE) 80) (gcell_one _) D.out.1 D.out.2 HB3.out.size ?_; intro v' w4 hown hgr _ _; obtain ⟨gA2, gq2, rfl⟩ := own_form hown; rw [rowB_own] at hgr; have b4 := (hgr.block w.heap.size (blk_lt HH3.out.bx) (fun e => HH3.out.gne _ e.symm rfl)).trans HH3.out.bx; have f4 := blk_frozen b4 0; have c4 := blk_cell b4 0; have HH9 := Aside0.mk (HH3.out.putG (e := mkGE) rfl hown hgr); have HB9 := Aside0.mk (bel_put (j := 0) (v := .slice gA2 (E.length + 1) gq2) HB3.out (Nat.le_refl _) hgr (fun k hk => (ownsRow_lt HH3.out.gr k hk).1) (Nat.le_refl _)); clear hown hgr b4)
      clear f4 c4 y0
      generalize w4.setCell ⟨w.heap.size, 0, none⟩ (.slice gA2 (E.length + 1) gq2) = w9 at *
      go_wp2_with fail
      go_ret
      exact ⟨w.heap.size, gA2, gq2, pA, pq, E, rfl, by rw [HE.out.2, List.take_length], HH9.out, HB9.out⟩

end Go.Proofs.Ytkfhedppnlocpaa.Q
