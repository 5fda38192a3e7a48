/- Contract of granarylaw3.anew. Condition: the groups are read, and may be. -/
import Derived.Test.YtkfhedppnlocpaaZ1
import Derived.Test.YtkfhedppnlocpaaJ2
import Derived.Deep.DeepCutAuto
set_option linter.unusedVariables false
set_option linter.unusedSimpArgs false
namespace Go.Proofs.Ytkfhedppnlocpaa.Q
open Go.RowKit Go.Plan Go.Proofs.YtkfhedppnlocpaaW.PrintWords Go.Proofs.YtkfhedppnlocpaaW.PrintLast Go.Proofs.YtkfhedppnlocpaaW.PrintMore

set_option maxHeartbeats 8000000 in
set_option maxRecDepth 100000 in
theorem anew_any {wn : Nat} (h1 : 1 ≤ wn) (h2 : wn ≤ 16) {L : List S80} (H : GoodG wn L) (A : Option Addr) (c : Nat) (w : World) (hK : Kd.C k80 w A L.length L) (hc : L.length ≤ c) :
    Calls Try.prog 47 #[.int .i64 (wn : Int), .slice A L.length c, .agg #[.string (idxB L), .string (dataB L)]] w fun e w' => e = .returned (.bool true) ∧ Below w.heap.size w w' := by
  have HG := Aside0.mk H
  have HW := Aside0.mk (And.intro h1 h2)
  have HL0 := Aside0.mk (And.intro hc (Kd.C_below hK (below2a w (OCh (idxB L) (dataB L)))))
  have HC0 := Aside0.mk (blk_new w (OCh (idxB L) (dataB L)))
  have HB0 := Aside0.mk (below2a w (OCh (idxB L) (dataB L)))
  clear h1 h2 H hK hc
  go_enter Try.func47, Try.ntmps47
  go_upto_region 1 with fail
  generalize w.alloc (OCh (idxB L) (dataB L)) = w0 at *
  go_upto_region 2 with (go_at_call 42; (with_reducible refine (copied_own L HG.out.len (fun g hg => by have := HG.out.le g hg; omega) A c w0 HL0.out.2 HL0.out.1).mono ?_); rintro e w1 ⟨A1, q1, E1, rfl, he1, hg1, hb1⟩)
  have HE1 := Aside0.mk he1
  have hr1 := hg1.reads
  rw [he1] at hr1
  have HR1 := Aside0.mk hr1
  have HGR := Aside0.mk hg1
  have HB1 := Aside0.mk (below_step HB0.out hb1)
  have HC1 := Aside0.mk (blk_below HC0.out hb1)
  have HWS := Aside0.mk HB0.out.size
  clear he1 hr1 hg1 hb1 HB0 HC0
  go_upto_region 3 with (go_at_call 34; (with_reducible refine (encode_any HW.out.1 HW.out.2 HG.out A1 q1 w1 HR1.out.2 HR1.out.1).mono ?_); rintro e w2 ⟨rfl, hb2⟩)
  have hb3 := below_step hb2 (below2a w2 (.cells #[.string (idxB L), .string (dataB L)] 53))
  have HB3 := Aside0.mk (below_step HB1.out hb3)
  have HC3 := Aside0.mk (blk_below HC1.out hb3)
  have HX3 := Aside0.mk (blk_new w2 (.cells #[.string (idxB L), .string (dataB L)] 53))
  have HG3 := Aside0.mk (HGR.out.below hb3)
  clear hb2 hb3 HB1 HC1 HGR HR1
  generalize w2.alloc (.cells #[.string (idxB L), .string (dataB L)] 53) = w3 at *
  generalize w2.heap.size = g3 at *
  have kx : ((idxB L).toList != (idxB L).toList) = false := by simp
  have kd : ((dataB L).toList != (dataB L).toList) = false := by simp
  have hx0 : ∀ n, (w3.drewN n).cell? ⟨g3, 0, none⟩ = some (.string (idxB L)) := fun n => blk_cell (blk_below HX3.out (below_drewN w3 n)) 0
  have hx1 : ∀ n, (w3.drewN n).cell? ⟨g3, 1, none⟩ = some (.string (dataB L)) := fun n => blk_cell (blk_below HX3.out (below_drewN w3 n)) 1
  have hc0 : ∀ n, (w3.drewN n).cell? ⟨w.heap.size, 0, none⟩ = some (.string (idxB L)) := fun n => blk_cell (blk_below HC3.out (below_drewN w3 n)) 0
  have hc1 : ∀ n, (w3.drewN n).cell? ⟨w.heap.size, 1, none⟩ = some (.string (dataB L)) := fun n => blk_cell (blk_below HC3.out (below_drewN w3 n)) 1
  cases L with
  | nil =>
    have hz : (((idxB []).size : Nat) : Int) = 0 := by rw [idxB_size HG.out]; simp
    go_wp2_with (go_at_call 17; (with_reducible refine (num_any _ _).mono ?_); rintro e w4 ⟨rfl, ⟨n4, rfl⟩⟩)
    go_ret
    exact ⟨rfl, below_step HB3.out (below_drewN w3 _)⟩
  | cons G L2 =>
    obtain ⟨e0, E2, rfl, hg0, hE2⟩ : ∃ e0 E2, E1 = e0 :: E2 ∧ e0.g = G ∧ E2.map GE.g = L2 := by
      have h := HE1.out
      cases E1 with
      | nil => simp at h
      | cons e0 E2 =>
        rw [List.map_cons, List.cons.injEq] at h
        exact ⟨e0, E2, rfl, h.1, h.2⟩
    obtain ⟨s, A0, c0, l⟩ := e0
    have hGs : G = ⟨s, l⟩ := hg0.symm
    subst hGs
    have hne : 1 ≤ l.length := HG.out.ne _ List.mem_cons_self
    obtain ⟨g0, hA0⟩ := ownsRow_addr (HG3.out.inn _ List.mem_cons_self) hne
    dsimp only at hA0
    subst hA0
    obtain ⟨gA, hA1⟩ := ownsRow_addr HG3.out.row (by rw [List.length_cons]; omega)
    subst hA1
    have HRC := Aside0.mk (show record_Record.f l = some (⟨(recBytes l).toArray⟩, 0) from by unfold record_Record.f; rw [HG.out.recd List.mem_cons_self])
    have HRO := Aside0.mk (fun y => rec_other HG.out (G := ⟨s, l⟩) List.mem_cons_self y)
    have HLE := Aside0.mk (HG.out.le ⟨s, l⟩ List.mem_cons_self)
    match l, hne with
    | p :: l2, _ =>
    have HLEN := Aside0.mk HG.out.len
    have hnb : ((L2.length : Int) + 1) ≤ 32768 := by have := HLEN.out; rw [List.length_cons] at this; omega
    have hb0 : (((L2.length : Int) + 1) == 0) = false := by simp; omega
    have HE2 := Aside0.mk hE2
    clear hg0 hE2
    go_upto_region 5 with (go_at_call 17; (with_reducible refine (num_any _ _).mono ?_); rintro e w4 ⟨rfl, ⟨n4, rfl⟩⟩)
    have HG4 := Aside0.mk (HG3.out.below (below_drewN w3 n4))
    have HX4 := Aside0.mk (blk_below HX3.out (below_drewN w3 n4))
    have HC4 := Aside0.mk (blk_below HC3.out (below_drewN w3 n4))
    have HB4 := Aside0.mk (below_step HB3.out (below_drewN w3 n4))
    clear hx0 hx1 hc0 hc1 HG3 HX3 HC3 HB3 hb0
    generalize w3.drewN n4 = w4 at *
    have y1 : w4.cell? ⟨gA, 1, none⟩ = some (.slice (some ⟨g0, 0, none⟩) (p :: l2).length c0) := by
      obtain ⟨g', hg', hcell⟩ := own_at (c := gcell) (by decide) gcell_length HG4.out.row 0 _ rfl
      simp only [Option.some.injEq, Addr.mk.injEq, and_true] at hg'
      subst hg'
      exact hcell 1 _ rfl
    go_upto_region 6 with fail
    clear y1
    have HP4 := Aside0.mk (HG4.out.inn _ List.mem_cons_self)
    have HR4 := Aside0.mk (show Calls Try.prog 28 #[.slice (some ⟨g0, 0, none⟩) (l2.length + 1) c0] w4 fun e w' => e = .returned (.tuple #[.string ⟨(recBytes (p :: l2)).toArray⟩, .int .i64 0]) ∧ Below w4.heap.size w4 w' from record_Record.calls (some ⟨g0, 0, none⟩) c0 (p :: l2) _ _ w4 (OwnP.reads HP4.out) (ownsRow_cap HP4.out).1 HRC.out)
    go_upto_region 7 with (go_at_call 28; (with_reducible refine HR4.out.mono ?_); rintro e w5 ⟨rfl, hb5⟩)
    clear HR4
    have HG5 := Aside0.mk (HG4.out.below hb5)
    have HX5 := Aside0.mk (blk_below HX4.out hb5)
    have HC5 := Aside0.mk (blk_below HC4.out hb5)
    have HB5 := Aside0.mk (below_step HB4.out hb5)
    clear hb5 HG4 HX4 HC4 HB4 HP4
    have HP5 := Aside0.mk (HG5.out.inn _ List.mem_cons_self)
    have HNX := Aside0.mk (show g0 ≠ g3 ∧ g0 ≠ w.heap.size from ⟨fun e => by
        obtain ⟨cur, h⟩ := ownsRow_type HP5.out g0 rfl
        rw [e, HX5.out] at h
        simp only [Option.some.injEq, Obj.cells.injEq] at h
        exact absurd h.2.1 (by decide), fun e => by
        obtain ⟨cur, h⟩ := ownsRow_type HP5.out g0 rfl
        rw [e, HC5.out] at h
        simp only [Option.some.injEq, Obj.cells.injEq] at h
        exact absurd h.2.1 (by decide)⟩)
    have HGW := Aside0.mk (show w.heap.size ≤ g0 from Nat.le_trans HWS.out (ownsRow_lt HP5.out g0 rfl).1)
    have z1 : w5.cell? ⟨g0, 1, none⟩ = some (.string p.f1) := by
      obtain ⟨g', hg', hcell⟩ := own_at (c := pcell) (by decide) pcell_length HP5.out 0 p rfl
      simp only [Option.some.injEq, Addr.mk.injEq, and_true] at hg'
      subst hg'
      exact hcell 1 _ rfl
    have f1 := HP5.out.frozenAt 1
    have HV5 := Aside0.mk (show ∀ b, (p.f1.toList == []) = b → (b = true → p.f1.size ≠ (⟨#[118]⟩ : ByteArray).size) ∧ (b = false → 1 ≤ p.f1.size ∧ p.f1.size ≠ (p.f1.extract 1 p.f1.size).size) from fun b hb => by
      have h0 : p.f1.toList.length = p.f1.size := by rw [ByteArray.toList_eq]; exact ba_size _
      constructor
      · rintro rfl
        have h1 : p.f1.toList = [] := by simpa using hb
        rw [h1] at h0
        have h2 : p.f1.size = 0 := h0.symm
        rw [h2]
        decide
      · rintro rfl
        have h1 : p.f1.toList ≠ [] := by simpa using hb
        have h2 : p.f1.size ≠ 0 := fun h => h1 (List.eq_nil_of_length_eq_zero (by omega))
        refine ⟨by omega, ?_⟩
        simp
        omega)
    clear f1
    obtain ⟨b, hb⟩ : ∃ b, (p.f1.toList == []) = b := ⟨_, rfl⟩
    have HBB := Aside0.mk (HV5.out b hb)
    have HP6 := HP5
    go_cut [78] (fun v78 wx => v78 = .bool b ∧ w5 = wx)
    case first =>
      go_wp2_with fail
      go_meet
      exact ⟨by rw [← hb], rfl⟩
    case rest =>
    obtain ⟨rfl, rfl⟩ := hcut
    clear hb HV5
    have f1 := HP6.out.frozenAt 1
    go_upto_if 78 with fail
    go_cut [10] (fun v10 wx => v10 = .slice (some ⟨g0, 0, none⟩) (l2.length + 1) c0 ∧ ∃ v' : ByteArray, Aside0 (p.f1.size ≠ v'.size) ∧ wx = w5.setCell ⟨g0, 1, none⟩ (.string v'))
    case first =>
      cases b with
      | true =>
        have HV := Aside0.mk (HBB.out.1 rfl)
        go_wp2_with fail
        go_meet
        exact ⟨rfl, _, HV, rfl⟩
      | false =>
        obtain ⟨h1, h2⟩ := HBB.out.2 rfl
        have p1 : (1 ≤ (p.f1.size : Int)) = True := eq_true (by omega)
        have HV := Aside0.mk h2
        clear h1 h2
        go_wp2_with fail
        go_meet
        exact ⟨rfl, _, HV, rfl⟩
    case rest =>
    obtain ⟨rfl, v', HV, rfl⟩ := hcut
    have HG6 := Aside0.mk (HG5.out.setFirst ⟨p.f0, v'⟩ (by simp) rfl)
    have HX6 := Aside0.mk ((Below.heap_setCell w5 ⟨g0, 1, none⟩ (.string v') g3 (fun e => HNX.out.1 e.symm)).trans HX5.out)
    have HC6 := Aside0.mk ((Below.heap_setCell w5 ⟨g0, 1, none⟩ (.string v') w.heap.size (fun e => HNX.out.2 e.symm)).trans HC5.out)
    have HB6 := Aside0.mk (HB5.out.setCell (p := ⟨g0, 1, none⟩) HGW.out (.string v'))
    clear z1 f1 HG5 HX5 HC5 HB5 HP5 HNX HGW
    generalize w5.setCell ⟨g0, 1, none⟩ (.string v') = w6 at *
    obtain ⟨y, hy⟩ : ∃ y : S94, y = ⟨p.f0, v'⟩ := ⟨_, rfl⟩
    have HG6' := Aside0.mk (show GR w0.heap.size w6 (some ⟨gA, 0, none⟩) q1 (⟨s, some ⟨g0, 0, none⟩, c0, y :: l2⟩ :: E2) from by rw [hy]; exact HG6.out)
    have hrot := HRO.out y (sz_set (p :: l2) y (Nat.succ_pos _) (by rw [hy]; rfl) (by rw [hy]; exact HV.out))
    obtain ⟨⟨r2, er⟩, hrr⟩ : ∃ q, recF (y :: l2) = q := ⟨_, rfl⟩
    have hrot2 : (recBytes (p :: l2) == r2.toList) = false := by
      have h : (recBytes (p :: l2) == (recF (y :: l2)).1.toList) = false := hrot
      rw [hrr] at h
      exact h
    have HRC2 := Aside0.mk (show record_Record.f (y :: l2) = some (r2, er) from by unfold record_Record.f; rw [hrr])
    have HRR := Aside0.mk (show ∀ W, Below w6.heap.size w6 W → L2.length + 1 ≤ q1 ∧ Kd.C k80 W (some ⟨gA, 0, none⟩) (L2.length + 1) (⟨s, y :: l2⟩ :: L2) from fun W hW => by
      have h := (HG6'.out.below hW).reads
      rw [List.map_cons, HE2.out] at h
      exact h)
    have HPP := Aside0.mk (show ∀ W, Below w6.heap.size w6 W → OwnP W w0.heap.size (some ⟨g0, 0, none⟩) c0 (y :: l2) from fun W hW => (HG6'.out.below hW).inn _ List.mem_cons_self)
    have HRECY := Aside0.mk (show ∀ A7 c7 W, Kd.C k94 W A7 (l2.length + 1) (y :: l2) → l2.length + 1 ≤ c7 → Calls Try.prog 28 #[.slice A7 (l2.length + 1) c7] W fun e w' => e = .returned (.tuple #[.string r2, .int .i64 er]) ∧ Below W.heap.size W w' from fun A7 c7 W h1 h2 => record_Record.calls A7 c7 (y :: l2) r2 er W h1 h2 HRC2.out)
    obtain ⟨⟨ex, ed, ee⟩, hee⟩ : ∃ q, encF (wn : Int) (⟨s, y :: l2⟩ :: L2) = q := ⟨_, rfl⟩
    have HENC := Aside0.mk (show ∀ A7 c7 W, Kd.C k80 W A7 (L2.length + 1) (⟨s, y :: l2⟩ :: L2) → L2.length + 1 ≤ c7 → Calls Try.prog 34 #[.int .i64 (wn : Int), .slice A7 (L2.length + 1) c7] W fun e w' => e = .returned (.tuple #[.agg #[.string ⟨ex.toArray⟩, .string ⟨ed.toArray⟩], .int .i64 ee]) ∧ Below W.heap.size W w' from fun A7 c7 W h1 h2 => by
      have h := record_Encode.calls (wn : Int) A7 c7 (⟨s, y :: l2⟩ :: L2) W h1 h2 (by have := HLEN.out; simp only [List.length_cons] at this ⊢; omega)
      rw [hee] at h
      exact h)
    have HCOP := Aside0.mk (show ∀ A7 c7 W, Kd.C k80 W A7 (L2.length + 1) (⟨s, y :: l2⟩ :: L2) → L2.length + 1 ≤ c7 → Calls Try.prog 42 #[.slice A7 (L2.length + 1) c7] W fun e w' => ∃ A8 c8, e = .returned (.slice A8 (L2.length + 1) c8) ∧ L2.length + 1 ≤ c8 ∧ Kd.C k80 w' A8 (L2.length + 1) (⟨s, y :: l2⟩ :: L2) ∧ Below W.heap.size W w' from fun A7 c7 W h1 h2 => by
      refine (copied_own (⟨s, y :: l2⟩ :: L2) (by have := HLEN.out; simp only [List.length_cons] at this ⊢; omega) (fun g hg => by
        rcases List.mem_cons.1 hg with rfl | hg
        · have := HLE.out; simp only [List.length_cons] at this ⊢; omega
        · have := HG.out.le g (List.mem_cons_of_mem _ hg); omega) A7 c7 W h1 h2).mono ?_
      rintro e w' ⟨A8, c8, E8, rfl, he, hg, hb⟩
      have hr := hg.reads
      rw [he] at hr
      exact ⟨A8, c8, rfl, hr.1, hr.2, hb⟩)
    have HD := Aside0.mk (show 0 + (l2.length + 1) ≤ maxLen ∧ (0 + (l2.length + 1)) * 32 ≤ 140737488355328 from ⟨by have := HLE.out; simp only [List.length_cons] at this; unfold maxLen; omega, by have := HLE.out; simp only [List.length_cons] at this; omega⟩)
    have HONE := Aside0.mk (show ∀ u ∈ (y :: l2).flatMap pcell, u.oneCell' = true from fun u hu => by
      obtain ⟨q, _, hq⟩ := List.mem_flatMap.1 hu
      simp [pcell] at hq
      rcases hq with rfl | rfl <;> rfl)
    have HPL := Aside0.mk (show ((y :: l2).flatMap pcell).length = (l2.length + 1) * 2 from rc_length pcell_length (y :: l2))
    obtain ⟨i0, hi, hz0, hz1, hz2⟩ := info_parts info94
    have HI := Aside0.mk (And.intro hi (And.intro hz0 (And.intro hz1 hz2)))
    clear hi hz0 hz1 hz2 hrot hrr hee hy HG6 HG6' HRO HRC HV
    go_upto_region 11 with (go_at_call 28; (with_reducible refine (HRECY.out _ _ w6 (OwnP.reads (HPP.out w6 (Below.refl _ _))) (ownsRow_cap (HPP.out w6 (Below.refl _ _))).1).mono ?_); rintro e w7 ⟨rfl, hb7⟩)
    have HB7 := Aside0.mk hb7
    have HC7 := Aside0.mk (C_cells (OwnP.reads (HPP.out w7 HB7.out)))
    clear hb7
    go_upto_region 12 with (first
      | (at_builtin; refine wpList_append_own_at _ rfl _ _ 41 rfl w6.heap.size 94 i0 (.agg #[.string ⟨#[]⟩, .string ⟨#[]⟩]) 2 32 Try.underlying41 HI.out.1 HI.out.2.1 HI.out.2.2.1 HI.out.2.2.2 rfl (by decide) (.slice none 0 0) 0 [] rfl (World.ownsRow_nil _ _ _ _) ⟨g0, 0, none⟩ (l2.length + 1) c0 ((y :: l2).flatMap pcell) rfl HPL.out HC7.out HONE.out HD.out.1 HD.out.2 HB7.out.size ?_; intro v7 w8 hown hgr _ _; obtain ⟨A7, c7, rfl⟩ := own_form hown; have HB8 := Aside0.mk (HB7.out.grown hgr HB7.out.size (fun k hk => by cases hk)); have HOW := Aside0.mk (show OwnP w8 w6.heap.size A7 c7 (y :: l2) from by have h := hown; rw [Nat.zero_add, List.nil_append] at h; exact h); have HRY := Aside0.mk (HRECY.out A7 c7 w8 (OwnP.reads HOW.out) (ownsRow_cap HOW.out).1); clear hown hgr)
      | (go_at_call 28; (with_reducible refine HRY.out.mono ?_); rintro e w9 ⟨rfl, hb9⟩))
    have HB9 := Aside0.mk (below_step HB8.out hb9)
    clear hb9 HB7 HC7 HB8 HOW HRY
    go_upto_region 13 with (go_at_call 34; (with_reducible refine (HENC.out (some ⟨gA, 0, none⟩) q1 w9 (HRR.out w9 HB9.out).2 (HRR.out w9 HB9.out).1).mono ?_); rintro e w10 ⟨rfl, hb10⟩)
    have hb11 := below_step hb10 (below2a w10 (.cells #[.string ⟨ex.toArray⟩, .string ⟨ed.toArray⟩] 53))
    have HB11 := Aside0.mk (below_step HB9.out hb11)
    have HY11 := Aside0.mk (blk_new w10 (.cells #[.string ⟨ex.toArray⟩, .string ⟨ed.toArray⟩] 53))
    clear hb10 hb11 HB9
    generalize w10.alloc (.cells #[.string ⟨ex.toArray⟩, .string ⟨ed.toArray⟩] 53) = w11 at *
    generalize w10.heap.size = g11 at *
    go_upto_region 14 with (first
      | (go_at_call 42; (with_reducible refine (HCOP.out (some ⟨gA, 0, none⟩) q1 w11 (HRR.out w11 HB11.out).2 (HRR.out w11 HB11.out).1).mono ?_); rintro e w12 ⟨A8, c8, rfl, hc8, hK8, hb12⟩)
      | (go_at_call 34; (with_reducible refine (HENC.out A8 c8 w12 hK8 hc8).mono ?_); rintro e w13 ⟨rfl, hb13⟩))
    have hb14 := below_step (below_step hb12 hb13) (below2a w13 (.cells #[.string ⟨ex.toArray⟩, .string ⟨ed.toArray⟩] 53))
    have HB14 := Aside0.mk (below_step HB6.out (below_step HB11.out hb14))
    have HY14 := Aside0.mk (blk_below HY11.out hb14)
    have HZ14 := Aside0.mk (blk_new w13 (.cells #[.string ⟨ex.toArray⟩, .string ⟨ed.toArray⟩] 53))
    have HX14 := Aside0.mk (blk_below HX6.out (below_step HB11.out hb14))
    have HC14 := Aside0.mk (blk_below HC6.out (below_step HB11.out hb14))
    clear hb12 hb13 hb14 hc8 hK8 HB11 HY11 HX6 HC6 HB6
    generalize w13.alloc (.cells #[.string ⟨ex.toArray⟩, .string ⟨ed.toArray⟩] 53) = w14 at *
    generalize w13.heap.size = g14 at *
    generalize (⟨ex.toArray⟩ : ByteArray) = X at *
    generalize (⟨ed.toArray⟩ : ByteArray) = D at *
    have hx0 : ∀ n, (w14.drewN n).cell? ⟨g3, 0, none⟩ = some (.string (idxB (⟨s, p :: l2⟩ :: L2))) := fun n => blk_cell (blk_below HX14.out (below_drewN w14 n)) 0
    have hx1 : ∀ n, (w14.drewN n).cell? ⟨g3, 1, none⟩ = some (.string (dataB (⟨s, p :: l2⟩ :: L2))) := fun n => blk_cell (blk_below HX14.out (below_drewN w14 n)) 1
    have hc0 : ∀ n, (w14.drewN n).cell? ⟨w.heap.size, 0, none⟩ = some (.string (idxB (⟨s, p :: l2⟩ :: L2))) := fun n => blk_cell (blk_below HC14.out (below_drewN w14 n)) 0
    have hc1 : ∀ n, (w14.drewN n).cell? ⟨w.heap.size, 1, none⟩ = some (.string (dataB (⟨s, p :: l2⟩ :: L2))) := fun n => blk_cell (blk_below HC14.out (below_drewN w14 n)) 1
    have hy0 : ∀ n, (w14.drewN n).cell? ⟨g11, 0, none⟩ = some (.string X) := fun n => blk_cell (blk_below HY14.out (below_drewN w14 n)) 0
    have hy1 : ∀ n, (w14.drewN n).cell? ⟨g11, 1, none⟩ = some (.string D) := fun n => blk_cell (blk_below HY14.out (below_drewN w14 n)) 1
    have hz0 : ∀ n, (w14.drewN n).cell? ⟨g14, 0, none⟩ = some (.string X) := fun n => blk_cell (blk_below HZ14.out (below_drewN w14 n)) 0
    have hz1 : ∀ n, (w14.drewN n).cell? ⟨g14, 1, none⟩ = some (.string D) := fun n => blk_cell (blk_below HZ14.out (below_drewN w14 n)) 1
    have ke1 : (er != er) = false := by simp
    have ke2 : (ee != ee) = false := by simp
    have ke3 : (r2.toList != r2.toList) = false := by simp
    have ke4 : (X.toList != X.toList) = false := by simp
    have ke5 : (D.toList != D.toList) = false := by simp
    have ke6 : ((idxB (⟨s, p :: l2⟩ :: L2)).toList == (idxB (⟨s, p :: l2⟩ :: L2)).toList) = true := by simp
    have ke7 : ((dataB (⟨s, p :: l2⟩ :: L2)).toList == (dataB (⟨s, p :: l2⟩ :: L2)).toList) = true := by simp
    go_wp2_with (go_at_call 17; (with_reducible refine (num_any _ _).mono ?_); rintro e w15 ⟨rfl, ⟨n15, rfl⟩⟩)
    go_ret
    exact ⟨rfl, below_step HB14.out (below_drewN w14 _)⟩

end Go.Proofs.Ytkfhedppnlocpaa.Q
