/- RecordJoins: the law, up to its row. Condition: the puts are read, and are not too many. -/
import Derived.Test.YtkfhedppnlocpaaJ0
import Derived.Test.YtkfhedppnlocpaaR
set_option linter.unusedVariables false
set_option linter.unusedSimpArgs false
namespace Go.Proofs.Ytkfhedppnlocpaa.Q
open Go.RowKit Go.Plan Go.Proofs.YtkfhedppnlocpaaW.PrintWords Go.Proofs.YtkfhedppnlocpaaW.PrintLast Go.Proofs.YtkfhedppnlocpaaW.PrintMore

/-- The cells of pairs that are read. -/
theorem C_cells {W : World} {pd : Addr} {l : List S94} (h : Kd.C k94 W (some pd) l.length l) : ∀ j u, (l.flatMap pcell)[j]? = some u → W.cell? (pd.add j) = some u := by
  intro j u hu
  have hj : j < l.length * 2 := by
    have := (List.getElem?_eq_some_iff.1 hu).1
    rwa [rc_length pcell_length] at this
  have hil : j / 2 < l.length := by omega
  obtain ⟨x, hx, hc⟩ := h.2.2 (by omega)
  obtain rfl := Option.some.inj hx
  obtain ⟨cs, h1, h2, h3⟩ := hc (j / 2) (l.getD (j / 2) z94) (by rw [List.getD_eq_getElem?_getD, List.getElem?_eq_getElem hil]; rfl)
  have hcs : cs = pcell (l.getD (j / 2) z94) := k94_open h2
  have hr := rc_at pcell_length l (j / 2) (l.getD (j / 2) z94) (by rw [List.getD_eq_getElem?_getD, List.getElem?_eq_getElem hil]; rfl) (j % 2) (by omega)
  have hjj : j / 2 * 2 + j % 2 = j := by omega
  rw [hjj, hu] at hr
  have h4 := h3 (j % 2) u (by rw [hcs]; exact hr.symm)
  have h5 : j / 2 * k94.sz + j % 2 = j := hjj
  rw [h5] at h4
  exact h4
set_option maxHeartbeats 8000000 in
set_option maxRecDepth 100000 in
theorem recordJoins_law (wd : Int) (A1 : Option Addr) (c1 : Nat) (P : List S97) (w : World) (hP : Kd.C k97 w A1 P.length P) (hPc : P.length ≤ c1) (hPl : P.length ≤ 4194304) :
    Calls Try.prog 11 #[.int .i64 wd, .slice A1 P.length c1] w fun e w' => e = .returned (.bool true) ∧ Below w.heap.size w w' := by
  obtain ⟨wn, hbt, hw1, hw2⟩ := between_tells wd
  have HBT := Aside0.mk hbt
  have HW := Aside0.mk (And.intro hw1 hw2)
  obtain ⟨L, hG, hmade⟩ := made_any wn hw2 A1 c1 P hPc hPl
  have HG := Aside0.mk hG
  have HM := Aside0.mk (fun n => hmade (w.drewN n) (Kd.C_below hP (below_drewN w n)))
  clear hbt hw1 hw2 hP hPc hPl hmade hG
  go_enter Try.func11, Try.ntmps11
  go_upto_region 2 with (go_at_call 40; (with_reducible refine (granarylaw3_between.calls wd (wn : Int) _ HBT.out).mono ?_); rintro e w1 ⟨rfl, ⟨n, rfl⟩⟩)
  go_upto_region 3 with (go_at_call 41; (with_reducible refine (HM.out n).mono ?_); rintro e w2 ⟨A, c, rfl, hc, hK, hb⟩)
  have HB2 := Aside0.mk (below_step (below_drewN w n) hb)
  have HL := Aside0.mk (And.intro hc hK)
  clear hc hK hb HM
  go_upto_region 4 with (first
    | (go_at_call 42; (with_reducible refine (copied_any HG.out A c w2 HL.out.2 HL.out.1).mono ?_); rintro e w3 ⟨A3, c3, rfl, hc3, hK3, hb3⟩)
    | (go_at_call 34; (with_reducible refine (encode_any HW.out.1 HW.out.2 HG.out A3 c3 w3 hK3 hc3).mono ?_); rintro e w4 ⟨rfl, hb4⟩))
  have hb5 := below_step (below_step hb3 hb4) (below2a w4 (.cells #[.string (idxB L), .string (dataB L)] 53))
  have HB5 := Aside0.mk (below_step HB2.out hb5)
  have HL5 := Aside0.mk (And.intro HL.out.1 (Kd.C_below HL.out.2 hb5))
  have HX5 := Aside0.mk (blk_new w4 (.cells #[.string (idxB L), .string (dataB L)] 53))
  clear hb5 hb3 hb4 hc3 hK3 HL HB2
  generalize w4.alloc (.cells #[.string (idxB L), .string (dataB L)] 53) = w5 at *
  generalize w4.heap.size = g5 at *
  obtain ⟨p, hp⟩ : ∃ p, L.length * (wn + 4) = p := ⟨_, rfl⟩
  have hsz : (idxB L).size = p := by rw [idxB_size HG.out, hp]
  have hmul : (L.length : Int) * ((wn : Int) + 4) = (p : Int) := by rw [← hp]; simp
  have hwa : (1 : Int) ≤ (wn : Int) := by have := HW.out.1; omega
  have hwb : (wn : Int) ≤ 16 := by have := HW.out.2; omega
  have hpb : (p : Int) ≤ 16777216 := by have := idxB_small HW.out.2 HG.out; omega
  have hnb : (L.length : Int) ≤ 32768 := by have := HG.out.len; omega
  clear hp
  have x0 := blk_cell HX5.out 0
  have x1 := blk_cell HX5.out 1
  go_upto_region 6 with (go_at_call 17; (with_reducible refine (granarylaw3_num.calls 0 0 w5 rfl).mono ?_); rintro e w6 ⟨rfl, ⟨n6, rfl⟩⟩)
  have HB6 := Aside0.mk (below_drewN w5 n6)
  clear x0 x1 hmul hpb hsz
  generalize w5.drewN n6 = w6 at *
  have TR := Aside0.mk (show ∀ W, Below w5.heap.size w5 W → ∀ p v, w5.cell? p = some v → W.cell? p = some v from fun W hW p v hp => (hW.cell (World.block_lt_of_cell? _ _ hp)).trans hp)
  go_wp2_with fail
  go_loopg [9, 10] L.length (fun kq v9 v10 w' => ∃ i : Nat, v9 = .int .i64 ((total (L.take i) : Nat) : Int) ∧ v10 = .int .i64 (i : Int) ∧ Aside0 (i + kq = L.length) ∧ Aside0 (Below w5.heap.size w5 w'))
  case atStart => exact ⟨0, rfl, rfl, ⟨by omega⟩, HB6⟩
  case round =>
    clear HB6
    obtain ⟨i, rfl, rfl, HN, HBr⟩ := hrel
    have hx := blk_below HX5.out HBr.out
    have x0 := blk_cell hx 0
    have x1 := blk_cell hx 1
    clear hx
    have htb : ((total (L.take i) : Nat) : Int) ≤ 65536 := by have := total_take_le L i; have := HG.out.wt; omega
    by_cases ci : (i : Int) < (L.length : Int)
    · cases gk with
      | zero => exact absurd HN.out (by omega)
      | succ k1 =>
      have hil : i < L.length := by omega
      have HIL := Aside0.mk hil
      have cb : decide ((i : Int) < (L.length : Int)) = true := decide_eq_true ci
      have cb2 : decide (i < L.length) = true := decide_eq_true hil
      have p2 : (0 ≤ (i : Int)) = True := eq_true (by omega)
      have p3 : ((i : Int) < (L.length : Int)) = True := eq_true ci
      have HN' := Aside0.mk (show i + 1 + k1 = L.length by have := HN.out; omega)
      obtain ⟨ad, B1, d1, hA, z0, z1, hd1, hk1⟩ := at_T80 HL5.out.2 (i : Int) (by omega) (by omega)
      rw [Int.toNat_natCast, rd80_nat] at z0 z1
      rw [rd80_nat] at hd1 hk1
      subst hA
      have HEN := Aside0.mk (entry_good HW.out.1 HW.out.2 HG.out hil)
      have HRR := Aside0.mk (rrF_good2 HG.out hil)
      have HPT := Aside0.mk (part_good HG.out hil)
      have HTS := Aside0.mk (total_step hil)
      have HGM := Aside0.mk (getD_mem hil)
      obtain ⟨G, hG⟩ : ∃ G, L.getD i z80 = G := ⟨_, rfl⟩
      rw [hG] at z0 z1 hd1 hk1 HEN HRR HPT HTS HGM
      have HZ := Aside0.mk (And.intro z0 (And.intro z1 (And.intro hd1 hk1)))
      clear z0 z1 hd1 hk1 hil hG
      go_upto_region 11 with (go_at_call 22; (with_reducible refine (record_ReadEntry.calls (wn : Int) (idxB L) (i : Int) G.f0 _ 0 wr HEN.out).mono ?_); rintro e w7 ⟨rfl, hb7⟩)
      have HB7 := Aside0.mk (below_step HBr.out hb7)
      clear x0 x1 hb7
      have y0 := TR.out _ HB7.out _ _ HZ.out.1
      go_upto_region 13 with (go_at_call 17; (with_reducible refine (granarylaw3_num.calls 0 0 w7 rfl).mono ?_); rintro e w8 ⟨rfl, ⟨n8, rfl⟩⟩; have y8 := TR.out (w7.drewN n8) (below_step HB7.out (below_drewN w7 n8)) _ _ HZ.out.1)
      have HB8 := Aside0.mk (below_step HB7.out (below_drewN w7 n8))
      clear y0 y8
      generalize w7.drewN n8 = w8 at *
      have x1 := blk_cell (blk_below HX5.out HB8.out) 1
      go_upto_region 14 with (go_at_call 24; (with_reducible refine (record_ReadRecord.calls 601 (dataB L) _ G.f1 _ 0 w8 (by rw [readRecord_tells (dataB L) (by have := dataB_small HG.out; omega) _ 601 (by omega), HRR.out])).mono ?_); rintro e w9 ⟨v5, rfl, hk, hb⟩; obtain ⟨A5, c5, rfl, hop⟩ := OwnP.of_R hk; have HB9 := Aside0.mk (below_step HB8.out hb); have HO9 := Aside0.mk hop; clear hb hk hop)
      clear x1
      have HSP := Aside0.mk (show ∀ n, Calls Try.prog 26 #[.slice A5 G.f1.length c5, .slice B1 G.f1.length d1] (w9.drewN n) fun e w' => e = .returned (.bool true) ∧ Drawn0 (w9.drewN n) w' from fun n => by
        have hb := below_step HB9.out (below_drewN w9 n)
        have h1 := ownsRow_keep HO9.out (W' := w9.drewN n) (fun _ _ => rfl)
        have h2 := HG.out.le G HGM.out
        exact granarylaw3_samePairs.calls 1000 A5 c5 G.f1 B1 d1 G.f1 true (w9.drewN n) (OwnP.reads h1) (ownsRow_cap h1).1 (Kd.C_below HZ.out.2.2.2 hb) HZ.out.2.2.1 (samePairs_self G.f1 (by omega) 1000 (by omega)))
      have htn : total (L.take i) ≤ total (L.take (i + 1)) := by have := HTS.out; omega
      have htd : total (L.take (i + 1)) ≤ (dataB L).size := by rw [dataB_size]; exact total_take_le L (i + 1)
      have hds := dataB_small HG.out
      obtain ⟨t0, ht0⟩ : ∃ t, total (L.take i) = t := ⟨_, rfl⟩
      obtain ⟨t1, ht1⟩ : ∃ t, total (L.take (i + 1)) = t := ⟨_, rfl⟩
      have HT := Aside0.mk (And.intro ht0 ht1)
      rw [ht0, ht1] at htn
      rw [ht1] at htd
      have b1 : decide ((t1 : Int) < (t0 : Int)) = false := decide_eq_false (by omega)
      have b2 : decide (t1 < t0) = false := decide_eq_false (by omega)
      have b3 : decide (((dataB L).size : Int) < (t1 : Int)) = false := decide_eq_false (by omega)
      have b4 : decide ((dataB L).size < t1) = false := decide_eq_false (by omega)
      rw [ht0, ht1]
      rw [ht0] at htb
      have htc : (t1 : Int) ≤ 65536 := by omega
      clear htn htd ht0 ht1 hds
      go_upto_region 16 with (first
        | (go_at_call 17; (with_reducible refine (granarylaw3_num.calls 0 0 w9 rfl).mono ?_); rintro e w10 ⟨rfl, ⟨n10, rfl⟩⟩; have y3 := TR.out (w9.drewN n10) (below_step HB9.out (below_drewN w9 n10)) _ _ HZ.out.2.1)
        | (go_at_call 26; (with_reducible refine (HSP.out n10).mono ?_); rintro e w11 ⟨rfl, ⟨n11, rfl⟩⟩; have x3 := blk_cell (blk_below HX5.out (below_step HB9.out (below_drewN w9 (n10 + n11)))) 1))
      have HB12 := Aside0.mk (below_step HB9.out (below_drewN w9 (n10 + n11)))
      clear y3 x3 HSP HO9 b1 b2 b3 b4
      generalize w9.drewN (n10 + n11) = w12 at *
      obtain ⟨pd, hpd⟩ : ∃ pd, B1 = some pd := by
        obtain ⟨x, hx, _⟩ := HZ.out.2.2.2.2.2 (HG.out.ne G HGM.out)
        exact ⟨x, hx⟩
      subst hpd
      have y3 := TR.out _ HB12.out _ _ HZ.out.2.1
      have HCC := Aside0.mk (C_cells (Kd.C_below HZ.out.2.2.2 HB12.out))
      have HGL := Aside0.mk (HG.out.le G HGM.out)
      have D := Aside0.mk (show 0 + G.f1.length ≤ maxLen ∧ (0 + G.f1.length) * 32 ≤ 140737488355328 from ⟨by have := HGL.out; unfold maxLen; omega, by have := HGL.out; omega⟩)
      obtain ⟨i0, hi, hz0, hz1, hz2⟩ := info_parts info94
      have hone : ∀ u ∈ G.f1.flatMap pcell, u.oneCell' = true := by
        intro u hu
        obtain ⟨p, _, hp⟩ := List.mem_flatMap.1 hu
        simp [pcell] at hp
        rcases hp with rfl | rfl <;> rfl
      have HONE := Aside0.mk hone
      have HRC := Aside0.mk (show record_Record.f G.f1 = some (⟨(recBytes G.f1).toArray⟩, 0) from by unfold record_Record.f; rw [HG.out.recd HGM.out])
      clear hone
      go_upto_region 17 with (first
        | (at_builtin; refine wpList_append_own_at _ rfl _ _ 41 rfl w5.heap.size 94 i0 (.agg #[.string ⟨#[]⟩, .string ⟨#[]⟩]) 2 32 Try.underlying41 hi hz0 hz1 hz2 rfl (by decide) (.slice none 0 0) 0 [] rfl (World.ownsRow_nil _ _ _ _) pd G.f1.length d1 (G.f1.flatMap pcell) rfl (rc_length pcell_length _) HCC.out HONE.out D.out.1 D.out.2 HB12.out.size ?_; intro v' w13 hown hgr _ _; obtain ⟨A7, c7, rfl⟩ := own_form hown; have HB13 := Aside0.mk (HB12.out.grown hgr HB12.out.size (fun k hk => by cases hk)); have HOW := Aside0.mk (show OwnP w13 w5.heap.size A7 c7 G.f1 from by have h := hown; rw [Nat.zero_add, List.nil_append] at h; exact h); clear hown hgr)
        | (go_at_call 28; (with_reducible refine (record_Record.calls A7 c7 G.f1 _ _ w13 (OwnP.reads HOW.out) (ownsRow_cap HOW.out).1 HRC.out).mono ?_); rintro e w14 ⟨rfl, hb14⟩))
      have HB14 := Aside0.mk (below_step HB13.out hb14)
      clear y3 hb14 hz0 hz1 hz2 hi HOW HB13 HCC HONE
      have x3 := blk_cell (blk_below HX5.out HB14.out) 1
      have hpt := HPT.out
      rw [HT.out.1, HT.out.2] at hpt
      have hq : (recBytes G.f1 == ((dataB L).extract t0 t1).toList) = true := by rw [hpt, ByteArray.toList_eq]; simp
      have p6 : (0 ≤ (t0 : Int)) = True := eq_true (by omega)
      have p7 : ((t0 : Int) ≤ (t1 : Int)) = True := eq_true (by have := HTS.out; have := HT.out; omega)
      have p8 : ((t1 : Int) ≤ ((dataB L).size : Int)) = True := eq_true (by have := total_take_le L (i + 1); have := dataB_size L; have := HT.out; omega)
      clear hpt
      go_wp2_with (go_at_call 17; (with_reducible refine (granarylaw3_num.calls 0 0 w14 rfl).mono ?_); rintro e w15 ⟨rfl, ⟨n15, rfl⟩⟩; have x4 := blk_cell (blk_below HX5.out (below_step HB14.out (below_drewN w14 n15))) 1)
      go_roundg k1
      case measure => have := HN'.out; omega
      case rel => exact ⟨i + 1, by rw [HT.out.2], congrArg (Value.int .i64) (by omega), HN', ⟨below_step HB14.out (below_drewN w14 n15)⟩⟩
    · have cb : decide ((i : Int) < (L.length : Int)) = false := decide_eq_false ci
      have cb2 : decide (i < L.length) = false := decide_eq_false (by omega)
      obtain rfl : gk = 0 := by have := HN.out; omega
      obtain rfl : i = L.length := by have := HN.out; omega
      have HRE := Aside0.mk (entry_past HW.out.1 HW.out.2 HG.out)
      have hd : ((total (L.take L.length) : Nat) : Int) = ((dataB L).size : Int) := by rw [List.take_length, dataB_size]
      rw [hd]
      clear hd htb
      go_upto_region 21 with (go_at_call 22; (with_reducible refine (record_ReadEntry.calls (wn : Int) (idxB L) (L.length : Int) _ _ _ wr HRE.out).mono ?_); rintro e w7 ⟨rfl, hb7⟩)
      have HB7 := Aside0.mk (below_step HBr.out hb7)
      clear x0 x1 hb7
      have x1 := blk_cell (blk_below HX5.out HB7.out) 1
      go_wp2_with (go_at_call 17; (with_reducible refine (granarylaw3_num.calls 1 1 w7 rfl).mono ?_); rintro e w8 ⟨rfl, ⟨n8, rfl⟩⟩)
      go_ret
      exact ⟨rfl, below_step HB5.out (below_step HB7.out (below_drewN w7 n8))⟩

end Go.Proofs.Ytkfhedppnlocpaa.Q
