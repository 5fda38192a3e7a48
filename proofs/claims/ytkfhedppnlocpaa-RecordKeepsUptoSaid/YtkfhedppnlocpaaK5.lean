/- RecordKeeps: the law, up to its row. Condition: the puts are read, and are not too many. -/
import Derived.Test.YtkfhedppnlocpaaK4
import Derived.Test.YtkfhedppnlocpaaR
set_option linter.unusedVariables false
set_option linter.unusedSimpArgs false
namespace Go.Proofs.Ytkfhedppnlocpaa.Q
open Go.RowKit Go.Plan Go.Proofs.YtkfhedppnlocpaaW.PrintWords Go.Proofs.YtkfhedppnlocpaaW.PrintLast Go.Proofs.YtkfhedppnlocpaaW.PrintMore

set_option maxHeartbeats 8000000 in
set_option maxRecDepth 100000 in
theorem recordKeeps_law (wd : Int) (A1 : Option Addr) (c1 : Nat) (P : List S97) (A2 : Option Addr) (c2 : Nat) (Q : List S97) (w : World) (hP : Kd.C k97 w A1 P.length P) (hPc : P.length ≤ c1) (hPl : P.length ≤ 4194304) (hQ : Kd.C k97 w A2 Q.length Q) (hQc : Q.length ≤ c2) (hQl : Q.length ≤ 4194304) :
    Calls Try.prog 14 #[.int .i64 wd, .slice A1 P.length c1, .slice A2 Q.length c2] w fun e w' => e = .returned (.bool true) ∧ Below w.heap.size w w' := by
  obtain ⟨wn, hbt, hw1, hw2⟩ := between_tells wd
  have HBT := Aside0.mk hbt
  have HW := Aside0.mk (And.intro hw1 hw2)
  have HQ := Aside0.mk (And.intro hQ (And.intro hQc hQl))
  obtain ⟨L, hG, hmade⟩ := made_any wn hw2 A1 c1 P hPc hPl
  have HG := Aside0.mk hG
  have HM := Aside0.mk (fun n => hmade (w.drewN n) (Kd.C_below hP (below_drewN w n)))
  clear hbt hw1 hw2 hP hPc hPl hQ hQc hQl hmade hG
  go_enter Try.func14, Try.ntmps14
  go_upto_region 2 with (go_at_call 40; (with_reducible refine (granarylaw3_between.calls wd (wn : Int) _ HBT.out).mono ?_); rintro e w1 ⟨rfl, ⟨n, rfl⟩⟩)
  go_upto_region 3 with (go_at_call 41; (with_reducible refine (HM.out n).mono ?_); rintro e w2 ⟨A, c, rfl, hc, hK, hb⟩)
  have HB2 := Aside0.mk (below_step (below_drewN w n) hb)
  have HL := Aside0.mk (And.intro hc hK)
  clear hc hK hb HM
  go_upto_region 4 with (first
    | (go_at_call 42; (with_reducible refine (copied_any HG.out A c w2 HL.out.2 HL.out.1).mono ?_); rintro e w3 ⟨A3, c3, rfl, hc3, hK3, hb3⟩)
    | (go_at_call 34; (with_reducible refine (encode_any HW.out.1 HW.out.2 HG.out A3 c3 w3 hK3 hc3).mono ?_); rintro e w4 ⟨rfl, hb4⟩))
  have hb5 := below_step (below_step hb3 hb4) (below2a w4 (.cells #[.string (idxB L), .string (dataB L)] 53))
  have HB5 := Aside0.mk (below_step HB2.out hb5)
  have HL5 := Aside0.mk (And.intro HL.out.1 (Kd.C_below HL.out.2 hb5))
  have HX5 := Aside0.mk (blk_new w4 (.cells #[.string (idxB L), .string (dataB L)] 53))
  clear hb5 hb3 hb4 hc3 hK3 HL HB2
  generalize w4.alloc (.cells #[.string (idxB L), .string (dataB L)] 53) = w5 at *
  generalize w4.heap.size = g5 at *
  go_upto_region 6 with (go_at_call 17; (with_reducible refine (granarylaw3_num.calls 0 0 w5 rfl).mono ?_); rintro e w6 ⟨rfl, ⟨n6, rfl⟩⟩)
  have HB6 := Aside0.mk (below_drewN w5 n6)
  generalize w5.drewN n6 = w6 at *
  have hx6 := blk_below HX5.out HB6.out
  have x0 := blk_cell hx6 0
  have x1 := blk_cell hx6 1
  clear hx6
  go_upto_region 7 with (go_at_call 30; (with_reducible refine (decode_any HW.out.1 HW.out.2 HG.out w6).mono ?_); rintro e w7 ⟨A6, q6, E6, rfl, he6, hg6, hb6⟩)
  have HB7 := Aside0.mk (below_step HB6.out hb6)
  have HG7 := Aside0.mk (And.intro he6 hg6)
  clear x0 x1 hb6 he6 hg6 HB6
  have HSG := Aside0.mk (show ∀ n, Calls Try.prog 32 #[.slice A6 E6.length q6, .slice A L.length c] (w7.drewN n) fun e w' => e = .returned (.bool true) ∧ Drawn0 (w7.drewN n) w' from fun n => by
    obtain ⟨h1, h2⟩ := (HG7.out.2.below (below_drewN w7 n)).reads
    have he := HG7.out.1
    have hl : E6.length = L.length := by rw [← he, List.length_map]
    rw [he] at h1 h2
    rw [hl]
    exact same_any HG.out A6 q6 A c (w7.drewN n) h2 h1 (Kd.C_below HL5.out.2 (below_step HB7.out (below_drewN w7 n))) HL5.out.1)
  go_upto_region 9 with (first
    | (go_at_call 17; (with_reducible refine (granarylaw3_num.calls 0 0 w7 rfl).mono ?_); rintro e w8 ⟨rfl, ⟨n8, rfl⟩⟩)
    | (go_at_call 32; (with_reducible refine (HSG.out n8).mono ?_); rintro e w9 ⟨rfl, ⟨n9, rfl⟩⟩))
  have HB9 := Aside0.mk (below_step HB7.out (below_drewN w7 (n8 + n9)))
  generalize w7.drewN (n8 + n9) = w9 at *
  have TR := Aside0.mk (show ∀ W, Below w5.heap.size w5 W → ∀ p v, w5.cell? p = some v → W.cell? p = some v from fun W hW p v hp => (hW.cell (World.block_lt_of_cell? _ _ hp)).trans hp)
  have HLL := Aside0.mk HG.out.len
  have hnb : (L.length : Int) ≤ 32768 := by have := HLL.out; omega
  clear HSG HG7 HB7 HBT
  go_wp2_with fail
  go_loopg [13] L.length (fun kq v13 w' => ∃ i : Nat, v13 = .int .i64 (i : Int) ∧ Aside0 (i + kq = L.length) ∧ Aside0 (Below w5.heap.size w5 w'))
  case atStart => exact ⟨0, rfl, ⟨by omega⟩, HB9⟩
  case round =>
    clear HB9
    obtain ⟨i, rfl, HN, HBr⟩ := hrel
    by_cases ci : (i : Int) < (L.length : Int)
    · cases gk with
      | zero => exact absurd HN.out (by omega)
      | succ k1 =>
      have hil : i < L.length := by omega
      have HIL := Aside0.mk hil
      have cb : decide ((i : Int) < (L.length : Int)) = true := decide_eq_true ci
      have cb2 : decide (i < L.length) = true := decide_eq_true hil
      have p2 : (0 ≤ (i : Int)) = True := eq_true (by omega)
      have p3 : ((i : Int) < (L.length : Int)) = True := eq_true ci
      have HN' := Aside0.mk (show i + 1 + k1 = L.length by have := HN.out; omega)
      obtain ⟨ad, B1, d1, hA, z0, z1, hd1, hk1⟩ := at_T80 HL5.out.2 (i : Int) (by omega) (by omega)
      rw [Int.toNat_natCast, rd80_nat] at z0 z1
      rw [rd80_nat] at hd1 hk1
      subst hA
      have HGM := Aside0.mk (getD_mem hil)
      have HAG := Aside0.mk (fun j hj => among_good HG.out (i := i) (j := j) hil hj)
      obtain ⟨G, hG⟩ : ∃ G, L.getD i z80 = G := ⟨_, rfl⟩
      rw [hG] at z0 z1 hd1 hk1 HGM HAG
      have HZ := Aside0.mk (And.intro z0 (And.intro z1 (And.intro hd1 hk1)))
      have HGL := Aside0.mk (HG.out.le G HGM.out)
      have hgb : (G.f1.length : Int) ≤ 512 := by have := HGL.out; omega
      clear z0 z1 hd1 hk1 hil hG
      go_upto_region 12 with fail
      go_wp2_with fail
      go_loopg [14] G.f1.length (fun kq v14 w' => ∃ j : Nat, v14 = .int .i64 (j : Int) ∧ Aside0 (j + kq = G.f1.length) ∧ Aside0 (Below w5.heap.size w5 w'))
      case atStart => exact ⟨0, rfl, ⟨by omega⟩, HBr⟩
      case round =>
        clear HBr
        obtain ⟨j, rfl, HM2, HBj⟩ := hrel
        have y1 := TR.out _ HBj.out _ _ HZ.out.2.1
        by_cases cj : (j : Int) < (G.f1.length : Int)
        · cases gk with
          | zero => exact absurd HM2.out (by omega)
          | succ k2 =>
          have hjl : j < G.f1.length := by omega
          have cc : decide ((j : Int) < (G.f1.length : Int)) = true := decide_eq_true cj
          have cc2 : decide (j < G.f1.length) = true := decide_eq_true hjl
          have p4 : (0 ≤ (j : Int)) = True := eq_true (by omega)
          have p5 : ((j : Int) < (G.f1.length : Int)) = True := eq_true cj
          have HM' := Aside0.mk (show j + 1 + k2 = G.f1.length by have := HM2.out; omega)
          obtain ⟨pd, hB, u0, u1⟩ := at_T94 HZ.out.2.2.2 (j : Int) (by omega) (by omega)
          rw [Int.toNat_natCast, rd_nat] at u0 u1
          subst hB
          have ham := HAG.out j hjl
          have hpk := HG.out.pk G HGM.out (G.f1.getD j z94) (by rw [List.getD_eq_getElem?_getD, List.getElem?_eq_getElem hjl]; exact List.getElem_mem _)
          obtain ⟨PR, hPR⟩ : ∃ PR, G.f1.getD j z94 = PR := ⟨_, rfl⟩
          rw [hPR] at u0 u1 ham hpk
          have HU := Aside0.mk (And.intro u0 u1)
          have HLK := Aside0.mk (fun W => lookup_any HW.out.1 HW.out.2 HG.out G.f0 PR.f0 (HG.out.hs G HGM.out) ⟨hpk.1, hpk.2.1⟩ W)
          rw [ham, show looked (some PR.f1) = (PR.f1, true) from rfl] at HLK
          clear u0 u1 ham hpk hPR hjl
          go_upto_region 15 with fail
          have hc0 := below_step HBj.out (below_drew wr)
          refine wp_region_plan (quiets [0, 1, 2, 3, 4, 5, 6, 7, 8, 9, 10, 11, 12, 13, 14, 15] ++ ((true, 16) :: (quiets [17, 18, 19, 20, 21, 22, 23] ++ []))) (fun W => Below w5.heap.size w5 W) (by kernel_rfl) (by kernel_rfl) hc0 ?_
          apply mix_quiets [0, 1, 2, 3, 4, 5, 6, 7, 8, 9, 10, 11, 12, 13, 14, 15] _ (by kernel_rfl) hc0
          case h =>
            intro W hW
            have hx := blk_below HX5.out hW
            have e0 := blk_cell hx 0
            have e1 := blk_cell hx 1
            have e2 := TR.out _ hW _ _ HZ.out.1
            have e3 := TR.out _ hW _ _ HZ.out.2.1
            have e4 := TR.out _ hW _ _ HU.out.1
            clear hW hx
            refine still_of_quiet _ _ ?_
            simp only [segOps, List.getElem?_toArray, List.getElem?_cons_zero, List.getElem?_cons_succ, Option.toList_some, List.nil_append, List.cons_append, List.append_nil]
            repeat (go_big_quiet_step (fail))
            exact wpQuiet_nil rfl
          refine mix_writes 16 ⟨some 89, _, _, _, _, _⟩ rfl _ ?_
          change wpList _ _ _ _ _ wr.drew
          have HC2 := Aside0.mk hc0
          clear hc0
          generalize wr.drew = w10 at *
          go_wp2_with (go_at_call 38; (with_reducible refine (HLK.out w10).mono ?_); rintro e' w11 ⟨rfl, hb⟩)
          have HC3 := Aside0.mk (below_step HC2.out hb)
          clear hb
          refine ⟨HC3.out, ?_⟩
          apply mix_quiets [17, 18, 19, 20, 21, 22, 23] _ (by kernel_rfl) HC3.out
          case h =>
            intro W hW
            clear hW
            refine still_of_quiet _ _ ?_
            simp only [segOps, List.getElem?_toArray, List.getElem?_cons_zero, List.getElem?_cons_succ, Option.toList_some, List.nil_append, List.cons_append, List.append_nil]
            repeat (go_big_quiet_step (fail))
            exact wpQuiet_nil rfl
          refine mix_done ?_
          clear HLK y1
          go_wp2_with (go_at_call 17; (with_reducible refine (granarylaw3_num.calls 0 0 w11 rfl).mono ?_); rintro e' w12 ⟨rfl, ⟨n12, rfl⟩⟩; have hb12 := Aside0.mk (below_step HC3.out (below_drewN w11 n12)); have y3 := TR.out (w11.drewN n12) hb12.out _ _ HZ.out.2.1; have y4 := TR.out (w11.drewN n12) hb12.out _ _ HU.out.2)
          go_roundg k2
          case measure => have := HM'.out; omega
          case rel => exact ⟨j + 1, congrArg (Value.int .i64) (by omega), HM', hb12⟩
        · have cc : decide ((j : Int) < (G.f1.length : Int)) = false := decide_eq_false cj
          have cc2 : decide (j < G.f1.length) = false := decide_eq_false (by omega)
          obtain rfl : gk = 0 := by have := HM2.out; omega
          go_wp2_with fail
          go_roundg k1
          case measure => have := HN'.out; omega
          case rel => exact ⟨i + 1, congrArg (Value.int .i64) (by omega), HN', HBj⟩
    · have cb : decide ((i : Int) < (L.length : Int)) = false := decide_eq_false ci
      have cb2 : decide (i < L.length) = false := decide_eq_false (by omega)
      obtain rfl : gk = 0 := by have := HN.out; omega
      have hqb : (Q.length : Int) ≤ 4194304 := by have := HQ.out.2.2; omega
      go_wp2_with fail
      go_loopg [18] Q.length (fun kq v18 w' => ∃ i : Nat, v18 = .int .i64 (i : Int) ∧ Aside0 (i + kq = Q.length) ∧ Aside0 (Below w5.heap.size w5 w'))
      case atStart => exact ⟨0, rfl, ⟨by omega⟩, HBr⟩
      case round =>
        obtain ⟨i2, rfl, HN2, HB2⟩ := hrel
        clear ci cb cb2 HN
        by_cases ci : (i2 : Int) < (Q.length : Int)
        · cases gk with
          | zero => exact absurd HN2.out (by omega)
          | succ k1 =>
          have cb : decide ((i2 : Int) < (Q.length : Int)) = true := decide_eq_true ci
          have cb2 : decide (i2 < Q.length) = true := decide_eq_true (by omega)
          have p2 : (0 ≤ (i2 : Int)) = True := eq_true (by omega)
          have p3 : ((i2 : Int) < (Q.length : Int)) = True := eq_true ci
          have HN' := Aside0.mk (show i2 + 1 + k1 = Q.length by have := HN2.out; omega)
          obtain ⟨aq, hA2, z0, z1, z2⟩ := at_T97 (Kd.C_below HQ.out.1 HB5.out) (i2 : Int) (by omega) (by omega)
          rw [Int.toNat_natCast] at z0 z1
          subst hA2
          obtain ⟨q, hq⟩ : ∃ q, rd_T97 Q (i2 : Int) = q := ⟨_, rfl⟩
          rw [hq] at z0 z1
          obtain ⟨h, hf1, hf2⟩ := fit_tells q.f0 wn HW.out.2 20 (by omega)
          obtain ⟨k, hk1, hk2⟩ := keyed_tells q.f1
          have HZ := Aside0.mk (And.intro z0 z1)
          have HF := Aside0.mk hf1
          have HKY := Aside0.mk hk1
          have HLK := Aside0.mk (fun W => lookup_any HW.out.1 HW.out.2 HG.out h k hf2 hk2 W)
          have HHD := Aside0.mk (show ∀ W, Below w5.heap.size w5 W → Calls Try.prog 50 #[.slice A L.length c, .string h, .string k] W fun e w' => e = .returned (.tuple #[.string (looked (amongF L h k)).1, .bool (looked (amongF L h k)).2]) ∧ Drawn0 W w' from fun W hW => granarylaw3_holds.calls (cost L) A c L h k _ _ W (Kd.C_below HL5.out.2 hW) HL5.out.1 (holds_tells L h k (by have := HLL.out; omega) (fun g hg => by have := HG.out.le g hg; omega)))
          generalize looked (amongF L h k) = lk at *
          obtain ⟨lv, lb⟩ := lk
          clear z0 z1 z2 hf1 hf2 hk1 hk2 hq
          have y0 := TR.out _ HB2.out _ _ HZ.out.1
          go_upto_region 22 with (go_at_call 48; (with_reducible refine (granarylaw3_fit.calls 20 q.f0 (wn : Int) h wr HF.out).mono ?_); rintro e' w12 ⟨rfl, ⟨n12, rfl⟩⟩)
          have HB12 := Aside0.mk (below_step HB2.out (below_drewN wr n12))
          clear y0
          generalize wr.drewN n12 = w12 at *
          have y0 := TR.out _ HB12.out _ _ HZ.out.2
          go_upto_region 23 with (go_at_call 49; (with_reducible refine (granarylaw3_keyed.calls q.f1 k w12 HKY.out).mono ?_); rintro e' w13 ⟨rfl, ⟨n13, rfl⟩⟩)
          have HB13 := Aside0.mk (below_step HB12.out (below_drewN w12 n13))
          clear y0 HB12
          generalize w12.drewN n13 = w13 at *
          have hx := blk_below HX5.out HB13.out
          have e0 := blk_cell hx 0
          have e1 := blk_cell hx 1
          clear hx
          go_upto_region 24 with (go_at_call 38; (with_reducible refine (HLK.out w13).mono ?_); rintro e' w14 ⟨rfl, hb14⟩)
          have HB14 := Aside0.mk (below_step HB13.out hb14)
          clear e0 e1 hb14 HB13
          go_upto_region 25 with (go_at_call 50; (with_reducible refine (HHD.out w14 HB14.out).mono ?_); rintro e' w15 ⟨rfl, ⟨n15, rfl⟩⟩)
          have HB15 := Aside0.mk (below_step HB14.out (below_drewN w14 n15))
          generalize w14.drewN n15 = w15 at *
          go_wp2_with (go_at_call 17; (with_reducible refine (granarylaw3_num.calls 0 0 w15 rfl).mono ?_); rintro e' w16 ⟨rfl, ⟨n16, rfl⟩⟩)
          go_roundg k1
          case measure => have := HN'.out; omega
          case rel => exact ⟨i2 + 1, congrArg (Value.int .i64) (by omega), HN', ⟨below_step HB15.out (below_drewN w15 n16)⟩⟩
        · have cb : decide ((i2 : Int) < (Q.length : Int)) = false := decide_eq_false ci
          have cb2 : decide (i2 < Q.length) = false := decide_eq_false (by omega)
          obtain rfl : gk = 0 := by have := HN2.out; omega
          go_wp2_with fail
          go_ret
          exact ⟨rfl, below_step HB5.out HB2.out⟩

end Go.Proofs.Ytkfhedppnlocpaa.Q
