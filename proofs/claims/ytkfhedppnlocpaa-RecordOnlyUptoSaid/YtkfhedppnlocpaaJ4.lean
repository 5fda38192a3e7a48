/- Contract of granarylaw3.edited; an edit that came in. Condition: the texts are not too long. RecordOnly: the law, up to its row. Condition: the puts are read, and are not too many, the edits not too long. -/
import Derived.Test.YtkfhedppnlocpaaK4
import Derived.Test.YtkfhedppnlocpaaEQ
import Derived.Test.YtkfhedppnlocpaaRF
import Derived.Deep.DeepCutAuto
import Derived.Deep.RegionHeld3
import Derived.Test.YtkfhedppnlocpaaJ2
set_option linter.unusedVariables false
set_option linter.unusedSimpArgs false
namespace Go.Proofs.Ytkfhedppnlocpaa.Q
open Go.RowKit Go.Plan Go.ChangeShapes Go.WideShapes Go.Proofs.YtkfhedppnlocpaaW.PrintWords Go.Proofs.YtkfhedppnlocpaaW.PrintLast Go.Proofs.YtkfhedppnlocpaaW.PrintMore

theorem ed_size (s p : ByteArray) (a b : Nat) (h : a ≤ b) : ((s.extract 0 a ++ p) ++ s.extract b s.size).size ≤ s.size + p.size := by
  simp only [ByteArray.size_append, ByteArray.size_extract]; omega
set_option maxHeartbeats 16000000 in
set_option maxRecDepth 100000 in
/-- A text that was edited is some text, not too long. -/
theorem edited_any (s : ByteArray) (a c : Int) (p : ByteArray) (w : World) (hs : s.size ≤ 16777216) (hp : p.size ≤ 16777216) :
    Calls Try.prog 43 #[.string s, .agg #[.int .i64 a, .int .i64 c, .string p]] w fun e w' => ∃ r : ByteArray, e = .returned (.string r) ∧ r.size ≤ s.size + p.size ∧ Below w.heap.size w w' := by
  have HB := Aside0.mk (blk_new w (.cells #[.int .i64 a, .int .i64 c, .string p] 83))
  have HBW := Aside0.mk (below2a w (.cells #[.int .i64 a, .int .i64 c, .string p] 83))
  have HS := Aside0.mk (And.intro hs hp)
  have hsi : (s.size : Int) ≤ 16777216 := by omega
  have hs0 : (0 : Int) ≤ (s.size : Int) := by omega
  have hpn : p.size ≤ 16777216 := hp
  have hsn : s.size ≤ 16777216 := hs
  clear hs hp
  go_enter Try.func43, Try.ntmps43
  go_upto_region 1 with fail
  generalize w.alloc (.cells #[.int .i64 a, .int .i64 c, .string p] 83) = w1 at *
  have x0 := blk_cell HB.out 0
  have x1 := blk_cell HB.out 1
  have x2 := blk_cell HB.out 2
  go_upto_region 2 with fail
  go_cut [16] (fun v16 wx => (∃ b : Bool, v16 = .bool b ∧ Aside0 (b = false → 0 ≤ a ∧ a ≤ (s.size : Int))) ∧ w1 = wx)
  case first =>
    by_cases ha : a < 0
    · have a1 : decide (a < 0) = true := decide_eq_true ha
      clear ha
      go_wp2_with fail
      go_meet
      exact ⟨⟨true, rfl, ⟨fun h => by cases h⟩⟩, rfl⟩
    · have a1 : decide (a < 0) = false := decide_eq_false ha
      have HA := Aside0.mk (show decide ((s.size : Int) < a) = false → 0 ≤ a ∧ a ≤ (s.size : Int) from fun h => by have := of_decide_eq_false h; omega)
      clear ha
      go_wp2_with fail
      go_meet
      exact ⟨⟨_, rfl, HA⟩, rfl⟩
  case rest =>
  obtain ⟨⟨b, rfl, HA⟩, rfl⟩ := hcut
  go_upto_if 16 with fail
  go_cut [5] (fun v5 wx => (∃ n : Nat, v5 = .int .i64 (n : Int) ∧ Aside0 (n ≤ s.size)) ∧ w1 = wx)
  case first =>
    cases b with
    | true =>
      go_wp2_with fail
      go_meet
      exact ⟨⟨_, rfl, ⟨Nat.le_refl _⟩⟩, rfl⟩
    | false =>
      obtain ⟨h1, h2⟩ := HA.out rfl
      obtain ⟨n, rfl⟩ : ∃ n : Nat, a = (n : Int) := ⟨a.toNat, by omega⟩
      have HN := Aside0.mk (show n ≤ s.size by omega)
      clear h1 h2
      go_wp2_with fail
      go_meet
      exact ⟨⟨_, rfl, HN⟩, rfl⟩
  case rest =>
  obtain ⟨⟨n, rfl, HN⟩, rfl⟩ := hcut
  have hn := HN.out
  obtain ⟨d, hd⟩ : ∃ d, s.size - n = d := ⟨_, rfl⟩
  have e1 : wrap64 ((s.size : Int) - (n : Int)) = (d : Int) := by rw [Go.IntWalk.wrap64_in _ (by omega)]; omega
  have hdn : n + d = s.size := by omega
  have HD := Aside0.mk hdn
  have hdb : (d : Int) ≤ 16777216 := by omega
  have hnb : (n : Int) ≤ 16777216 := by omega
  clear hn hd hdn
  go_upto_region 5 with fail
  go_cut [30] (fun v30 wx => (∃ b : Bool, v30 = .bool b ∧ Aside0 (b = false → 0 ≤ c ∧ c ≤ (d : Int))) ∧ w1 = wx)
  case first =>
    by_cases hc : c < 0
    · have c1 : decide (c < 0) = true := decide_eq_true hc
      clear hc
      go_wp2_with fail
      go_meet
      exact ⟨⟨true, rfl, ⟨fun h => by cases h⟩⟩, rfl⟩
    · have c1 : decide (c < 0) = false := decide_eq_false hc
      have HC := Aside0.mk (show decide ((s.size : Int) - (n : Int) < c) = false → 0 ≤ c ∧ c ≤ (d : Int) from fun h => by have := of_decide_eq_false h; have := HD.out; omega)
      clear hc
      go_wp2_with fail
      go_meet
      exact ⟨⟨_, rfl, HC⟩, rfl⟩
  case rest =>
  obtain ⟨⟨b, rfl, HC⟩, rfl⟩ := hcut
  go_upto_if 30 with fail
  go_cut [6] (fun v6 wx => (∃ k : Nat, v6 = .int .i64 (k : Int) ∧ Aside0 (k ≤ d)) ∧ w1 = wx)
  case first =>
    cases b with
    | true =>
      go_wp2_with fail
      go_meet
      exact ⟨⟨d, congrArg (Value.int .i64) (by have := HD.out; omega), ⟨Nat.le_refl _⟩⟩, rfl⟩
    | false =>
      obtain ⟨h1, h2⟩ := HC.out rfl
      obtain ⟨k, rfl⟩ : ∃ k : Nat, c = (k : Int) := ⟨c.toNat, by omega⟩
      have HK := Aside0.mk (show k ≤ d by omega)
      clear h1 h2
      go_wp2_with fail
      go_meet
      exact ⟨⟨_, rfl, HK⟩, rfl⟩
  case rest =>
  obtain ⟨⟨k, rfl, HK⟩, rfl⟩ := hcut
  have hk := HK.out
  have hd := HD.out
  have e2 : wrap64 ((n : Int) + (k : Int)) = ((n + k : Nat) : Int) := by rw [Go.IntWalk.wrap64_in _ (by omega)]; omega
  have p1 : (0 ≤ (n : Int)) = True := eq_true (by omega)
  have p2 : ((n : Int) ≤ (s.size : Int)) = True := eq_true (by omega)
  have p3 : (0 ≤ ((n + k : Nat) : Int)) = True := eq_true (by omega)
  have p4 : (((n + k : Nat) : Int) ≤ (s.size : Int)) = True := eq_true (by omega)
  have p5 : (0 ≤ wrap64 ((n : Int) + (k : Int))) = True := eq_true (by rw [e2]; omega)
  have p6 : (wrap64 ((n : Int) + (k : Int)) ≤ (s.size : Int)) = True := eq_true (by rw [e2]; omega)
  have p7 : (0 ≤ (n : Int) + (k : Int)) = True := eq_true (by omega)
  have p8 : ((n : Int) + (k : Int) ≤ (s.size : Int)) = True := eq_true (by omega)
  have q1 : (9223372036854775807 < min n s.size + p.size) = False := eq_false (by omega)
  clear hk hd
  go_upto_region 7 with fail
  go_region
  go_wp2_with fail
  go_ret
  exact ⟨_, rfl, (by simp only [ByteArray.size_append, ByteArray.size_extract]; omega), below_step HBW.out (below_drew w1)⟩

section
variable {H : Type} {enc : TypeId × Value → H} {W : World} {held : Bool}
set_option maxRecDepth 100000 in
/-- An edit that came in. -/
theorem open_edit {base : Nat} {r : Reach} {m : Nat} {v : Value} {x : DataW H × List MemPlace} (hv : Value.okWide Try.prog W r base 83 v) (hf : DataW.trod enc Try.prog W 0 (fun _ => true) held m 83 v.cells.toList = some x) :
    ∃ (a c : Int) (p : ByteArray), v = .agg #[.int .i64 a, .int .i64 c, .string p] ∧ p.size ≤ Rows.uptoBulk x.1 := by
  have c9 : Try.prog.cellsOf 9 = 1 := by kernel_rfl
  have c3 : Try.prog.cellsOf 3 = 1 := by kernel_rfl
  have c83 : Try.prog.cellsOf 83 = 3 := by kernel_rfl
  obtain ⟨cs, rfl, hsz⟩ := okWide_struct Try.underlying83 hv
  rw [c83] at hsz
  obtain ⟨cs⟩ := cs
  have hcl : cs.length = 3 := hsz
  match cs, hcl with
  | [v0, v1, v2], _ =>
  have hf' : DataW.trod enc Try.prog W 0 (fun _ => true) held m 83 [v0, v1, v2] = some x := hf
  obtain ⟨xs, m1, -, rfl, -, hxl, hf⟩ := DataW.trod_struct Try.underlying83 hf'
  match xs, hxl with
  | [y0, y1, y2], _ =>
  have g0 : DataW.trod enc Try.prog W 0 (fun _ => true) held m1 3 (([v0, v1, v2].drop 0).take (Try.prog.cellsOf 3)) = some y0 := hf 0 _ rfl
  have g1 : DataW.trod enc Try.prog W 0 (fun _ => true) held m1 3 (([v0, v1, v2].drop 1).take (Try.prog.cellsOf 3)) = some y1 := hf 1 _ rfl
  have g2 : DataW.trod enc Try.prog W 0 (fun _ => true) held m1 9 (([v0, v1, v2].drop 2).take (Try.prog.cellsOf 9)) = some y2 := hf 2 _ rfl
  rw [c3] at g0 g1
  rw [c9] at g2
  obtain ⟨a, h0, -, -⟩ := DataW.trod_int Try.underlying3 g0
  obtain ⟨c, h1, -, -⟩ := DataW.trod_int Try.underlying3 g1
  obtain ⟨p, h2, e2, _⟩ := DataW.trod_string Try.underlying9 g2
  have k0 : v0 = .int .i64 a := by simpa using h0
  have k1 : v1 = .int .i64 c := by simpa using h1
  have k2 : v2 = .string p := by simpa using h2
  subst k0 k1 k2
  refine ⟨a, c, p, rfl, ?_⟩
  have : y2.1 = .lit (.string p.data.toList) ∨ True := .inr trivial
  simp only [List.map_cons, List.map_nil]
  rw [e2]
  simp only [Rows.uptoBulk, Rows.uptoBulkAll, ba_size]
  omega
end
end Go.Proofs.Ytkfhedppnlocpaa.Q
set_option linter.unusedVariables false
set_option linter.unusedSimpArgs false
namespace Go.Proofs.Ytkfhedppnlocpaa.Q
open Go.RowKit Go.Plan Go.Proofs.YtkfhedppnlocpaaW.PrintWords Go.Proofs.YtkfhedppnlocpaaW.PrintLast Go.Proofs.YtkfhedppnlocpaaW.PrintMore

abbrev OEd (a c : Int) (p : ByteArray) : Obj := .cells #[.int .i64 a, .int .i64 c, .string p] 83
theorem drewN_add (w : World) (a b : Nat) : (w.drewN a).drewN b = w.drewN (a + b) := by simp [World.drewN, Nat.add_assoc]
/-- Decode, its groups as they are read. -/
theorem dec_only (wd : Int) (x d : ByteArray) (M : List S80) (er : Int) (hx : x.size ≤ 16777216) (hd : d.size ≤ 140737488351232) (h : refF wd x d = (M, er)) (W : World) :
    Calls Try.prog 30 #[.int .i64 wd, .agg #[.string x, .string d]] W fun e w' => ∃ A q, e = .returned (.tuple #[.slice A M.length q, .int .i64 er]) ∧ (M.length ≤ q ∧ Kd.C k80 w' A M.length M) ∧ Below W.heap.size W w' := by
  have := record_Decode.calls wd x d W hx hd
  rw [dec_ref, h] at this
  refine this.mono ?_
  rintro e w' ⟨A, q, E, rfl, he, hg, hb⟩
  dsimp only at he
  have hr := hg.reads
  have hl : E.length = M.length := by rw [← he, List.length_map]
  rw [he] at hr
  exact ⟨A, q, by rw [hl], hr, hb⟩
set_option maxHeartbeats 16000000 in
set_option maxRecDepth 100000 in
theorem recordOnly_law (wd : Int) (A1 : Option Addr) (c1 : Nat) (P : List S97) (ia ic : Int) (ip : ByteArray) (da dc : Int) (dp : ByteArray) (w : World) (hP : Kd.C k97 w A1 P.length P) (hPc : P.length ≤ c1) (hPl : P.length ≤ 4194304) (hip : ip.size ≤ 4194304) (hdp : dp.size ≤ 4194304) :
    Calls Try.prog 12 #[.int .i64 wd, .slice A1 P.length c1, .agg #[.int .i64 ia, .int .i64 ic, .string ip], .agg #[.int .i64 da, .int .i64 dc, .string dp]] w fun e w' => e = .returned (.bool true) ∧ Below w.heap.size w w' := by
  obtain ⟨wn, hbt, hw1, hw2⟩ := between_tells wd
  have HBT := Aside0.mk hbt
  have HW := Aside0.mk (And.intro hw1 hw2)
  obtain ⟨L, hG, hmade⟩ := made_any wn hw2 A1 c1 P hPc hPl
  have HG := Aside0.mk hG
  have HM := Aside0.mk (fun W (hW : Below w.heap.size w W) => hmade W (Kd.C_below hP hW))
  have HPS := Aside0.mk (And.intro hip hdp)
  clear hbt hw1 hw2 hP hPc hPl hmade hG hip hdp
  have HBA := below_step (below2a w (OEd ia ic ip)) (below2a (w.alloc (OEd ia ic ip)) (OEd da dc dp))
  have HE1 := blk_below (blk_new w (OEd ia ic ip)) (below2a (w.alloc (OEd ia ic ip)) (OEd da dc dp))
  have HE2 := blk_new (w.alloc (OEd ia ic ip)) (OEd da dc dp)
  have HB0 := Aside0.mk HBA
  have HF1 := Aside0.mk HE1
  have HF2 := Aside0.mk (show ((w.alloc (OEd ia ic ip)).alloc (OEd da dc dp)).heap[w.heap.size + 1]? = some (OEd da dc dp) from by simpa using HE2)
  clear HBA HE1 HE2
  go_enter Try.func12, Try.ntmps12
  go_upto_region 1 with fail
  generalize (w.alloc (OEd ia ic ip)).alloc (OEd da dc dp) = w0 at *
  go_upto_region 2 with (go_at_call 40; (with_reducible refine (granarylaw3_between.calls wd (wn : Int) w0 HBT.out).mono ?_); rintro e w1 ⟨rfl, ⟨n1, rfl⟩⟩)
  have HB1 := Aside0.mk (below_step HB0.out (below_drewN w0 n1))
  go_upto_region 3 with (go_at_call 41; (with_reducible refine (HM.out (w0.drewN n1) HB1.out).mono ?_); rintro e w2 ⟨A, c, rfl, hc, hK, hb⟩)
  have HB2 := Aside0.mk (below_step (below_drewN w0 n1) hb)
  have HL := Aside0.mk (And.intro hc hK)
  clear hc hK hb HM HB1 HBT
  go_upto_region 4 with (first
    | (go_at_call 42; (with_reducible refine (copied_any HG.out A c w2 HL.out.2 HL.out.1).mono ?_); rintro e w3 ⟨A3, c3, rfl, hc3, hK3, hb3⟩)
    | (go_at_call 34; (with_reducible refine (encode_any HW.out.1 HW.out.2 HG.out A3 c3 w3 hK3 hc3).mono ?_); rintro e w4 ⟨rfl, hb4⟩))
  have hb5 := below_step (below_step hb3 hb4) (below2a w4 (.cells #[.string (idxB L), .string (dataB L)] 53))
  have HB5 := Aside0.mk (below_step HB0.out (below_step HB2.out hb5))
  have HG1 := Aside0.mk (blk_below HF1.out (below_step HB2.out hb5))
  have HG2 := Aside0.mk (blk_below HF2.out (below_step HB2.out hb5))
  have HL5 := Aside0.mk (And.intro HL.out.1 (Kd.C_below HL.out.2 hb5))
  have HX5 := Aside0.mk (blk_new w4 (.cells #[.string (idxB L), .string (dataB L)] 53))
  clear hb5 hb3 hb4 hc3 hK3 HL HB2 HF1 HF2 HB0
  generalize w4.alloc (.cells #[.string (idxB L), .string (dataB L)] 53) = w5 at *
  generalize w4.heap.size = g5 at *
  go_upto_region 6 with (go_at_call 17; (with_reducible refine (granarylaw3_num.calls 0 0 w5 rfl).mono ?_); rintro e w6 ⟨rfl, ⟨n6, rfl⟩⟩)
  have HB6 := Aside0.mk (below_drewN w5 n6)
  have hx := blk_below HX5.out HB6.out
  have hx1 := blk_below HG1.out HB6.out
  have hx2 := blk_below HG2.out HB6.out
  have x0 := blk_cell hx 0
  have x1 := blk_cell hx 1
  have e10 := blk_cell hx1 0
  have e11 := blk_cell hx1 1
  have e12 := blk_cell hx1 2
  have e20 := blk_cell hx2 0
  have e21 := blk_cell hx2 1
  have e22 := blk_cell hx2 2
  have hB0 := HB6.out
  have hsi : (idxB L).size ≤ 16777216 := idxB_small HW.out.2 HG.out
  have hsd : (dataB L).size ≤ 16777216 := by have := dataB_small HG.out; omega
  have HED1 := Aside0.mk (fun W => edited_any (idxB L) ia ic ip W hsi (by have := HPS.out.1; omega))
  have HED2 := Aside0.mk (fun W => edited_any (dataB L) da dc dp W hsd (by have := HPS.out.2; omega))
  clear hx hx1 hx2 hsi hsd
  generalize w5.drewN n6 = w6 at *
  generalize hgs : w.heap.size = gs at *
  have TR := Aside0.mk (show ∀ W, Below w5.heap.size w5 W → ∀ p v, w5.cell? p = some v → W.cell? p = some v from fun W hW p v hp => (hW.cell (World.block_lt_of_cell? _ _ hp)).trans hp)
  have HS := Aside0.mk (show ∀ W, Below w5.heap.size w5 W → W.cell? ⟨g5, 0, none⟩ = some (.string (idxB L)) ∧ W.cell? ⟨g5, 1, none⟩ = some (.string (dataB L)) ∧ W.cell? ⟨gs, 0, none⟩ = some (.int .i64 ia) ∧ W.cell? ⟨gs, 1, none⟩ = some (.int .i64 ic) ∧ W.cell? ⟨gs, 2, none⟩ = some (.string ip) ∧ W.cell? ⟨gs + 1, 0, none⟩ = some (.int .i64 da) ∧ W.cell? ⟨gs + 1, 1, none⟩ = some (.int .i64 dc) ∧ W.cell? ⟨gs + 1, 2, none⟩ = some (.string dp) ∧ Below w5.heap.size w5 W from fun W hW => by
    have h0 := blk_below HX5.out hW
    have h1 := blk_below HG1.out hW
    have h2 := blk_below HG2.out hW
    exact ⟨blk_cell h0 0, blk_cell h0 1, blk_cell h1 0, blk_cell h1 1, blk_cell h1 2, blk_cell h2 0, blk_cell h2 1, blk_cell h2 2, hW⟩)
  go_cut [13] (fun v13 wx => ∃ (r1 r2 : ByteArray) (g : Nat), v13 = .pointer (some ⟨g, 0, none⟩) ∧ Aside0 (r1.size ≤ (idxB L).size + ip.size) ∧ Aside0 (r2.size ≤ (dataB L).size + dp.size) ∧ Aside0 (Below w5.heap.size w5 wx) ∧ Aside0 (wx.heap[g]? = some (.cells #[.string r1, .string r2] 53 (0, 0))))
  case first =>
    have hc0 := below_step hB0 (below_drew w6)
    clear x0 x1 e10 e11 e12 e20 e21 e22
    refine wp_region_fork (quiets [0, 1, 2, 4, 5, 6] ++ []) 5 #[true, true, true, false, true, true, true, false, false, false, false] (fun W => Below w5.heap.size w5 W) (by kernel_rfl) (by kernel_rfl) hc0 ?_
    apply mix_quiets [0, 1, 2, 4, 5, 6] _ (by kernel_rfl) hc0
    case h =>
      intro W hW
      obtain ⟨f0, f1, f2, f3, f4, f5, f6, f7, _⟩ := HS.out W hW
      clear hW
      refine still_of_quiet _ _ ?_
      simp only [segOps, List.getElem?_toArray, List.getElem?_cons_zero, List.getElem?_cons_succ, Option.toList_some, List.nil_append, List.cons_append, List.append_nil]
      repeat (go_big_quiet_step (fail))
      exact wpQuiet_nil rfl
    refine mix_done ?_
    change AnyC _ _ _ _ _ _ _ _ w6.drew
    have HC0 := Aside0.mk hc0
    clear hc0 hB0
    generalize w6.drew = w7 at *
    refine fork_two 3 9 ⟨some 38, _, _, _, _, _⟩ ⟨some 13, _, _, _, _, _⟩ rfl rfl (by kernel_rfl) HC0.out ?_ ?_
    · go_wp2_with (go_at_call 43; (with_reducible refine (HED1.out w7).mono ?_); rintro e w8 ⟨r1, rfl, hr1, hb⟩; have HR1 := Aside0.mk hr1; have HC1 := Aside0.mk (below_step HC0.out hb); clear hr1 hb)
      refine ⟨HC1.out, ?_⟩
      refine fork_two 7 9 ⟨some 42, _, _, _, _, _⟩ ⟨some 13, _, _, _, _, _⟩ rfl rfl (by kernel_rfl) HC1.out ?_ ?_
      · go_wp2_with (go_at_call 43; (with_reducible refine (HED2.out w8).mono ?_); rintro e w9 ⟨r2, rfl, hr2, hb⟩; have HR2 := Aside0.mk hr2; have HCq := Aside0.mk (below_step HC1.out hb); clear hr2 hb)
        refine ⟨HCq.out, ?_⟩
        refine fork_plan (quiets [8] ++ ((true, 9) :: ((true, 10) :: []))) (by kernel_rfl) HCq.out ?_
        apply mix_quiets [8] _ (by kernel_rfl) HCq.out
        case h =>
          intro W hW
          clear hW
          refine still_of_quiet _ _ ?_
          simp only [segOps, List.getElem?_toArray, List.getElem?_cons_zero, List.getElem?_cons_succ, Option.toList_some, List.nil_append, List.cons_append, List.append_nil]
          repeat (go_big_quiet_step (fail))
          exact wpQuiet_nil rfl
        refine mix_writes 9 ⟨some 13, _, _, _, _, _⟩ rfl _ ?_
        go_wp2_with fail
        have HC4 := Aside0.mk (below_step HCq.out (below2a w9 (.cells #[.string ⟨#[]⟩, .string ⟨#[]⟩] 53)))
        have HZ := Aside0.mk (blk_new w9 (.cells #[.string ⟨#[]⟩, .string ⟨#[]⟩] 53))
        have HZG := Aside0.mk HCq.out.size
        refine ⟨HC4.out, ?_⟩
        generalize w9.alloc (.cells #[.string ⟨#[]⟩, .string ⟨#[]⟩] 53) = w10 at *
        generalize w9.heap.size = gz at *
        refine mix_writes 10 ⟨none, _, _, _, _, _⟩ rfl _ ?_
        have z0 := blk_cell HZ.out 0
        have z1 := blk_cell HZ.out 1
        have f0 := blk_frozen HZ.out 0
        have f1 := blk_frozen HZ.out 1
        go_wp2_with fail
        have HC9 := Aside0.mk (below_two HC4.out HZG.out (.string r1) (.string r2))
        have HZ9 := Aside0.mk (two_set HZ.out (.string r1) (.string r2))
        refine ⟨HC9.out, ?_⟩
        refine mix_done ?_
        go_wp2_with fail
        go_meet
        exact ⟨r1, r2, gz, rfl, HR1, HR2, HC9, HZ9⟩
      · go_wp2_with fail
        have HC2 := Aside0.mk (below_step HC1.out (below2a w8 (.cells #[.string ⟨#[]⟩, .string ⟨#[]⟩] 53)))
        have HZ := Aside0.mk (blk_new w8 (.cells #[.string ⟨#[]⟩, .string ⟨#[]⟩] 53))
        have HZG := Aside0.mk HC1.out.size
        refine ⟨HC2.out, ?_⟩
        generalize w8.alloc (.cells #[.string ⟨#[]⟩, .string ⟨#[]⟩] 53) = w9 at *
        generalize w8.heap.size = gz at *
        refine fork_plan ((true, 7) :: (quiets [8] ++ ((true, 10) :: []))) (by kernel_rfl) HC2.out ?_
        refine mix_writes 7 ⟨some 42, _, _, _, _, _⟩ rfl _ ?_
        go_wp2_with (go_at_call 43; (with_reducible refine (HED2.out w9).mono ?_); rintro e w10 ⟨r2, rfl, hr2, hb⟩; have HR2 := Aside0.mk hr2; have HCq := Aside0.mk (below_step HC2.out hb); have HZ := Aside0.mk (blk_below HZ.out hb); clear hr2 hb)
        refine ⟨HCq.out, ?_⟩
        apply mix_quiets [8] _ (by kernel_rfl) HCq.out
        case h =>
          intro W hW
          clear hW
          refine still_of_quiet _ _ ?_
          simp only [segOps, List.getElem?_toArray, List.getElem?_cons_zero, List.getElem?_cons_succ, Option.toList_some, List.nil_append, List.cons_append, List.append_nil]
          repeat (go_big_quiet_step (fail))
          exact wpQuiet_nil rfl
        refine mix_writes 10 ⟨none, _, _, _, _, _⟩ rfl _ ?_
        have z0 := blk_cell HZ.out 0
        have z1 := blk_cell HZ.out 1
        have f0 := blk_frozen HZ.out 0
        have f1 := blk_frozen HZ.out 1
        go_wp2_with fail
        have HC9 := Aside0.mk (below_two HCq.out HZG.out (.string r1) (.string r2))
        have HZ9 := Aside0.mk (two_set HZ.out (.string r1) (.string r2))
        refine ⟨HC9.out, ?_⟩
        refine mix_done ?_
        go_wp2_with fail
        go_meet
        exact ⟨r1, r2, gz, rfl, HR1, HR2, HC9, HZ9⟩
    · go_wp2_with fail
      have HC1 := Aside0.mk (below_step HC0.out (below2a w7 (.cells #[.string ⟨#[]⟩, .string ⟨#[]⟩] 53)))
      have HZ := Aside0.mk (blk_new w7 (.cells #[.string ⟨#[]⟩, .string ⟨#[]⟩] 53))
      have HZG := Aside0.mk HC0.out.size
      refine ⟨HC1.out, ?_⟩
      generalize w7.alloc (.cells #[.string ⟨#[]⟩, .string ⟨#[]⟩] 53) = w8 at *
      generalize w7.heap.size = gz at *
      refine fork_plan ((true, 3) :: ((true, 7) :: (quiets [8] ++ ((true, 10) :: [])))) (by kernel_rfl) HC1.out ?_
      refine mix_writes 3 ⟨some 38, _, _, _, _, _⟩ rfl _ ?_
      go_wp2_with (go_at_call 43; (with_reducible refine (HED1.out w8).mono ?_); rintro e w9 ⟨r1, rfl, hr1, hb⟩; have HR1 := Aside0.mk hr1; have HC2 := Aside0.mk (below_step HC1.out hb); have HZ := Aside0.mk (blk_below HZ.out hb); clear hr1 hb)
      refine ⟨HC2.out, ?_⟩
      refine mix_writes 7 ⟨some 42, _, _, _, _, _⟩ rfl _ ?_
      go_wp2_with (go_at_call 43; (with_reducible refine (HED2.out w9).mono ?_); rintro e w10 ⟨r2, rfl, hr2, hb⟩; have HR2 := Aside0.mk hr2; have HCq := Aside0.mk (below_step HC2.out hb); have HZ := Aside0.mk (blk_below HZ.out hb); clear hr2 hb)
      refine ⟨HCq.out, ?_⟩
      apply mix_quiets [8] _ (by kernel_rfl) HCq.out
      case h =>
        intro W hW
        clear hW
        refine still_of_quiet _ _ ?_
        simp only [segOps, List.getElem?_toArray, List.getElem?_cons_zero, List.getElem?_cons_succ, Option.toList_some, List.nil_append, List.cons_append, List.append_nil]
        repeat (go_big_quiet_step (fail))
        exact wpQuiet_nil rfl
      refine mix_writes 10 ⟨none, _, _, _, _, _⟩ rfl _ ?_
      have z0 := blk_cell HZ.out 0
      have z1 := blk_cell HZ.out 1
      have f0 := blk_frozen HZ.out 0
      have f1 := blk_frozen HZ.out 1
      go_wp2_with fail
      have HC9 := Aside0.mk (below_two HCq.out HZG.out (.string r1) (.string r2))
      have HZ9 := Aside0.mk (two_set HZ.out (.string r1) (.string r2))
      refine ⟨HC9.out, ?_⟩
      refine mix_done ?_
      go_wp2_with fail
      go_meet
      exact ⟨r1, r2, gz, rfl, HR1, HR2, HC9, HZ9⟩
  case rest =>
  obtain ⟨r1, r2, g7, rfl, HR1, HR2, HB7, HX7⟩ := hcut
  have hib : (idxB L).size ≤ 655360 := by
    rw [idxB_size HG.out]
    have h1 := HG.out.len
    have h3 : L.length * (wn + 4) ≤ 32768 * 20 := Nat.mul_le_mul h1 (by have := HW.out.2; omega)
    omega
  have hdb := dataB_small HG.out
  have HSZ := Aside0.mk (show r1.size ≤ 16777216 ∧ r2.size ≤ 16777216 from ⟨by have := HR1.out; have := HPS.out.1; omega, by have := HR2.out; have := HPS.out.2; omega⟩)
  obtain ⟨⟨M, er⟩, hre⟩ : ∃ p, refF (wn : Int) r1 r2 = p := ⟨_, rfl⟩
  have HRE := Aside0.mk hre
  have HDEC := Aside0.mk (dec_only (wn : Int) r1 r2 M er HSZ.out.1 (by have := HSZ.out.2; omega) hre)
  have HCC := Aside0.mk (show (r1 = idxB L ∧ r2 = dataB L) → M = L ∧ er = 0 from fun ⟨h1, h2⟩ => by
    have h3 := dec_good HW.out.1 HW.out.2 HG.out
    rw [← h1, ← h2, hre] at h3
    exact ⟨congrArg Prod.fst h3, congrArg Prod.snd h3⟩)
  clear hib hdb hre HR1 HR2 HED1 HED2
  have y0 := blk_cell HX7.out 0
  have y1 := blk_cell HX7.out 1
  clear x0 x1 e10 e11 e12 e20 e21 e22 hB0 HB6
  go_upto_region 8 with (go_at_call 30; (with_reducible refine (HDEC.out wc).mono ?_); rintro e w8 ⟨A6, q6, rfl, hr6, hb6⟩)
  have HB8 := Aside0.mk (below_step HB7.out hb6)
  have HX8 := Aside0.mk (blk_below HX7.out hb6)
  have HK8 := Aside0.mk hr6
  clear y0 y1 hb6 hr6 HX7 HB7
  go_cut [61] (fun v61 wx => v61 = .bool (decide (r1 = idxB L ∧ r2 = dataB L)) ∧ w8 = wx)
  case first =>
    have y0 := blk_cell HX8.out 0
    have y1 := blk_cell HX8.out 1
    have x0 := (HS.out w8 HB8.out).1
    have x1 := (HS.out w8 HB8.out).2.1
    by_cases h1 : r1 = idxB L
    · have d1 : (r1.toList == (idxB L).toList) = true := by rw [h1]; simp
      by_cases h2 : r2 = dataB L
      · have d2 : (r2.toList == (dataB L).toList) = true := by rw [h2]; simp
        have hh := Aside0.mk (show decide (r1 = idxB L ∧ r2 = dataB L) = true from decide_eq_true ⟨h1, h2⟩)
        clear h1 h2
        go_wp2_with fail
        go_meet
        exact ⟨by rw [hh.out], rfl⟩
      · have d2 : (r2.toList == (dataB L).toList) = false := by simpa using fun h => h2 (ba_of_list h)
        have hh := Aside0.mk (show decide (r1 = idxB L ∧ r2 = dataB L) = false from decide_eq_false fun h => h2 h.2)
        clear h1 h2
        go_wp2_with fail
        go_meet
        exact ⟨by rw [hh.out], rfl⟩
    · have d1 : (r1.toList == (idxB L).toList) = false := by simpa using fun h => h1 (ba_of_list h)
      have hh := Aside0.mk (show decide (r1 = idxB L ∧ r2 = dataB L) = false from decide_eq_false fun h => h1 h.1)
      clear h1
      go_wp2_with fail
      go_meet
      exact ⟨by rw [hh.out], rfl⟩
  case rest =>
  obtain ⟨rfl, rfl⟩ := hcut
  by_cases hcc : r1 = idxB L ∧ r2 = dataB L
  · obtain ⟨rfl, rfl⟩ := HCC.out hcc
    rw [decide_eq_true hcc]
    clear hcc
    have HSG := Aside0.mk (fun n => same_any HG.out A6 q6 A c (w8.drewN n) (Kd.C_below HK8.out.2 (below_drewN w8 n)) HK8.out.1 (Kd.C_below HL5.out.2 (below_step HB8.out (below_drewN w8 n))) HL5.out.1)
    go_wp2_with (first
      | (go_at_call 17; (with_reducible refine (granarylaw3_num.calls 0 0 w8 rfl).mono ?_); rintro e w9 ⟨rfl, ⟨n9, rfl⟩⟩)
      | (go_at_call 32; (with_reducible refine (HSG.out n9).mono ?_); rintro e w10 ⟨rfl, ⟨n10, rfl⟩⟩))
    go_ret
    exact ⟨rfl, by have h := HB5.out; rw [← hgs] at h; exact below_step h (below_step HB8.out (below_drewN w8 (n9 + n10)))⟩
  rw [decide_eq_false hcc]
  by_cases her : er = 0
  · subst her
    obtain ⟨hgm, e1, e2⟩ := good_of_ref wn r1 r2 (by have := HSZ.out.2; omega) M HRE.out
    subst e1 e2
    have HGM := Aside0.mk hgm
    have hne : M ≠ L := fun h => hcc (by rw [h]; exact ⟨rfl, rfl⟩)
    have HNE := Aside0.mk hne
    clear hgm hcc hne HRE HCC HDEC HSZ
    go_upto_region 10 with fail
    go_upto_region 12 with (go_at_call 17; (with_reducible refine (granarylaw3_num.calls 0 0 w8 rfl).mono ?_); rintro e w9 ⟨rfl, ⟨n9, rfl⟩⟩)
    have HB9 := Aside0.mk (below_step HB8.out (below_drewN w8 n9))
    have HK9 := Aside0.mk (And.intro HK8.out.1 (Kd.C_below HK8.out.2 (below_drewN w8 n9)))
    have HX9 := Aside0.mk (blk_below HX8.out (below_drewN w8 n9))
    clear HK8 HX8 HB8
    generalize w8.drewN n9 = w9 at *
    go_upto_region 13 with (first
      | (go_at_call 42; (with_reducible refine (copied_any HGM.out A6 q6 w9 HK9.out.2 HK9.out.1).mono ?_); rintro e w10 ⟨A10, c10, rfl, hc10, hK10, hb10⟩)
      | (go_at_call 34; (with_reducible refine (encode_any HW.out.1 HW.out.2 HGM.out A10 c10 w10 hK10 hc10).mono ?_); rintro e w11 ⟨rfl, hb11⟩))
    have hb12 := below_step (below_step hb10 hb11) (below2a w11 (.cells #[.string (idxB M), .string (dataB M)] 53))
    have HB12 := Aside0.mk (below_step HB9.out hb12)
    have HK12 := Aside0.mk (And.intro HK9.out.1 (Kd.C_below HK9.out.2 hb12))
    have HX12 := Aside0.mk (blk_below HX9.out hb12)
    have HY12 := Aside0.mk (blk_new w11 (.cells #[.string (idxB M), .string (dataB M)] 53))
    clear hb12 hb10 hb11 hc10 hK10 HK9 HX9 HB9
    generalize w11.alloc (.cells #[.string (idxB M), .string (dataB M)] 53) = w12 at *
    generalize w11.heap.size = g12 at *
    have HDF := Aside0.mk (fun n => differ_any HGM.out HG.out HNE.out A6 q6 A c (w12.drewN n) (Kd.C_below HK12.out.2 (below_drewN w12 n)) HK12.out.1 (Kd.C_below HL5.out.2 (below_step HB12.out (below_drewN w12 n))) HL5.out.1)
    have k1 : ((idxB M).toList != (idxB M).toList) = false := by simp
    have k2 : ((dataB M).toList != (dataB M).toList) = false := by simp
    go_upto_region 15 with (first
      | (go_at_call 17; (with_reducible refine (granarylaw3_num.calls 0 0 w12 rfl).mono ?_); rintro e w13 ⟨rfl, ⟨n13, rfl⟩⟩; have v0 := blk_cell (blk_below HX12.out (below_drewN w12 n13)) 0; have v1 := blk_cell (blk_below HX12.out (below_drewN w12 n13)) 1; have u0 := blk_cell (blk_below HY12.out (below_drewN w12 n13)) 0; have u1 := blk_cell (blk_below HY12.out (below_drewN w12 n13)) 1)
      | (go_at_call 32; (with_reducible refine (HDF.out n13).mono ?_); rintro e w14 ⟨rfl, ⟨n14, rfl⟩⟩))
    have HB14 := Aside0.mk (below_step HB12.out (below_drewN w12 (n13 + n14)))
    have HX14 := Aside0.mk (blk_below HX12.out (below_drewN w12 (n13 + n14)))
    clear v0 v1 u0 u1 HDF HX12 HB12 HY12 HK12 k1 k2
    generalize w12.drewN (n13 + n14) = w14 at *
    have HEND := Aside0.mk (only_end HG.out HGM.out)
    clear HNE
    have v0 := blk_cell HX14.out 0
    have v1 := blk_cell HX14.out 1
    have x0 := (HS.out w14 HB14.out).1
    have x1 := (HS.out w14 HB14.out).2.1
    have hsh1 := fun W => shorter_any (dataB M) (dataB L) W
    have hsh2 := fun W => shorter_any (dataB L) (dataB M) W
    have hsh3 := fun W => shorter_any (idxB M) (idxB L) W
    have hsh4 := fun W => shorter_any (idxB L) (idxB M) W
    have HSH := Aside0.mk (And.intro hsh1 (And.intro hsh2 (And.intro hsh3 hsh4)))
    clear hsh1 hsh2 hsh3 hsh4
    have HE1 := HEND.out.1
    have HE2 := HEND.out.2
    generalize shortF (dataB M) (dataB L) = s1 at *
    generalize shortF (dataB L) (dataB M) = s2 at *
    generalize shortF (idxB M) (idxB L) = s3 at *
    generalize shortF (idxB L) (idxB M) = s4 at *
    have HEE := Aside0.mk (And.intro HE1 HE2)
    clear HE1 HE2 HEND
    go_cut [18] (fun v18 wx => v18 = .bool (s1 || s2) ∧ ∃ n, wx = w14.drewN n)
    case first =>
      have vv := HX14
      cases s1 with
      | true =>
        go_wp2_with (go_at_call 44; (with_reducible refine (HSH.out.1 w14).mono ?_); rintro e w15 ⟨rfl, ⟨n15, rfl⟩⟩)
        go_meet
        exact ⟨rfl, _, rfl⟩
      | false =>
        go_wp2_with (first
          | (go_at_call 44; (with_reducible refine (HSH.out.1 w14).mono ?_); rintro e w15 ⟨rfl, ⟨n15, rfl⟩⟩; have v3 := blk_cell (blk_below HX14.out (below_drewN w14 n15)) 1; have x3 := (HS.out (w14.drewN n15) (below_step HB14.out (below_drewN w14 n15))).2.1)
          | (go_at_call 44; (with_reducible refine (HSH.out.2.1 (w14.drewN n15)).mono ?_); rintro e w16 ⟨rfl, ⟨n16, rfl⟩⟩))
        go_meet
        exact ⟨by simp, _, rfl⟩
    case rest =>
    obtain ⟨rfl, n15, rfl⟩ := hcut
    have HB15 := Aside0.mk (below_step HB14.out (below_drewN w14 n15))
    have HX15 := Aside0.mk (blk_below HX14.out (below_drewN w14 n15))
    clear v0 v1 x0 x1 HB14 HX14
    generalize w14.drewN n15 = w15 at *
    have v0 := blk_cell HX15.out 0
    have v1 := blk_cell HX15.out 1
    have x0 := (HS.out w15 HB15.out).1
    have x1 := (HS.out w15 HB15.out).2.1
    go_upto_region 16 with fail
    go_cut [19] (fun v19 wx => v19 = .bool (s3 || s4) ∧ ∃ n, wx = w15.drewN n)
    case first =>
      cases s3 with
      | true =>
        go_wp2_with (go_at_call 44; (with_reducible refine (HSH.out.2.2.1 w15).mono ?_); rintro e w16 ⟨rfl, ⟨n16, rfl⟩⟩)
        go_meet
        exact ⟨rfl, _, rfl⟩
      | false =>
        go_wp2_with (first
          | (go_at_call 44; (with_reducible refine (HSH.out.2.2.1 w15).mono ?_); rintro e w16 ⟨rfl, ⟨n16, rfl⟩⟩; have v3 := blk_cell (blk_below HX15.out (below_drewN w15 n16)) 0; have x3 := (HS.out (w15.drewN n16) (below_step HB15.out (below_drewN w15 n16))).1)
          | (go_at_call 44; (with_reducible refine (HSH.out.2.2.2 (w15.drewN n16)).mono ?_); rintro e w17 ⟨rfl, ⟨n17, rfl⟩⟩))
        go_meet
        exact ⟨by simp, _, rfl⟩
    case rest =>
    obtain ⟨rfl, n16, rfl⟩ := hcut
    have HB16 := Aside0.mk (below_step HB15.out (below_drewN w15 n16))
    have HX16 := Aside0.mk (blk_below HX15.out (below_drewN w15 n16))
    clear v0 v1 x0 x1 HB15 HX15
    generalize w15.drewN n16 = w16 at *
    have v0 := blk_cell HX16.out 0
    have v1 := blk_cell HX16.out 1
    have x0 := (HS.out w16 HB16.out).1
    have x1 := (HS.out w16 HB16.out).2.1
    have q1 : ((idxB M).toList == (idxB L).toList) = true → (s1 || s2) = false := fun h => by
      have h1 := HEE.out.1 (ba_of_list (by simpa using h))
      rw [h1.1, h1.2]; rfl
    have q2 : ((dataB M).toList == (dataB L).toList) = true → (s3 || s4) = false := fun h => by
      have h1 := HEE.out.2 (ba_of_list (by simpa using h))
      rw [h1.1, h1.2]; rfl
    have HQ := Aside0.mk (And.intro q1 q2)
    clear q1 q2 HEE
    generalize hb1 : (s1 || s2) = b1 at *
    generalize hb2 : (s3 || s4) = b2 at *
    clear hb1 hb2
    generalize hc1 : ((idxB M).toList == (idxB L).toList) = c1 at *
    generalize hc2 : ((dataB M).toList == (dataB L).toList) = c2 at *
    have HBB := Aside0.mk (show Below w.heap.size w w16 from by have h := HB5.out; rw [← hgs] at h; exact below_step h HB16.out)
    cases c1 with
    | true =>
      have e1 := HQ.out.1 rfl
      subst e1
      cases c2 with
      | true =>
        have e2 := HQ.out.2 rfl
        subst e2
        go_wp2_with fail
        go_ret
        exact ⟨rfl, by first | exact HBB.out | (rw [← hgs]; exact HBB.out)⟩
      | false =>
        go_wp2_with fail
        go_ret
        exact ⟨rfl, by first | exact HBB.out | (rw [← hgs]; exact HBB.out)⟩
    | false =>
      cases c2 with
      | true =>
        have e2 := HQ.out.2 rfl
        subst e2
        go_wp2_with fail
        go_ret
        exact ⟨rfl, by first | exact HBB.out | (rw [← hgs]; exact HBB.out)⟩
      | false =>
        go_wp2_with fail
        go_ret
        exact ⟨rfl, by first | exact HBB.out | (rw [← hgs]; exact HBB.out)⟩
  · have hM : M = [] := by
      have := refF_err (wn : Int) r1 r2 (by rw [HRE.out]; exact her)
      rw [HRE.out] at this
      exact this
    subst hM
    have d1 : (er != 0) = true := by simpa using her
    clear hcc her
    go_wp2_with (go_at_call 17; (with_reducible refine (granarylaw3_num.calls er er w8 rfl).mono ?_); rintro e w9 ⟨rfl, ⟨n9, rfl⟩⟩)
    go_ret
    exact ⟨rfl, by have h := HB5.out; rw [← hgs] at h; exact below_step h (below_step HB8.out (below_drewN w8 n9))⟩

end Go.Proofs.Ytkfhedppnlocpaa.Q
