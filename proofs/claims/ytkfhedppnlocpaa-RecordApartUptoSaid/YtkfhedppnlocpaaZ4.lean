/- RecordApart: the law, up to its row. Condition: the puts are read, and are not too many. -/
import Derived.Test.YtkfhedppnlocpaaZ3
import Derived.Test.YtkfhedppnlocpaaZ2
import Derived.Test.YtkfhedppnlocpaaRF
import Derived.Deep.DeepCutAuto
set_option linter.unusedVariables false
set_option linter.unusedSimpArgs false
namespace Go.Proofs.Ytkfhedppnlocpaa.Q
open Go.RowKit Go.Plan Go.Proofs.YtkfhedppnlocpaaW.PrintWords Go.Proofs.YtkfhedppnlocpaaW.PrintLast Go.Proofs.YtkfhedppnlocpaaW.PrintMore

/-- Decode, its groups in rows of their own. -/
theorem dec_own {wn : Nat} (h1 : 1 ≤ wn) (h2 : wn ≤ 16) {L : List S80} (H : GoodG wn L) (W : World) :
    Calls Try.prog 30 #[.int .i64 (wn : Int), .agg #[.string (idxB L), .string (dataB L)]] W fun e w' => ∃ A q E, e = .returned (.tuple #[.slice A L.length q, .int .i64 0]) ∧ E.map GE.g = L ∧ GR W.heap.size w' A q E ∧ Below W.heap.size W w' := by
  refine (decode_any h1 h2 H W).mono ?_
  rintro e w' ⟨A, q, E, rfl, he, hg, hb⟩
  have he' : E.map GE.g = L := he
  have hl : E.length = L.length := by rw [← he', List.length_map]
  exact ⟨A, q, E, by rw [hl], he', hg, hb⟩
/-- What was decoded is as it was encoded. -/
theorem same_own {wn : Nat} {L : List S80} (H : GoodG wn L) {B : Nat} {A0 : Option Addr} {q0 : Nat} {E : List GE} {A1 : Option Addr} {c1 : Nat} {w : World} (hE : E.map GE.g = L) (hg : GR B w A0 q0 E) (h1 : Kd.C k80 w A1 L.length L) (l1 : L.length ≤ c1) :
    Calls Try.prog 32 #[.slice A0 L.length q0, .slice A1 L.length c1] w fun e w' => e = .returned (.bool true) ∧ Drawn0 w w' := by
  have hr := hg.reads
  rw [hE] at hr
  exact same_any H A0 q0 A1 c1 w hr.2 hr.1 h1 l1
/-- The mark of the i-th list. -/
def mrk (c : UInt8) (i : Nat) : ByteArray := (⟨#[c]⟩ : ByteArray) ++ strOfNums [(i : Int) % 256, (i : Int) / 256]
def mkM (i : Nat) : S94 := ⟨mrk 109 i, mrk 109 i⟩
def mkR (i : Nat) : S94 := ⟨mrk 114 i, mrk 114 i⟩
theorem conv2 (W : World) (h : Nat) (a b : Int) (hb : W.heap[h]? = some (.cells #[.int .u8 a, .int .u8 b] 5 (0, 0))) : (convert 90 9 (.slice (some ⟨h, 0, none⟩) 2 2)).run Try.prog W = .ok (.string (strOfNums [a, b])) W := by
  refine run_convert_bytes_arg W 90 5 Try.underlying90 Try.underlying5 h 0 2 2 [a, b] rfl (fun i hi => ?_) 9 Try.underlying9
  have : i = 0 ∨ i = 1 := by omega
  rcases this with rfl | rfl
  · exact blk_cell hb 0
  · exact blk_cell hb 1
set_option maxHeartbeats 16000000 in
set_option maxRecDepth 100000 in
theorem recordApart_law (wd : Int) (A1 : Option Addr) (c1 : Nat) (P : List S97) (w : World) (hP : Kd.C k97 w A1 P.length P) (hPc : P.length ≤ c1) (hPl : P.length ≤ 4194304) :
    Calls Try.prog 13 #[.int .i64 wd, .slice A1 P.length c1] w fun e w' => e = .returned (.bool true) ∧ Below w.heap.size w w' := by
  obtain ⟨wn, hbt, hw1, hw2⟩ := between_tells wd
  have HBT := Aside0.mk hbt
  have HW := Aside0.mk (And.intro hw1 hw2)
  obtain ⟨L, hG, hmade⟩ := made_any wn hw2 A1 c1 P hPc hPl
  have HG := Aside0.mk hG
  have HM := Aside0.mk (fun n => hmade (w.drewN n) (Kd.C_below hP (below_drewN w n)))
  clear hbt hw1 hw2 hP hPc hPl hmade hG
  go_enter Try.func13, Try.ntmps13
  go_upto_region 2 with (go_at_call 40; (with_reducible refine (granarylaw3_between.calls wd (wn : Int) _ HBT.out).mono ?_); rintro e w1 ⟨rfl, ⟨n, rfl⟩⟩)
  go_upto_region 3 with (go_at_call 41; (with_reducible refine (HM.out n).mono ?_); rintro e w2 ⟨A, c, rfl, hc, hK, hb⟩)
  have HB2 := Aside0.mk (below_step (below_drewN w n) hb)
  have HL := Aside0.mk (And.intro hc hK)
  clear hc hK hb HM HBT
  go_upto_region 4 with (first
    | (go_at_call 42; (with_reducible refine (copied_any HG.out A c w2 HL.out.2 HL.out.1).mono ?_); rintro e w3 ⟨A3, c3, rfl, hc3, hK3, hb3⟩)
    | (go_at_call 34; (with_reducible refine (encode_any HW.out.1 HW.out.2 HG.out A3 c3 w3 hK3 hc3).mono ?_); rintro e w4 ⟨rfl, hb4⟩))
  have hb5 := below_step (below_step hb3 hb4) (below2a w4 (.cells #[.string (idxB L), .string (dataB L)] 53))
  have HB5 := Aside0.mk (below_step HB2.out hb5)
  have HL5 := Aside0.mk (And.intro HL.out.1 (Kd.C_below HL.out.2 hb5))
  have HX5 := Aside0.mk (blk_new w4 (.cells #[.string (idxB L), .string (dataB L)] 53))
  clear hb5 hb3 hb4 hc3 hK3 HL HB2
  generalize w4.alloc (.cells #[.string (idxB L), .string (dataB L)] 53) = w5 at *
  generalize w4.heap.size = g5 at *
  have hx5 : ∀ n, (w5.drewN n).cell? ⟨g5, 0, none⟩ = some (.string (idxB L)) := fun n => blk_cell (blk_below HX5.out (below_drewN w5 n)) 0
  have hx5' : ∀ n, (w5.drewN n).cell? ⟨g5, 1, none⟩ = some (.string (dataB L)) := fun n => blk_cell (blk_below HX5.out (below_drewN w5 n)) 1
  go_upto_region 6 with (go_at_call 17; (with_reducible refine (num_any _ _).mono ?_); rintro e w6 ⟨rfl, ⟨n6, rfl⟩⟩)
  go_upto_region 7 with (go_at_call 30; (with_reducible refine (dec_own HW.out.1 HW.out.2 HG.out _).mono ?_); rintro e w7 ⟨A9, q9, E9, rfl, he9, hg9, hb7⟩)
  have HB7 := Aside0.mk (below_step HB5.out (below_step (below_drewN w5 n6) hb7))
  have HL7 := Aside0.mk (And.intro HL5.out.1 (Kd.C_below HL5.out.2 (below_step (below_drewN w5 n6) hb7)))
  have HX7 := Aside0.mk (blk_below HX5.out (below_step (below_drewN w5 n6) hb7))
  have HE9 := Aside0.mk he9
  have HG9 := Aside0.mk (show GR w5.heap.size w7 A9 q9 E9 from hg9)
  have H57 := Aside0.mk (below_step (below_drewN w5 n6) hb7)
  clear hx5 hx5' he9 hg9 hb7
  have hS7 : ∀ n, Calls Try.prog 32 #[.slice A9 L.length q9, .slice A L.length c] (w7.drewN n) fun e w' => e = .returned (.bool true) ∧ Drawn0 (w7.drewN n) w' := fun n => same_own HG.out HE9.out (HG9.out.below (below_drewN w7 n)) (Kd.C_below HL7.out.2 (below_drewN w7 n)) HL7.out.1
  have HS7 := Aside0.mk hS7
  clear hS7
  go_upto_region 9 with (first
    | (go_at_call 17; (with_reducible refine (num_any _ _).mono ?_); rintro e w8 ⟨rfl, ⟨n8, rfl⟩⟩)
    | (go_at_call 32; (with_reducible refine (HS7.out n8).mono ?_); rintro e w9 ⟨rfl, ⟨n9, rfl⟩⟩))
  have hb9 := below_drewN w7 (n8 + n9)
  have HB9 := Aside0.mk (below_step HB7.out hb9)
  have H59 := Aside0.mk (below_step H57.out hb9)
  have HS59 := Aside0.mk H59.out.size
  clear H57
  have HL9 := Aside0.mk (And.intro HL7.out.1 (Kd.C_below HL7.out.2 hb9))
  have HX9 := Aside0.mk (blk_below HX7.out hb9)
  have HG9' := Aside0.mk (HG9.out.below hb9)
  have hBw := HB7.out.size
  clear hb9 HB7 HL7 HX7 HG9 HS7
  generalize w7.drewN (n8 + n9) = w9 at *
  have x0 := blk_cell HX9.out 0
  have x1 := blk_cell HX9.out 1
  go_upto_region 10 with (go_at_call 30; (with_reducible refine (dec_own HW.out.1 HW.out.2 HG.out _).mono ?_); rintro e w10 ⟨A11, q11, E11, rfl, he11, hg11, hb10⟩)
  have HB10 := Aside0.mk (below_step HB9.out hb10)
  have H510 := Aside0.mk (below_step H59.out hb10)
  have HS910 := Aside0.mk hb10.size
  clear H59
  have HL10 := Aside0.mk (And.intro HL9.out.1 (Kd.C_below HL9.out.2 hb10))
  have HX10 := Aside0.mk (blk_below HX9.out hb10)
  have HG9 := Aside0.mk (HG9'.out.below hb10)
  have HE11 := Aside0.mk he11
  have HG11 := Aside0.mk hg11
  have HLT9 := Aside0.mk HG9'.out.lt
  clear x0 x1 he11 hg11 hb10 HB9 HL9 HX9 HG9'
  obtain ⟨k, hk⟩ : ∃ k, L.length / 2 = k := ⟨_, rfl⟩
  have HGK := Aside0.mk (HG.out.take k)
  have hkl : k ≤ L.length := by omega
  have HKL := Aside0.mk (show (L.take k).length = k by rw [List.length_take]; omega)
  have hq : (L.length : Int) / 2 = (k : Int) := by omega
  have hn : (L.length : Int) ≤ 32768 := by have := HG.out.len; omega
  have p1 : (0 ≤ (k : Int)) = True := eq_true (by omega)
  have p2 : ((k : Int) ≤ (c : Int)) = True := eq_true (by have := HL10.out.1; omega)
  have HCK := Aside0.mk (show ∀ W, Below w10.heap.size w10 W → k ≤ c ∧ Kd.C k80 W A k (L.take k) from fun W hW => ⟨by have := HL10.out.1; omega, C_take (Kd.C_below HL10.out.2 hW) k hkl⟩)
  have HKQ := Aside0.mk hk
  clear hk hkl
  have HCP := Aside0.mk (show Calls Try.prog 42 #[.slice A k c] w10 fun e w' => ∃ A c, e = .returned (.slice A k c) ∧ k ≤ c ∧ Kd.C k80 w' A k (L.take k) ∧ Below w10.heap.size w10 w' from by
    have h := copied_any HGK.out A c w10 (by rw [HKL.out]; exact (HCK.out w10 (Below.refl _ _)).2) (by rw [HKL.out]; exact (HCK.out w10 (Below.refl _ _)).1)
    simp only [HKL.out] at h
    exact h)
  have HEK := Aside0.mk (show ∀ A c W, Kd.C k80 W A k (L.take k) → k ≤ c → Calls Try.prog 34 #[.int .i64 (wn : Int), .slice A k c] W fun e w' => e = .returned (.tuple #[.agg #[.string (idxB (L.take k)), .string (dataB (L.take k))], .int .i64 0]) ∧ Below W.heap.size W w' from fun A c W h1 h2 => by
    have h := encode_any HW.out.1 HW.out.2 HGK.out A c W (by rw [HKL.out]; exact h1) (by rw [HKL.out]; exact h2)
    simp only [HKL.out] at h
    exact h)
  go_upto_region 11 with (first
    | (go_at_call 42; (with_reducible refine HCP.out.mono ?_); rintro e w11 ⟨A12, c12, rfl, hc12, hK12, hb11⟩)
    | (go_at_call 34; (with_reducible refine (HEK.out A12 c12 w11 hK12 hc12).mono ?_); rintro e w12 ⟨rfl, hb12⟩))
  have hb13 := below_step (below_step hb11 hb12) (below2a w12 (.cells #[.string (idxB (L.take k)), .string (dataB (L.take k))] 53))
  have HB13 := Aside0.mk hb13
  have HS1013 := Aside0.mk hb13.size
  have HY13 := Aside0.mk (blk_new w12 (.cells #[.string (idxB (L.take k)), .string (dataB (L.take k))] 53))
  clear hb11 hb12 hb13 hc12 hK12 HCP HEK
  generalize w12.alloc (.cells #[.string (idxB (L.take k)), .string (dataB (L.take k))] 53) = w13 at *
  generalize w12.heap.size = g13 at *
  have y0 := blk_cell HY13.out 0
  have y1 := blk_cell HY13.out 1
  have HDK := Aside0.mk (show Calls Try.prog 30 #[.int .i64 (wn : Int), .agg #[.string (idxB (L.take k)), .string (dataB (L.take k))]] w13 fun e w' => ∃ A q E, e = .returned (.tuple #[.slice A k q, .int .i64 0]) ∧ E.map GE.g = L.take k ∧ GR w13.heap.size w' A q E ∧ Below w13.heap.size w13 w' from by
    have h := dec_own HW.out.1 HW.out.2 HGK.out w13
    simp only [HKL.out] at h
    exact h)
  go_upto_region 12 with (go_at_call 30; (with_reducible refine HDK.out.mono ?_); rintro e w14 ⟨A15, q15, E15, rfl, he15, hg15, hb14⟩)
  have HB14 := Aside0.mk (below_step HB13.out hb14)
  have HE15 := Aside0.mk he15
  have HG15 := Aside0.mk hg15
  clear y0 y1 HDK HY13 HB13 hb14 he15 hg15
  have hS1 : ∀ n, Calls Try.prog 32 #[.slice A11 L.length q11, .slice A L.length c] (w14.drewN n) fun e w' => e = .returned (.bool true) ∧ Drawn0 (w14.drewN n) w' := fun n => same_own HG.out HE11.out (HG11.out.below (below_step HB14.out (below_drewN w14 n))) (Kd.C_below HL10.out.2 (below_step HB14.out (below_drewN w14 n))) HL10.out.1
  have hS2 : ∀ n, Calls Try.prog 32 #[.slice A15 k q15, .slice A k c] (w14.drewN n) fun e w' => e = .returned (.bool true) ∧ Drawn0 (w14.drewN n) w' := fun n => by
    have h := same_own HGK.out HE15.out (HG15.out.below (below_drewN w14 n)) (A1 := A) (c1 := c) (by rw [HKL.out]; exact (HCK.out _ (below_step HB14.out (below_drewN w14 n))).2) (by rw [HKL.out]; exact (HCK.out _ (below_step HB14.out (below_drewN w14 n))).1)
    simp only [HKL.out] at h
    exact h
  have HS1 := Aside0.mk hS1
  have HS2 := Aside0.mk hS2
  clear hS1 hS2
  go_upto_region 14 with (first
    | (go_at_call 17; (with_reducible refine (num_any 0 w14).mono ?_); rintro e w15 ⟨rfl, ⟨n15, rfl⟩⟩)
    | (go_at_call 17; (with_reducible refine (num_any 0 (w14.drewN n15)).mono ?_); rintro e w16 ⟨rfl, ⟨n16, rfl⟩⟩)
    | (go_at_call 17; (with_reducible refine (num_any 0 (w14.drewN (n15 + n16))).mono ?_); rintro e w17 ⟨rfl, ⟨n17, rfl⟩⟩)
    | (go_at_call 32; (with_reducible refine (HS1.out (n15 + n16 + n17)).mono ?_); rintro e w18 ⟨rfl, ⟨n18, rfl⟩⟩)
    | (go_at_call 32; (with_reducible refine (HS2.out (n15 + n16 + n17 + n18)).mono ?_); rintro e w19 ⟨rfl, ⟨n19, rfl⟩⟩))
  have hbd := below_drewN w14 (n15 + n16 + n17 + n18 + n19)
  generalize w14.drewN (n15 + n16 + n17 + n18 + n19) = w0 at *
  have hb00 := below_step HB14.out hbd
  have HG9 := Aside0.mk (HG9.out.below hb00)
  have HG11 := Aside0.mk (HG11.out.below hb00)
  have HG15 := Aside0.mk (HG15.out.below hbd)
  have HB0 := Aside0.mk (below_step HB10.out hb00)
  have H50 := Aside0.mk (below_step H510.out hb00)
  have HSZ := Aside0.mk (show w9.heap.size ≤ w13.heap.size ∧ w5.heap.size ≤ w9.heap.size from ⟨Nat.le_trans HS910.out HS1013.out, HS59.out⟩)
  have HW0 := Aside0.mk (show w.heap.size ≤ w5.heap.size from HB5.out.size)
  clear hb00 hbd HB10 HB14 HS1 HS2 H510
  have HEND := Aside0.mk (show ∀ W, But w0 W (GS A9 E9) → Below w.heap.size w W ∧ Below w5.heap.size w5 W ∧ GR w9.heap.size W A11 q11 E11 ∧ GR w13.heap.size W A15 q15 E15 from fun W hW => by
    refine ⟨But.below HB0.out hW (fun i hi => by have := (HLT9.out i hi).1; have := HW0.out; omega) HB0.out.size, But.below H50.out hW (fun i hi => (HLT9.out i hi).1) H50.out.size, HG11.out.keep (fun i hi => hW.block i (HG11.out.lt i hi).2 (fun h => ?_)), HG15.out.keep (fun i hi => hW.block i (HG15.out.lt i hi).2 (fun h => ?_))⟩
    · have h1 := (HG11.out.lt i hi).1
      have h2 := (HLT9.out i h).2
      omega
    · have h1 := (HG15.out.lt i hi).1
      have h2 := (HLT9.out i h).2
      have h3 := HSZ.out.1
      omega)
  have HEL := Aside0.mk (show E9.length = L.length from by rw [← HE9.out, List.length_map])
  have HAT := Aside0.mk (show ∀ i e, E9[i]? = some e → e.l = (L.getD i z80).f1 ∧ L.getD i z80 ∈ L from fun i e he => by
    have h1 : L[i]? = some e.g := by rw [← HE9.out, List.getElem?_map, he]; rfl
    have h2 : L.getD i z80 = e.g := by rw [List.getD_eq_getElem?_getD, h1]; rfl
    exact ⟨by rw [h2]; rfl, by rw [h2]; exact List.mem_of_getElem? h1⟩)
  clear p1 p2 hq
  obtain ⟨i41, hi, hz0, hz1, hz2⟩ := info_parts info41
  have HI41 := Aside0.mk (And.intro hi (And.intro hz0 (And.intro hz1 hz2)))
  clear hi hz0 hz1 hz2
  obtain ⟨i3, hi, hz0, hz1, hz2⟩ := info_parts info3
  have HI3 := Aside0.mk (And.intro hi (And.intro hz0 (And.intro hz1 hz2)))
  clear hi hz0 hz1 hz2
  go_upto_region 16 with fail
  go_wp2_with fail
  go_loopg [17, 18, 19] L.length (fun kq v17 v18 v19 w' => ∃ (i : Nat) (Ak : Option Addr) (qk : Nat) (Ek : List PE) (As : Option Addr) (qs : Nat), v17 = .slice Ak i qk ∧ v18 = .slice As i qs ∧ v19 = .int .i64 (i : Int) ∧ Aside0 (i + kq = L.length) ∧ Aside0 (L1 w0 w' w5.heap.size A9 q9 E9 mkM i i i Ak qk Ek As qs))
  case atStart => exact ⟨0, none, 0, [], none, 0, rfl, rfl, rfl, ⟨by omega⟩, ⟨L1.start HG9.out _⟩⟩
  case round =>
    obtain ⟨i, Ak, qk, Ek, As, qs, rfl, rfl, rfl, HK, HLO⟩ := hrel
    by_cases ci : (i : Int) < (L.length : Int)
    · cases gk with
      | zero => exact absurd HK.out (by omega)
      | succ k1 =>
      have hil : i < L.length := by omega
      have HIL := Aside0.mk hil
      have cb : decide ((i : Int) < (L.length : Int)) = true := decide_eq_true ci
      have cb2 : decide (i < L.length) = true := decide_eq_true hil
      have p2 : (0 ≤ (i : Int)) = True := eq_true (by omega)
      have p3 : ((i : Int) < (L.length : Int)) = True := eq_true ci
      have HK' := Aside0.mk (show i + 1 + k1 = L.length by have := HK.out; omega)
      obtain ⟨e9, he9⟩ : ∃ e9, E9[i]? = some e9 := ⟨_, List.getElem?_eq_getElem (by rw [HEL.out]; exact hil)⟩
      have HE := Aside0.mk he9
      have hl9 := (HAT.out i e9 he9)
      have hn1 := HG.out.ne _ hl9.2
      have hn2 := HG.out.le _ hl9.2
      rw [← hl9.1] at hn1 hn2
      have HN := Aside0.mk (And.intro hn1 hn2)
      have hO := HLO.out.todo i e9 (Nat.le_refl _) he9
      obtain ⟨g, hg⟩ := ownsRow_addr hO hn1
      have HGA := Aside0.mk hg
      obtain ⟨gA, u, hA9, z0, z1, zf⟩ := HLO.out.at_ he9
      subst hA9
      have HZ := Aside0.mk z1
      rw [hg] at hO
      have HO := Aside0.mk hO
      clear z0 z1 zf hO hg hl9 hn1 hn2 he9 hil HK
      go_upto_region 19 with fail
      have hc0 : wr.drew.cell? ⟨gA, i * 2 + 1, none⟩ = some (.slice e9.A e9.l.length e9.c) := HZ.out
      rw [HGA.out] at hc0
      refine wp_region_plan (quiets [0, 1, 2, 3, 4, 5, 6, 7, 8, 9, 10] ++ ((true, 11) :: ((true, 12) :: ((true, 13) :: ((true, 14) :: ((true, 15) :: ((true, 16) :: ((true, 17) :: [])))))))) (fun W => W.cell? ⟨gA, i * 2 + 1, none⟩ = some (.slice (some ⟨g, 0, none⟩) e9.l.length e9.c)) (by kernel_rfl) (by kernel_rfl) hc0 ?_
      apply mix_quiets [0, 1, 2, 3, 4, 5, 6, 7, 8, 9, 10] _ (by kernel_rfl) hc0
      case h =>
        intro W hW
        refine still_of_quiet _ _ ?_
        simp only [segOps, List.getElem?_toArray, List.getElem?_cons_zero, List.getElem?_cons_succ, Option.toList_some, List.nil_append, List.cons_append, List.append_nil]
        repeat (go_big_quiet_step (fail))
        exact wpQuiet_nil rfl
      refine mix_writes 11 ⟨some 135, _, _, _, _, _⟩ rfl _ ?_
      change wpList _ _ _ _ _ wr.drew
      have HL1 := Aside0.mk (HLO.out.below HG9.out (below_drew wr))
      have HC1 := Aside0.mk hc0
      clear hc0 HLO HO HZ
      generalize wr.drew = w1 at *
      go_wp2_with fail
      have HBB := Aside0.mk (blk_new w1 (.cells #[.int .u8 ((i : Int) % 256), .int .u8 ((i : Int) / 256)] 5))
      have HL2 := Aside0.mk (HL1.out.below HG9.out (below2a w1 (.cells #[.int .u8 ((i : Int) % 256), .int .u8 ((i : Int) / 256)] 5)))
      have HC2 := Aside0.mk (pw_cell_below (below2a w1 (.cells #[.int .u8 ((i : Int) % 256), .int .u8 ((i : Int) / 256)] 5)) HC1.out)
      refine ⟨HC2.out, ?_⟩
      clear HL1 HC1
      generalize w1.alloc (.cells #[.int .u8 ((i : Int) % 256), .int .u8 ((i : Int) / 256)] 5) = w2' at *
      generalize w1.heap.size = h1 at *
      refine mix_writes 12 ⟨some 136, _, _, _, _, _⟩ rfl _ ?_
      have hcv := conv2 w2' h1 _ _ HBB.out
      go_wp2_with fail
      clear hcv
      refine ⟨HC2.out, ?_⟩
      obtain ⟨sn, hsn⟩ : ∃ sn, strOfNums [(i : Int) % 256, (i : Int) / 256] = sn := ⟨_, rfl⟩
      have hsz : sn.size = 2 := by rw [← hsn]; rfl
      rw [hsn]
      refine mix_writes 13 ⟨some 137, _, _, _, _, _⟩ rfl _ ?_
      go_wp2_with fail
      obtain ⟨mk, hmk⟩ : ∃ mk, (⟨#[109]⟩ : ByteArray) ++ sn = mk := ⟨_, rfl⟩
      have HMK := Aside0.mk (show mkM i = ⟨mk, mk⟩ from by unfold mkM mrk; rw [hsn, hmk])
      rw [hmk]
      refine ⟨HC2.out, ?_⟩
      clear hsz hmk hsn HBB
      have HOW := Aside0.mk (show OwnP w2' w5.heap.size (some ⟨g, 0, none⟩) e9.c e9.l from by have h := HL2.out.todo i e9 (Nat.le_refl _) HE.out; rw [HGA.out] at h; exact h)
      have HMC := Aside0.mk (marked_any w5.heap.size g e9.c e9.l mk w2' HOW.out (Nat.le_trans H50.out.size HL2.out.fr.size) HN.out.1 (by have := HN.out.2; omega))
      refine mix_writes 14 ⟨some 138, _, _, _, _, _⟩ rfl _ ?_
      go_wp2_with (go_at_call 45; (with_reducible refine HMC.out.mono ?_); rintro e w3' ⟨g1, c3', rfl, hm⟩; have HM3 := Aside0.mk hm; clear hm)
      have HL3 := Aside0.mk (HL2.out.mark HG9.out (Nat.le_refl _) HE.out HGA.out (by rw [HMK.out]; exact HM3.out))
      have hc3 := HL3.out.cell HE.out
      rw [HGA.out] at hc3
      refine ⟨hc3, ?_⟩
      clear HOW HMC hc3 HC2
      refine mix_writes 15 ⟨some 139, _, _, _, _, _⟩ rfl _ ?_
      go_wp2_with fail
      have HM4 := Aside0.mk (HM3.out.below (below2a w3' (.cells #[.slice (some ⟨g1, 0, none⟩) (e9.l.length + 65) c3'] 41)))
      have HL4 := Aside0.mk (HL3.out.below HG9.out (below2a w3' (.cells #[.slice (some ⟨g1, 0, none⟩) (e9.l.length + 65) c3'] 41)))
      have HN4 := Aside0.mk (new_cells w3' [.slice (some ⟨g1, 0, none⟩) (e9.l.length + 65) c3'] 41)
      have hc4 := HL4.out.cell HE.out
      rw [HGA.out] at hc4
      refine ⟨hc4, ?_⟩
      clear hc4 HL3 HM3
      generalize w3'.alloc (.cells #[.slice (some ⟨g1, 0, none⟩) (e9.l.length + 65) c3'] 41) = w4' at *
      generalize w3'.heap.size = h3 at *
      have HRE := Aside0.mk (show RE w4' ⟨some ⟨g1, 0, none⟩, c3', List.replicate (e9.l.length + 65) ⟨mk, mk⟩⟩ from RE.of HM4.out.m)
      have HSC := Aside0.mk (show scell ⟨some ⟨g1, 0, none⟩, c3', List.replicate (e9.l.length + 65) ⟨mk, mk⟩⟩ = [.slice (some ⟨g1, 0, none⟩) (e9.l.length + 65) c3'] from by simp only [scell, List.length_replicate])
      have HLC := Aside0.mk HL4.out.klen
      have HKR := Aside0.mk HL4.out.keptRow
      have HBS := Aside0.mk HL4.out.fr.size
      have HPO := Aside0.mk (show ∀ u ∈ [Value.slice (some ⟨g1, 0, none⟩) (e9.l.length + 65) c3'], u.oneCell' = true from fun u hu => by
        rw [List.mem_singleton] at hu; subst hu; rfl)
      have HD := Aside0.mk (show i + 1 ≤ maxLen ∧ (i + 1) * 24 ≤ 140737488355328 ∧ (i + 1) * 8 ≤ 140737488355328 from ⟨by unfold maxLen; omega, by omega, by omega⟩)
      refine mix_writes 16 ⟨some 140, _, _, _, _, _⟩ rfl _ ?_
      go_wp2_with (at_builtin; refine wpList_append_two _ rfl _ _ 87 rfl w0.heap.size 41 i41 (.slice none 0 0) 1 24 Try.underlying87 HI41.out.1 HI41.out.2.1 HI41.out.2.2.1 HI41.out.2.2.2 rfl (by decide) Ak i qk _ rfl HKR.out ⟨h3, 0, none⟩ 1 1 [.slice (some ⟨g1, 0, none⟩) (e9.l.length + 65) c3'] rfl rfl HN4.out HPO.out HD.out.1 HD.out.2.1 HBS.out ?_; intro A2 q2 w5' hown hcase; have HOwn := Aside0.mk hown; have HGr := Aside0.mk (grown_of_two hcase); clear hown hcase)
      have HL5' := Aside0.mk (HL4.out.keepOne (W2 := w5') (A2 := A2) (q2 := q2) HG9.out HE.out (e := ⟨some ⟨g1, 0, none⟩, c3', List.replicate (e9.l.length + 65) ⟨mk, mk⟩⟩) (by rw [HMK.out]) (fun g2 hg2 => by
        obtain rfl : g1 = g2 := Option.some.inj hg2
        rcases HM4.out.a1 with h | h
        · subst h; rw [HGA.out]; exact .inl rfl
        · exact .inr (Nat.le_trans HL2.out.fr.size h)) HRE.out (by rw [HSC.out, HLC.out]; exact HOwn.out) HGr.out)
      have hc5 := HL5'.out.cell HE.out
      rw [HGA.out] at hc5
      refine ⟨hc5, ?_⟩
      clear HL4 HM4 HRE HSC HLC HKR HBS HPO HN4 HOwn HGr HL2 hc5
      refine mix_writes 17 ⟨some 17, _, _, _, _, _⟩ rfl _ ?_
      go_wp2_with fail
      have hc5 := HL5'.out.cell HE.out
      rw [HGA.out] at hc5
      refine ⟨hc5, ?_⟩
      clear hc5
      refine mix_done ?_
      go_upto_region 20 with fail
      have HX := Aside0.mk (HEND.out w5' HL5'.out.fr)
      obtain ⟨ad, B1, d1, hA, z0, z1, hd1, hk1⟩ := at_T80 (Kd.C_below HL5.out.2 HX.out.2.1) (i : Int) (by omega) (by omega)
      rw [Int.toNat_natCast, rd80_nat, ← (HAT.out i e9 HE.out).1] at z1
      have hadA := Aside0.mk hA
      subst hA
      have HVI := Aside0.mk (show Value.int .i64 ((e9.l.length : Int) + 65) = .int .i64 ((e9.l.length + 65 : Nat) : Int) from by simp)
      have hnl : (e9.l.length : Int) ≤ 512 := by have := HN.out.2; omega
      have HL6 := Aside0.mk (HL5'.out.below HG9.out (below2a w5' (.cells #[.int .i64 ((e9.l.length : Int) + 65)] 3)))
      have HN6 := Aside0.mk (new_cells w5' [.int .i64 ((e9.l.length : Int) + 65)] 3)
      have HBS := Aside0.mk HL6.out.fr.size
      have HPO := Aside0.mk (show ∀ u ∈ [Value.int .i64 ((e9.l.length : Int) + 65)], u.oneCell' = true from fun u hu => by
        rw [List.mem_singleton] at hu; subst hu; rfl)
      clear z0 hd1 hk1
      go_upto_region 21 with (at_builtin; refine wpList_append_two _ rfl _ _ 88 rfl w0.heap.size 3 i3 (.int .i64 0) 1 8 Try.underlying88 HI3.out.1 HI3.out.2.1 HI3.out.2.2.1 HI3.out.2.2.2 rfl (by decide) As i qs _ rfl HL6.out.sz ⟨w5'.heap.size, 0, none⟩ 1 1 [.int .i64 ((e9.l.length : Int) + 65)] rfl rfl HN6.out HPO.out HD.out.1 HD.out.2.2 HBS.out ?_; intro A3' q3 w7' hown hcase; have HOwn := Aside0.mk hown; have HGr := Aside0.mk (grown_of_two hcase); clear hown hcase)
      have HL7 := Aside0.mk (HL6.out.sizeOne (W2 := w7') (A2 := A3') (q2 := q3) HG9.out HE.out (by rw [← HVI.out]; exact HOwn.out) HGr.out)
      clear HL6 HN6 HBS HPO HOwn HGr z1 HL5' HX
      obtain ⟨g', u', hg', y0, y1, yf⟩ := HL7.out.at_ HE.out
      simp only [Option.some.injEq, Addr.mk.injEq, and_true] at hg'
      subst hg'
      go_upto_region 21 with fail
      go_wp2_with fail
      have HL8 := Aside0.mk (HL7.out.hash HG9.out rfl i (by rw [HEL.out]; exact HIL.out) ⟨#[109]⟩)
      go_roundg k1
      case measure => have := HK'.out; omega
      case rel => exact ⟨i + 1, A2, q2, _, A3', q3, rfl, rfl, congrArg (Value.int .i64) (by omega), HK', HL8⟩
    · have cb : decide ((i : Int) < (L.length : Int)) = false := decide_eq_false ci
      have cb2 : decide (i < L.length) = false := decide_eq_false (by omega)
      obtain rfl : gk = 0 := by have := HK.out; omega
      obtain rfl : i = L.length := by have := HK.out; omega
      have HX := Aside0.mk (HEND.out wr HLO.out.fr)
      have HXB := Aside0.mk (blk_below HX5.out HX.out.2.1)
      have x0 := blk_cell HXB.out 0
      have x1 := blk_cell HXB.out 1
      clear ci HK
      go_upto_region 23 with (go_at_call 30; (with_reducible refine (dec_own HW.out.1 HW.out.2 HG.out _).mono ?_); rintro e w20 ⟨A20, q20, E20, rfl, he20, hg20, hb20⟩)
      have HE20 := Aside0.mk he20
      have HG20 := Aside0.mk hg20
      have HB20 := Aside0.mk hb20
      clear x0 x1 he20 hg20 hb20
      have hS3 : ∀ n, Calls Try.prog 32 #[.slice A20 L.length q20, .slice A L.length c] (w20.drewN n) fun e w' => e = .returned (.bool true) ∧ Drawn0 (w20.drewN n) w' := fun n => same_own HG.out HE20.out (HG20.out.below (below_drewN w20 n)) (Kd.C_below HL5.out.2 (below_step HX.out.2.1 (below_step HB20.out (below_drewN w20 n)))) HL5.out.1
      have HS3 := Aside0.mk hS3
      clear hS3
      go_upto_region 25 with (first
        | (go_at_call 17; (with_reducible refine (num_any 0 w20).mono ?_); rintro e w21 ⟨rfl, ⟨n21, rfl⟩⟩)
        | (go_at_call 32; (with_reducible refine (HS3.out n21).mono ?_); rintro e w22 ⟨rfl, ⟨n22, rfl⟩⟩))
      have HB21 := Aside0.mk (below_step HB20.out (below_drewN w20 (n21 + n22)))
      have HG20 := Aside0.mk (HG20.out.below (below_drewN w20 (n21 + n22)))
      clear HS3 HB20
      generalize w20.drewN (n21 + n22) = w8 at *
      have HLE := Aside0.mk (HLO.out.below HG9.out HB21.out)
      have HX8 := Aside0.mk (HEND.out w8 HLE.out.fr)
      clear HX HXB HLO HB21
      go_upto_region 28 with fail
      go_wp2_with fail
      go_loopg [22, 23, 24, 25] L.length (fun kq v22 v23 v24 v25 w' => ∃ (i r : Nat) (Ar : Option Addr) (qr : Nat) (Er : List PE) (At : Option Addr) (qt : Nat) (Et : List PE), v22 = .slice Ar r qr ∧ v23 = .slice At i qt ∧ v24 = .int .i64 ((total (L.take i) : Nat) : Int) ∧ v25 = .int .i64 (i : Int) ∧ Aside0 (i + kq = L.length) ∧ Aside0 (r = 2 * i) ∧ Aside0 (L2 w8 w' L mkR r i Ar qr Er At qt Et))
      case atStart => exact ⟨0, 0, none, 0, [], none, 0, [], rfl, rfl, rfl, rfl, ⟨by omega⟩, ⟨rfl⟩, ⟨L2.start w8 L mkR⟩⟩
      case round =>
        obtain ⟨i, r, Ar, qr, Er, At, qt, Et, rfl, rfl, rfl, rfl, HK, HR2, HLO⟩ := hrel
        clear cb cb2
        have HXr := Aside0.mk (below_step HX8.out.2.1 HLO.out.fr)
        by_cases ci : (i : Int) < (L.length : Int)
        · cases gk with
          | zero => exact absurd HK.out (by omega)
          | succ k1 =>
          have hil : i < L.length := by omega
          have HIL := Aside0.mk hil
          have cb : decide ((i : Int) < (L.length : Int)) = true := decide_eq_true ci
          have cb2 : decide (i < L.length) = true := decide_eq_true hil
          have p2 : (0 ≤ (i : Int)) = True := eq_true (by omega)
          have p3 : ((i : Int) < (L.length : Int)) = True := eq_true ci
          have HK' := Aside0.mk (show i + 1 + k1 = L.length by have := HK.out; omega)
          have HRA := Aside0.mk (fun W => read_any HG.out hil W)
          have HTS := Aside0.mk (total_step hil)
          have HGM := Aside0.mk (getD_mem hil)
          have htb : ((total (L.take i) : Nat) : Int) ≤ 65536 := by have := total_take_le L i; have := HG.out.wt; omega
          have htc : ((total (L.take (i + 1)) : Nat) : Int) ≤ 65536 := by have := total_take_le L (i + 1); have := HG.out.wt; omega
          have hxr := blk_below HX5.out HXr.out
          have hx1 := blk_cell hxr 1
          clear hxr hil
          obtain ⟨G, hG⟩ : ∃ G, L.getD i z80 = G := ⟨_, rfl⟩
          have HGD := Aside0.mk hG
          rw [hG] at HRA HTS HGM
          obtain ⟨t0, ht0⟩ : ∃ t, total (L.take i) = t := ⟨_, rfl⟩
          obtain ⟨t1, ht1⟩ : ∃ t, total (L.take (i + 1)) = t := ⟨_, rfl⟩
          have HT := Aside0.mk (And.intro ht0 ht1)
          rw [ht0, ht1] at HRA HTS
          rw [ht0] at htb
          rw [ht1] at htc
          rw [ht0]
          clear hG ht0 ht1
          go_upto_region 32 with (go_at_call 24; (with_reducible refine (HRA.out wr).mono ?_); rintro e w31 ⟨A26, c26, rfl, ho26, hb31⟩)
          have HO26 := Aside0.mk ho26
          have HB31 := Aside0.mk hb31
          have hx1 := blk_cell (blk_below HX5.out (below_step HXr.out hb31)) 1
          clear ho26 hb31
          go_upto_region 33 with (go_at_call 24; (with_reducible refine (HRA.out w31).mono ?_); rintro e w32 ⟨A29, c29, rfl, ho29, hb32⟩)
          have HO29 := Aside0.mk ho29
          have HB32 := Aside0.mk hb32
          have HO26' := Aside0.mk (show OwnP w32 wr.heap.size A26 c26 G.f1 from ownsRow_keep HO26.out (fun k hk => hb32.block k (ownsRow_lt HO26.out k hk).2))
          have HP31 := Aside0.mk (fun k hk => (ownsRow_lt HO26.out k hk))
          clear ho29 hb32 hx1 HRA HO26
          have HL32 := Aside0.mk (Kd.C_below HL5.out.2 (below_step HXr.out (below_step HB31.out HB32.out)))
          obtain ⟨ad, B1, d1, hA, z0, z1, hd1, hk1⟩ := at_T80 HL32.out (i : Int) (by omega) (by omega)
          rw [Int.toNat_natCast, rd80_nat, HGD.out] at z1
          rw [rd80_nat, HGD.out] at hd1 hk1
          subst hA
          have hzn : ∀ n, (w32.drewN n).cell? ⟨(ad.add (i * 2)).block, (ad.add (i * 2)).off + 1, none⟩ = some (.slice B1 G.f1.length d1) := fun n => z1
          have HLG := Aside0.mk (HG.out.le G HGM.out)
          have HSP1 := Aside0.mk (show ∀ n, Calls Try.prog 26 #[.slice A26 G.f1.length c26, .slice B1 G.f1.length d1] (w32.drewN n) fun e w' => e = .returned (.bool true) ∧ Drawn0 (w32.drewN n) w' from fun n =>
            granarylaw3_samePairs.calls 1000 A26 c26 G.f1 B1 d1 G.f1 true (w32.drewN n) (OwnP.reads HO26'.out) (ownsRow_cap HO26'.out).1 hk1 hd1 (samePairs_self G.f1 (by have := HLG.out; omega) 1000 (by have := HLG.out; omega)))
          have HSP2 := Aside0.mk (show ∀ n, Calls Try.prog 26 #[.slice A29 G.f1.length c29, .slice B1 G.f1.length d1] (w32.drewN n) fun e w' => e = .returned (.bool true) ∧ Drawn0 (w32.drewN n) w' from fun n =>
            granarylaw3_samePairs.calls 1000 A29 c29 G.f1 B1 d1 G.f1 true (w32.drewN n) (OwnP.reads HO29.out) (ownsRow_cap HO29.out).1 hk1 hd1 (samePairs_self G.f1 (by have := HLG.out; omega) 1000 (by have := HLG.out; omega)))
          have b1 : decide ((t1 : Int) ≤ (t0 : Int)) = false := decide_eq_false (by have := HTS.out; unfold wG at this; omega)
          have b2 : decide (t1 ≤ t0) = false := decide_eq_false (by have := HTS.out; unfold wG at this; omega)
          have b3 : ((t1 : Int) != (t1 : Int)) = false := by simp
          clear z0 z1 hd1 hk1
          go_upto_region 35 with (first
            | (go_at_call 17; (with_reducible refine (num_any 0 w32).mono ?_); rintro e w33 ⟨rfl, ⟨n33, rfl⟩⟩)
            | (go_at_call 26; (with_reducible refine (HSP1.out n33).mono ?_); rintro e w34 ⟨rfl, ⟨n34, rfl⟩⟩)
            | (go_at_call 17; (with_reducible refine (num_any 0 (w32.drewN (n33 + n34))).mono ?_); rintro e w35 ⟨rfl, ⟨n35, rfl⟩⟩)
            | (go_at_call 26; (with_reducible refine (HSP2.out (n33 + n34 + n35)).mono ?_); rintro e w36 ⟨rfl, ⟨n36, rfl⟩⟩))
          have hbd := below_drewN w32 (n33 + n34 + n35 + n36)
          obtain ⟨gp, hgp⟩ := ownsRow_addr HO26'.out (HG.out.ne G HGM.out)
          subst hgp
          have HO26 := Aside0.mk (show OwnP (w32.drewN (n33 + n34 + n35 + n36)) wr.heap.size (some ⟨gp, 0, none⟩) c26 G.f1 from HO26'.out)
          have HO29 := Aside0.mk (show OwnP (w32.drewN (n33 + n34 + n35 + n36)) w31.heap.size A29 c29 G.f1 from HO29.out)
          have HEr := Aside0.mk (show ∀ e ∈ Er, ∀ k, rowB e.A = some k → k ≠ gp from fun e he k hk e2 => by
            have h1 := (HLO.out.rd.inn e he).rd.lt k hk
            have h2 := (HP31.out gp rfl).1
            omega)
          have HEt := Aside0.mk (show ∀ e ∈ Et ++ [⟨A29, c29, G.f1⟩], ∀ k, rowB e.A = some k → k ≠ gp from fun e he k hk e2 => by
            have h2 := (HP31.out gp rfl)
            rcases List.mem_append.1 he with h | h
            · have h1 := (HLO.out.tw.inn e h).rd.lt k hk; omega
            · rw [List.mem_singleton] at h; subst h
              have h3 := (ownsRow_lt HO29.out k hk).1
              omega)
          have HGP := Aside0.mk (show w8.heap.size ≤ gp from Nat.le_trans HLO.out.fr.size (HP31.out gp rfl).1)
          have HLO3 := Aside0.mk (HLO.out.below (below_step HB31.out (below_step HB32.out hbd)))
          have HBW := Aside0.mk (show wr.heap.size ≤ (w32.drewN (n33 + n34 + n35 + n36)).heap.size from (below_step HB31.out (below_step HB32.out hbd)).size)
          clear hbd hzn HSP1 HSP2 b1 b2 b3 HLO HB31 HB32 HO26' HP31 HL32 HXr
          generalize w32.drewN (n33 + n34 + n35 + n36) = w33 at *
          have HD := Aside0.mk (show ∀ m, m ≤ 65536 → m + 1 ≤ maxLen ∧ (m + 1) * 24 ≤ 140737488355328 from fun m hm => ⟨by unfold maxLen; omega, by omega⟩)
          have HRL := Aside0.mk (show r ≤ 65536 ∧ i ≤ 65536 from ⟨by have := HR2.out; have := HIL.out; have := HG.out.len; omega, by have := HIL.out; have := HG.out.len; omega⟩)
          have HPO := Aside0.mk (show ∀ v : Value, v.oneCell' = true → ∀ u ∈ [v], u.oneCell' = true from fun v hv u hu => by
            rw [List.mem_singleton] at hu; subst hu; exact hv)
          -- the twin
          have hb4 := below2a w33 (.cells #[.slice A29 G.f1.length c29] 41)
          have HLO4 := Aside0.mk (HLO3.out.below hb4)
          have HR4 := Aside0.mk ((RE.of HO29.out).below hb4)
          have HO4 := Aside0.mk (show OwnP _ _ _ _ _ from ownsRow_keep HO26.out (fun k hk => hb4.block k (ownsRow_lt HO26.out k hk).2))
          have HN4 := Aside0.mk (new_cells w33 [.slice A29 G.f1.length c29] 41)
          have HTR := Aside0.mk HLO4.out.twRow
          have HBS := Aside0.mk HLO4.out.fr.size
          have HB4 := Aside0.mk (Nat.le_trans HBW.out hb4.size)
          clear hb4 HLO3 HO29 HO26
          go_upto_region 36 with (at_builtin; refine wpList_append_two _ rfl _ _ 87 rfl w8.heap.size 41 i41 (.slice none 0 0) 1 24 Try.underlying87 HI41.out.1 HI41.out.2.1 HI41.out.2.2.1 HI41.out.2.2.2 rfl (by decide) At i qt _ rfl HTR.out ⟨w33.heap.size, 0, none⟩ 1 1 [.slice A29 G.f1.length c29] rfl rfl HN4.out (HPO.out _ rfl) (HD.out i HRL.out.2).1 (HD.out i HRL.out.2).2 HBS.out ?_; intro At2 qt2 w35 hown hcase; have HOwn := Aside0.mk hown; have HCa := Aside0.mk hcase; clear hown hcase)
          have htw := HLO4.out.twin (W2 := w35) (A2 := At2) (q2 := qt2) HR4.out (by rw [HGD.out]) HOwn.out HCa.out
          have HLO5 := Aside0.mk htw.1
          have HO5 := Aside0.mk (HO4.out.keepT htw.2)
          have HB5w := Aside0.mk (Nat.le_trans HB4.out (grown_of_two HCa.out).size)
          clear htw HLO4 HR4 HO4 HN4 HTR HBS HB4 HOwn HCa HBW
          -- the list itself
          have hb6 := below2a w35 (.cells #[.slice (some ⟨gp, 0, none⟩) G.f1.length c26] 41)
          have HLO6 := Aside0.mk (HLO5.out.below hb6)
          have HO6 := Aside0.mk (show OwnP _ _ _ _ _ from ownsRow_keep HO5.out (fun k hk => hb6.block k (ownsRow_lt HO5.out k hk).2))
          have HR6 := Aside0.mk (RE.of HO6.out)
          have HN6 := Aside0.mk (new_cells w35 [.slice (some ⟨gp, 0, none⟩) G.f1.length c26] 41)
          have HRR := Aside0.mk HLO6.out.rdRow
          have HBS := Aside0.mk HLO6.out.fr.size
          have HB6 := Aside0.mk (Nat.le_trans HB5w.out hb6.size)
          clear hb6 HLO5 HO5 HB5w
          go_upto_region 37 with (at_builtin; refine wpList_append_two _ rfl _ _ 87 rfl w8.heap.size 41 i41 (.slice none 0 0) 1 24 Try.underlying87 HI41.out.1 HI41.out.2.1 HI41.out.2.2.1 HI41.out.2.2.2 rfl (by decide) Ar r qr _ rfl HRR.out ⟨w35.heap.size, 0, none⟩ 1 1 [.slice (some ⟨gp, 0, none⟩) G.f1.length c26] rfl rfl HN6.out (HPO.out _ rfl) (HD.out r HRL.out.1).1 (HD.out r HRL.out.1).2 HBS.out ?_; intro Ar2 qr2 w37 hown hcase; have HOwn := Aside0.mk hown; have HCa := Aside0.mk hcase; clear hown hcase)
          have hrp := HLO6.out.readP (W2 := w37) (A2 := Ar2) (q2 := qr2) HR6.out HOwn.out HCa.out
          have HLO7 := Aside0.mk hrp.1
          have HO7 := Aside0.mk (HO6.out.keepT hrp.2)
          have HB7w := Aside0.mk (Nat.le_trans HB6.out (grown_of_two HCa.out).size)
          clear hrp HLO6 HR6 HO6 HN6 HRR HBS HB6 HOwn HCa
          -- its mark
          have hb8 := below2a w37 (.cells #[.int .u8 ((i : Int) % 256), .int .u8 ((i : Int) / 256)] 5)
          have HLO8 := Aside0.mk (HLO7.out.below hb8)
          have HO8 := Aside0.mk (show OwnP (w37.alloc (.cells #[.int .u8 ((i : Int) % 256), .int .u8 ((i : Int) / 256)] 5)) wr.heap.size (some ⟨gp, 0, none⟩) c26 G.f1 from ownsRow_keep HO7.out (fun k hk => hb8.block k (ownsRow_lt HO7.out k hk).2))
          have HB8 := Aside0.mk (Nat.le_trans HB7w.out hb8.size)
          have hcv := conv2 (w37.alloc (.cells #[.int .u8 ((i : Int) % 256), .int .u8 ((i : Int) / 256)] 5)) w37.heap.size _ _ (blk_new w37 (.cells #[.int .u8 ((i : Int) % 256), .int .u8 ((i : Int) / 256)] 5))
          have hsz : (strOfNums [(i : Int) % 256, (i : Int) / 256]).size = 2 := rfl
          obtain ⟨mk, hmk⟩ : ∃ mk, (⟨#[114]⟩ : ByteArray) ++ strOfNums [(i : Int) % 256, (i : Int) / 256] = mk := ⟨_, rfl⟩
          have HMK := Aside0.mk (show mkR (r / 2) = ⟨mk, mk⟩ from by
            have : r / 2 = i := by have := HR2.out; omega
            rw [this]; unfold mkR mrk; rw [hmk])
          have HMK1 := Aside0.mk (show mkR ((r + 1) / 2) = ⟨mk, mk⟩ from by
            have : (r + 1) / 2 = i := by have := HR2.out; omega
            rw [this]; unfold mkR mrk; rw [hmk])
          have hMC := marked_any wr.heap.size gp c26 G.f1 mk _ HO8.out HB8.out (HG.out.ne G HGM.out) (by have := HG.out.le G HGM.out; omega)
          rw [← hmk] at hMC
          have HMC := Aside0.mk hMC
          have HMK2 := Aside0.mk hmk
          clear hb8 hMC hmk HLO7 HO7 HB7w HO8 HB8
          go_upto_region 38 with (first
            | (go_at_call 45; (with_reducible refine HMC.out.mono ?_); rintro e w39 ⟨g1, c3', rfl, hm⟩; have HM9 := Aside0.mk hm; clear hm hcv; have HLO9 := Aside0.mk (HLO8.out.mark (pe := ⟨some ⟨gp, 0, none⟩, c26, G.f1⟩) rfl rfl (HG.out.le G HGM.out) HGP.out HEr.out HEt.out (by rw [HMK.out, ← HMK2.out]; exact HM9.out)); have HM10 := Aside0.mk (HM9.out.below (below2a w39 (.cells #[.slice (some ⟨g1, 0, none⟩) (G.f1.length + 65) c3'] 41))); have HL10 := Aside0.mk (HLO9.out.below (below2a w39 (.cells #[.slice (some ⟨g1, 0, none⟩) (G.f1.length + 65) c3'] 41))); have HN10 := Aside0.mk (new_cells w39 [.slice (some ⟨g1, 0, none⟩) (G.f1.length + 65) c3'] 41); have HRR := Aside0.mk HL10.out.rdRow; have HBS := Aside0.mk HL10.out.fr.size)
            | (at_builtin; refine wpList_append_two _ rfl _ _ 87 rfl w8.heap.size 41 i41 (.slice none 0 0) 1 24 Try.underlying87 HI41.out.1 HI41.out.2.1 HI41.out.2.2.1 HI41.out.2.2.2 rfl (by decide) Ar2 (r + 1) qr2 _ rfl HRR.out ⟨w39.heap.size, 0, none⟩ 1 1 [.slice (some ⟨g1, 0, none⟩) (G.f1.length + 65) c3'] rfl rfl HN10.out (HPO.out _ rfl) (HD.out (r + 1) (by have := HRL.out.1; have := HR2.out; have := HIL.out; have := HG.out.len; omega)).1 (HD.out (r + 1) (by have := HRL.out.1; have := HR2.out; have := HIL.out; have := HG.out.len; omega)).2 HBS.out ?_; intro Ar3 qr3 w40 hown hcase; have HOwn := Aside0.mk hown; have HCa := Aside0.mk hcase; clear hown hcase))
          have HLO11 := Aside0.mk (HL10.out.readM (W2 := w40) (A2 := Ar3) (q2 := qr3) (e := ⟨some ⟨g1, 0, none⟩, c3', List.replicate (G.f1.length + 65) ⟨mk, mk⟩⟩) (by have h := RE.of HM10.out.m; rw [HMK2.out] at h; exact h) ⟨G.f1.length + 65, by have := HG.out.le G HGM.out; omega, by rw [HMK1.out]⟩ (by have h := HOwn.out; simp only [scell, List.length_replicate]; exact h) HCa.out)
          go_wp2_with fail
          go_roundg k1
          case measure => have := HK'.out; omega
          case rel => exact ⟨i + 1, r + 1 + 1, Ar3, qr3, _, At2, qt2, _, rfl, rfl, by rw [HT.out.2], congrArg (Value.int .i64) (by omega), HK', ⟨by have := HR2.out; omega⟩, HLO11⟩
        · have cb : decide ((i : Int) < (L.length : Int)) = false := decide_eq_false ci
          have cb2 : decide (i < L.length) = false := decide_eq_false (by omega)
          obtain rfl : gk = 0 := by have := HK.out; omega
          obtain rfl : i = L.length := by have := HK.out; omega
          have HL1E := Aside0.mk (HLE.out.below HG9.out (show Below w8.heap.size w8 wr from HLO.out.fr))
          have HG20 := Aside0.mk (HG20.out.below HLO.out.fr)
          have HXE := Aside0.mk (HEND.out wr HL1E.out.fr)
          have hrb : (r : Int) ≤ 65536 := by have := HR2.out; omega
          have HRB := Aside0.mk (show r ≤ 65536 by omega)
          clear HLE HX8 HXr ci HK
          generalize total (List.take L.length L) = tt
          go_upto_region 39 with fail
          generalize wr = wS at *
          go_wp2_with fail
          go_loopg [32] r (fun kq v32 w' => ∃ i3 : Nat, v32 = .int .i64 (i3 : Int) ∧ Aside0 (i3 + kq = r) ∧ Aside0 (Below wS.heap.size wS w'))
          case atStart => exact ⟨0, rfl, ⟨by omega⟩, ⟨Below.refl _ _⟩⟩
          case round =>
            obtain ⟨i3, rfl, HK, HBS⟩ := hrel
            clear cb cb2
            by_cases ci : (i3 : Int) < (r : Int)
            · cases gk with
              | zero => exact absurd HK.out (by omega)
              | succ k1 =>
              have cb : decide ((i3 : Int) < (r : Int)) = true := decide_eq_true ci
              have cb2 : decide (i3 < r) = true := decide_eq_true (by omega)
              have p2 : (0 ≤ (i3 : Int)) = True := eq_true (by omega)
              have p3 : ((i3 : Int) < (r : Int)) = True := eq_true ci
              have HK' := Aside0.mk (show i3 + 1 + k1 = r by have := HK.out; omega)
              obtain ⟨pe, hpe⟩ : ∃ pe, Er[i3]? = some pe := ⟨_, List.getElem?_eq_getElem (by rw [HLO.out.rlen]; omega)⟩
              obtain ⟨gR, hgR, zc, hre⟩ := HLO.out.rd.at_ hpe
              subst hgR
              obtain ⟨n3, hn3, hl3⟩ := HLO.out.rat i3 pe hpe
              have HTR := Aside0.mk (show ∀ W, Below wS.heap.size wS W → W.cell? ⟨gR, i3, none⟩ = some (.slice pe.A pe.l.length pe.c) from fun W hW => (hW.cell (World.block_lt_of_cell? _ _ zc)).trans zc)
              have hln : pe.l.length = n3 := by rw [hl3, List.length_replicate]
              have HAL := Aside0.mk (show ∀ W, Below wS.heap.size wS W → Calls Try.prog 46 #[.slice pe.A pe.l.length pe.c, .string (mrk 114 (i3 / 2))] W fun e w' => e = .returned (.bool true) ∧ Drawn0 W w' from fun W hW => by
                have h1 := (hre.below hW).rd.rd
                rw [hl3, List.length_replicate] at h1
                rw [hln]
                exact all_any pe.A n3 pe.c _ W h1 (by omega))
              have HMR := Aside0.mk (show (⟨#[114]⟩ : ByteArray) ++ strOfNums [(i3 : Int) / 2 % 256, (i3 : Int) / 512] = mrk 114 (i3 / 2) from by
                unfold mrk
                rw [show (((i3 / 2 : Nat) : Int)) % 256 = (i3 : Int) / 2 % 256 by omega, show (((i3 / 2 : Nat) : Int)) / 256 = (i3 : Int) / 512 by omega])
              clear hpe zc hre hn3 hl3 hln HK
              go_upto_region 42 with fail
              have hc0 := below_step HBS.out (below_drew wr)
              refine wp_region_plan (quiets [0, 1, 2, 3, 4, 5, 6, 7, 8, 9] ++ ((true, 10) :: ((true, 11) :: ((true, 12) :: ((true, 13) :: ((true, 14) :: [])))))) (fun W => Below wS.heap.size wS W) (by kernel_rfl) (by kernel_rfl) hc0 ?_
              apply mix_quiets [0, 1, 2, 3, 4, 5, 6, 7, 8, 9] _ (by kernel_rfl) hc0
              case h =>
                intro W hW
                have e0 := HTR.out W hW
                clear hW
                refine still_of_quiet _ _ ?_
                simp only [segOps, List.getElem?_toArray, List.getElem?_cons_zero, List.getElem?_cons_succ, Option.toList_some, List.nil_append, List.cons_append, List.append_nil]
                repeat (go_big_quiet_step (fail))
                exact wpQuiet_nil rfl
              refine mix_writes 10 ⟨some 268, _, _, _, _, _⟩ rfl _ ?_
              change wpList _ _ _ _ _ wr.drew
              have HC1 := Aside0.mk hc0
              clear hc0 HBS
              generalize wr.drew = w41 at *
              go_wp2_with fail
              have HBB := Aside0.mk (blk_new w41 (.cells #[.int .u8 ((i3 : Int) / 2 % 256), .int .u8 ((i3 : Int) / 512)] 5))
              have HC2 := Aside0.mk (below_step HC1.out (below2a w41 (.cells #[.int .u8 ((i3 : Int) / 2 % 256), .int .u8 ((i3 : Int) / 512)] 5)))
              refine ⟨HC2.out, ?_⟩
              clear HC1
              generalize w41.alloc (.cells #[.int .u8 ((i3 : Int) / 2 % 256), .int .u8 ((i3 : Int) / 512)] 5) = w42 at *
              generalize w41.heap.size = h41 at *
              refine mix_writes 11 ⟨some 269, _, _, _, _, _⟩ rfl _ ?_
              have hcv := conv2 w42 h41 _ _ HBB.out
              go_wp2_with fail
              clear hcv HBB
              refine ⟨HC2.out, ?_⟩
              have hmr := HMR.out
              obtain ⟨sn, hsn⟩ : ∃ sn, strOfNums [(i3 : Int) / 2 % 256, (i3 : Int) / 512] = sn := ⟨_, rfl⟩
              have hsz : sn.size = 2 := by rw [← hsn]; rfl
              rw [hsn] at hmr
              rw [hsn]
              have HM2 := Aside0.mk hmr
              clear hmr hsn
              refine mix_writes 12 ⟨some 270, _, _, _, _, _⟩ rfl _ ?_
              go_wp2_with fail
              rw [HM2.out]
              refine ⟨HC2.out, ?_⟩
              clear hsz
              refine mix_writes 13 ⟨some 271, _, _, _, _, _⟩ rfl _ ?_
              have HA2 := Aside0.mk (HAL.out w42 HC2.out)
              go_wp2_with (go_at_call 46; (with_reducible refine HA2.out.mono ?_); rintro e w43 ⟨rfl, ⟨n43, rfl⟩⟩)
              have HC3 := Aside0.mk (below_step HC2.out (below_drewN w42 n43))
              refine ⟨HC3.out, ?_⟩
              clear HA2 HC2
              generalize w42.drewN n43 = w43 at *
              refine mix_writes 14 ⟨some 272, _, _, _, _, _⟩ rfl _ ?_
              go_wp2_with fail
              refine ⟨HC3.out, ?_⟩
              refine mix_done ?_
              go_wp2_with fail
              go_roundg k1
              case measure => have := HK'.out; omega
              case rel => exact ⟨i3 + 1, congrArg (Value.int .i64) (by omega), HK', HC3⟩
            · have cb : decide ((i3 : Int) < (r : Int)) = false := decide_eq_false ci
              have cb2 : decide (i3 < r) = false := decide_eq_false (by omega)
              obtain rfl : gk = 0 := by have := HK.out; omega
              clear ci HK
              go_upto_region 44 with fail
              go_wp2_with fail
              go_loopg [33] L.length (fun kq v33 w' => ∃ i4 : Nat, v33 = .int .i64 (i4 : Int) ∧ Aside0 (i4 + kq = L.length) ∧ Aside0 (Below wS.heap.size wS w'))
              case atStart => exact ⟨0, rfl, ⟨by omega⟩, HBS⟩
              case round =>
                clear HBS
                obtain ⟨i4, rfl, HK, HBS⟩ := hrel
                clear cb cb2
                by_cases ci : (i4 : Int) < (L.length : Int)
                · cases gk with
                  | zero => exact absurd HK.out (by omega)
                  | succ k1 =>
                  have cb : decide ((i4 : Int) < (L.length : Int)) = true := decide_eq_true ci
                  have cb2 : decide (i4 < L.length) = true := decide_eq_true (by omega)
                  have p2 : (0 ≤ (i4 : Int)) = True := eq_true (by omega)
                  have p3 : ((i4 : Int) < (L.length : Int)) = True := eq_true ci
                  have HK' := Aside0.mk (show i4 + 1 + k1 = L.length by have := HK.out; omega)
                  obtain ⟨e9, he9⟩ : ∃ e9, E9[i4]? = some e9 := ⟨_, List.getElem?_eq_getElem (by rw [HEL.out]; omega)⟩
                  obtain ⟨ek, hek⟩ : ∃ ek, Ek[i4]? = some ek := ⟨_, List.getElem?_eq_getElem (by rw [HL1E.out.klen]; omega)⟩
                  obtain ⟨gK, hgK, zk, hrk⟩ := HL1E.out.kept.at_ hek
                  obtain ⟨e9', he9', hkl, _⟩ := HL1E.out.kat i4 ek hek
                  rw [he9] at he9'
                  obtain rfl := Option.some.inj he9'
                  obtain ⟨gS, hgS⟩ := ownsRow_addr HL1E.out.sz (by omega)
                  obtain ⟨gA, uA, hgA, _, zf, _⟩ := HL1E.out.at_ he9
                  obtain ⟨hdn, _⟩ := HL1E.out.done i4 e9 (by omega) he9
                  have hn9 : e9.l.length ≤ 512 := by
                    have h := HAT.out i4 e9 he9
                    rw [h.1]
                    exact HG.out.le _ h.2
                  subst hgK hgS hgA
                  obtain ⟨n9', hn9'⟩ : ∃ n, e9.l.length = n := ⟨_, rfl⟩
                  have hlk : ek.l.length = n9' + 65 := by rw [hkl, List.length_replicate, hn9']
                  have zs : wS.cell? ⟨gS, i4, none⟩ = some (.int .i64 ((n9' : Int) + 65)) := by
                    have h := HL1E.out.sz.cells (g := gS) rfl i4 (.int .i64 ((e9.l.length + 65 : Nat) : Int)) (by rw [List.getElem?_map, List.getElem?_take, if_pos (by omega), he9]; rfl)
                    rw [add_plain, hn9'] at h
                    rw [h]
                    simp
                  rw [hlk] at zk
                  rw [hn9'] at zf
                  have HCE := Aside0.mk (show ∀ W, Below wS.heap.size wS W → W.cell? ⟨gK, i4, none⟩ = some (.slice ek.A (n9' + 65) ek.c) ∧ W.cell? ⟨gS, i4, none⟩ = some (.int .i64 ((n9' : Int) + 65)) ∧ W.cell? ⟨gA, i4 * 2 + 1, none⟩ = some (.slice e9.A n9' e9.c) from fun W hW => ⟨(hW.cell (World.block_lt_of_cell? _ _ zk)).trans zk, (hW.cell (World.block_lt_of_cell? _ _ zs)).trans zs, (hW.cell (World.block_lt_of_cell? _ _ zf)).trans zf⟩)
                  have HAK := Aside0.mk (show ∀ W, Below wS.heap.size wS W → Calls Try.prog 46 #[.slice ek.A (n9' + 65) ek.c, .string (mrk 109 i4)] W fun e w' => e = .returned (.bool true) ∧ Drawn0 W w' from fun W hW => by
                    have h1 := (hrk.below hW).rd.rd
                    rw [hkl, List.length_replicate, hn9'] at h1
                    exact all_any ek.A (n9' + 65) ek.c _ W h1 (by omega))
                  have HAF := Aside0.mk (show ∀ W, Below wS.heap.size wS W → Calls Try.prog 46 #[.slice e9.A n9' e9.c, .string (mrk 109 i4)] W fun e w' => e = .returned (.bool true) ∧ Drawn0 W w' from fun W hW => by
                    have h1 := (hdn.below hW).rd
                    rw [List.length_replicate, hn9'] at h1
                    exact all_any e9.A n9' e9.c _ W h1 (by omega))
                  have hnn : (n9' : Int) ≤ 512 := by omega
                  have hcv := conv2 (wr.alloc (.cells #[.int .u8 ((i4 : Int) % 256), .int .u8 ((i4 : Int) / 256)] 5)) wr.heap.size _ _ (blk_new wr (.cells #[.int .u8 ((i4 : Int) % 256), .int .u8 ((i4 : Int) / 256)] 5))
                  have hsz : (strOfNums [(i4 : Int) % 256, (i4 : Int) / 256]).size = 2 := rfl
                  have HM2 := Aside0.mk (show (⟨#[109]⟩ : ByteArray) ++ strOfNums [(i4 : Int) % 256, (i4 : Int) / 256] = mrk 109 i4 from rfl)
                  have HB2 := Aside0.mk (below_step HBS.out (below2a wr (.cells #[.int .u8 ((i4 : Int) % 256), .int .u8 ((i4 : Int) / 256)] 5)))
                  clear he9 hek zk hrk hkl zf hdn hn9 hlk zs hn9' HK HBS
                  go_upto_region 48 with fail
                  clear hcv hsz
                  rw [HM2.out]
                  generalize wr.alloc (.cells #[.int .u8 ((i4 : Int) % 256), .int .u8 ((i4 : Int) / 256)] 5) = w51 at *
                  have hc0 := below_step HB2.out (below_drew w51)
                  refine wp_region_plan (quiets [0, 1, 2, 3, 4, 5, 6, 7, 8, 9, 10, 11, 12, 13, 14, 15] ++ ((true, 16) :: (quiets [17, 18, 19, 20, 21, 22, 23, 24, 25] ++ ((true, 26) :: (quiets [27, 28] ++ []))))) (fun W => Below wS.heap.size wS W) (by kernel_rfl) (by kernel_rfl) hc0 ?_
                  apply mix_quiets [0, 1, 2, 3, 4, 5, 6, 7, 8, 9, 10, 11, 12, 13, 14, 15] _ (by kernel_rfl) hc0
                  case h =>
                    intro W hW
                    obtain ⟨e0, e1, e2⟩ := HCE.out W hW
                    clear hW
                    refine still_of_quiet _ _ ?_
                    simp only [segOps, List.getElem?_toArray, List.getElem?_cons_zero, List.getElem?_cons_succ, Option.toList_some, List.nil_append, List.cons_append, List.append_nil]
                    repeat (go_big_quiet_step (fail))
                    exact wpQuiet_nil rfl
                  refine mix_writes 16 ⟨some 303, _, _, _, _, _⟩ rfl _ ?_
                  change wpList _ _ _ _ _ w51.drew
                  have HC1 := Aside0.mk hc0
                  have HA1 := Aside0.mk (HAK.out _ hc0)
                  clear hc0 HB2
                  generalize w51.drew = w52 at *
                  go_wp2_with (go_at_call 46; (with_reducible refine HA1.out.mono ?_); rintro e w53 ⟨rfl, ⟨n53, rfl⟩⟩)
                  have HC3 := Aside0.mk (below_step HC1.out (below_drewN w52 n53))
                  refine ⟨HC3.out, ?_⟩
                  clear HC1 HA1
                  generalize w52.drewN n53 = w53 at *
                  apply mix_quiets [17, 18, 19, 20, 21, 22, 23, 24, 25] _ (by kernel_rfl) HC3.out
                  case h =>
                    intro W hW
                    obtain ⟨e0, e1, e2⟩ := HCE.out W hW
                    clear hW
                    refine still_of_quiet _ _ ?_
                    simp only [segOps, List.getElem?_toArray, List.getElem?_cons_zero, List.getElem?_cons_succ, Option.toList_some, List.nil_append, List.cons_append, List.append_nil]
                    repeat (go_big_quiet_step (fail))
                    exact wpQuiet_nil rfl
                  refine mix_writes 26 ⟨some 313, _, _, _, _, _⟩ rfl _ ?_
                  have HA2 := Aside0.mk (HAF.out _ HC3.out)
                  go_wp2_with (go_at_call 46; (with_reducible refine HA2.out.mono ?_); rintro e w54 ⟨rfl, ⟨n54, rfl⟩⟩)
                  have HC4 := Aside0.mk (below_step HC3.out (below_drewN w53 n54))
                  refine ⟨HC4.out, ?_⟩
                  clear HC3 HA2
                  generalize w53.drewN n54 = w54 at *
                  apply mix_quiets [27, 28] _ (by kernel_rfl) HC4.out
                  case h =>
                    intro W hW
                    clear hW
                    refine still_of_quiet _ _ ?_
                    simp only [segOps, List.getElem?_toArray, List.getElem?_cons_zero, List.getElem?_cons_succ, Option.toList_some, List.nil_append, List.cons_append, List.append_nil]
                    repeat (go_big_quiet_step (fail))
                    exact wpQuiet_nil rfl
                  refine mix_done ?_
                  go_wp2_with fail
                  go_roundg k1
                  case measure => have := HK'.out; omega
                  case rel => exact ⟨i4 + 1, congrArg (Value.int .i64) (by omega), HK', HC4⟩
                · have cb : decide ((i4 : Int) < (L.length : Int)) = false := decide_eq_false ci
                  have cb2 : decide (i4 < L.length) = false := decide_eq_false (by omega)
                  obtain rfl : gk = 0 := by have := HK.out; omega
                  clear ci HK
                  go_upto_region 50 with fail
                  go_wp2_with fail
                  go_loopg [35] L.length (fun kq v35 w' => ∃ i5 : Nat, v35 = .int .i64 (i5 : Int) ∧ Aside0 (i5 + kq = L.length) ∧ Aside0 (Below wS.heap.size wS w'))
                  case atStart => exact ⟨0, rfl, ⟨by omega⟩, HBS⟩
                  case round =>
                    clear HBS
                    obtain ⟨i5, rfl, HK, HBS⟩ := hrel
                    clear cb cb2
                    by_cases ci : (i5 : Int) < (L.length : Int)
                    · cases gk with
                      | zero => exact absurd HK.out (by omega)
                      | succ k1 =>
                      have cb : decide ((i5 : Int) < (L.length : Int)) = true := decide_eq_true ci
                      have cb2 : decide (i5 < L.length) = true := decide_eq_true (by omega)
                      have p2 : (0 ≤ (i5 : Int)) = True := eq_true (by omega)
                      have p3 : ((i5 : Int) < (L.length : Int)) = True := eq_true ci
                      have HK' := Aside0.mk (show i5 + 1 + k1 = L.length by have := HK.out; omega)
                      obtain ⟨et, het⟩ : ∃ et, Et[i5]? = some et := ⟨_, List.getElem?_eq_getElem (by rw [HLO.out.tlen]; omega)⟩
                      obtain ⟨gT, hgT, zt, hrt⟩ := HLO.out.tw.at_ het
                      have htl := HLO.out.tat i5 et het
                      obtain ⟨ad, B1, d1, hA, z0, z1, hd1, hk1⟩ := at_T80 (Kd.C_below HL5.out.2 HXE.out.2.1) (i5 : Int) (by omega) (by omega)
                      rw [Int.toNat_natCast, rd80_nat, ← htl] at z1
                      rw [rd80_nat, ← htl] at hd1 hk1
                      have hn5 : et.l.length ≤ 512 := by
                        rw [htl]
                        exact HG.out.le _ (getD_mem (by omega))
                      subst hgT hA
                      have HCE := Aside0.mk (show ∀ W, Below wS.heap.size wS W → W.cell? ⟨gT, i5, none⟩ = some (.slice et.A et.l.length et.c) ∧ W.cell? ⟨(ad.add (i5 * 2)).block, (ad.add (i5 * 2)).off + 1, none⟩ = some (.slice B1 et.l.length d1) from fun W hW => ⟨(hW.cell (World.block_lt_of_cell? _ _ zt)).trans zt, (hW.cell (World.block_lt_of_cell? _ _ z1)).trans z1⟩)
                      have HSP := Aside0.mk (show ∀ W, Below wS.heap.size wS W → Calls Try.prog 26 #[.slice et.A et.l.length et.c, .slice B1 et.l.length d1] W fun e w' => e = .returned (.bool true) ∧ Drawn0 W w' from fun W hW =>
                        granarylaw3_samePairs.calls 1000 et.A et.c et.l B1 d1 et.l true W (hrt.below hW).rd.rd hrt.le (Kd.C_below hk1 hW) hd1 (samePairs_self et.l (by omega) 1000 (by omega)))
                      have hnn : (et.l.length : Int) ≤ 512 := by omega
                      clear het zt hrt htl z0 z1 hd1 hk1 hn5 HK
                      go_upto_region 53 with fail
                      have hc0 := below_step HBS.out (below_drew wr)
                      refine wp_region_plan (quiets [0, 1, 2, 3, 4, 5, 6, 7, 8] ++ ((true, 9) :: (quiets [10] ++ []))) (fun W => Below wS.heap.size wS W) (by kernel_rfl) (by kernel_rfl) hc0 ?_
                      apply mix_quiets [0, 1, 2, 3, 4, 5, 6, 7, 8] _ (by kernel_rfl) hc0
                      case h =>
                        intro W hW
                        obtain ⟨e0, e1⟩ := HCE.out W hW
                        clear hW
                        refine still_of_quiet _ _ ?_
                        simp only [segOps, List.getElem?_toArray, List.getElem?_cons_zero, List.getElem?_cons_succ, Option.toList_some, List.nil_append, List.cons_append, List.append_nil]
                        repeat (go_big_quiet_step (fail))
                        exact wpQuiet_nil rfl
                      refine mix_writes 9 ⟨some 331, _, _, _, _, _⟩ rfl _ ?_
                      change wpList _ _ _ _ _ wr.drew
                      have HC1 := Aside0.mk hc0
                      have HA1 := Aside0.mk (HSP.out _ hc0)
                      clear hc0 HBS
                      generalize wr.drew = w52 at *
                      go_wp2_with (go_at_call 26; (with_reducible refine HA1.out.mono ?_); rintro e w53 ⟨rfl, ⟨n53, rfl⟩⟩)
                      have HC3 := Aside0.mk (below_step HC1.out (below_drewN w52 n53))
                      refine ⟨HC3.out, ?_⟩
                      clear HC1 HA1
                      generalize w52.drewN n53 = w53 at *
                      apply mix_quiets [10] _ (by kernel_rfl) HC3.out
                      case h =>
                        intro W hW
                        clear hW
                        refine still_of_quiet _ _ ?_
                        simp only [segOps, List.getElem?_toArray, List.getElem?_cons_zero, List.getElem?_cons_succ, Option.toList_some, List.nil_append, List.cons_append, List.append_nil]
                        repeat (go_big_quiet_step (fail))
                        exact wpQuiet_nil rfl
                      refine mix_done ?_
                      go_wp2_with fail
                      go_roundg k1
                      case measure => have := HK'.out; omega
                      case rel => exact ⟨i5 + 1, congrArg (Value.int .i64) (by omega), HK', HC3⟩
                    · have cb : decide ((i5 : Int) < (L.length : Int)) = false := decide_eq_false ci
                      have cb2 : decide (i5 < L.length) = false := decide_eq_false (by omega)
                      obtain rfl : gk = 0 := by have := HK.out; omega
                      clear ci HK
                      have hq : (L.length : Int) / 2 = (k : Int) := by have := HKQ.out; omega
                      have p1 : (0 ≤ (k : Int)) = True := eq_true (by omega)
                      have p2 : ((k : Int) ≤ (c : Int)) = True := eq_true (by have := HL5.out.1; have := HKQ.out; omega)
                      have HBW := Aside0.mk (show Below w.heap.size w wr from below_step HXE.out.1 HBS.out)
                      have HB5r := Aside0.mk (show Below w5.heap.size w5 wr from below_step HXE.out.2.1 HBS.out)
                      have HLr := Aside0.mk (show ∀ n, Kd.C k80 (wr.drewN n) A L.length L from fun n => Kd.C_below HL5.out.2 (below_step HB5r.out (below_drewN wr n)))
                      have HSa := Aside0.mk (show ∀ n, Calls Try.prog 32 #[.slice A20 L.length q20, .slice A L.length c] (wr.drewN n) fun e w' => e = .returned (.bool true) ∧ Drawn0 (wr.drewN n) w' from fun n => same_own HG.out HE20.out (HG20.out.below (below_step HBS.out (below_drewN wr n))) (HLr.out n) HL5.out.1)
                      have HSb := Aside0.mk (show ∀ n, Calls Try.prog 32 #[.slice A11 L.length q11, .slice A L.length c] (wr.drewN n) fun e w' => e = .returned (.bool true) ∧ Drawn0 (wr.drewN n) w' from fun n => same_own HG.out HE11.out (HXE.out.2.2.1.below (below_step HBS.out (below_drewN wr n))) (HLr.out n) HL5.out.1)
                      have HSc := Aside0.mk (show ∀ n, Calls Try.prog 32 #[.slice A15 k q15, .slice A k c] (wr.drewN n) fun e w' => e = .returned (.bool true) ∧ Drawn0 (wr.drewN n) w' from fun n => by
                        have h := same_own HGK.out HE15.out (HXE.out.2.2.2.below (below_step HBS.out (below_drewN wr n))) (A1 := A) (c1 := c) (by rw [HKL.out]; exact C_take (HLr.out n) k (by have := HKQ.out; omega)) (by rw [HKL.out]; have := HL5.out.1; have := HKQ.out; omega)
                        simp only [HKL.out] at h
                        exact h)
                      have HSd := Aside0.mk (show ∀ n, Calls Try.prog 47 #[.int .i64 (wn : Int), .slice A L.length c, .agg #[.string (idxB L), .string (dataB L)]] (wr.drewN n) fun e w' => e = .returned (.bool true) ∧ Below (wr.drewN n).heap.size (wr.drewN n) w' from fun n => anew_any HW.out.1 HW.out.2 HG.out A c (wr.drewN n) (HLr.out n) HL5.out.1)
                      have hx0 : ∀ n, (wr.drewN n).cell? ⟨g5, 0, none⟩ = some (.string (idxB L)) := fun n => blk_cell (blk_below HX5.out (below_step HB5r.out (below_drewN wr n))) 0
                      have hx1 : ∀ n, (wr.drewN n).cell? ⟨g5, 1, none⟩ = some (.string (dataB L)) := fun n => blk_cell (blk_below HX5.out (below_step HB5r.out (below_drewN wr n))) 1
                      have hSa0 : Calls Try.prog 32 #[.slice A20 L.length q20, .slice A L.length c] wr fun e w' => e = .returned (.bool true) ∧ Drawn0 wr w' := HSa.out 0
                      have HSa0 := Aside0.mk hSa0
                      clear hSa0
                      go_wp2_with (first
                        | (go_at_call 32; (with_reducible refine HSa0.out.mono ?_); rintro e w61 ⟨rfl, ⟨n61, rfl⟩⟩)
                        | (go_at_call 32; (with_reducible refine (HSb.out n61).mono ?_); rintro e w62 ⟨rfl, ⟨n62, rfl⟩⟩)
                        | (go_at_call 32; (with_reducible refine (HSc.out (n61 + n62)).mono ?_); rintro e w63 ⟨rfl, ⟨n63, rfl⟩⟩)
                        | (go_at_call 47; (with_reducible refine (HSd.out (n61 + n62 + n63)).mono ?_); rintro e w64 ⟨rfl, hb64⟩))
                      go_ret
                      exact ⟨rfl, below_step HBW.out (below_step (below_drewN wr (n61 + n62 + n63)) hb64)⟩

end Go.Proofs.Ytkfhedppnlocpaa.Q
