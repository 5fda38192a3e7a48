/- Contract of record.Decode. Condition: the texts are not too long. Contract of granaryref3.rises. Condition: the text is not too long, its length fits. Contract of granaryref3.Decode. Condition: the texts are not too long. -/
import Derived.Test.YtkfhedppnlocpaaED
import Derived.Laws.DeepStrings4
set_option linter.unusedVariables false
set_option linter.unusedSimpArgs false
namespace Go.Proofs.Ytkfhedppnlocpaa.Q
open Go.RowKit Go.Proofs.YtkfhedppnlocpaaW.PrintWords Go.Proofs.YtkfhedppnlocpaaW.PrintLast Go.Proofs.YtkfhedppnlocpaaW.PrintMore

theorem cut_str (x : ByteArray) (a b : Nat) (h1 : a ≤ b) (h2 : b ≤ x.size) (i j : Int) (hi : i = (a : Int)) (hj : j = (b : Int)) (w : World) : (Instr.slice 9 (.string x) (some (.int .i64 i)) (some (.int .i64 j)) none).run Try.prog w = .ok (.string (x.extract a b)) w := by
  subst hi hj
  have h := run_slice_string_if (P := Try.prog) (w := w) 9 x .i64 .i64 (a : Int) (b : Int) Try.underlying9
  rw [h, if_pos (by omega), if_pos (by omega), Int.toNat_natCast, Int.toNat_natCast]
theorem upAll_false {wn : Nat} {x : ByteArray} {i : Nat} : ∀ {n : Nat}, i < n → upAt wn x i = false → upAll wn x n = false := by
  intro n
  induction n with
  | zero => intro h; omega
  | succ n ih =>
    intro h hu
    rw [upAll]
    rcases Nat.lt_or_ge i n with h1 | h1
    · rw [ih h1 hu]; rfl
    · obtain rfl : i = n := by omega
      rw [hu, Bool.and_false]
abbrev OCh (x d : ByteArray) : Obj := .cells #[.string x, .string d] 53
theorem make80 (n : Nat) (hn : n ≤ 4194304) (u : World) : (Instr.makeSlice 54 (.int .i64 (n : Int)) (.int .i64 (n : Int))).run Try.prog u = .ok (.slice (some ⟨u.heap.size, 0, none⟩) n n) (u.alloc (.cells (madeCells #[.string ⟨#[]⟩, .slice none 0 0] (n * 2)) 80)) := by
  obtain ⟨i0, hi, hz0, hz1, hz2⟩ := info_parts info80
  have h := run_make (P := Try.prog) u 54 80 i0 _ Try.underlying54 hi hz0 .i64 .i64 (n : Int) (n : Int) (by omega) (Int.le_refl _) (by rw [hz2]; omega) (by omega)
  rw [hz1] at h
  simpa [Value.cells] using h
/-- The chunk's box and the groups, in memory of the call's own. -/
structure DI (w W : World) (x d : ByteArray) (g q : Nat) (E : List GE) : Prop where
  bx : W.heap[w.heap.size]? = some (.cells #[.string x, .string d] 53 (0, 0))
  gr : GR w.heap.size W (some ⟨g, 0, none⟩) q E
  bel : Below w.heap.size w W
theorem GR.cell1 {B : Nat} {W : World} {g q : Nat} {E : List GE} (h : GR B W (some ⟨g, 0, none⟩) q E) (i : Nat) (e : GE) (he : E[i]? = some e) : W.cell? ⟨g, i * 2 + 1, none⟩ = some (.slice e.A e.l.length e.c) := by
  obtain ⟨g', hg', hc⟩ := own_at (c := gcell) (by decide) gcell_length h.row i e he
  simp only [Option.some.injEq, Addr.mk.injEq, and_true] at hg'
  subst hg'
  exact hc 1 _ rfl
theorem DI.gne {w W : World} {x d : ByteArray} {g q : Nat} {E : List GE} (h : DI w W x d g q E) (hE : 0 < E.length) : g ≠ w.heap.size := by
  intro e
  obtain ⟨cur, hc⟩ := ownsRow_type h.gr.row g rfl
  rw [e, h.bx] at hc
  simp only [Option.some.injEq, Obj.cells.injEq] at hc
  exact absurd hc.2.1 (by decide)
theorem DI.grow {w W W' : World} {x d : ByteArray} {g q : Nat} {E : List GE} (h : DI w W x d g q E) (hb : Below W.heap.size W W') : DI w W' x d g q E :=
  ⟨(hb.block _ (Array.getElem?_eq_some_iff.1 h.bx).1).trans h.bx, h.gr.below hb, below_step h.bel hb⟩
theorem DI.hash {w W : World} {x d : ByteArray} {g q : Nat} {E : List GE} (h : DI w W x d g q E) (i : Nat) (e : GE) (he : E[i]? = some e) (s : ByteArray) : DI w (W.setCell ⟨g, i * 2, none⟩ (.string s)) x d g q (E.set i { e with f0 := s }) :=
  ⟨(Below.heap_setCell W ⟨g, i * 2, none⟩ _ _ (fun hh => h.gne (Nat.lt_of_le_of_lt (Nat.zero_le _) (List.getElem?_eq_some_iff.1 he).1) hh.symm)).trans h.bx, h.gr.setHash i e he s, h.bel.setCell (p := ⟨g, i * 2, none⟩) ((ownsRow_lt h.gr.row g rfl).1) _⟩
theorem DI.pairs {w W : World} {x d : ByteArray} {g q : Nat} {E : List GE} (h : DI w W x d g q E) (i : Nat) (e : GE) (he : E[i]? = some e) {A : Option Addr} {c : Nat} {l : List S94} (hin : OwnP W w.heap.size A c l) (hn : ∀ k, rowB A = some k → ¬ GS (some ⟨g, 0, none⟩) E k) : DI w (W.setCell ⟨g, i * 2 + 1, none⟩ (.slice A l.length c)) x d g q (E.set i ⟨e.f0, A, c, l⟩) :=
  ⟨(Below.heap_setCell W ⟨g, i * 2 + 1, none⟩ _ _ (fun hh => h.gne (Nat.lt_of_le_of_lt (Nat.zero_le _) (List.getElem?_eq_some_iff.1 he).1) hh.symm)).trans h.bx, h.gr.setPairs i e he hin hn, h.bel.setCell (p := ⟨g, i * 2 + 1, none⟩) ((ownsRow_lt h.gr.row g rfl).1) _⟩

set_option maxHeartbeats 8000000 in
set_option maxRecDepth 100000 in
theorem record_Decode.calls (wd : Int) (x d : ByteArray) (w : World) (hx : x.size ≤ 16777216) (hd : d.size ≤ 140737488351232) :
    Calls Try.prog 30 #[.int .i64 wd, .agg #[.string x, .string d]] w (DecRes (decF wd x d) w) := by
  have HX := Aside0.mk hx
  have HD := Aside0.mk hd
  clear hx hd
  by_cases hw : wd < 1 ∨ 16 < wd
  · have he : decF wd x d = ([], 30) := by unfold decF; rw [if_pos hw]
    rw [he]
    have HW := Aside0.mk hw
    clear hw he
    go_enter Try.func30, Try.ntmps30
    go_wp2_with (go_at_call 57; (with_reducible refine (widthOK_no wd _ HW.out).mono ?_); rintro e w' ⟨rfl, rfl⟩)
    go_ret2
    exact DecRes.err _ _ _ (below2a w _)
  obtain ⟨wn, rfl⟩ : ∃ wn : Nat, wd = (wn : Int) := ⟨wd.toNat, by omega⟩
  have HW1 := Aside0.mk (show 1 ≤ (wn : Int) by omega)
  have HW2 := Aside0.mk (show decide ((wn : Int) ≤ 16) = true from decide_eq_true (by omega))
  have HWN := Aside0.mk (show 1 ≤ wn ∧ wn ≤ 16 by omega)
  have hw4 : wrap64 ((wn : Int) + 4) = (wn : Int) + 4 := Go.IntWalk.wrap64_in _ (by omega)
  have he : decF (wn : Int) x d = if x.size % (wn + 4) ≠ 0 then ([], 38) else if upAll wn x (x.size / (wn + 4)) = false then ([], 38) else decTail wn x d (dec2 wn x d (x.size / (wn + 4)) 0 0) := by
    unfold decF
    rw [if_neg hw, Int.toNat_natCast]
  rw [he]
  clear hw he
  have HB := Aside0.mk (blk_new w (OCh x d))
  have HBW := Aside0.mk (below2a w (OCh x d))
  have hm6 : wrap64 ((wn : Int) + 4) = ((wn + 4 : Nat) : Int) := by rw [hw4]; omega
  obtain ⟨m, hm⟩ : ∃ m, wn + 4 = m := ⟨_, rfl⟩
  rw [hm] at hm6
  have HM := Aside0.mk (show 5 ≤ m ∧ m ≤ 20 ∧ wn + 4 = m from ⟨by have := HWN.out; omega, by have := HWN.out; omega, hm⟩)
  have HM6 := Aside0.mk hm6
  rw [hm]
  have hm5 : (5 : Int) ≤ (m : Int) := by have := HM.out; omega
  have hm20 : (m : Int) ≤ 20 := by have := HM.out; omega
  clear hw4 hm6 hm
  by_cases hr : x.size % m ≠ 0
  · rw [if_pos hr]
    have hr1 : ((x.size : Int) % (m : Int) != 0) = true := by
      simp only [bne_iff_ne, ne_eq]
      omega
    clear hr
    go_enter Try.func30, Try.ntmps30
    go_upto_region 1 with fail
    generalize w.alloc (OCh x d) = w1 at *
    have x0 := blk_cell HB.out 0
    go_upto_region 4 with (go_at_call 57; (with_reducible refine (widthOK_yes wn _ HW1.out HW2.out).mono ?_); rintro e w' ⟨rfl, rfl⟩)
    rw [HM6.out]
    have HR1 := Aside0.mk hr1
    clear hr1
    go_upto_if 24 with fail
    rw [HR1.out]
    clear x0
    go_wp2_with fail
    go_ret2
    exact DecRes.err _ _ _ HBW.out
  rw [if_neg hr]
  have hr1 : ((x.size : Int) % (m : Int) != 0) = false := by
    simp only [bne_eq_false_iff_eq]
    omega
  have HRM := Aside0.mk (show x.size % m = 0 by omega)
  have hdv : (x.size : Int) / (m : Int) = ((x.size / m : Nat) : Int) := by omega
  obtain ⟨n, hn⟩ : ∃ n, x.size / m = n := ⟨_, rfl⟩
  rw [hn] at hdv ⊢
  have HN := Aside0.mk (show n ≤ 4194304 ∧ n * m = x.size from by
    have h1 := Nat.div_add_mod x.size m
    rw [HRM.out, hn, Nat.add_zero, Nat.mul_comm] at h1
    refine ⟨?_, h1⟩
    have := HX.out
    have := HM.out
    have h2 : n * 5 ≤ n * m := Nat.mul_le_mul_left n (by omega)
    omega)
  have HDV := Aside0.mk hdv
  clear hr hn hdv
  generalize hres : (if upAll wn x n = false then ([], 38) else decTail wn x d (dec2 wn x d n 0 0)) = res
  have HRES := Aside0.mk hres
  clear hres
  go_enter Try.func30, Try.ntmps30
  go_upto_region 1 with fail
  generalize w.alloc (OCh x d) = w1 at *
  have x0 := blk_cell HB.out 0
  go_upto_region 4 with (go_at_call 57; (with_reducible refine (widthOK_yes wn _ HW1.out HW2.out).mono ?_); rintro e w' ⟨rfl, rfl⟩)
  rw [HM6.out]
  have hdv := HDV.out
  have hmk := make80 n HN.out.1
  have hnb : (n : Int) ≤ 4194304 := by have := HN.out.1; omega
  go_upto_region 7 with fail
  have HI := Aside0.mk (show DI w (w1.alloc (.cells (madeCells #[.string ⟨#[]⟩, .slice none 0 0] (n * 2)) 80)) x d w1.heap.size n (List.replicate n zGE) from by
    have hg := GR.made w1 n HN.out.1
    have hb := below2a w1 (.cells (madeCells #[.string ⟨#[]⟩, .slice none 0 0] (n * 2)) 80)
    refine ⟨(hb.block _ (Array.getElem?_eq_some_iff.1 HB.out).1).trans HB.out, ⟨own_weaken hg.row HBW.out.size, fun e he => own_weaken (hg.inn e he) HBW.out.size, hg.pw⟩, below_step HBW.out hb⟩)
  clear hmk hdv x0
  generalize w1.heap.size = g at *
  generalize w1.alloc (.cells (madeCells #[.string ⟨#[]⟩, .slice none 0 0] (n * 2)) 80) = w2 at *
  go_wp2_with fail
  go_loopg [33] n (fun kq v33 w' => ∃ (i : Nat) (E : List GE), v33 = .int .i64 (i : Int) ∧ Aside0 (i + kq = n) ∧ Aside0 (DI w w' x d g n E) ∧ Aside0 (E.length = n ∧ (∀ j, j < i → ∃ e, E[j]? = some e ∧ e.f0 = hashAt wn x j) ∧ (∀ (j : Nat) e, E[j]? = some e → e.A = none ∧ e.c = 0 ∧ e.l = [])) ∧ Aside0 (upAll wn x i = true))
  case atStart => exact ⟨0, List.replicate n zGE, rfl, ⟨by omega⟩, HI, ⟨by rw [List.length_replicate], fun j hj => absurd hj (by omega), fun j e he => by
    rw [List.getElem?_replicate] at he
    split at he
    · obtain rfl := Option.some.inj he
      exact ⟨rfl, rfl, rfl⟩
    · cases he⟩, ⟨rfl⟩⟩
  case round =>
    obtain ⟨i, E, rfl, HK, HI2, HE, HU⟩ := hrel
    by_cases ci : (i : Int) < (n : Int)
    · cases gk with
      | zero => exact absurd HK.out (by omega)
      | succ k1 =>
      have hil : i < n := by omega
      have cb : decide ((i : Int) < (n : Int)) = true := decide_eq_true ci
      have cb2 : decide (i < n) = true := decide_eq_true hil
      have p2 : (0 ≤ (i : Int)) = True := eq_true (by omega)
      have p3 : ((i : Int) < (n : Int)) = True := eq_true ci
      have HK' := Aside0.mk (show i + 1 + k1 = n by have := HK.out; omega)
      have x0 := blk_cell HI2.out.bx 0
      obtain ⟨p, hp⟩ : ∃ p : Nat, i * m = p := ⟨_, rfl⟩
      have hmul : (i : Int) * (m : Int) = (p : Int) := by rw [← hp]; simp
      have HP := Aside0.mk (show p + m ≤ x.size from by
        rw [← HN.out.2, ← hp]
        have := Nat.mul_le_mul_right m (show i + 1 ≤ n by omega)
        rw [Nat.add_mul, Nat.one_mul] at this
        exact this)
      have HPE := Aside0.mk hp
      have hp1 : (p : Int) + (wn : Int) ≤ (x.size : Int) := by have := HP.out; have := HM.out; omega
      have hp2 : (p : Int) ≤ 16777216 := by have := HP.out; have := HX.out; omega
      have hw16 : (wn : Int) ≤ 16 := by have := HWN.out; omega
      have hsl := cut_str x p (p + wn) (by omega) (by have := HP.out; have := HM.out; omega) (p : Int) ((p : Int) + (wn : Int)) rfl (by omega) wr
      clear hp
      obtain ⟨e, he⟩ : ∃ e, E[i]? = some e := ⟨_, List.getElem?_eq_getElem (show i < E.length by rw [HE.out.1]; exact hil)⟩
      obtain ⟨g', hg', hc⟩ := own_at (c := gcell) (by decide) gcell_length HI2.out.gr.row i e he
      simp only [Option.some.injEq, Addr.mk.injEq, and_true] at hg'
      subst hg'
      have y0 := hc 0 _ rfl
      have f0 := HI2.out.gr.row.frozenAt (i * 2)
      rw [Nat.add_zero] at y0
      clear hc
      go_upto_region 11 with fail
      have HI3 := Aside0.mk (HI2.out.hash i e he (x.extract p (p + wn)))
      obtain ⟨E', hE'⟩ : ∃ E', E.set i { e with f0 := x.extract p (p + wn) } = E' := ⟨_, rfl⟩
      have hE1 : E'.length = n ∧ (∀ j, j < i + 1 → ∃ e, E'[j]? = some e ∧ e.f0 = hashAt wn x j) ∧ (∀ (j : Nat) e, E'[j]? = some e → e.A = none ∧ e.c = 0 ∧ e.l = []) := by
        rw [← hE']
        refine ⟨by rw [List.length_set]; exact HE.out.1, fun j hj => ?_, fun j e1 h1 => ?_⟩
        · rcases Nat.lt_or_ge j i with hji | hji
          · obtain ⟨e2, h2, h3⟩ := HE.out.2.1 j hji
            exact ⟨e2, by rw [List.getElem?_set, if_neg (by omega)]; exact h2, h3⟩
          · obtain rfl : j = i := by omega
            refine ⟨_, by rw [List.getElem?_set, if_pos rfl, if_pos (by rw [HE.out.1]; exact hil)], ?_⟩
            show x.extract p (p + wn) = hashAt wn x j
            unfold hashAt
            rw [HM.out.2.2, HPE.out]
        · rcases set_idx h1 (by rw [HE.out.1]; exact hil) with ⟨_, g1⟩ | ⟨_, rfl⟩
          · exact HE.out.2.2 j e1 g1
          · exact HE.out.2.2 i e he
      rw [hE'] at HI3
      have HE1 := Aside0.mk hE1
      clear y0 f0 x0 he hE' hE1 HI2 HE hsl
      generalize wr.setCell ⟨g, i * 2, none⟩ (.string (x.extract p (p + wn))) = w3 at *
      have hord : ordN (E'.map GE.g) i = upAt wn x i := by
        obtain ⟨e1, h1, h2⟩ := HE1.out.2.1 i (by omega)
        have k1 : ((E'.map GE.g).getD i z80).f0 = hashAt wn x i := by
          rw [List.getD_eq_getElem?_getD, List.getElem?_map, h1]
          exact h2
        unfold ordN upAt
        rw [k1]
        by_cases ci0 : i = 0
        · subst ci0; rfl
        · obtain ⟨e3, h3, h4⟩ := HE1.out.2.1 (i - 1) (by omega)
          have k2 : ((E'.map GE.g).getD (i - 1) z80).f0 = hashAt wn x (i - 1) := by
            rw [List.getD_eq_getElem?_getD, List.getElem?_map, h3]
            exact h4
          rw [k2]
      obtain ⟨ro, hro, hz⟩ := api_Group_ord (E'.map GE.g) i (by rw [List.length_map, HE1.out.1]; exact hil)
      have HRO := Aside0.mk (show ∀ W, GR w.heap.size W (some ⟨g, 0, none⟩) n E' → Calls Try.prog 67 #[.slice (some ⟨g, 0, none⟩) n n, .int .i64 (i : Int), .func (.func 68) #[] #[]] W fun e w' => e = .returned (.int .i64 ro) ∧ Below W.heap.size W w' from by
        intro W hW
        obtain ⟨h1, h2⟩ := hW.reads
        have h3 := api_Group.calls (some ⟨g, 0, none⟩) n (E'.map GE.g) (i : Int) ro W h2 h1 hro
        have h4 : (E'.map GE.g).length = n := by rw [List.length_map, HE1.out.1]
        rw [h4] at h3
        exact h3)
      rw [hord] at hz
      have HZ := Aside0.mk hz
      have HIL := Aside0.mk hil
      clear hz hro hord hil
      by_cases co : ro ≠ 0
      · have co1 : (ro != 0) = true := by simpa using co
        have HCO := Aside0.mk (show upAt wn x i = false by cases hd : upAt wn x i with | false => rfl | true => exact absurd (HZ.out.2 hd) co)
        clear co
        go_wp2_with (go_at_call 67; (with_reducible refine (HRO.out _ HI3.out.gr).mono ?_); rintro e w4 ⟨rfl, hb⟩; have HI4 := Aside0.mk (HI3.out.grow hb); clear hb)
        go_ret2
        rw [← HRES.out, if_pos (upAll_false HIL.out HCO.out)]
        exact DecRes.err _ _ _ HI4.out.bel
      · replace co : ro = 0 := Decidable.not_not.1 co
        have co1 : (ro != 0) = false := by simpa using co
        have HCO := Aside0.mk (HZ.out.1 co)
        clear co
        go_wp2_with (go_at_call 67; (with_reducible refine (HRO.out _ HI3.out.gr).mono ?_); rintro e w4 ⟨rfl, hb⟩; have HI4 := Aside0.mk (HI3.out.grow hb); clear hb)
        go_roundg k1
        case measure => have := HK'.out; omega
        case rel => exact ⟨i + 1, E', congrArg (Value.int .i64) (by omega), HK', HI4, HE1, ⟨by rw [upAll, HU.out, HCO.out]; rfl⟩⟩
    · have cb : decide ((i : Int) < (n : Int)) = false := decide_eq_false ci
      have cb2 : decide (i < n) = false := decide_eq_false (by omega)
      obtain rfl : i = n := by have := HK.out; omega
      clear ci
      have hres : decTail wn x d (dec2 wn x d i 0 0) = res := by
        have h := HRES.out
        rw [HU.out, if_neg (by decide)] at h
        exact h
      have HRES2 := Aside0.mk hres
      clear hres HRES
      have HN5 := Aside0.mk (show i ≤ 4194304 ∧ i * m = x.size from HN.out)
      clear HK HN HU hnb
      go_wp2_with fail
      go_loopg [9, 58] i (fun kq v9 v58 w' => ∃ (j : Nat) (at_ : Int) (E : List GE) (ps : List (List S94)), v9 = .int .i64 at_ ∧ v58 = .int .i64 (j : Int) ∧ Aside0 (j + kq = i) ∧ Aside0 (DI w w' x d g i E) ∧ Aside0 (E.length = i ∧ ps.length = j ∧ (∀ a, a < i → ∃ e, E[a]? = some e ∧ e.f0 = hashAt wn x a ∧ (∀ l, ps[a]? = some l → e.l = l))) ∧ Aside0 (dec2 wn x d i 0 0 = (dec2 wn x d kq j at_).map fun r => (ps ++ r.1, r.2)))
      case atStart => exact ⟨0, 0, E, [], rfl, rfl, ⟨by omega⟩, HI2, ⟨HE.out.1, rfl, fun a ha => by
        obtain ⟨e, h1, h2⟩ := HE.out.2.1 a ha
        exact ⟨e, h1, h2, fun l hl => by simp at hl⟩⟩, ⟨by
        cases dec2 wn x d i 0 0 with
        | none => rfl
        | some r => simp⟩⟩
      case round =>
        clear HI2 HE
        obtain ⟨j, at_, E, ps, rfl, rfl, HK, HI2, HE, HQ⟩ := hrel
        by_cases cj : (j : Int) < (i : Int)
        · cases gk with
          | zero => exact absurd HK.out (by omega)
          | succ k1 =>
          have hjl : j < i := by omega
          have cb : decide ((j : Int) < (i : Int)) = true := decide_eq_true cj
          have cb2 : decide (j < i) = true := decide_eq_true hjl
          have p2 : (0 ≤ (j : Int)) = True := eq_true (by omega)
          have p3 : ((j : Int) < (i : Int)) = True := eq_true cj
          have HK' := Aside0.mk (show j + 1 + k1 = i by have := HK.out; omega)
          have hq := HQ.out
          rw [dec2] at hq
          have HQ2 := Aside0.mk hq
          have x0 := blk_cell HI2.out.bx 0
          have x1 := blk_cell HI2.out.bx 1
          obtain ⟨p, hp⟩ : ∃ p : Nat, j * m = p := ⟨_, rfl⟩
          have hmul : (j : Int) * (m : Int) = (p : Int) := by rw [← hp]; simp
          have hmul2 : ((j : Int) + 1) * (m : Int) = (p : Int) + (m : Int) := by rw [Int.add_mul, hmul, Int.one_mul]
          have HP := Aside0.mk (show p + m ≤ x.size from by
            rw [← HN5.out.2, ← hp]
            have := Nat.mul_le_mul_right m (show j + 1 ≤ i by omega)
            rw [Nat.add_mul, Nat.one_mul] at this
            exact this)
          have hp1 : (p : Int) + (m : Int) ≤ (x.size : Int) := by have := HP.out; omega
          have hp2 : (p : Int) ≤ 16777216 := by have := HP.out; have := HX.out; omega
          have hw16 : (wn : Int) ≤ 16 := by have := HWN.out; omega
          have hjb : (j : Int) ≤ 4194304 := by have := HN5.out.1; omega
          have hsl := cut_str x (p + wn) (p + m) (by have := HM.out; omega) HP.out ((p : Int) + (wn : Int)) ((p : Int) + (m : Int)) (by omega) (by omega) wr
          have HOF := Aside0.mk (show record_take.f (x.extract (p + wn) (p + m)) = some (offAt wn x j) from by
            unfold record_take.f offAt
            have hsz : (x.extract (p + wn) (p + m)).size ≤ 4 := by
              rw [ByteArray.size_extract]
              have := HM.out
              omega
            rw [if_pos hsz, HM.out.2.2, Nat.add_mul, Nat.one_mul, hp])
          have HJL := Aside0.mk hjl
          generalize offAt wn x j = of at *
          clear hp hq cj hjl HK HQ
          by_cases co : of ≠ at_
          · have co1 : (of != at_) = true := by simpa using co
            have HCO := Aside0.mk co
            clear co
            go_wp2_with (go_at_call 55; (with_reducible refine (record_take.calls _ of _ HOF.out).mono ?_); rintro e w4 ⟨rfl, hb⟩; have HI4 := Aside0.mk (HI2.out.grow hb); clear hb)
            go_ret2
            have hq := HQ2.out
            rw [if_pos HCO.out] at hq
            have hd := HRES2.out
            rw [hq] at hd
            rw [← hd]
            exact DecRes.err _ _ _ HI4.out.bel
          · replace co : of = at_ := Decidable.not_not.1 co
            have co1 : (of != at_) = false := by simpa using co
            have HCO := Aside0.mk co
            clear co
            have hq := HQ2.out
            rw [if_neg (fun hh => hh HCO.out)] at hq
            have hrr := readRecord_tells d HD.out at_ 601 (by omega)
            obtain ⟨⟨l1, nx, er⟩, ht⟩ : ∃ t, rrF d at_ = t := ⟨_, rfl⟩
            rw [ht] at hq hrr
            dsimp only at hq
            have HQ3 := Aside0.mk hq
            have HRR := Aside0.mk hrr
            clear hq hrr ht HQ2
            by_cases ce : er ≠ 0
            · have ce1 : (er != 0) = true := by simpa using ce
              have HCE := Aside0.mk ce
              clear ce
              go_wp2_with (first
                | (go_at_call 55; (with_reducible refine (record_take.calls _ of _ HOF.out).mono ?_); rintro e w4 ⟨rfl, hb⟩; have HI4 := Aside0.mk (HI2.out.grow hb); have x1 := blk_cell HI4.out.bx 1; clear hb)
                | (go_at_call 24; (with_reducible refine (record_ReadRecord.calls 601 d at_ l1 nx er _ HRR.out).mono ?_); rintro e w5 ⟨v5, rfl, hk, hb⟩; obtain ⟨A1, c1, rfl, hop⟩ := OwnP.of_R hk; have HI5 := Aside0.mk (HI4.out.grow hb); clear hb hk hop))
              go_ret2
              have hq := HQ3.out
              rw [if_pos HCE.out] at hq
              have hd := HRES2.out
              rw [hq] at hd
              rw [← hd]
              exact DecRes.err _ _ _ HI5.out.bel
            · replace ce : er = 0 := Decidable.not_not.1 ce
              have ce1 : (er != 0) = false := by simpa using ce
              have HCE := Aside0.mk ce
              clear ce
              obtain ⟨e0, he0, hh0, _⟩ := HE.out.2.2 j HJL.out
              have HE0 := Aside0.mk (And.intro he0 hh0)
              clear he0 hh0
              go_upto_region 24 with (first
                | (go_at_call 55; (with_reducible refine (record_take.calls _ of _ HOF.out).mono ?_); rintro e w4 ⟨rfl, hb⟩; have HI4 := Aside0.mk (HI2.out.grow hb); have x1 := blk_cell HI4.out.bx 1; clear hb)
                | (go_at_call 24; (with_reducible refine (record_ReadRecord.calls 601 d at_ l1 nx er _ HRR.out).mono ?_); rintro e w5 ⟨v5, rfl, hk, hb⟩; obtain ⟨A1, c1, rfl, hop⟩ := OwnP.of_R hk; have HI5 := Aside0.mk (HI4.out.grow hb); have HOP := Aside0.mk hop; have y0 := HI5.out.gr.cell1 j e0 HE0.out.1; have f0 := HI5.out.gr.row.frozenAt (j * 2 + 1); clear hb hk hop))
              have HI6 := Aside0.mk (HI5.out.pairs j e0 HE0.out.1 (own_weaken HOP.out HI4.out.bel.size) (fun k hk hgs => by
                have h1 := (ownsRow_lt HOP.out k hk).1
                have h2 := (HI4.out.gr.lt k hgs).2
                omega))
              clear y0 f0
              have hq := HQ3.out
              rw [if_neg (fun hh => hh HCE.out)] at hq
              have HQ4 := Aside0.mk hq
              clear hq
              go_wp2_with fail
              go_roundg k1
              case measure => have := HK'.out; omega
              case rel =>
                refine ⟨j + 1, nx, _, ps ++ [l1], rfl, congrArg (Value.int .i64) (by omega), HK', HI6, ⟨by rw [List.length_set]; exact HE.out.1, by rw [List.length_append, HE.out.2.1]; rfl, fun a ha => ?_⟩, ⟨?_⟩⟩
                · rcases Nat.lt_or_ge a j with h1 | h1
                  · obtain ⟨e, h2, h3, h4⟩ := HE.out.2.2 a ha
                    refine ⟨e, by rw [List.getElem?_set, if_neg (by omega)]; exact h2, h3, fun l hl => h4 l ?_⟩
                    rw [List.getElem?_append_left (by rw [HE.out.2.1]; exact h1)] at hl
                    exact hl
                  · rcases Nat.lt_or_ge j a with h2 | h2
                    · obtain ⟨e, h3, h4, h5⟩ := HE.out.2.2 a ha
                      refine ⟨e, by rw [List.getElem?_set, if_neg (by omega)]; exact h3, h4, fun l hl => ?_⟩
                      rw [List.getElem?_eq_none (by rw [List.length_append, HE.out.2.1]; simp; omega)] at hl
                      cases hl
                    · obtain rfl : a = j := by omega
                      refine ⟨⟨e0.f0, A1, c1, l1⟩, by rw [List.getElem?_set, if_pos rfl, if_pos (by rw [HE.out.1]; exact HJL.out)], HE0.out.2, fun l hl => ?_⟩
                      rw [List.getElem?_append_right (by rw [HE.out.2.1]; exact Nat.le_refl _), HE.out.2.1, Nat.sub_self] at hl
                      simpa using hl
                · rw [HQ4.out, Option.map_map]
                  congr 1
                  funext r
                  simp
        · have cb : decide ((j : Int) < (i : Int)) = false := decide_eq_false cj
          have cb2 : decide (j < i) = false := decide_eq_false (by omega)
          obtain rfl : gk = 0 := by have := HK.out; omega
          obtain rfl : j = i := by have := HK.out; omega
          have hq := HQ.out
          rw [dec2] at hq
          have hd := HRES2.out
          rw [hq] at hd
          have hd2 : (if at_ ≠ (d.size : Int) ∨ 65536 < at_ then ([], 39) else (groupsOf wn x ps, 0)) = res := by
            rw [← hd]
            show _ = (if at_ ≠ (d.size : Int) ∨ 65536 < at_ then ([], 39) else (groupsOf wn x (ps ++ []), 0))
            rw [List.append_nil]
          have HR2 := Aside0.mk hd2
          have x1 := blk_cell HI2.out.bx 1
          clear cj hq hd hd2
          by_cases c1 : at_ = (d.size : Int)
          · have d1 : (at_ != (d.size : Int)) = false := by simpa using c1
            by_cases c2 : 65536 < at_
            · have d2 : decide (65536 < at_) = true := decide_eq_true c2
              have HC2 := Aside0.mk c2
              clear c1 c2
              go_wp2_with fail
              go_ret2
              rw [← HR2.out, if_pos (.inr HC2.out)]
              exact DecRes.err _ _ _ HI2.out.bel
            · have d2 : decide (65536 < at_) = false := decide_eq_false c2
              have HC1 := Aside0.mk c1
              have HC2 := Aside0.mk c2
              clear c1 c2
              go_wp2_with fail
              go_ret2
              rw [← HR2.out, if_neg (fun hh => hh.elim (fun h1 => h1 HC1.out) (fun h2 => by have := HC2.out; omega))]
              refine ⟨some ⟨g, 0, none⟩, j, E, by rw [HE.out.1]; rfl, ?_, HI2.out.gr, HI2.out.bel⟩
              apply List.ext_getElem?
              intro a
              unfold groupsOf
              rw [List.getElem?_map, List.getElem?_map, List.getElem?_zipIdx]
              rcases Nat.lt_or_ge a j with h1 | h1
              · obtain ⟨e, h2, h3, h4⟩ := HE.out.2.2 a h1
                have h5 : ps[a]? = some (ps[a]'(by rw [HE.out.2.1]; exact h1)) := List.getElem?_eq_getElem _
                rw [h2, h5]
                have h6 := h4 _ h5
                simp only [Option.map_some]
                unfold GE.g
                rw [h3, h6, Nat.zero_add]
              · rw [List.getElem?_eq_none (by rw [HE.out.1]; exact h1), List.getElem?_eq_none (by rw [HE.out.2.1]; exact h1)]
                rfl
          · have d1 : (at_ != (d.size : Int)) = true := by simpa using c1
            have HC1 := Aside0.mk c1
            clear c1
            go_wp2_with fail
            go_ret2
            rw [← HR2.out, if_pos (.inl HC1.out)]
            exact DecRes.err _ _ _ HI2.out.bel

end Go.Proofs.Ytkfhedppnlocpaa.Q
set_option linter.unusedVariables false
set_option linter.unusedSimpArgs false
namespace Go.Proofs.Ytkfhedppnlocpaa.Q
open Go.RowKit Go.Proofs.YtkfhedppnlocpaaW.PrintWords Go.Proofs.YtkfhedppnlocpaaW.PrintLast Go.Proofs.YtkfhedppnlocpaaW.PrintMore

end Go.Proofs.Ytkfhedppnlocpaa.Q
set_option linter.unusedVariables false
set_option linter.unusedSimpArgs false
namespace Go.Proofs.Ytkfhedppnlocpaa.Q
open Go.RowKit Go.Proofs.YtkfhedppnlocpaaW.PrintWords Go.Proofs.YtkfhedppnlocpaaW.PrintLast Go.Proofs.YtkfhedppnlocpaaW.PrintMore

/-! ### What the document's Decode answers -/
def rd2 (d : ByteArray) : Nat → Int → Option (List (List S94) × Int)
  | 0, at_ => some ([], at_)
  | n + 1, at_ => if (rrF d at_).2.2 ≠ 0 then none else (rd2 d n (rrF d at_).2.1).map fun r => ((rrF d at_).1 :: r.1, r.2)
def refTail (wd : Int) (x d : ByteArray) : Option (List (List S94) × Int) → List S80 × Int
  | none => ([], 39)
  | some r => if (encF wd (groupsOf wd.toNat x r.1)).2.2 ≠ 0 ∨ (⟨(encF wd (groupsOf wd.toNat x r.1)).1.toArray⟩ : ByteArray) ≠ x ∨ (⟨(encF wd (groupsOf wd.toNat x r.1)).2.1.toArray⟩ : ByteArray) ≠ d then ([], 39) else (groupsOf wd.toNat x r.1, 0)
def refF (wd : Int) (x d : ByteArray) : List S80 × Int :=
  if wd < 1 ∨ 16 < wd then ([], 30)
  else if x.size % (wd.toNat + 4) ≠ 0 ∨ upAll wd.toNat x (x.size / (wd.toNat + 4)) = false then ([], 38)
  else if 65536 < d.size then ([], 39)
  else refTail wd x d (rd2 d (x.size / (wd.toNat + 4)) 0)

/-- The chunk's box and the groups so far. -/
structure RDI (w W : World) (x d : ByteArray) (A : Option Addr) (q : Nat) (E : List GE) : Prop where
  bx : W.heap[w.heap.size]? = some (.cells #[.string x, .string d] 53 (0, 0))
  gr : GR w.heap.size W A q E
  bel : Below w.heap.size w W
theorem RDI.grow {w W W' : World} {x d : ByteArray} {A : Option Addr} {q : Nat} {E : List GE} (h : RDI w W x d A q E) (hb : Below W.heap.size W W') : RDI w W' x d A q E :=
  ⟨(hb.block _ (Array.getElem?_eq_some_iff.1 h.bx).1).trans h.bx, h.gr.below hb, below_step h.bel hb⟩
theorem RDI.row {w W : World} {x d : ByteArray} {A : Option Addr} {q : Nat} {E : List GE} (h : RDI w W x d A q E) : rowB A ≠ some w.heap.size := by
  intro e
  obtain ⟨cur, hc⟩ := ownsRow_type h.gr.row _ e
  rw [h.bx] at hc
  simp only [Option.some.injEq, Obj.cells.injEq] at hc
  exact absurd hc.2.1 (by decide)
theorem RDI.app {w W W' : World} {x d : ByteArray} {A A' : Option Addr} {q q' : Nat} {E : List GE} {e : GE} (h : RDI w W x d A q E) (hr : OwnG W' w.heap.size A' q' (E ++ [e])) (hg : W.grownBy W' (rowB A)) (hin : OwnP W w.heap.size e.A e.c e.l) (hn : ∀ k, rowB e.A = some k → ¬ GS A E k) : RDI w W' x d A' q' (E ++ [e]) :=
  ⟨(hg.block _ (Array.getElem?_eq_some_iff.1 h.bx).1 (fun e => h.row e.symm)).trans h.bx, h.gr.app hr hg hin hn, h.bel.grown hg h.bel.size (fun k hk => (ownsRow_lt h.gr.row k hk).1)⟩
end Go.Proofs.Ytkfhedppnlocpaa.Q
