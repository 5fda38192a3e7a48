/- Contract of record.Encode. Condition: the groups are read, and are not too many. Contract of granaryref3.Encode. Condition: the groups are read, and are not too many. -/
import Derived.Test.YtkfhedppnlocpaaEE
import Derived.Test.YtkfhedppnlocpaaPb
set_option linter.unusedVariables false
set_option linter.unusedSimpArgs false
namespace Go.Proofs.Ytkfhedppnlocpaa.Q
open Go.RowKit Go.Proofs.YtkfhedppnlocpaaW.PrintWords Go.Proofs.YtkfhedppnlocpaaW.PrintLast Go.Proofs.YtkfhedppnlocpaaW.PrintMore

abbrev OC : Obj := .cells #[.string ⟨#[]⟩, .string ⟨#[]⟩] 53
abbrev OB : Obj := .cells #[.pointer none, .slice none 0 0] 104
/-- The two builders, in memory of the call's own. -/
def EI (w W : World) (b1 b2 : Nat) (x d : List UInt8) : Prop := ∃ v1 v2, Two2 w.heap.size w.heap.size b1 b2 v1 v2 x d W ∧ Below w.heap.size w W
theorem EI.below_ {w W : World} {b1 b2 : Nat} {x d : List UInt8} (h : EI w W b1 b2 x d) : Below w.heap.size w W := by obtain ⟨_, _, _, h⟩ := h; exact h
theorem EI.grow {w W W' : World} {b1 b2 : Nat} {x d : List UInt8} (h : EI w W b1 b2 x d) (hb : Below W.heap.size W W') : EI w W' b1 b2 x d := by
  obtain ⟨v1, v2, h1, h2⟩ := h
  exact ⟨v1, v2, h1.below hb, below_step h2 hb⟩
theorem EI.string1 {w W : World} {b1 b2 : Nat} {x d : List UInt8} (h : EI w W b1 b2 x d) (s : ByteArray) (hl : x.length + s.size ≤ 140737488355328) :
    Calls Try.prog 58 #[.pointer (some ⟨b1, 0, none⟩), .string s] W fun e w' => e = .returned (.tuple #[.int .i64 s.size, .nilIface]) ∧ EI w w' b1 b2 (x ++ s.data.toList) d := by
  obtain ⟨v1, v2, h1, h2⟩ := h
  refine (WriteString_any w.heap.size b1 v1 x s W h1.h1 hl h2.size).mono ?_
  rintro e w' ⟨rfl, v', hb, hu⟩
  exact ⟨rfl, v', v2, h1.up1 hb hu, h2.trans (hu.below h1.h1)⟩
theorem EI.string2 {w W : World} {b1 b2 : Nat} {x d : List UInt8} (h : EI w W b1 b2 x d) (s : ByteArray) (hl : d.length + s.size ≤ 140737488355328) :
    Calls Try.prog 58 #[.pointer (some ⟨b2, 0, none⟩), .string s] W fun e w' => e = .returned (.tuple #[.int .i64 s.size, .nilIface]) ∧ EI w w' b1 b2 x (d ++ s.data.toList) := by
  obtain ⟨v1, v2, h1, h2⟩ := h
  refine (WriteString_any w.heap.size b2 v2 d s W h1.h2 hl h2.size).mono ?_
  rintro e w' ⟨rfl, v', hb, hu⟩
  exact ⟨rfl, v1, v', h1.up2 hb hu, h2.trans (hu.below h1.h2)⟩
theorem EI.put1 {w W : World} {b1 b2 : Nat} {x d : List UInt8} (h : EI w W b1 b2 x d) (n : Int) (hl : x.length + 4 ≤ 140737488355328) :
    Calls Try.prog 51 #[.pointer (some ⟨b1, 0, none⟩), .int .i64 n, .int .i64 4] W fun e w' => e = .returned (.tuple #[]) ∧ EI w w' b1 b2 (x ++ be n 4) d := by
  obtain ⟨v1, v2, h1, h2⟩ := h
  refine (put_any w.heap.size b1 v1 x n 4 (by omega) (by omega) W h1.h1 hl h2.size).mono ?_
  rintro e w' ⟨rfl, v', hb, hu⟩
  exact ⟨rfl, v', v2, h1.up1 hb hu, h2.trans (hu.below h1.h1)⟩
theorem EI.len2 {w W : World} {b1 b2 : Nat} {x d : List UInt8} (h : EI w W b1 b2 x d) : Calls Try.prog 70 #[.pointer (some ⟨b2, 0, none⟩)] W fun e w' => e = .returned (.int .i64 (d.length : Int)) ∧ W = w' := by
  obtain ⟨v1, v2, h1, h2⟩ := h
  exact Len_any _ b2 v2 d W h1.h2
theorem EI.cx {w W : World} {b1 b2 : Nat} {x d : List UInt8} (h : EI w W b1 b2 x d) : W.heap[w.heap.size]? = some (.cells #[.string ⟨#[]⟩, .string ⟨#[]⟩] 53 (0, 0)) := by
  obtain ⟨v1, v2, h1, h2⟩ := h
  exact h1.cx
/-- The texts of both. -/
theorem EI.texts {w W : World} {b1 b2 : Nat} {x d : List UInt8} (h : EI w W b1 b2 x d) :
    Calls Try.prog 52 #[.pointer (some ⟨b1, 0, none⟩)] W fun e w' => e = .returned (.string ⟨x.toArray⟩) ∧ (Below w.heap.size w w' ∧ w'.heap[w.heap.size]? = some (.cells #[.string ⟨#[]⟩, .string ⟨#[]⟩] 53 (0, 0))) ∧
      Calls Try.prog 52 #[.pointer (some ⟨b2, 0, none⟩)] w' fun e w2 => e = .returned (.string ⟨d.toArray⟩) ∧ Below w.heap.size w w2 ∧ w2.heap[w.heap.size]? = some (.cells #[.string ⟨#[]⟩, .string ⟨#[]⟩] 53 (0, 0)) := by
  obtain ⟨v1, v2, h1, h2⟩ := h
  have lt2 : ∀ k, v2.ownBlock = some k → k < W.heap.size := fun k hk => by obtain ⟨_, p, _, _, hown⟩ := h1.h2; exact (hown.lt k hk).2
  obtain ⟨p2, k2⟩ := h1.h2.blk
  refine (String_any w.heap.size b1 v1 x W h1.h1).mono ?_
  rintro e w' ⟨rfl, hu⟩
  have hb' : Below w.heap.size w w' := h2.trans (hu.below h1.h1 h2.size)
  have hc' : w'.heap[w.heap.size]? = some (.cells #[.string ⟨#[]⟩, .string ⟨#[]⟩] 53 (0, 0)) := (hu.block _ (Array.getElem?_eq_some_iff.1 h1.cx).1 (h1.h1.not_row h1.cx (by decide))).trans h1.cx
  have hd' : Bld w.heap.size b2 v2 d w' := h1.h2.move (hu.block b2 h1.h2.lt (h1.h1.not_row k2 (by decide))) (fun k hk => hu.block k (lt2 k hk) (fun e => h1.rr k e hk))
  refine ⟨rfl, ⟨hb', hc'⟩, ?_⟩
  refine (String_any w.heap.size b2 v2 d w' hd').mono ?_
  rintro e w2 ⟨rfl, hu2⟩
  exact ⟨rfl, hb'.trans (hu2.below hd' hb'.size), (hu2.block _ (Array.getElem?_eq_some_iff.1 hc').1 (hd'.not_row hc' (by decide))).trans hc'⟩
theorem EI.new (w : World) : EI w (((w.alloc OC).alloc OB).alloc OB) (w.heap.size + 1) (w.heap.size + 1 + 1) [] [] := by
  have k0 : (((w.alloc OC).alloc OB).alloc OB).heap[w.heap.size]? = some OC := blk_alloc (blk_alloc (blk_new w OC) OB) OB
  have k1 : (((w.alloc OC).alloc OB).alloc OB).heap[w.heap.size + 1]? = some OB := by
    have := blk_alloc (blk_new (w.alloc OC) OB) OB
    simpa using this
  have k2 : (((w.alloc OC).alloc OB).alloc OB).heap[w.heap.size + 1 + 1]? = some OB := by
    have := blk_new ((w.alloc OC).alloc OB) OB
    simpa using this
  refine ⟨.slice none 0 0, .slice none 0 0, ⟨⟨by omega, .pointer none, .inl rfl, k1, World.ownsRow_nil _ _ _ _⟩, ⟨by omega, .pointer none, .inl rfl, k2, World.ownsRow_nil _ _ _ _⟩, by omega, fun k hk => (by cases hk), k0⟩, ?_⟩
  exact (((Below.refl _ _).alloc (Nat.le_refl _) _).alloc (by simp) _).alloc (by simp; omega) _

theorem two_set {W : World} {c : Nat} {a b : Value} (h : W.heap[c]? = some (.cells #[a, b] 53 (0, 0))) (x y : Value) : ((W.setCell ⟨c, 0, none⟩ x).setCell ⟨c, 1, none⟩ y).heap[c]? = some (.cells #[x, y] 53 (0, 0)) := by
  rw [blk_set (blk_set h 0 _) 1 _]
  rfl
theorem below_two {B : Nat} {w W : World} (h : Below B w W) {c : Nat} (hc : B ≤ c) (x y : Value) : Below B w ((W.setCell ⟨c, 0, none⟩ x).setCell ⟨c, 1, none⟩ y) :=
  (h.setCell (p := ⟨c, 0, none⟩) hc x).setCell (p := ⟨c, 1, none⟩) hc y
def EncRes (p : Enc) (w : World) (e : Ending) (w' : World) : Prop := e = .returned (.tuple #[.agg #[.string ⟨p.1.toArray⟩, .string ⟨p.2.1.toArray⟩], .int .i64 p.2.2]) ∧ Below w.heap.size w w'

set_option maxHeartbeats 8000000 in
set_option maxRecDepth 100000 in
theorem record_Encode.calls (wd : Int) (A0 : Option Addr) (c0 : Nat) (l0 : List S80) (w : World) (hr0 : Kd.C k80 w A0 l0.length l0) (hc0 : l0.length ≤ c0) (hl : l0.length ≤ 4194304) :
    Calls Try.prog 34 #[.int .i64 wd, .slice A0 l0.length c0] w (EncRes (encF wd l0) w) := by
  have HR := Aside0.mk hr0
  have HC := Aside0.mk hc0
  have HL := Aside0.mk hl
  clear hr0 hc0 hl
  by_cases hw : wd < 1 ∨ 16 < wd
  · have he : encF wd l0 = ([], [], 30) := by unfold encF; rw [if_pos hw]
    rw [he]
    have HW := Aside0.mk hw
    clear hw he
    go_enter Try.func34, Try.ntmps34
    go_wp2_with (go_at_call 57; (with_reducible refine (widthOK_no wd _ HW.out).mono ?_); rintro e w' ⟨rfl, rfl⟩)
    exact bodyPost_ret (v := .tuple #[.agg #[.string ⟨#[]⟩, .string ⟨#[]⟩], .int .i64 30]) (by simp [results, Try.results34, go_sem]) rfl (show EncRes ([], [], 30) w _ _ from ⟨rfl, (Below.refl _ _).alloc (Nat.le_refl _) _⟩)
  · have he : encF wd l0 = encL wd l0 l0.length 0 [] [] := by unfold encF; rw [if_neg hw]
    rw [he]
    have HW1 := Aside0.mk (show 1 ≤ wd by omega)
    have HW2 := Aside0.mk (show decide (wd ≤ 16) = true from decide_eq_true (by omega))
    clear hw he
    have HE := Aside0.mk (EI.new w)
    go_enter Try.func34, Try.ntmps34
    go_upto_region 4 with (go_at_call 57; (with_reducible refine (widthOK_yes wd _ HW1.out HW2.out).mono ?_); rintro e w' ⟨rfl, rfl⟩)
    generalize ((w.alloc OC).alloc OB).alloc OB = w1 at *
    generalize w.heap.size + 1 = b1 at *
    generalize b1 + 1 = b2 at *
    go_wp2_with fail
    go_loopg [18] l0.length (fun kq v18 w' => ∃ (i : Nat) (x d : List UInt8), v18 = .int .i64 (i : Int) ∧ Aside0 (i + kq = l0.length) ∧ Aside0 (EI w w' b1 b2 x d) ∧ Aside0 (encL wd l0 l0.length 0 [] [] = encL wd l0 kq i x d) ∧ Aside0 (x.length ≤ i * 20 ∧ d.length ≤ i * 65536))
    case atStart => exact ⟨0, [], [], rfl, ⟨by omega⟩, HE, ⟨rfl⟩, ⟨by simp⟩⟩
    case round =>
      obtain ⟨i, x, d, rfl, HK, HI, HQ, HX⟩ := hrel
      by_cases ci : (i : Int) < (l0.length : Int)
      · cases gk with
        | zero => exact absurd HK.out (by omega)
        | succ k1 =>
        have hil : i < l0.length := by omega
        have cb : decide ((i : Int) < (l0.length : Int)) = true := decide_eq_true ci
        have cb2 : decide (i < l0.length) = true := decide_eq_true hil
        have p2 : (0 ≤ (i : Int)) = True := eq_true (by omega)
        have p3 : ((i : Int) < (l0.length : Int)) = True := eq_true ci
        have hwi : wrap64 ((i : Int) + 1) = (i : Int) + 1 := Go.IntWalk.wrap64_in _ (by have := HL.out; omega)
        have HK' := Aside0.mk (show i + 1 + k1 = l0.length by have := HK.out; omega)
        obtain ⟨ad, A1, c1, rfl, x0, x1, hc1, hr1⟩ := at_T80 HR.out (i : Int) (by omega) ci
        rw [Int.toNat_natCast] at x0 x1
        rw [rd80_nat] at x0 x1 hc1 hr1
        replace x0 := pw_cell_below HI.out.below_ x0
        replace x1 := pw_cell_below HI.out.below_ x1
        have HC1 := Aside0.mk hc1
        have HR1 := Aside0.mk hr1
        have hq := HQ.out
        rw [encL] at hq
        have HQ2 := Aside0.mk hq
        obtain ⟨ro, hro, hz⟩ := api_Group_ord l0 i hil
        have HRO := Aside0.mk hro
        have HZ := Aside0.mk hz
        have HSZ := Aside0.mk (recF_size (l0.getD i z80).f1)
        have HRF := Aside0.mk (show record_Record.f (l0.getD i z80).f1 = some ((recF (l0.getD i z80).f1).1, (recF (l0.getD i z80).f1).2) from rfl)
        clear hc1 hr1 hq ci hil HK HQ hro hz
        generalize (recF (l0.getD i z80).f1).1 = rb at *
        generalize (recF (l0.getD i z80).f1).2 = re at *
        generalize ordN l0 i = od at *
        generalize l0.getD i z80 = g at *
        go_upto_region 7 with fail
        have HG := Aside0.mk (blk_new wr (.cells #[.string g.f0, .slice A1 g.f1.length c1] 80))
        have HI2 := Aside0.mk (HI.out.grow (below2a wr (.cells #[.string g.f0, .slice A1 g.f1.length c1] 80)))
        clear x0 x1 HI
        generalize wr.heap.size = gb at *
        generalize wr.alloc (.cells #[.string g.f0, .slice A1 g.f1.length c1] 80) = w2 at *
        have x0 := blk_cell HG.out 0
        by_cases cs : (g.f0.size : Int) ≠ wd
        · have cs1 : ((g.f0.size : Int) != wd) = true := by simpa using cs
          have HCS := Aside0.mk cs
          clear cs
          have y0 := blk_cell HI2.out.cx 0
          have y1 := blk_cell HI2.out.cx 1
          have f0 := blk_frozen HI2.out.cx 0
          have f1 := blk_frozen HI2.out.cx 1
          go_wp2_with fail
          have hE := two_set HI2.out.cx (.string ⟨#[]⟩) (.string ⟨#[]⟩)
          have z0 := blk_cell hE 0
          have z1 := blk_cell hE 1
          have hq := HQ2.out
          rw [if_pos HCS.out] at hq
          rw [hq]
          exact bodyPost_ret (v := .tuple #[.agg #[.string ⟨#[]⟩, .string ⟨#[]⟩], .int .i64 34]) (by simp [results, Try.results34, go_sem, z0, z1]) rfl (show EncRes ([], [], 34) w _ _ from ⟨rfl, below_two HI2.out.below_ (Nat.le_refl _) _ _⟩)
        replace cs : (g.f0.size : Int) = wd := Decidable.not_not.1 cs
        have cs1 : ((g.f0.size : Int) != wd) = false := by simpa using cs
        have HCS := Aside0.mk cs
        clear cs
        go_upto_region 9 with fail
        clear x0 cs1
        by_cases co : ro ≠ 0
        · have co1 : (ro != 0) = true := by simpa using co
          have HCO := Aside0.mk (show od = false by cases hd : od with | false => rfl | true => exact absurd (HZ.out.2 hd) co)
          clear co
          go_upto_region 10 with (go_at_call 67; (with_reducible refine (api_Group.calls (some ad) c0 l0 (i : Int) ro _ (Kd.C_below HR.out HI2.out.below_) HC.out HRO.out).mono ?_); rintro e w3 ⟨rfl, hb⟩; have HI3 := Aside0.mk (HI2.out.grow hb); clear hb)
          have y0 := blk_cell HI3.out.cx 0
          have y1 := blk_cell HI3.out.cx 1
          have f0 := blk_frozen HI3.out.cx 0
          have f1 := blk_frozen HI3.out.cx 1
          go_wp2_with fail
          have hE := two_set HI3.out.cx (.string ⟨#[]⟩) (.string ⟨#[]⟩)
          have z0 := blk_cell hE 0
          have z1 := blk_cell hE 1
          have hq := HQ2.out
          rw [if_neg (fun hh => hh HCS.out), if_pos HCO.out] at hq
          rw [hq]
          exact bodyPost_ret (v := .tuple #[.agg #[.string ⟨#[]⟩, .string ⟨#[]⟩], .int .i64 37]) (by simp [results, Try.results34, go_sem, z0, z1]) rfl (show EncRes ([], [], 37) w _ _ from ⟨rfl, below_two HI3.out.below_ (Nat.le_refl _) _ _⟩)
        replace co : ro = 0 := Decidable.not_not.1 co
        have co1 : (ro != 0) = false := by simpa using co
        have HCO := Aside0.mk (show ¬ od = false by rw [HZ.out.1 co]; decide)
        clear co
        go_upto_region 11 with (go_at_call 67; (with_reducible refine (api_Group.calls (some ad) c0 l0 (i : Int) ro _ (Kd.C_below HR.out HI2.out.below_) HC.out HRO.out).mono ?_); rintro e w3 ⟨rfl, hb⟩; have HI3 := Aside0.mk (HI2.out.grow hb); have HG3 := Aside0.mk (blk_below HG.out hb); clear hb)
        have x1 := blk_cell HG3.out 1
        go_upto_region 12 with (go_at_call 28; (with_reducible refine (record_Record.calls A1 c1 g.f1 rb re _ (Kd.C_below HR1.out HI3.out.below_) HC1.out HRF.out).mono ?_); rintro e w4 ⟨rfl, hb⟩; have HI4 := Aside0.mk (HI3.out.grow hb); have HG4 := Aside0.mk (blk_below HG3.out hb); clear hb)
        clear x1 co1
        by_cases ce : re ≠ 0
        · have ce1 : (re != 0) = true := by simpa using ce
          have HCE := Aside0.mk ce
          clear ce
          have y0 := blk_cell HI4.out.cx 0
          have y1 := blk_cell HI4.out.cx 1
          have f0 := blk_frozen HI4.out.cx 0
          have f1 := blk_frozen HI4.out.cx 1
          go_wp2_with fail
          have hE := two_set HI4.out.cx (.string ⟨#[]⟩) (.string ⟨#[]⟩)
          have z0 := blk_cell hE 0
          have z1 := blk_cell hE 1
          have hq := HQ2.out
          rw [if_neg (fun hh => hh HCS.out), if_neg HCO.out, if_pos HCE.out] at hq
          rw [hq]
          exact bodyPost_ret (v := .tuple #[.agg #[.string ⟨#[]⟩, .string ⟨#[]⟩], .int .i64 re]) (by simp [results, Try.results34, go_sem, z0, z1]) rfl (show EncRes ([], [], re) w _ _ from ⟨rfl, below_two HI4.out.below_ (Nat.le_refl _) _ _⟩)
        replace ce : re = 0 := Decidable.not_not.1 ce
        have ce1 : (re != 0) = false := by simpa using ce
        have HCE := Aside0.mk ce
        clear ce
        have x0 := blk_cell HG4.out 0
        have HB1 := Aside0.mk (show x.length + g.f0.size ≤ 140737488355328 ∧ x.length + g.f0.size + 4 ≤ 140737488355328 ∧ d.length + rb.size ≤ 140737488355328 from by
          have := HX.out
          have := HSZ.out
          have := HCS.out
          have hw16 : wd ≤ 16 := of_decide_eq_true HW2.out
          have := HK'.out
          have := HL.out
          omega)
        go_wp2_with (first
          | (go_at_call 58; (with_reducible refine (HI4.out.string1 g.f0 HB1.out.1).mono ?_); rintro e w5 ⟨rfl, hs⟩; have HI5 := Aside0.mk hs; clear hs)
          | (go_at_call 70; (with_reducible refine HI5.out.len2.mono ?_); rintro e w' ⟨rfl, rfl⟩)
          | (go_at_call 51; (with_reducible refine (HI5.out.put1 (d.length : Int) (by rw [List.length_append, ba_size]; exact HB1.out.2.1)).mono ?_); rintro e w6 ⟨rfl, hs⟩; have HI6 := Aside0.mk hs; clear hs)
          | (go_at_call 58; (with_reducible refine (HI6.out.string2 rb HB1.out.2.2).mono ?_); rintro e w7 ⟨rfl, hs⟩; have HI7 := Aside0.mk hs; clear hs))
        have hq := HQ2.out
        rw [if_neg (fun hh => hh HCS.out), if_neg HCO.out, if_neg (fun hh => hh HCE.out)] at hq
        have HQ3 := Aside0.mk hq
        clear hq
        go_roundg k1
        case measure => have := HK'.out; omega
        case rel => exact ⟨i + 1, _, _, congrArg (Value.int .i64) (by omega), HK', HI7, ⟨by rw [HQ3.out, List.append_assoc]⟩, ⟨by
          have := HX.out
          have := HSZ.out
          have := HCS.out
          have hw16 : wd ≤ 16 := of_decide_eq_true HW2.out
          rw [List.length_append, List.length_append, List.length_append, be_length, ba_size, ba_size]
          omega⟩⟩
      · have cb : decide ((i : Int) < (l0.length : Int)) = false := decide_eq_false ci
        have cb2 : decide (i < l0.length) = false := decide_eq_false (by omega)
        obtain rfl : gk = 0 := by have := HK.out; omega
        have hq := HQ.out
        rw [encL] at hq
        have HQ2 := Aside0.mk hq
        clear hq ci
        by_cases cd : 65536 < d.length
        · have cd1 : decide ((65536 : Int) < (d.length : Int)) = true := decide_eq_true (by omega)
          have cd2 : decide (65536 < d.length) = true := decide_eq_true cd
          have HCD := Aside0.mk cd
          clear cd
          go_upto_region 19 with (go_at_call 70; (with_reducible refine HI.out.len2.mono ?_); rintro e w' ⟨rfl, rfl⟩)
          have y0 := blk_cell HI.out.cx 0
          have y1 := blk_cell HI.out.cx 1
          have f0 := blk_frozen HI.out.cx 0
          have f1 := blk_frozen HI.out.cx 1
          go_wp2_with fail
          have hE := two_set HI.out.cx (.string ⟨#[]⟩) (.string ⟨#[]⟩)
          have z0 := blk_cell hE 0
          have z1 := blk_cell hE 1
          have hq := HQ2.out
          rw [if_pos HCD.out] at hq
          rw [hq]
          exact bodyPost_ret (v := .tuple #[.agg #[.string ⟨#[]⟩, .string ⟨#[]⟩], .int .i64 3]) (by simp [results, Try.results34, go_sem, z0, z1]) rfl (show EncRes ([], [], 3) w _ _ from ⟨rfl, below_two HI.out.below_ (Nat.le_refl _) _ _⟩)
        · have cd1 : decide ((65536 : Int) < (d.length : Int)) = false := decide_eq_false (by omega)
          have cd2 : decide (65536 < d.length) = false := decide_eq_false cd
          have HCD := Aside0.mk cd
          clear cd
          go_wp2_with (first
            | (go_at_call 70; (with_reducible refine HI.out.len2.mono ?_); rintro e w' ⟨rfl, rfl⟩)
            | (go_at_call 52; (with_reducible refine HI.out.texts.mono ?_); rintro e w5 ⟨rfl, hb5, hs⟩; have HB5 := Aside0.mk hb5; have HS5 := Aside0.mk hs; clear hb5 hs)
            | (go_at_call 52; (with_reducible refine HS5.out.mono ?_); rintro e w6 ⟨rfl, hb6, hc6⟩; have HB6 := Aside0.mk hb6; have HC6 := Aside0.mk hc6; have y0 := blk_cell hc6 0; have y1 := blk_cell hc6 1; have f0 := blk_frozen hc6 0; have f1 := blk_frozen hc6 1; clear hb6 hc6))
          have hE := two_set HC6.out (.string ⟨x.toArray⟩) (.string ⟨d.toArray⟩)
          have z0 := blk_cell hE 0
          have z1 := blk_cell hE 1
          have hq := HQ2.out
          rw [if_neg HCD.out] at hq
          rw [hq]
          exact bodyPost_ret (v := .tuple #[.agg #[.string ⟨x.toArray⟩, .string ⟨d.toArray⟩], .int .i64 0]) (by simp [results, Try.results34, go_sem, z0, z1]) rfl (show EncRes (x, d, 0) w _ _ from ⟨rfl, below_two HB6.out (Nat.le_refl _) _ _⟩)

end Go.Proofs.Ytkfhedppnlocpaa.Q
set_option linter.unusedVariables false
set_option linter.unusedSimpArgs false
namespace Go.Proofs.Ytkfhedppnlocpaa.Q
open Go.RowKit Go.Proofs.YtkfhedppnlocpaaW.PrintWords Go.Proofs.YtkfhedppnlocpaaW.PrintLast Go.Proofs.YtkfhedppnlocpaaW.PrintMore

abbrev Byt (W : World) (B : Nat) (A : Option Addr) (q : Nat) (x : List UInt8) : Prop := W.ownsRow B 5 1 (.slice A x.length q) x.length (Lib.byteCells x)
theorem Byt.string {W : World} {B : Nat} {A : Option Addr} {q : Nat} {x : List UInt8} (h : Byt W B A q x) : (convert 90 9 (.slice A x.length q)).run Try.prog W = .ok (.string ⟨x.toArray⟩) W := by
  have hx : Lib.byteCells x = nums .u8 (ints x) := by
    unfold Lib.byteCells nums ints
    rw [List.map_map]
    rfl
  have h' := h
  unfold Byt at h'
  rw [hx] at h'
  rw [own_string (P := Try.prog) (e := 5) Try.underlying90 Try.underlying5 Try.underlying9 h', str_ints]
theorem own_lt_ {W : World} {B e size n : Nat} {v : Value} {xs : List Value} (h : W.ownsRow B e size v n xs) : ∀ k, v.ownBlock = some k → k < W.heap.size := fun k hk => (h.lt k hk).2
/-- Two rows of bytes, and the cell of the answer. -/
structure RI (w W : World) (A6 : Option Addr) (q6 : Nat) (A7 : Option Addr) (q7 : Nat) (x d : List UInt8) : Prop where
  r6 : Byt W w.heap.size A6 q6 x
  r7 : Byt W w.heap.size A7 q7 d
  rr : ∀ k, (Value.slice A6 x.length q6).ownBlock = some k → (Value.slice A7 d.length q7).ownBlock ≠ some k
  cx : W.heap[w.heap.size]? = some (.cells #[.string ⟨#[]⟩, .string ⟨#[]⟩] 53 (0, 0))
  bel : Below w.heap.size w W
section
variable {w W W' : World} {A6 A7 : Option Addr} {q6 q7 : Nat} {x d : List UInt8}
theorem RI.grow (h : RI w W A6 q6 A7 q7 x d) (hb : Below W.heap.size W W') : RI w W' A6 q6 A7 q7 x d :=
  ⟨own_move h.r6 (fun k hk => hb.block k (own_lt_ h.r6 k hk)), own_move h.r7 (fun k hk => hb.block k (own_lt_ h.r7 k hk)), h.rr, (hb.block _ (Array.getElem?_eq_some_iff.1 h.cx).1).trans h.cx, below_step h.bel hb⟩
theorem RI.new (w : World) : RI w (w.alloc OC) none 0 none 0 [] [] :=
  ⟨World.ownsRow_nil _ _ _ _, World.ownsRow_nil _ _ _ _, fun k hk => (by cases hk), blk_new w OC, below2a w OC⟩
end
end Go.Proofs.Ytkfhedppnlocpaa.Q
