/- Contract of record.Record: the bytes or the error, at every list of pairs. Condition: the list is read. -/
import Derived.Test.YtkfhedppnlocpaaE7
set_option linter.unusedVariables false
set_option linter.unusedSimpArgs false
namespace Go.Proofs.Ytkfhedppnlocpaa.Q
open Go.RowKit Go.Proofs.YtkfhedppnlocpaaW.PrintWords Go.Proofs.YtkfhedppnlocpaaW.PrintLast Go.Proofs.YtkfhedppnlocpaaW.PrintMore

/-! ### record.Record: function 28 -/
def record_Record.f (l : List S94) : Option (ByteArray × Int) := some (recF l)

/-- What 'fits' and 'ordered' say of the i-th pair, taken together. -/
theorem pairErr_fits (l : List S94) (i : Nat) (h : fitsF (l.getD i z94).f0.size (l.getD i z94).f1.size ≠ 0) : pairErr l i = fitsF (l.getD i z94).f0.size (l.getD i z94).f1.size := by
  unfold fitsF at *
  unfold pairErr
  generalize (l.getD i z94).f0.size = a at *
  generalize (l.getD i z94).f1.size = b at *
  by_cases c : a < 1 ∨ 255 < a
  · rw [if_pos c, if_pos (by omega)]
  · rw [if_neg c, if_neg (show ¬ ((a : Int) < 1 ∨ 255 < (a : Int)) by omega)]
    by_cases c2 : 4096 < b
    · rw [if_pos c2, if_pos (by omega)]
    · rw [if_neg (show ¬ ((a : Int) < 1 ∨ 255 < (a : Int)) by omega), if_neg (by omega)] at h
      exact absurd rfl h

theorem pairErr_ordered (l : List S94) (i : Nat) (hi : i < l.length) (h : fitsF (l.getD i z94).f0.size (l.getD i z94).f1.size = 0) : api_Pair.f l (i : Int) = some (pairErr l i) := by
  unfold fitsF at h
  unfold pairErr api_Pair.f
  have a1 : ¬ ((l.getD i z94).f0.size < 1 ∨ 255 < (l.getD i z94).f0.size) := by
    intro c
    rw [if_pos (by omega)] at h
    exact absurd h (by decide)
  rw [if_neg (by omega)] at h
  have a2 : ¬ 4096 < (l.getD i z94).f1.size := by
    intro c
    rw [if_pos (by omega)] at h
    exact absurd h (by decide)
  rw [if_neg a1, if_neg a2]
  by_cases c : i = 0
  · rw [if_pos c, if_pos (by omega)]
  · rw [if_neg c, if_neg (by omega), if_pos (by omega), show ((i : Int) - 1) = ((i - 1 : Nat) : Int) by omega, rd_nat, rd_nat]
    rw [show (l.getD i z94).f0.toList = key l i by rw [key, ByteArray.toList_eq], show (l.getD (i - 1) z94).f0.toList = key l (i - 1) by rw [key, ByteArray.toList_eq]]
    by_cases d1 : key l i = key l (i - 1)
    · rw [if_pos d1, if_pos d1]
    · rw [if_neg d1, if_neg d1]
      by_cases d2 : Op.bytesLess (key l i) (key l (i - 1)) = true
      · rw [if_pos d2, if_pos d2]
      · rw [if_neg d2, if_neg d2]

theorem Upd.keep {base b : Nat} {v v' : Value} {bs : List UInt8} {w w' : World} {o : Obj} {c : Nat} (hu : Upd b v v' w w') (hc : w.heap[c]? = some o) (hcb : c ≠ b) (hcv : v.ownBlock ≠ some c) : w'.heap[c]? = some o ∧ v'.ownBlock ≠ some c := by
  have hlt : c < w.heap.size := by
    rcases Nat.lt_or_ge c w.heap.size with h' | h'
    · exact h'
    · simp [Array.getElem?_eq_none h'] at hc
  refine ⟨(hu.block c hlt hcb hcv).trans hc, fun e => ?_⟩
  rcases hu.fresh c e with h | h
  · exact hcv h
  · omega
theorem Bld.own_lt {base b : Nat} {v : Value} {bs : List UInt8} {w : World} (h : Bld base b v bs w) : v.ownBlock ≠ some w.heap.size := by
  obtain ⟨_, p, _, _, hown⟩ := h
  intro e
  have := (hown.lt _ e).2
  omega
theorem Bld.lt {base b : Nat} {v : Value} {bs : List UInt8} {w : World} (h : Bld base b v bs w) : b < w.heap.size := by
  obtain ⟨_, p, _, hbk, _⟩ := h
  rcases Nat.lt_or_ge b w.heap.size with h' | h'
  · exact h'
  · simp [Array.getElem?_eq_none h'] at hbk

set_option maxHeartbeats 4000000 in
set_option maxRecDepth 100000 in
theorem record_Record.calls (A0 : Option Addr) (c0 : Nat) (l0 : List S94) (r1 : ByteArray) (r2 : Int) (w : World) (hr0 : Kd.C k94 w A0 l0.length l0) (hc0 : l0.length ≤ c0) (h : record_Record.f l0 = some (r1, r2)) :
    Calls Try.prog 28 #[.slice A0 l0.length c0] w fun e w' => e = .returned (.tuple #[.string r1, .int .i64 r2]) ∧ Below w.heap.size w w' := by
  have hlen := hr0.2.1
  obtain ⟨rfl, rfl⟩ : (recF l0).1 = r1 ∧ (recF l0).2 = r2 := by
    have := Option.some.inj h
    rw [this]
    exact ⟨rfl, rfl⟩
  clear h
  by_cases b0 : l0.length = 0 ∨ 512 < l0.length
  · have hw : wrongF l0 = 36 := by unfold wrongF; rw [if_pos b0]
    have e1 : (recF l0).1 = ⟨#[]⟩ := by unfold recF; rw [hw, if_pos (by decide)]
    have e2 : (recF l0).2 = 36 := by unfold recF; rw [hw, if_pos (by decide)]
    rw [e1, e2]
    by_cases k1 : l0.length = 0
    · have k1b : decide ((l0.length : Int) < 1) = true := by simp; omega
      clear b0 hw e1 e2 k1
      go_enter Try.func28, Try.ntmps28
      go_wp2
      go_ret2
      exact ⟨rfl, Below.refl _ _⟩
    · have k1b : decide ((l0.length : Int) < 1) = false := by simp; omega
      have k2b : decide (512 < (l0.length : Int)) = true := by simp; omega
      clear b0 hw e1 e2 k1
      go_enter Try.func28, Try.ntmps28
      go_wp2
      go_ret2
      exact ⟨rfl, Below.refl _ _⟩
  have k1b : decide ((l0.length : Int) < 1) = false := by simp; omega
  have k2b : decide (512 < (l0.length : Int)) = false := by simp; omega
  have hwf : wrongF l0 = firstErr l0 l0.length 0 := by unfold wrongF; rw [if_neg b0]
  have HLEN := Aside0.mk (show 1 ≤ l0.length ∧ l0.length ≤ 512 by omega)
  have HR := Aside0.mk hr0
  have HC := Aside0.mk hc0
  have HWF := Aside0.mk hwf
  clear b0 hwf hlen hr0 hc0
  go_enter Try.func28, Try.ntmps28
  go_wp2_with fail
  go_loopg [4, 22] l0.length (fun kq v4 v22 w' => ∃ (i : Nat), v4 = .int .i64 ((2 + sz (l0.take i) : Nat) : Int) ∧ v22 = .int .i64 (i : Int) ∧ Aside0 (i + kq = l0.length) ∧ Aside0 (∀ j, j < i → pairErr l0 j = 0) ∧ Aside0 (Below w.heap.size w w'))
  case atStart => exact ⟨0, by simp [sz], rfl, ⟨by omega⟩, ⟨fun j hj => absurd hj (by omega)⟩, ⟨Below.refl _ _⟩⟩
  case round =>
    obtain ⟨i, rfl, rfl, HK, HZ, HB⟩ := hrel
    by_cases c : (i : Int) < (l0.length : Int)
    · cases gk with
      | zero => exact absurd HK.out (by omega)
      | succ k1 =>
      have hil : i < l0.length := by omega
      obtain ⟨ad, rfl, hx0, hx1⟩ := at_T94 (Kd.C_below HR.out HB.out) (i : Int) (by omega) c
      rw [Int.toNat_natCast] at hx0 hx1
      have hf1 := pairErr_fits l0 i
      have hf2 := pairErr_ordered l0 i hil
      have hwi : wrap64 ((i : Int) + 1) = ((i + 1 : Nat) : Int) := Go.IntWalk.wrap64_in _ (by have := HLEN.out; omega)
      have hs0 := sz_take_bound l0 i (by omega) HZ.out
      have hs1 : sz (l0.take (i + 1)) = sz (l0.take i) + (6 + (l0.getD i z94).f0.size + (l0.getD i z94).f1.size) := by
        rw [take_snoc l0 i hil, sz_app, sz, sz, Nat.add_zero]
      have hz2 := pairErr_sizes l0 i
      have cb : decide ((i : Int) < (l0.length : Int)) = true := by simpa using c
      have p1 : (0 ≤ (i : Int)) = True := eq_true (by omega)
      have p2 : ((i : Int) < (l0.length : Int)) = True := eq_true c
      rw [rd_nat] at hx0 hx1
      obtain ⟨sp, hsp⟩ : ∃ s, 2 + sz (l0.take i) = s := ⟨_, rfl⟩
      rw [hsp]
      by_cases q0 : fitsF (l0.getD i z94).f0.size (l0.getD i z94).f1.size = 0
      · have hf3 := hf2 q0
        by_cases q1 : pairErr l0 i = 0
        · have hz3 := hz2 q1
          rw [q1] at hf3
          have a1 : IntKind.i64.wrap (6 + ((l0.getD i z94).f0.size : Int)) = 6 + ((l0.getD i z94).f0.size : Int) := (i64_w _).trans (Go.IntWalk.wrap64_in _ (by omega))
          have a2 : IntKind.i64.wrap (6 + ((l0.getD i z94).f0.size : Int) + ((l0.getD i z94).f1.size : Int)) = 6 + ((l0.getD i z94).f0.size : Int) + ((l0.getD i z94).f1.size : Int) := (i64_w _).trans (Go.IntWalk.wrap64_in _ (by omega))
          have a3 : IntKind.i64.wrap ((sp : Int) + (6 + ((l0.getD i z94).f0.size : Int) + ((l0.getD i z94).f1.size : Int))) = ((2 + sz (l0.take (i + 1)) : Nat) : Int) := by
            rw [i64_w, Go.IntWalk.wrap64_in _ (by have := HLEN.out; omega), hs1]
            omega
          have HZ1 := Aside0.mk (show ∀ j, j < i + 1 → pairErr l0 j = 0 from fun j hj => by
            by_cases e : j = i
            · rw [e]; exact q1
            · exact HZ.out j (by omega))
          have HF3 := Aside0.mk hf3
          clear hf1 hf2 hf3 hs0 hs1 hz2 hz3 hsp hil c q1
          obtain ⟨sp1, hsp1⟩ : ∃ s, 2 + sz (l0.take (i + 1)) = s := ⟨_, rfl⟩
          rw [hsp1] at a3
          have HSP := Aside0.mk hsp1
          clear hsp1
          generalize l0.getD i z94 = p at *
          go_wp2_with (first
            | (go_at_call 60; refine (fits_any _ _ _).mono ?_; rintro e w' ⟨rfl, rfl⟩; rw [q0])
            | (go_at_call 61; refine (api_Pair.calls _ c0 l0 (i : Int) 0 _ (Kd.C_below HR.out (below_step HB.out ((Below.refl _ _).alloc (Nat.le_refl _) _))) HC.out HF3.out).mono ?_; rintro e w2 ⟨rfl, hb2⟩; have HB2 := Aside0.mk (below_step (below_step HB.out ((Below.refl _ _).alloc (Nat.le_refl _) _)) hb2); have bx := blk_below (blk_new wr (.cells #[.string p.f0, .string p.f1] 94)) hb2; have g0 := blk_cell bx 0; have g1 := blk_cell bx 1; clear hb2 bx))
          go_roundg k1
          case measure => have := HK.out; omega
          case rel => exact ⟨i + 1, by rw [HSP.out], by rw [hwi], ⟨by have := HK.out; omega⟩, HZ1, HB2⟩
        · have hw : wrongF l0 = pairErr l0 i := HWF.out.trans (firstErr_hit l0 i q1 l0.length 0 (by omega) (by omega) fun j _ hj => HZ.out j hj)
          have e1 : (recF l0).1 = ⟨#[]⟩ := by unfold recF; rw [hw, if_pos q1]
          have e2 : (recF l0).2 = pairErr l0 i := by unfold recF; rw [hw, if_pos q1]
          have HE1 := Aside0.mk e1
          have HE2 := Aside0.mk e2
          have HF3 := Aside0.mk hf3
          have q1b : (pairErr l0 i != 0) = true := by simpa using q1
          clear hf1 hf2 hf3 hs0 hs1 hz2 hsp hil c q1 hw e1 e2
          generalize pairErr l0 i = pe at *
          generalize l0.getD i z94 = p at *
          go_wp2_with (first
            | (go_at_call 60; refine (fits_any _ _ _).mono ?_; rintro e w' ⟨rfl, rfl⟩; rw [q0])
            | (go_at_call 61; refine (api_Pair.calls _ c0 l0 (i : Int) pe _ (Kd.C_below HR.out (below_step HB.out ((Below.refl _ _).alloc (Nat.le_refl _) _))) HC.out HF3.out).mono ?_; rintro e w2 ⟨rfl, hb2⟩; have HB2 := Aside0.mk (below_step (below_step HB.out ((Below.refl _ _).alloc (Nat.le_refl _) _)) hb2); clear hb2))
          go_ret2
          exact ⟨by rw [HE1.out, HE2.out]; rfl, HB2.out⟩
      · have hpe := hf1 q0
        have q1 : pairErr l0 i ≠ 0 := by rw [hpe]; exact q0
        have hw : wrongF l0 = pairErr l0 i := HWF.out.trans (firstErr_hit l0 i q1 l0.length 0 (by omega) (by omega) fun j _ hj => HZ.out j hj)
        have e1 : (recF l0).1 = ⟨#[]⟩ := by unfold recF; rw [hw, if_pos q1]
        have e2 : (recF l0).2 = pairErr l0 i := by unfold recF; rw [hw, if_pos q1]
        rw [hpe] at e2
        have HE1 := Aside0.mk e1
        have HE2 := Aside0.mk e2
        have q0b : (fitsF (l0.getD i z94).f0.size (l0.getD i z94).f1.size != 0) = true := by simpa using q0
        clear hf1 hf2 hs0 hs1 hz2 hsp hil c q0 q1 hw e1 e2 hpe
        generalize l0.getD i z94 = p at *
        generalize hfe : fitsF p.f0.size p.f1.size = fe at *
        go_wp2_with (first
          | (go_at_call 60; refine (fits_any _ _ _).mono ?_; rintro e w' ⟨rfl, rfl⟩; rw [hfe]))
        go_ret2
        exact ⟨by rw [HE1.out, HE2.out]; rfl, below_step HB.out ((Below.refl _ _).alloc (Nat.le_refl _) _)⟩
    · have hil : i = l0.length := by have := HK.out; omega
      have cb : decide ((i : Int) < (l0.length : Int)) = false := by simpa using c
      have cb2 : decide (i < l0.length) = false := by simp; omega
      have cb3 : ((i : Int) < (l0.length : Int)) = False := eq_false c
      have hw : wrongF l0 = 0 := HWF.out.trans (firstErr_of l0 l0.length 0 fun j _ hj => HZ.out j (by omega))
      subst hil
      rw [List.take_length] at *
      by_cases q2 : 65536 < 2 + sz l0
      · have e1 : (recF l0).1 = ⟨#[]⟩ := by unfold recF; rw [if_neg (by rw [hw]; decide), if_pos q2]
        have e2 : (recF l0).2 = 3 := by unfold recF; rw [if_neg (by rw [hw]; decide), if_pos q2]
        have q2b : decide ((65536 : Int) < ((2 + sz l0 : Nat) : Int)) = true := by simp; omega
        have q2c : decide (65536 < 2 + sz l0) = true := by simpa using q2
        have HE1 := Aside0.mk e1
        have HE2 := Aside0.mk e2
        clear e1 e2 hw c
        generalize (2 + sz l0 : Nat) = sp at *
        go_wp2_with fail
        go_ret2
        exact ⟨by rw [HE1.out, HE2.out]; rfl, HB.out⟩
      · have e1 : (recF l0).1 = ⟨(recBytes l0).toArray⟩ := by unfold recF; rw [if_neg (by rw [hw]; decide), if_neg q2]
        have e2 : (recF l0).2 = 0 := by unfold recF; rw [if_neg (by rw [hw]; decide), if_neg q2]
        have q2b : decide ((65536 : Int) < ((2 + sz l0 : Nat) : Int)) = false := by simp; omega
        have q2c : decide (65536 < 2 + sz l0) = false := by simpa using q2
        have HE1 := Aside0.mk e1
        have HE2 := Aside0.mk e2
        have hz0 : w.heap.size ≤ wr.heap.size := HB.out.size
        have hsp : 2 + sz l0 ≤ 65536 := by omega
        clear e1 e2 hw c q2
        generalize (2 + sz l0 : Nat) = sp at *
        go_wp2_with fail
        refine (Grow_fresh w.heap.size wr.heap.size sp _ hz0 (heap_alloc_new wr _) (by simp; omega) (by omega)).mono ?_
        rintro e w2 ⟨rfl, ⟨v2, hb2⟩, hl2⟩
        have HL2 := Aside0.mk hb2
        have HB2 := Aside0.mk ((HB.out.alloc hz0 (.cells #[.pointer none, .slice none 0 0] 104)).trans hl2)
        have hz2 : w.heap.size ≤ w2.heap.size := HB2.out.size
        clear hb2 hl2 HB hz0
        generalize wr.heap.size = b at *
        go_wp2_with fail
        refine (put_any w.heap.size b v2 [] (l0.length : Int) 2 (by omega) (by omega) _ HL2.out (by simp) hz2).mono ?_
        rintro e w3 ⟨rfl, v3, hb3, hu3⟩
        have HB3 := Aside0.mk (HB2.out.trans (hu3.below HL2.out))
        have HL3 := Aside0.mk hb3
        clear hb3 hu3 HB2 HL2 hz2 HK
        go_wp2_with fail
        go_loopg [63] l0.length (fun kq v63 w' => ∃ (i : Nat) (v : Value), v63 = .int .i64 (i : Int) ∧ Aside0 (i + kq = l0.length) ∧ Aside0 (Bld w.heap.size b v (be l0.length 2 ++ (l0.take i).flatMap pairBytes) w') ∧ Aside0 (Below w.heap.size w w'))
        case atStart => exact ⟨0, v3, rfl, ⟨by omega⟩, ⟨by simpa using HL3.out⟩, HB3⟩
        case round =>
          obtain ⟨i, v, rfl, HK, HL, HB⟩ := hrel
          clear HL3 HB3
          by_cases c : (i : Int) < (l0.length : Int)
          · cases gk with
            | zero => exact absurd HK.out (by omega)
            | succ k1 =>
            have hil : i < l0.length := by omega
            obtain ⟨ad, rfl, hx0, hx1⟩ := at_T94 (Kd.C_below HR.out HB.out) (i : Int) (by omega) c
            rw [Int.toNat_natCast, rd_nat] at hx0 hx1
            have hwi : wrap64 ((i : Int) + 1) = ((i + 1 : Nat) : Int) := Go.IntWalk.wrap64_in _ (by have := HLEN.out; omega)
            have hs0 := sz_take_bound l0 i (by omega) (fun j hj => HZ.out j (by omega))
            have hz2 := pairErr_sizes l0 i (HZ.out i hil)
            have hn0 : (be (l0.length : Int) 2 ++ (l0.take i).flatMap pairBytes).length = 2 + sz (l0.take i) := by rw [List.length_append, be_length, flat_length]
            have hap : (be (l0.length : Int) 2 ++ (l0.take i).flatMap pairBytes) ++ pairBytes (l0.getD i z94) = be (l0.length : Int) 2 ++ (l0.take (i + 1)).flatMap pairBytes := by
              rw [take_snoc l0 i hil, List.flatMap_append, List.append_assoc]; simp
            have hbnd := HLEN.out
            have cb : decide ((i : Int) < (l0.length : Int)) = true := by simpa using c
            have p1 : (0 ≤ (i : Int)) = True := eq_true (by omega)
            have p2 : ((i : Int) < (l0.length : Int)) = True := eq_true c
            have HAP := Aside0.mk hap
            have hL := HL.out
            generalize hbs : be (l0.length : Int) 2 ++ (l0.take i).flatMap pairBytes = bs at *
            generalize l0.getD i z94 = p at *
            have hl0 : w.heap.size ≤ wr.heap.size := HB.out.size
            have hn1 : bs.length ≤ 2300000 := by omega
            have HS := Aside0.mk hz2
            have k0 := blk_new wr (.cells #[.string p.f0, .string p.f1] 94)
            have kv := hL.own_lt
            have kb : wr.heap.size ≠ b := by have := hL.lt; omega
            have HL1 := Aside0.mk (hL.alloc (.cells #[.string p.f0, .string p.f1] 94))
            have HB1 := Aside0.mk (HB.out.alloc hl0 (.cells #[.string p.f0, .string p.f1] 94))
            have K0 := Aside0.mk k0
            clear hap hbs c hs0 hz2 hL HL HB hn0 hbnd hil k0
            go_wp2_with fail
            refine (put_any w.heap.size b v bs (p.f0.size : Int) 2 (by omega) (by omega) _ HL1.out (by omega) HB1.out.size).mono ?_
            rintro e w4 ⟨rfl, v4, hb4, hu4⟩
            obtain ⟨j1, kv1⟩ := hu4.keep (base := w.heap.size) (bs := bs) K0.out kb kv
            have HB4 := Aside0.mk (HB1.out.trans (hu4.below HL1.out))
            have HL4 := Aside0.mk hb4
            have d0 := blk_cell j1 0
            have d1 := blk_cell j1 1
            have J1 := Aside0.mk j1
            clear hb4 hu4 HL1 HB1 K0 kv j1
            go_wp2_with fail
            refine (put_any w.heap.size b v4 _ (p.f1.size : Int) 4 (by omega) (by omega) _ HL4.out (by rw [List.length_append, be_length]; omega) HB4.out.size).mono ?_
            rintro e w5 ⟨rfl, v5, hb5, hu5⟩
            obtain ⟨j2, kv2⟩ := hu5.keep (base := w.heap.size) (bs := bs) J1.out kb kv1
            have HB5 := Aside0.mk (HB4.out.trans (hu5.below HL4.out))
            have HL5 := Aside0.mk hb5
            clear d0 d1
            have d0 := blk_cell j2 0
            have d1 := blk_cell j2 1
            have J2 := Aside0.mk j2
            clear hb5 hu5 HL4 HB4 J1 kv1 j2
            go_wp2_with fail
            refine (WriteString_any w.heap.size b v5 _ p.f0 _ HL5.out (by rw [List.length_append, List.length_append, be_length, be_length]; have := HS.out; omega) HB5.out.size).mono ?_
            rintro e w6 ⟨rfl, v6, hb6, hu6⟩
            obtain ⟨j3, kv3⟩ := hu6.keep (base := w.heap.size) (bs := bs) J2.out kb kv2
            have HB6 := Aside0.mk (HB5.out.trans (hu6.below HL5.out))
            have HL6 := Aside0.mk hb6
            clear d0 d1
            have d0 := blk_cell j3 0
            have d1 := blk_cell j3 1
            clear hb6 hu6 HL5 HB5 J2 kv2 j3
            go_wp2_with fail
            refine (WriteString_any w.heap.size b v6 _ p.f1 _ HL6.out (by rw [List.length_append, List.length_append, List.length_append, be_length, be_length, ba_size]; have := HS.out; omega) HB6.out.size).mono ?_
            rintro e w7 ⟨rfl, v7, hb7, hu7⟩
            have HB7 := Aside0.mk (HB6.out.trans (hu7.below HL6.out))
            have HL7 := Aside0.mk hb7
            clear hb7 hu7 HL6 HB6 d0 d1 kv3
            go_wp2_with fail
            go_roundg k1
            case measure => have := HK.out; omega
            case rel =>
              refine ⟨i + 1, v7, by rw [hwi], ⟨by have := HK.out; omega⟩, ⟨?_⟩, HB7⟩
              rw [← HAP.out]
              have := HL7.out
              simp only [List.append_assoc] at this
              rw [pairBytes]
              simpa only [List.append_assoc] using this
          · have hil : i = l0.length := by have := HK.out; omega
            have cb : decide ((i : Int) < (l0.length : Int)) = false := by simpa using c
            have cb2 : decide (i < l0.length) = false := by simp; omega
            have cb3 : ((i : Int) < (l0.length : Int)) = False := eq_false c
            subst hil
            rw [List.take_length] at HL
            go_wp2_with fail
            refine (String_any w.heap.size b v _ _ HL.out).mono ?_
            rintro e w4 ⟨rfl, hs⟩
            have HB4 := Aside0.mk (HB.out.trans (hs.below HL.out HB.out.size))
            clear hs
            go_wp2_with fail
            go_ret2
            exact ⟨by rw [HE1.out, HE2.out]; rfl, HB4.out⟩

end Go.Proofs.Ytkfhedppnlocpaa.Q
