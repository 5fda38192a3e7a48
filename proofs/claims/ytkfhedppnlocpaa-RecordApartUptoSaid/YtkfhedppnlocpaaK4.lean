/- Contracts of made, copied, Encode, Decode at groups that may be. Condition: the puts are read, and are not too many. -/
import Derived.Test.YtkfhedppnlocpaaK3
set_option linter.unusedVariables false
set_option linter.unusedSimpArgs false
namespace Go.Proofs.Ytkfhedppnlocpaa.Q
open Go.RowKit Go.Proofs.YtkfhedppnlocpaaW.PrintWords Go.Proofs.YtkfhedppnlocpaaW.PrintLast Go.Proofs.YtkfhedppnlocpaaW.PrintMore

/-! ### made, copied and Encode of what they make, one behind the other -/
theorem between_tells (wd : Int) : ∃ wn : Nat, granarylaw3_between.f wd = some (wn : Int) ∧ 1 ≤ wn ∧ wn ≤ 16 := by
  unfold granarylaw3_between.f
  by_cases c1 : wd < 1
  · exact ⟨16, by rw [if_pos c1]; rfl, by omega, by omega⟩
  rw [if_neg c1]
  by_cases c2 : wd > 16
  · exact ⟨16, by rw [if_pos c2]; rfl, by omega, by omega⟩
  rw [if_neg c2]
  exact ⟨wd.toNat, by rw [Int.toNat_of_nonneg (by omega)], by omega, by omega⟩
theorem made_any (wn : Nat) (hw : wn ≤ 16) (A : Option Addr) (c : Nat) (P : List S97) (hc : P.length ≤ c) (hP : P.length ≤ 4194304) :
    ∃ L, GoodG wn L ∧ ∀ w, Kd.C k97 w A P.length P → Calls Try.prog 41 #[.int .i64 (wn : Int), .slice A P.length c] w fun e w' => ∃ A c, e = .returned (.slice A L.length c) ∧ L.length ≤ c ∧ Kd.C k80 w' A L.length L ∧ Below w.heap.size w w' := by
  obtain ⟨L, h1, h2⟩ := made_good wn hw P hP
  refine ⟨L, h2, fun w hK => (granarylaw3_made.calls 6000000 (wn : Int) A c P L w hK hc h1).mono ?_⟩
  rintro e w' ⟨v, rfl, hN, hb⟩
  obtain ⟨A, c, rfl⟩ := Kd.N_slice hN
  obtain ⟨_, h3, h4⟩ := Kd.N_reads' hN
  exact ⟨A, c, rfl, h3, h4, hb⟩
theorem GoodG.len {wn : Nat} {L : List S80} (H : GoodG wn L) : L.length ≤ 32768 := by have := total_len L; have := H.wt; omega
theorem copied_any {wn : Nat} {L : List S80} (H : GoodG wn L) (A : Option Addr) (c : Nat) (w : World) (hK : Kd.C k80 w A L.length L) (hc : L.length ≤ c) :
    Calls Try.prog 42 #[.slice A L.length c] w fun e w' => ∃ A c, e = .returned (.slice A L.length c) ∧ L.length ≤ c ∧ Kd.C k80 w' A L.length L ∧ Below w.heap.size w w' := by
  have hl := H.len
  refine (granarylaw3_copied.calls 5000000 A c L L w hK hc (copied_tells L (by omega) (fun g hg => by have := H.le g hg; omega))).mono ?_
  rintro e w' ⟨v, rfl, hS, hb⟩
  obtain ⟨A, c, rfl, h3, h4⟩ := Kd.R_reads (Kd.S_R hS)
  exact ⟨A, c, rfl, h3, h4, hb⟩
theorem encode_any {wn : Nat} (h1 : 1 ≤ wn) (h2 : wn ≤ 16) {L : List S80} (H : GoodG wn L) (A : Option Addr) (c : Nat) (w : World) (hK : Kd.C k80 w A L.length L) (hc : L.length ≤ c) :
    Calls Try.prog 34 #[.int .i64 (wn : Int), .slice A L.length c] w fun e w' => e = .returned (.tuple #[.agg #[.string (idxB L), .string (dataB L)], .int .i64 0]) ∧ Below w.heap.size w w' := by
  have := record_Encode.calls (wn : Int) A c L w hK hc (by have := H.len; omega)
  rw [enc_good h1 h2 H] at this
  exact this
theorem idxB_small {wn : Nat} (h2 : wn ≤ 16) {L : List S80} (H : GoodG wn L) : (idxB L).size ≤ 16777216 := by
  rw [idxB_size H]
  have h1 := H.len
  have h3 : L.length * (wn + 4) ≤ 32768 * 20 := Nat.mul_le_mul h1 (by omega)
  omega
theorem dataB_small {wn : Nat} {L : List S80} (H : GoodG wn L) : (dataB L).size ≤ 65536 := by rw [dataB_size]; exact H.wt
theorem decode_any {wn : Nat} (h1 : 1 ≤ wn) (h2 : wn ≤ 16) {L : List S80} (H : GoodG wn L) (w : World) :
    Calls Try.prog 30 #[.int .i64 (wn : Int), .agg #[.string (idxB L), .string (dataB L)]] w (DecRes (L, 0) w) := by
  have := record_Decode.calls (wn : Int) (idxB L) (dataB L) w (idxB_small h2 H) (by have := dataB_small H; omega)
  rwa [dec_ref, dec_good h1 h2 H] at this
theorem same_any {wn : Nat} {L : List S80} (H : GoodG wn L) (A0 : Option Addr) (c0 : Nat) (A1 : Option Addr) (c1 : Nat) (w : World) (h0 : Kd.C k80 w A0 L.length L) (l0 : L.length ≤ c0) (h1 : Kd.C k80 w A1 L.length L) (l1 : L.length ≤ c1) :
    Calls Try.prog 32 #[.slice A0 L.length c0, .slice A1 L.length c1] w fun e w' => e = .returned (.bool true) ∧ Drawn0 w w' :=
  granarylaw3_sameGroups.calls 6000000 A0 c0 L A1 c1 L true w h0 l0 h1 l1 (sameGroups_self L (by have := H.len; omega) (fun g hg => by have := H.le g hg; omega))

end Go.Proofs.Ytkfhedppnlocpaa.Q
