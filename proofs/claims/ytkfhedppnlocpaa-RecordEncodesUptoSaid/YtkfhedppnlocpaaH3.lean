/- RecordEncodes: the law, up to its row. Condition: the groups are read, and are not too many. -/
import Derived.Test.YtkfhedppnlocpaaH2
set_option linter.unusedVariables false
set_option linter.unusedSimpArgs false
namespace Go.Proofs.Ytkfhedppnlocpaa.Q
open Go.RowKit Go.Plan Go.Proofs.YtkfhedppnlocpaaW.PrintWords Go.Proofs.YtkfhedppnlocpaaW.PrintLast Go.Proofs.YtkfhedppnlocpaaW.PrintMore

set_option maxHeartbeats 4000000 in
set_option maxRecDepth 100000 in
theorem recordEncodes_law (wd : Int) (A0 : Option Addr) (c0 : Nat) (l : List S80) (w : World) (hK : Kd.C k80 w A0 l.length l) (hc : l.length ≤ c0) (hl : l.length ≤ 4194304) (hp : ∀ g ∈ l, g.f1.length ≤ 4194304) :
    Calls Try.prog 9 #[.int .i64 wd, .slice A0 l.length c0] w fun e w' => e = .returned (.bool true) ∧ Below w.heap.size w w' := by
  have HK := Aside0.mk hK
  have HC := Aside0.mk hc
  have HL := Aside0.mk hl
  have HP := Aside0.mk hp
  obtain ⟨⟨ex, ed, ee⟩, hen⟩ : ∃ t, encF wd l = t := ⟨_, rfl⟩
  have HEN := Aside0.mk hen
  clear hK hc hl hp hen
  go_enter Try.func9, Try.ntmps9
  go_upto_region 2 with (go_at_call 33; (with_reducible refine (hand_calls A0 c0 l w HK.out HC.out HL.out HP.out).mono ?_); rintro e w1 ⟨g, gA, gq, pA, pq, E, rfl, hE, hH, hb⟩; have HE := Aside0.mk hE; have HH := Aside0.mk hH; have HB := Aside0.mk hb; clear hE hH hb)
  have hel : E.length = l.length := by rw [← HE.out, List.length_map]
  have HLC := Aside0.mk (show Calls Try.prog 35 #[.pointer (some ⟨g, 0, none⟩)] w1 fun e w' => e = .returned (.slice gA l.length gq) ∧ ∃ n, w' = w1.drewN n from by
    have := list_calls HH.out (by have := HL.out; omega)
    rwa [hel] at this)
  have HEC := Aside0.mk (show ∀ n, Calls Try.prog 34 #[.int .i64 wd, .slice gA l.length gq] (w1.drewN n) (EncRes (ex, ed, ee) (w1.drewN n)) from fun n => by
    obtain ⟨h1, h2⟩ := (HH.out.below (below_drewN w1 n)).reads
    rw [HE.out] at h1 h2
    have := record_Encode.calls wd gA gq l (w1.drewN n) h2 h1 HL.out
    rwa [HEN.out] at this)
  clear hel
  go_upto_region 3 with (first
    | (go_at_call 35; (with_reducible refine HLC.out.mono ?_); rintro e w2 ⟨rfl, ⟨n, rfl⟩⟩)
    | (go_at_call 34; (with_reducible refine (HEC.out n).mono ?_); rintro e w3 ⟨rfl, hb⟩; have HB3 := Aside0.mk (below_step (below_drewN w1 n) hb); clear hb))
  have hbn := blk_new w3 (.cells #[.string ⟨ex.toArray⟩, .string ⟨ed.toArray⟩] 53)
  have HB4 := Aside0.mk (below_step HB3.out (below2a w3 (.cells #[.string ⟨ex.toArray⟩, .string ⟨ed.toArray⟩] 53)))
  have HX4 := Aside0.mk hbn
  clear hbn HLC HEC HB3
  generalize w3.alloc (.cells #[.string ⟨ex.toArray⟩, .string ⟨ed.toArray⟩] 53) = w4 at *
  generalize w3.heap.size = g4 at *
  have HB5 := Aside0.mk (below_step HB.out HB4.out)
  have HRE := Aside0.mk (show Calls Try.prog 36 #[.int .i64 wd, .slice A0 l.length c0] w4 (EncRes (ex, ed, ee) w4) from by
    have := granaryref3_Encode.calls wd A0 c0 l w4 (Kd.C_below HK.out HB5.out) HC.out HL.out (fun i => by
      rw [List.getD_eq_getElem?_getD]
      cases hi : l[i]? with
      | none => show (0 : Nat) ≤ _; omega
      | some g => have := HP.out g (List.mem_of_getElem? hi); show g.f1.length ≤ _; omega)
    rwa [HEN.out] at this)
  go_upto_region 4 with (go_at_call 36; (with_reducible refine HRE.out.mono ?_); rintro e w5 ⟨rfl, hb⟩; have HB6 := Aside0.mk hb; clear hb)
  have hb7 := below_step HB6.out (below2a w5 (.cells #[.string ⟨ex.toArray⟩, .string ⟨ed.toArray⟩] 53))
  have hbn := blk_new w5 (.cells #[.string ⟨ex.toArray⟩, .string ⟨ed.toArray⟩] 53)
  have hx7 := blk_below HX4.out hb7
  have HB7 := Aside0.mk (below_step HB4.out hb7)
  have x0 := blk_cell hx7 0
  have x1 := blk_cell hx7 1
  have y0 := blk_cell hbn 0
  have y1 := blk_cell hbn 1
  clear hb7 hbn hx7 HRE HB6 HX4
  generalize w5.alloc (.cells #[.string ⟨ex.toArray⟩, .string ⟨ed.toArray⟩] 53) = w7 at *
  generalize w5.heap.size = g7 at *
  generalize (⟨ex.toArray⟩ : ByteArray) = sx at *
  generalize (⟨ed.toArray⟩ : ByteArray) = sd at *
  have HLF := Aside0.mk (fun n => left_calls w.heap.size g (w7.drewN n) gA pA gq pq E A0 c0 l ((HH.out.below HB7.out).below (below_drewN w7 n)) HE.out (Kd.C_below HK.out (below_step (below_step HB.out HB7.out) (below_drewN w7 n))) HC.out HL.out HP.out)
  go_wp2_with (first
    | (go_at_call 17; (with_reducible refine (granarylaw3_num.calls _ ee _ rfl).mono ?_); rintro e w8 ⟨rfl, ⟨n, rfl⟩⟩)
    | (go_at_call 37; (with_reducible refine (HLF.out n).mono ?_); rintro e w9 ⟨rfl, hb9⟩))
  go_ret
  exact ⟨rfl, below_step (below_step (below_step HB.out HB7.out) (below_drewN w7 n)) hb9⟩

end Go.Proofs.Ytkfhedppnlocpaa.Q
