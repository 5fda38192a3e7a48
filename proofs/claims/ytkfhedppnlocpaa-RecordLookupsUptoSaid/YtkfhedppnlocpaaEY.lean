/- RecordLookups: the law, up to its row. Condition: the texts are not too long. -/
import Derived.Test.YtkfhedppnlocpaaEX
set_option linter.unusedVariables false
set_option linter.unusedSimpArgs false
namespace Go.Proofs.Ytkfhedppnlocpaa.Q
open Go.RowKit Go.Proofs.YtkfhedppnlocpaaW.PrintWords Go.Proofs.YtkfhedppnlocpaaW.PrintLast Go.Proofs.YtkfhedppnlocpaaW.PrintMore

set_option maxHeartbeats 4000000 in
set_option maxRecDepth 100000 in
theorem recordLookups_law (wd : Int) (x d h k : ByteArray) (w : World) (hx : x.size ≤ 16777216) (hd : d.size ≤ 140737488351232) :
    Calls Try.prog 10 #[.int .i64 wd, .agg #[.string x, .string d], .string h, .string k] w fun e w' => e = .returned (.bool true) ∧ Below w.heap.size w w' := by
  have HP := Aside0.mk (fun W => record_Lookup.calls wd x d h k W hx hd)
  have HR := Aside0.mk (fun W => granaryref3_Lookup.calls wd x d h k W hx hd)
  obtain ⟨⟨v, o, er⟩, hL⟩ : ∃ t, lookF wd x d h k = t := ⟨_, rfl⟩
  rw [hL] at HP HR
  clear hx hd hL
  have HB := Aside0.mk (blk_new w (OCh x d))
  have HBW := Aside0.mk (below2a w (OCh x d))
  go_enter Try.func10, Try.ntmps10
  go_upto_region 1 with fail
  generalize w.alloc (OCh x d) = w1 at *
  have x0 := blk_cell HB.out 0
  have x1 := blk_cell HB.out 1
  go_upto_region 2 with (go_at_call 38; (with_reducible refine (HP.out _).mono ?_); rintro e w2 ⟨rfl, hb0⟩)
  have HB2 := Aside0.mk (blk_below HB.out hb0)
  have HBW2 := Aside0.mk (below_step HBW.out hb0)
  clear x0 x1 hb0
  have x0 := blk_cell HB2.out 0
  have x1 := blk_cell HB2.out 1
  go_upto_region 3 with (go_at_call 39; (with_reducible refine (HR.out _).mono ?_); rintro e w3 ⟨rfl, hb1⟩)
  have HBW3 := Aside0.mk (below_step HBW2.out hb1)
  clear x0 x1 hb1
  go_wp2_with (go_at_call 17; (with_reducible refine (granarylaw3_num.calls _ er _ rfl).mono ?_); rintro e w5 ⟨rfl, ⟨n, rfl⟩⟩)
  go_ret
  exact ⟨rfl, below_step HBW3.out (below_drewN w3 _)⟩

end Go.Proofs.Ytkfhedppnlocpaa.Q
