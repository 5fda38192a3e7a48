/- Contracts of both Lookups. Condition: the texts are not too long. -/
import Derived.Test.YtkfhedppnlocpaaEV
import Derived.Test.YtkfhedppnlocpaaES
set_option linter.unusedVariables false
set_option linter.unusedSimpArgs false
namespace Go.Proofs.Ytkfhedppnlocpaa.Q
open Go.RowKit Go.Proofs.YtkfhedppnlocpaaW.PrintWords Go.Proofs.YtkfhedppnlocpaaW.PrintLast Go.Proofs.YtkfhedppnlocpaaW.PrintMore

def LookRes (p : ByteArray × Bool × Int) (w : World) (e : Ending) (w' : World) : Prop := e = .returned (.tuple #[.string p.1, .bool p.2.1, .int .i64 p.2.2]) ∧ Below w.heap.size w w'

set_option maxHeartbeats 4000000 in
set_option maxRecDepth 100000 in
theorem granaryref3_Lookup.calls (wd : Int) (x d h k : ByteArray) (w : World) (hx : x.size ≤ 16777216) (hd : d.size ≤ 140737488351232) :
    Calls Try.prog 39 #[.int .i64 wd, .agg #[.string x, .string d], .string h, .string k] w (LookRes (lookF wd x d h k) w) := by
  have HR := Aside0.mk (fun W => granaryref3_Decode.calls wd x d W hx hd)
  have hs := refF_sizes wd x d hx
  unfold lookF
  obtain ⟨⟨L, er⟩, hL⟩ : ∃ t, refF wd x d = t := ⟨_, rfl⟩
  rw [hL] at HR hs ⊢
  generalize hres : lookTail wd h k (L, er) = res
  have HRES := Aside0.mk hres
  have HS := Aside0.mk hs
  clear hx hd hs hL hres
  have HB := Aside0.mk (blk_new w (OCh x d))
  have HBW := Aside0.mk (below2a w (OCh x d))
  go_enter Try.func39, Try.ntmps39
  go_upto_region 1 with fail
  generalize w.alloc (OCh x d) = w1 at *
  have x0 := blk_cell HB.out 0
  have x1 := blk_cell HB.out 1
  go_upto_region 2 with (go_at_call 31; (with_reducible refine (HR.out _).mono ?_); rintro e w2 ⟨A0, q0, E0, rfl, he0, hg0, hb0⟩)
  have HBW2 := Aside0.mk (below_step HBW.out hb0)
  have HG0 := Aside0.mk hg0
  have HE0 := Aside0.mk (show E0.map GE.g = L from he0)
  clear x0 x1 hb0 hg0 he0
  by_cases c1 : er ≠ 0
  · have d1 : (er != 0) = true := by simpa using c1
    have hr := HRES.out
    unfold lookTail at hr
    dsimp only at hr
    rw [if_pos c1] at hr
    have HR2 := Aside0.mk hr
    clear hr c1
    go_wp2_with fail
    rw [← HR2.out]
    exact bodyPost_ret (v := .tuple #[.string ⟨#[]⟩, .bool false, .int .i64 er]) (by simp [results, Try.results39, go_sem]) rfl ⟨rfl, HBW2.out⟩
  replace c1 : er = 0 := Decidable.not_not.1 c1
  subst c1
  have hr := HRES.out
  unfold lookTail at hr
  dsimp only at hr
  rw [if_neg (fun h => h rfl)] at hr
  by_cases c2 : (h.size : Int) ≠ wd
  · have d1 : ((h.size : Int) != wd) = true := by simpa using c2
    rw [if_pos c2] at hr
    have HR2 := Aside0.mk hr
    clear hr c2
    go_wp2_with fail
    rw [← HR2.out]
    exact bodyPost_ret (v := .tuple #[.string ⟨#[]⟩, .bool false, .int .i64 34]) (by simp [results, Try.results39, go_sem]) rfl ⟨rfl, HBW2.out⟩
  have d1 : ((h.size : Int) != wd) = false := by simpa using c2
  rw [if_neg c2] at hr
  have HR2 := Aside0.mk hr
  clear hr c2
  have HAM := Aside0.mk (show Calls Try.prog 74 #[.slice A0 E0.length q0, .string h, .string k] w2 fun e w' => e = .returned (.tuple #[.string (looked (amongF L h k)).1, .bool (looked (amongF L h k)).2]) ∧ Drawn0 w2 w' from by
    obtain ⟨h1, h2⟩ := HG0.out.reads
    have h5 := HE0.out
    have hl0 : E0.length = L.length := by rw [← h5, List.length_map]
    rw [h5] at h1 h2
    rw [hl0]
    exact granaryref3_Among.calls (cost L) A0 q0 L h k _ _ w2 h2 h1 (among_tells L h k HS.out.1 (fun g hg => Nat.le_trans (HS.out.2 g hg) (by omega))))
  go_upto_region 6 with fail
  have hr := HR2.out
  by_cases c3 : k.size < 1
  · rw [if_pos (.inl c3)] at hr
    have HR3 := Aside0.mk hr
    have hk0 : k.toList = [] := by rw [tl]; exact List.length_eq_zero_iff.1 (by rw [ba_size]; omega)
    have e0 : (k.toList = []) = True := eq_true hk0
    have e1 : k.toList.isEmpty = true := by rw [hk0]; rfl
    clear hr c3 hk0
    go_wp2_with fail
    rw [← HR3.out]
    exact bodyPost_ret (v := .tuple #[.string ⟨#[]⟩, .bool false, .int .i64 32]) (by simp [results, Try.results39, go_sem]) rfl ⟨rfl, HBW2.out⟩
  have hk0 : k.toList ≠ [] := by rw [tl]; intro he; have := congrArg List.length he; rw [ba_size, List.length_nil] at this; omega
  have e0 : (k.toList = []) = False := eq_false hk0
  have e1 : k.toList.isEmpty = false := by cases hh : k.toList with | nil => exact absurd hh hk0 | cons a l => rfl
  clear hk0
  by_cases c4 : 255 < k.size
  · rw [if_pos (.inr c4)] at hr
    have HR3 := Aside0.mk hr
    have d2 : decide ((255 : Int) < (k.size : Int)) = true := decide_eq_true (by omega)
    have d3 : decide (255 < k.size) = true := decide_eq_true c4
    clear hr c3 c4
    go_wp2_with fail
    rw [← HR3.out]
    exact bodyPost_ret (v := .tuple #[.string ⟨#[]⟩, .bool false, .int .i64 32]) (by simp [results, Try.results39, go_sem]) rfl ⟨rfl, HBW2.out⟩
  rw [if_neg (fun hh => hh.elim c3 c4)] at hr
  have HR3 := Aside0.mk hr
  have d2 : decide ((255 : Int) < (k.size : Int)) = false := decide_eq_false (by omega)
  have d3 : decide (255 < k.size) = false := decide_eq_false c4
  clear hr c3 c4
  go_wp2_with (go_at_call 74; (with_reducible refine HAM.out.mono ?_); rintro e w3 ⟨rfl, ⟨n, rfl⟩⟩)
  rw [← HR3.out]
  exact bodyPost_ret (v := .tuple #[.string (looked (amongF L h k)).1, .bool (looked (amongF L h k)).2, .int .i64 0]) (by simp [results, Try.results39, go_sem]) rfl ⟨rfl, below_step HBW2.out (below_drewN w2 _)⟩

end Go.Proofs.Ytkfhedppnlocpaa.Q
