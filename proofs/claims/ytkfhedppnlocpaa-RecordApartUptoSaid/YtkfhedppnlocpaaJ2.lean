/- Plain laws: a chunk's entries and records, one by one. No condition. Plain laws: what Decode takes is what Encode makes; no chunk is the beginning of another in one of its files. No condition. -/
import Derived.Test.YtkfhedppnlocpaaK4
import Derived.Test.YtkfhedppnlocpaaQx12
set_option linter.unusedVariables false
set_option linter.unusedSimpArgs false
namespace Go.Proofs.Ytkfhedppnlocpaa.Q
open Go.RowKit Go.Proofs.YtkfhedppnlocpaaW.PrintWords Go.Proofs.YtkfhedppnlocpaaW.PrintLast Go.Proofs.YtkfhedppnlocpaaW.PrintMore

/-! ### A chunk's entries and records, one by one -/
section
variable {wn : Nat} {L : List S80}
theorem total_take_le (L : List S80) (i : Nat) : total (L.take i) ≤ total L := by have := total_split L i; omega
theorem total_step {i : Nat} (hi : i < L.length) : total (L.take (i + 1)) = total (L.take i) + wG (L.getD i z80) := by
  unfold total
  rw [List.take_add_one, List.map_append, List.sum_append, List.getD_eq_getElem?_getD, List.getElem?_eq_getElem hi]
  simp
end
/-- The cells of pairs that are read. -/
theorem C_cells {W : World} {pd : Addr} {l : List S94} (h : Kd.C k94 W (some pd) l.length l) : ∀ j u, (l.flatMap pcell)[j]? = some u → W.cell? (pd.add j) = some u := by
  intro j u hu
  have hj : j < l.length * 2 := by
    have := (List.getElem?_eq_some_iff.1 hu).1
    rwa [rc_length pcell_length] at this
  have hil : j / 2 < l.length := by omega
  obtain ⟨x, hx, hc⟩ := h.2.2 (by omega)
  obtain rfl := Option.some.inj hx
  obtain ⟨cs, h1, h2, h3⟩ := hc (j / 2) (l.getD (j / 2) z94) (by rw [List.getD_eq_getElem?_getD, List.getElem?_eq_getElem hil]; rfl)
  have hcs : cs = pcell (l.getD (j / 2) z94) := k94_open h2
  have hr := rc_at pcell_length l (j / 2) (l.getD (j / 2) z94) (by rw [List.getD_eq_getElem?_getD, List.getElem?_eq_getElem hil]; rfl) (j % 2) (by omega)
  have hjj : j / 2 * 2 + j % 2 = j := by omega
  rw [hjj, hu] at hr
  have h4 := h3 (j % 2) u (by rw [hcs]; exact hr.symm)
  have h5 : j / 2 * k94.sz + j % 2 = j := hjj
  rw [h5] at h4
  exact h4

end Go.Proofs.Ytkfhedppnlocpaa.Q
set_option linter.unusedVariables false
set_option linter.unusedSimpArgs false
namespace Go.Proofs.Ytkfhedppnlocpaa.Q
open Go.RowKit Go.Proofs.YtkfhedppnlocpaaW.PrintWords Go.Proofs.YtkfhedppnlocpaaW.PrintLast Go.Proofs.YtkfhedppnlocpaaW.PrintMore

/-! ### What Decode takes, is what Encode makes of groups that may be -/
/-! ### No chunk is the beginning of another, in one of its files -/
/-! ### What is shorter -/
/-! ### Lists told apart -/
end Go.Proofs.Ytkfhedppnlocpaa.Q
