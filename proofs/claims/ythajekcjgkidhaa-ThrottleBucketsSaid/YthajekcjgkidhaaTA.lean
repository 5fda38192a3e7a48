/- How a script ([]ThrottleOp) that came in is read: a row of five ints a step. No condition. -/
import Derived.Test.YthajekcjgkidhaaT9
import Derived.Deep.Slices
import Derived.ChangeSlices
set_option linter.unusedVariables false
set_option linter.unusedSimpArgs false
namespace Go.Proofs.Ythajekcjgkidhaa.Q
open Go.RowKit Go.ChangeShapes Go.Proofs.YthajekcjgkidhaaW.PrintWords

section
variable {H : Type} {enc : TypeId × Value → H} {W : World} {sp : Nat → Bool} {held : Bool}
theorem int_one {m : Nat} {v : Value} {o : Option (DataW H × List MemPlace)} (h : DataW.trod enc Try.prog W 0 sp held m 3 [v] = o) (ho : o.isSome = true) : ∃ n : Int, v = .int .i64 n := by
  obtain ⟨y, rfl⟩ := Option.isSome_iff_exists.1 ho
  obtain ⟨n, e, -⟩ := DataW.trod_int Try.underlying3 h
  exact ⟨n, by simpa using e⟩

set_option maxRecDepth 100000 in
/-- The cells of a step that is read are five ints. -/
theorem op_ints {m : Nat} {cs : List Value} {x : DataW H × List MemPlace} (h : DataW.trod enc Try.prog W 0 sp held m 37 cs = some x) (hl : cs.length = 5) : ∀ j, j < 5 → ∃ n : Int, cs[j]? = some (.int .i64 n) := by
  have c3 : Try.prog.cellsOf 3 = 1 := by kernel_rfl
  have c35 : Try.prog.cellsOf 35 = 2 := by kernel_rfl
  obtain ⟨xs, m1, -, -, -, hxl, hf⟩ := DataW.trod_struct Try.underlying37 h
  match cs, hl with
  | [v0, v1, v2, v3, v4], _ =>
  have hx : ∀ i, i < 4 → (xs[i]?).isSome = true := fun i hi => by
    have : xs.length = 4 := hxl
    simp [List.getElem?_eq_getElem (show i < xs.length by omega)]
  have g0 : DataW.trod enc Try.prog W 0 sp held m1 3 (([v0, v1, v2, v3, v4].drop 0).take (Try.prog.cellsOf 3)) = xs[0]? := hf 0 _ rfl
  rw [c3] at g0
  have g1 : DataW.trod enc Try.prog W 0 sp held m1 3 (([v0, v1, v2, v3, v4].drop 1).take (Try.prog.cellsOf 3)) = xs[1]? := hf 1 _ rfl
  rw [c3] at g1
  have g2 : DataW.trod enc Try.prog W 0 sp held m1 3 (([v0, v1, v2, v3, v4].drop 2).take (Try.prog.cellsOf 3)) = xs[2]? := hf 2 _ rfl
  rw [c3] at g2
  have g3 : DataW.trod enc Try.prog W 0 sp held m1 35 (([v0, v1, v2, v3, v4].drop 3).take (Try.prog.cellsOf 35)) = xs[3]? := hf 3 _ rfl
  rw [c35] at g3
  obtain ⟨n0, rfl⟩ := int_one g0 (hx 0 (by omega))
  obtain ⟨n1, rfl⟩ := int_one g1 (hx 1 (by omega))
  obtain ⟨n2, rfl⟩ := int_one g2 (hx 2 (by omega))
  obtain ⟨y, hy⟩ := Option.isSome_iff_exists.1 (hx 3 (by omega))
  rw [hy] at g3
  obtain ⟨ys, m2, -, -, -, hyl, hk⟩ := DataW.trod_struct Try.underlying35 g3
  have hy2 : ∀ i, i < 2 → (ys[i]?).isSome = true := fun i hi => by
    have : ys.length = 2 := hyl
    simp [List.getElem?_eq_getElem (show i < ys.length by omega)]
  have k0 : DataW.trod enc Try.prog W 0 sp held m2 3 (([v3, v4].drop 0).take (Try.prog.cellsOf 3)) = ys[0]? := hk 0 _ rfl
  rw [c3] at k0
  have k1 : DataW.trod enc Try.prog W 0 sp held m2 3 (([v3, v4].drop 1).take (Try.prog.cellsOf 3)) = ys[1]? := hk 1 _ rfl
  rw [c3] at k1
  obtain ⟨n3, rfl⟩ := int_one k0 (hy2 0 (by omega))
  obtain ⟨n4, rfl⟩ := int_one k1 (hy2 1 (by omega))
  intro j hj
  match j, hj with
  | 0, _ => exact ⟨n0, rfl⟩
  | 1, _ => exact ⟨n1, rfl⟩
  | 2, _ => exact ⟨n2, rfl⟩
  | 3, _ => exact ⟨n3, rfl⟩
  | 4, _ => exact ⟨n4, rfl⟩

def intAt (W : World) (a : Addr) : Int := match W.cell? a with
  | some (.int _ n) => n
  | _ => 0
theorem intAt_eq {a : Addr} {n : Int} (h : W.cell? a = some (.int .i64 n)) : W.cell? a = some (.int .i64 (intAt W a)) := by
  unfold intAt
  rw [h]

set_option maxRecDepth 100000 in
/-- A script that came in. -/
theorem open_ops {a : Option Addr} {len cap m : Nat} {x : DataW H × List MemPlace} (hf : DataW.trod enc Try.prog W 0 (fun _ => true) held m 24 [.slice a len cap] = some x) : ∃ l : List Op5, ROps W a l ∧ l.length ≤ cap ∧ len = l.length := by
  have c37 : Try.prog.cellsOf 37 = 5 := by kernel_rfl
  rcases Go.Deep.open_slice Try.underlying24 hf with ⟨hcs, _⟩ | ⟨y, l, c, m, n, D, Pl, hcs, _, hl, hm, hmm, _, hi⟩
  · simp at hcs
    obtain ⟨rfl, rfl, rfl⟩ := hcs
    exact ⟨[], ⟨rfl, by decide, fun h => absurd h (by decide)⟩, Nat.le_refl _, rfl⟩
  · simp at hcs
    obtain ⟨rfl, rfl, rfl⟩ := hcs
    have hm' : m = cap := by simpa using hmm
    rw [c37] at hi
    refine ⟨(List.range len).map fun i => ⟨intAt W (y.add (i * 5 + 0)), intAt W (y.add (i * 5 + 1)), intAt W (y.add (i * 5 + 2)), intAt W (y.add (i * 5 + 3)), intAt W (y.add (i * 5 + 4))⟩, ⟨rfl, by unfold maxLen at hm; simp; omega, fun _ => ⟨y, rfl, fun j p hj => ⟨p.cells, rfl, rfl, fun i u hu => ?_⟩⟩⟩, by simp; exact hl, by simp⟩
    rw [List.getElem?_map] at hj
    obtain ⟨j', hj', rfl⟩ := Option.map_eq_some_iff.1 hj
    have hjl : j < len := by have := (List.getElem?_eq_some_iff.1 hj').1; simpa using this
    obtain rfl : j = j' := by
      rw [List.getElem?_range hjl] at hj'
      exact Option.some.inj hj'
    obtain ⟨cs', hc, ht⟩ := hi j (by omega)
    obtain ⟨_, hlen, hat⟩ := World.cells?_some hc
    have ho := op_ints ht hlen
    have hcell : ∀ k, k < 5 → ∃ n : Int, W.cell? (y.add (j * 5 + k)) = some (.int .i64 n) := fun k hk => by
      obtain ⟨n, hn⟩ := ho k hk
      exact ⟨n, by rw [← addr_add_add, hat k hk, hn]⟩
    match i, hu with
    | 0, hu => obtain ⟨n, hn⟩ := hcell 0 (by omega); rw [← hu]; exact (intAt_eq hn)
    | 1, hu => obtain ⟨n, hn⟩ := hcell 1 (by omega); rw [← hu]; exact (intAt_eq hn)
    | 2, hu => obtain ⟨n, hn⟩ := hcell 2 (by omega); rw [← hu]; exact (intAt_eq hn)
    | 3, hu => obtain ⟨n, hn⟩ := hcell 3 (by omega); rw [← hu]; exact (intAt_eq hn)
    | 4, hu => obtain ⟨n, hn⟩ := hcell 4 (by omega); rw [← hu]; exact (intAt_eq hn)
    | (k + 5), hu => simp [Op5.cells] at hu
end
end Go.Proofs.Ythajekcjgkidhaa.Q
