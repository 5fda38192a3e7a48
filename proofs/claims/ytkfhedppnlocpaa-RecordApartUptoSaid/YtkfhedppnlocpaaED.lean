/- What Decode answers, in plain Lean; a new row of groups. No condition. -/
import Derived.Test.YtkfhedppnlocpaaEU
import Derived.Test.YtkfhedppnlocpaaPd
set_option linter.unusedVariables false
set_option linter.unusedSimpArgs false
namespace Go.Proofs.Ytkfhedppnlocpaa.Q
open Go.RowKit Go.Proofs.YtkfhedppnlocpaaW.PrintWords Go.Proofs.YtkfhedppnlocpaaW.PrintLast Go.Proofs.YtkfhedppnlocpaaW.PrintMore

/-! ### What Decode answers -/
def hashAt (wn : Nat) (x : ByteArray) (i : Nat) : ByteArray := x.extract (i * (wn + 4)) (i * (wn + 4) + wn)
def offAt (wn : Nat) (x : ByteArray) (i : Nat) : Int := beNum (x.extract (i * (wn + 4) + wn) ((i + 1) * (wn + 4))).data.toList
/-- Does the i-th hash rise above the one ahead? -/
def upAt (wn : Nat) (x : ByteArray) (i : Nat) : Bool := i == 0 || Op.bytesLess (hashAt wn x (i - 1)).toList (hashAt wn x i).toList
def upAll (wn : Nat) (x : ByteArray) : Nat → Bool
  | 0 => true
  | n + 1 => upAll wn x n && upAt wn x n
def dec2 (wn : Nat) (x d : ByteArray) : Nat → Nat → Int → Option (List (List S94) × Int)
  | 0, _, at_ => some ([], at_)
  | n + 1, i, at_ => if offAt wn x i ≠ at_ then none else if (rrF d at_).2.2 ≠ 0 then none else (dec2 wn x d n (i + 1) (rrF d at_).2.1).map fun r => ((rrF d at_).1 :: r.1, r.2)
def groupsOf (wn : Nat) (x : ByteArray) (ps : List (List S94)) : List S80 := ps.zipIdx.map fun p => ⟨hashAt wn x p.2, p.1⟩
def decTail (wn : Nat) (x d : ByteArray) : Option (List (List S94) × Int) → List S80 × Int
  | none => ([], 39)
  | some r => if r.2 ≠ (d.size : Int) ∨ 65536 < r.2 then ([], 39) else (groupsOf wn x r.1, 0)
def decF (wd : Int) (x d : ByteArray) : List S80 × Int :=
  if wd < 1 ∨ 16 < wd then ([], 30)
  else if x.size % (wd.toNat + 4) ≠ 0 then ([], 38)
  else if upAll wd.toNat x (x.size / (wd.toNat + 4)) = false then ([], 38)
  else decTail wd.toNat x d (dec2 wd.toNat x d (x.size / (wd.toNat + 4)) 0 0)

def zGE : GE := ⟨⟨#[]⟩, none, 0, []⟩
theorem made_cells (n : Nat) : (madeCells #[.string ⟨#[]⟩, .slice none 0 0] (n * 2)).toList = (List.replicate n zGE).flatMap gcell := by
  apply List.ext_getElem?
  intro j
  have hl : ((List.replicate n zGE).flatMap gcell).length = n * 2 := by rw [rc_length gcell_length, List.length_replicate]
  rcases Nat.lt_or_ge j (n * 2) with hj | hj
  · have h1 := rc_at gcell_length (List.replicate n zGE) (j / 2) zGE (by rw [List.getElem?_replicate]; simp; omega) (j % 2) (by omega)
    rw [show j / 2 * 2 + j % 2 = j by omega] at h1
    rw [h1]
    rcases (show j % 2 = 0 ∨ j % 2 = 1 by omega) with h | h <;> simp [madeCells, h, gcell, zGE, hj]
  · rw [List.getElem?_eq_none (by rw [Array.length_toList, size_madeCells]; exact hj), List.getElem?_eq_none (by rw [hl]; exact hj)]
/-- A new row of groups. -/
theorem GR.made (W : World) (n : Nat) (hn : n ≤ 4194304) : GR W.heap.size (W.alloc (.cells (madeCells #[.string ⟨#[]⟩, .slice none 0 0] (n * 2)) 80)) (some ⟨W.heap.size, 0, none⟩) n (List.replicate n zGE) := by
  refine ⟨⟨?_, .inr ⟨W.heap.size, n, madeCells #[.string ⟨#[]⟩, .slice none 0 0] (n * 2), by rw [List.length_replicate], Nat.le_refl _, blk_new W _, by rw [List.length_replicate]; exact Nat.le_refl _, by unfold maxLen; omega, ?_, ?_⟩⟩, fun e he => ?_, fun i j e e' _ he he' k hk => ?_⟩
  · rw [rc_length gcell_length]
  · simp [madeCells]
  · rw [made_cells, List.length_replicate, List.take_of_length_le (by rw [rc_length gcell_length, List.length_replicate]; exact Nat.le_refl _)]
  · obtain rfl := List.eq_of_mem_replicate he
    exact World.ownsRow_nil _ _ _ _
  · rw [List.getElem?_replicate] at he
    split at he
    · obtain rfl := Option.some.inj he
      cases hk
    · cases he

def DecRes (p : List S80 × Int) (w : World) (e : Ending) (w' : World) : Prop :=
  ∃ (A : Option Addr) (q : Nat) (E : List GE), e = .returned (.tuple #[.slice A E.length q, .int .i64 p.2]) ∧ E.map GE.g = p.1 ∧ GR w.heap.size w' A q E ∧ Below w.heap.size w w'
theorem DecRes.err (w w' : World) (n : Int) (hb : Below w.heap.size w w') : DecRes ([], n) w (.returned (.tuple #[.slice none 0 0, .int .i64 n])) w' := ⟨none, 0, [], rfl, rfl, GR.nil _ _, hb⟩

end Go.Proofs.Ytkfhedppnlocpaa.Q
