/- What Encode answers, in plain Lean; two builders side by side; contract of the Builder's Len. No condition. -/
import Derived.Test.YtkfhedppnlocpaaE8
import Derived.Test.YtkfhedppnlocpaaE9
import Derived.Test.YtkfhedppnlocpaaE4
set_option linter.unusedVariables false
set_option linter.unusedSimpArgs false
namespace Go.Proofs.Ytkfhedppnlocpaa.Q
open Go.RowKit Go.Proofs.YtkfhedppnlocpaaW.PrintWords Go.Proofs.YtkfhedppnlocpaaW.PrintLast Go.Proofs.YtkfhedppnlocpaaW.PrintMore

theorem below2a (w : World) (o1 : Obj) : Below w.heap.size w (w.alloc o1) := (Below.refl _ _).alloc (Nat.le_refl _) _
theorem below_drewN (w : World) (n : Nat) : Below w.heap.size w (w.drewN n) := ⟨rfl, rfl, rfl, Nat.le_refl _, fun _ _ => rfl⟩
theorem below_drew (w : World) : Below w.heap.size w w.drew := ⟨rfl, rfl, rfl, Nat.le_refl _, fun _ _ => rfl⟩
/-! ### What Encode answers -/
/-- Is the i-th hash above the one ahead? -/
def ordN (l : List S80) (i : Nat) : Bool := i == 0 || Op.bytesLess (l.getD (i - 1) z80).f0.toList (l.getD i z80).f0.toList
abbrev Enc := List UInt8 × List UInt8 × Int
def encL (wd : Int) (l : List S80) : Nat → Nat → List UInt8 → List UInt8 → Enc
  | 0, _, x, d => if 65536 < d.length then ([], [], 3) else (x, d, 0)
  | n + 1, i, x, d =>
    if ((l.getD i z80).f0.size : Int) ≠ wd then ([], [], 34)
    else if ordN l i = false then ([], [], 37)
    else if (recF (l.getD i z80).f1).2 ≠ 0 then ([], [], (recF (l.getD i z80).f1).2)
    else encL wd l n (i + 1) (x ++ ((l.getD i z80).f0.data.toList ++ be d.length 4)) (d ++ (recF (l.getD i z80).f1).1.data.toList)
def encF (wd : Int) (l : List S80) : Enc := if wd < 1 ∨ 16 < wd then ([], [], 30) else encL wd l l.length 0 [] []

theorem rd80_nat (l : List S80) (i : Nat) : rd_T80 l (i : Int) = l.getD i z80 := rfl
theorem api_Group_ord (l : List S80) (i : Nat) (hi : i < l.length) : ∃ r : Int, api_Group.f l (i : Int) = some r ∧ (r = 0 ↔ ordN l i = true) := by
  unfold api_Group.f ordN
  by_cases c : i = 0
  · subst c
    exact ⟨0, rfl, by simp⟩
  · rw [if_neg (by omega), if_pos (by omega)]
    have e : ((i : Int) - 1) = ((i - 1 : Nat) : Int) := by omega
    rw [e, rd80_nat, rd80_nat]
    have hc : (i == 0) = false := by simpa using c
    rw [hc, Bool.false_or]
    have ht := bl_total (l.getD i z80).f0.toList (l.getD (i - 1) z80).f0.toList
    by_cases h1 : (l.getD i z80).f0.toList = (l.getD (i - 1) z80).f0.toList
    · rw [if_pos h1]
      refine ⟨35, rfl, ?_⟩
      rw [← h1, bl_irrefl]
      decide
    · rw [if_neg h1]
      have h1' : ((l.getD i z80).f0.toList == (l.getD (i - 1) z80).f0.toList) = false := by simpa using h1
      rw [h1', Bool.or_false] at ht
      by_cases h2 : Op.bytesLess (l.getD i z80).f0.toList (l.getD (i - 1) z80).f0.toList = true
      · rw [if_pos h2]
        rw [h2] at ht
        have ht' : Op.bytesLess (l.getD (i - 1) z80).f0.toList (l.getD i z80).f0.toList = false := by simpa using ht.symm
        exact ⟨37, rfl, by rw [ht']; decide⟩
      · rw [if_neg h2]
        have h2' : Op.bytesLess (l.getD i z80).f0.toList (l.getD (i - 1) z80).f0.toList = false := by simpa using h2
        rw [h2'] at ht
        have ht' : Op.bytesLess (l.getD (i - 1) z80).f0.toList (l.getD i z80).f0.toList = true := by simpa using ht.symm
        exact ⟨0, rfl, by rw [ht']; decide⟩
theorem recF_size (l : List S94) : (recF l).1.size ≤ 65536 := by
  unfold recF
  by_cases c : wrongF l ≠ 0
  · rw [if_pos c]; exact Nat.zero_le _
  · rw [if_neg c]
    by_cases c2 : 65536 < 2 + sz l
    · rw [if_pos c2]; exact Nat.zero_le _
    · rw [if_neg c2]
      show (recBytes l).toArray.size ≤ 65536
      rw [List.size_toArray]
      unfold recBytes
      rw [List.length_append, be_length, flat_length]
      omega

/-! ### Two builders, and the cell of the answer -/
structure Two2 (B c b1 b2 : Nat) (v1 v2 : Value) (x d : List UInt8) (W : World) : Prop where
  h1 : Bld B b1 v1 x W
  h2 : Bld B b2 v2 d W
  ne : b1 ≠ b2
  rr : ∀ k, v1.ownBlock = some k → v2.ownBlock ≠ some k
  cx : W.heap[c]? = some (.cells #[.string ⟨#[]⟩, .string ⟨#[]⟩] 53 (0, 0))
theorem Bld.not_row {B b : Nat} {v : Value} {bs : List UInt8} {w : World} (h : Bld B b v bs w) {g T : Nat} {cs : Array Value} (hg : w.heap[g]? = some (.cells cs T (0, 0))) (hT : T ≠ 5) : v.ownBlock ≠ some g := by
  obtain ⟨_, p, _, _, hown⟩ := h
  exact Lib.ownBlock_ne hown hg hT
theorem Bld.blk {B b : Nat} {v : Value} {bs : List UInt8} {w : World} (h : Bld B b v bs w) : ∃ p, w.heap[b]? = some (.cells #[p, v] 104 (0, 0)) := by
  obtain ⟨_, p, _, hbk, _⟩ := h
  exact ⟨p, hbk⟩
theorem Bld.move {B b : Nat} {v : Value} {bs : List UInt8} {w w' : World} (h : Bld B b v bs w) (hb : w'.heap[b]? = w.heap[b]?) (hr : ∀ k, v.ownBlock = some k → w'.heap[k]? = w.heap[k]?) : Bld B b v bs w' := by
  obtain ⟨hB, p, hp, hbk, hown⟩ := h
  exact ⟨hB, p, hp, hb.trans hbk, own_move hown hr⟩
section
variable {B c b1 b2 : Nat} {v1 v2 v' : Value} {x d x' : List UInt8} {W W' : World}
theorem Two2.up1 (h : Two2 B c b1 b2 v1 v2 x d W) (hb : Bld B b1 v' x' W') (u : Upd b1 v1 v' W W') : Two2 B c b1 b2 v' v2 x' d W' := by
  obtain ⟨p2, k2⟩ := h.h2.blk
  obtain ⟨p1, k1⟩ := h.h1.blk
  have n1 := h.h1.not_row k2 (by decide)
  have n2 := h.h2.not_row k1 (by decide)
  have n3 := h.h1.not_row h.cx (by decide)
  have lt2 : ∀ k, v2.ownBlock = some k → k < W.heap.size := fun k hk => by obtain ⟨_, p, _, _, hown⟩ := h.h2; exact (hown.lt k hk).2
  have hcb : c ≠ b1 := fun e => by subst e; rw [h.cx] at k1; cases k1
  refine ⟨hb, h.h2.move (u.block b2 h.h2.lt h.ne.symm n1) (fun k hk => u.block k (lt2 k hk) (fun e => n2 (e ▸ hk)) (fun e => h.rr k e hk)), h.ne, fun k hk e => ?_, (u.block c (by have := Array.getElem?_eq_some_iff.1 h.cx; exact this.1) hcb n3).trans h.cx⟩
  rcases u.fresh k hk with h1 | h1
  · exact h.rr k h1 e
  · have := lt2 k e
    omega
theorem Two2.up2 (h : Two2 B c b1 b2 v1 v2 x d W) (hb : Bld B b2 v' x' W') (u : Upd b2 v2 v' W W') : Two2 B c b1 b2 v1 v' x x' W' := by
  obtain ⟨p2, k2⟩ := h.h2.blk
  obtain ⟨p1, k1⟩ := h.h1.blk
  have n1 := h.h1.not_row k2 (by decide)
  have n2 := h.h2.not_row k1 (by decide)
  have n3 := h.h2.not_row h.cx (by decide)
  have lt1 : ∀ k, v1.ownBlock = some k → k < W.heap.size := fun k hk => by obtain ⟨_, p, _, _, hown⟩ := h.h1; exact (hown.lt k hk).2
  have hcb : c ≠ b2 := fun e => by subst e; rw [h.cx] at k2; cases k2
  refine ⟨h.h1.move (u.block b1 h.h1.lt h.ne n2) (fun k hk => u.block k (lt1 k hk) (fun e => n1 (e ▸ hk)) (fun e => h.rr k hk e)), hb, h.ne, fun k hk e => ?_, (u.block c (by have := Array.getElem?_eq_some_iff.1 h.cx; exact this.1) hcb n3).trans h.cx⟩
  rcases u.fresh k e with h1 | h1
  · exact h.rr k hk h1
  · have := lt1 k hk
    omega
theorem Two2.below (h : Two2 B c b1 b2 v1 v2 x d W) (hb : Below W.heap.size W W') : Two2 B c b1 b2 v1 v2 x d W' := by
  have lt1 : ∀ k, v1.ownBlock = some k → k < W.heap.size := fun k hk => by obtain ⟨_, p, _, _, hown⟩ := h.h1; exact (hown.lt k hk).2
  have lt2 : ∀ k, v2.ownBlock = some k → k < W.heap.size := fun k hk => by obtain ⟨_, p, _, _, hown⟩ := h.h2; exact (hown.lt k hk).2
  exact ⟨h.h1.move (hb.block _ h.h1.lt) (fun k hk => hb.block k (lt1 k hk)), h.h2.move (hb.block _ h.h2.lt) (fun k hk => hb.block k (lt2 k hk)), h.ne, h.rr, (hb.block c (by have := Array.getElem?_eq_some_iff.1 h.cx; exact this.1)).trans h.cx⟩
end
theorem Len_any (B b : Nat) (v : Value) (bs : List UInt8) (w : World) (h : Bld B b v bs w) : Calls Try.prog 70 #[.pointer (some ⟨b, 0, none⟩)] w fun e w' => e = .returned (.int .i64 (bs.length : Int)) ∧ w = w' := by
  obtain ⟨p, hk⟩ := h.blk
  obtain ⟨A, cap, rfl⟩ : ∃ A cap, v = .slice A bs.length cap := by
    obtain ⟨_, p, _, _, hown⟩ := h
    rcases hown.2 with ⟨rfl, h0⟩ | ⟨g, c, cur, rfl, _⟩
    · exact ⟨none, 0, by rw [h0]⟩
    · exact ⟨_, _, rfl⟩
  have c1 := blk_cell hk 1
  clear h hk
  go_enter Try.func70, Try.ntmps70
  go_wp2
  go_ret
  exact ⟨rfl, rfl⟩

end Go.Proofs.Ytkfhedppnlocpaa.Q
