/- Contract of record.take: of at most four bytes it answers the number that they say. Condition: none beyond that length. Contracts of the strings.Builder's WriteByte and WriteString in this translation: the bytes are added, and nothing changes but the builder, its own row and new memory. Condition: the builder is the call's own, its bytes fit. Contracts of the strings.Builder's String and of record.put: the bytes of a number, the greatest first. Condition: a width of 1 to 4. Contracts of record.Number and record.Entry: what they answer, at every argument (Entry: of a text that the memory holds). No condition. -/
import Derived.Test.YtkfhedppnlocpaaProg
import Derived.Below
import Derived.Deep.Draws
import Derived.Deep.AppendLies
import Derived.Maps.AppendAt
import Derived.OwnWalk
import Derived.Laws.BytesArg
import Derived.Laws.MakeOwn
import Derived.Laws.OwnMore
import Derived.Deep.OwnRows
import Derived.Tactics
import Derived.Lib.ConvBytes
import Derived.Laws.Slices
import Derived.WalkKit
import Derived.KernelRfl
import Derived.RowKit3
import Derived.Deep.LoopGhost
import Derived.Deep.QuietTactic
import Derived.BigQuiet
import Derived.WideLaws
import Derived.Deep.DeepCutAuto
import Derived.Deep.CutBlock
import Derived.Deep.RegionHeld3
import Derived.Laws.Rows
import Derived.Lib.AppendStr
import Derived.ArgAppend
import Derived.Laws.IdiomCopy
import Derived.OrdersHeld
import Derived.Laws.BitsLemmas
import Derived.RowKit
import Derived.Test.YtkfhedppnlocpaaWWords
import Derived.Test.YtkfhedppnlocpaaWLast
import Derived.Test.YtkfhedppnlocpaaWTab
import Derived.Test.YtkfhedppnlocpaaWQPut
import Derived.Test.YtkfhedppnlocpaaWApart
import Derived.Test.YtkfhedppnlocpaaWArr
import Derived.Test.YtkfhedppnlocpaaWZeros
import Derived.Test.YtkfhedppnlocpaaWFoot
import Derived.Test.YtkfhedppnlocpaaWKept
import Derived.Test.YtkfhedppnlocpaaWShare
import Derived.Test.YtkfhedppnlocpaaWN
import Derived.Test.YtkfhedppnlocpaaWRepsOne
import Derived.Test.YtkfhedppnlocpaaWGuard
import Derived.Test.YtkfhedppnlocpaaWNEv
import Derived.Test.YtkfhedppnlocpaaWMore
import Derived.IntWalk
import Derived.Lib.Builder
import Derived.Shelf.Strings.Builder1
import Derived.Lib.UnsafeStr
import Derived.RegionTactic
namespace Go.Proofs.Ytkfhedppnlocpaa.Q
open Go.RowKit Go.Proofs.YtkfhedppnlocpaaW.PrintWords Go.Proofs.YtkfhedppnlocpaaW.PrintLast Go.Proofs.YtkfhedppnlocpaaW.PrintMore

/-- The number that bytes say, the greatest first. -/
def beNum (l : List UInt8) : Int := l.foldl (fun n c => n * 256 + (c.toNat : Int)) 0

theorem beNum_snoc (l : List UInt8) (c : UInt8) : beNum (l ++ [c]) = beNum l * 256 + (c.toNat : Int) := by simp [beNum, List.foldl_append]

theorem beNum_bd4 (l : List UInt8) (h : l.length ≤ 4) : 0 ≤ beNum l ∧ beNum l < 4294967296 := by
  match l, h with
  | [], _ => simp [beNum]
  | [a], _ => have := a.toNat_lt; simp [beNum]; omega
  | [a, b], _ => have := a.toNat_lt; have := b.toNat_lt; simp [beNum]; omega
  | [a, b, c], _ => have := a.toNat_lt; have := b.toNat_lt; have := c.toNat_lt; simp [beNum]; omega
  | [a, b, c, d], _ => have := a.toNat_lt; have := b.toNat_lt; have := c.toNat_lt; have := d.toNat_lt; simp [beNum]; omega

theorem bytesWorld_below {w0 w : World} (e : TypeId) (s : ByteArray) (h : Below w0.heap.size w0 w) : Below w0.heap.size w0 (Lib.bytesWorld w e s) :=
  h.trans ⟨rfl, rfl, rfl, by rw [Lib.bytesWorld_size]; omega, fun k hk => Lib.bytesWorld_at_old w e s k (Nat.lt_of_lt_of_le hk h.size)⟩

/-! ### record.take: function 55 -/
def record_take.f (a0 : ByteArray) : Option Int := if a0.size ≤ 4 then some (beNum a0.data.toList) else none

theorem take_snoc1 (s : ByteArray) (k : Nat) (h : k < s.size) : s.data.toList.take (k + 1) = s.data.toList.take k ++ [s[k]] := by
  rw [List.take_succ_eq_append_getElem (by simpa using h)]; rfl

theorem take_step (a : Int) (c : Nat) (h0 : 0 ≤ a) (h1 : a < 4294967296) (hc : c < 256) : bits .or .i64 (a * 256) (wrap64 (c : Int)) = a * 256 + c := by
  rw [Go.IntWalk.wrap64_in _ (by omega)]
  exact bits_join .i64 63 (by decide) (fun n h0 h1 => (i64_w n).trans (Go.IntWalk.wrap64_in n (by omega))) 8 (a * 256) c (by omega) (by omega) (by omega) (by omega) (by omega) (by omega)

set_option maxHeartbeats 1000000 in
theorem record_take.calls (a0 : ByteArray) (r : Int) (w : World) (h : record_take.f a0 = some r) :
    Calls Try.prog 55 #[.string a0] w fun e w' => e = .returned (.int .i64 r) ∧ Below w.heap.size w w' := by
  unfold record_take.f at h
  split at h
  · rename_i h4
    obtain rfl := Option.some.inj h
    clear h
    have hconv := Lib.run_convert_string_bytes (P := Try.prog) w 9 90 5 a0 Try.underlying9 Try.underlying90 Try.underlying5
    go_enter Try.func55, Try.ntmps55
    go_wp2
    clear hconv
    go_loop [3, 9] (fun n i => ∃ k : Nat, k ≤ a0.size ∧ i = .int .i64 k ∧ n = .int .i64 (beNum (a0.data.toList.take k))) (fun _ i => a0.size - (intOf i).toNat)
    case atStart => exact ⟨0, Nat.zero_le _, rfl, rfl⟩
    case round =>
      obtain ⟨k, hk, rfl, rfl⟩ := hrel
      by_cases hlt : k < a0.size
      · have hc := Lib.bytesWorld_cell w 5 a0 k hlt
        have hbd := beNum_bd4 (a0.data.toList.take k) (by rw [List.length_take]; omega)
        have hx := take_step (beNum (a0.data.toList.take k)) a0.data[k].toNat hbd.1 hbd.2 (UInt8.toNat_lt _)
        have HX := Aside0.mk hx
        clear hx
        go_wp2
        go_round
        case rel => exact ⟨k + 1, by omega, by go_num, by rw [HX.out, take_snoc1 a0 k hlt, beNum_snoc]; rfl⟩
        case measure => simp [intOf]; omega
      · go_wp2
        go_ret
        exact ⟨by rw [List.take_of_length_le (by simp; omega)]; rfl, bytesWorld_below 5 a0 (Below.refl _ _)⟩
  · cases h

end Go.Proofs.Ytkfhedppnlocpaa.Q
namespace Go.Proofs.Ytkfhedppnlocpaa.Q
open Go.RowKit Go.Proofs.YtkfhedppnlocpaaW.PrintWords Go.Proofs.YtkfhedppnlocpaaW.PrintLast Go.Proofs.YtkfhedppnlocpaaW.PrintMore

/-! ### A builder, with what its writes turn -/
def Bld (base b : Nat) (v : Value) (bs : List UInt8) (w : World) : Prop :=
  base ≤ b ∧ ∃ p, (p = .pointer none ∨ p = .pointer (some ⟨b, 0, none⟩)) ∧ w.heap[b]? = some (.cells #[p, v] 104 (0, 0)) ∧ w.ownsRow base 5 1 v bs.length (Lib.byteCells bs)

structure Upd (b : Nat) (v v' : Value) (w w' : World) : Prop where
  os : w'.os = w.os
  tape : w'.tape = w.tape
  output : w'.output = w.output
  size : w.heap.size ≤ w'.heap.size
  block : ∀ k, k < w.heap.size → k ≠ b → v.ownBlock ≠ some k → w'.heap[k]? = w.heap[k]?
  fresh : ∀ k, v'.ownBlock = some k → v.ownBlock = some k ∨ w.heap.size ≤ k

theorem Upd.refl (b : Nat) (v : Value) (w : World) : Upd b v v w w := ⟨rfl, rfl, rfl, Nat.le_refl _, fun _ _ _ _ => rfl, fun _ h => .inl h⟩
theorem Upd.trans {b : Nat} {v v' v'' : Value} {w w' w'' : World} (h : Upd b v v' w w') (k : Upd b v' v'' w' w'') : Upd b v v'' w w'' :=
  ⟨k.os.trans h.os, k.tape.trans h.tape, k.output.trans h.output, Nat.le_trans h.size k.size,
   fun i hi hb hv => (k.block i (Nat.lt_of_lt_of_le hi h.size) hb (fun e => by rcases h.fresh i e with e1 | e1; exact hv e1; omega)).trans (h.block i hi hb hv),
   fun i e => by
    rcases k.fresh i e with e1 | e1
    · exact h.fresh i e1
    · exact .inr (Nat.le_trans h.size e1)⟩
theorem Upd.below {base b : Nat} {v v' : Value} {bs : List UInt8} {w w' : World} (h : Upd b v v' w w') (hb : Bld base b v bs w) : Below base w w' := by
  obtain ⟨hB, p, _, hbk, hown⟩ := hb
  have hl : b < w.heap.size := by
    rcases Nat.lt_or_ge b w.heap.size with h' | h'
    · exact h'
    · simp [Array.getElem?_eq_none h'] at hbk
  refine ⟨h.os, h.tape, h.output, h.size, fun k hk => h.block k (by omega) (by omega) (fun e => ?_)⟩
  have := (hown.lt k e).1
  omega

theorem Bld.ne {base b : Nat} {v : Value} {bs : List UInt8} {w : World} (h : Bld base b v bs w) : v.ownBlock ≠ some b := by
  obtain ⟨_, p, _, hbk, hown⟩ := h
  exact Lib.ownBlock_ne hown hbk (by decide)

section
variable {P : Program} (w : World)
theorem run_append_own_string_at (base : Nat) (t u ty e : TypeId) (i : TypeInfo) (ht : P.underlying t = some (.slice e)) (hu : P.underlying u = some .string) (hi : P.info? e = some i) (hz : i.zero = some (.int .u8 0))
    (hsize : i.size = 1) (hby : i.bytes = 1)
    (v : Value) (n : Nat) (xs : List Value) (hown : w.ownsRow base e 1 v n xs) (s : ByteArray)
    (h63 : n + s.size ≤ maxLen) (hbytes : n + s.size ≤ 140737488355328) (hbase : base ≤ w.heap.size) :
    ∃ v' w', (Builtin.append_ #[t, u] ty #[v, .string s]).run P w = .ok v' w' ∧ w'.ownsRow base e 1 v' (n + s.size) (xs ++ Lib.strCells s) ∧ w.grownBy w' v.ownBlock ∧
      (∀ k, v'.ownBlock = some k → v.ownBlock = some k ∨ w.heap.size ≤ k) := by
  obtain ⟨v', w', hr, h2, h3, _⟩ := Lib.run_append_own_string (P := P) w base t u ty e i ht hu hi hz hsize hby v n xs hown s h63 hbytes hbase
  refine ⟨v', w', hr, h2, h3, fun k hk => ?_⟩
  rcases hown.2 with ⟨rfl, rfl⟩ | ⟨g, cap, cur, rfl, hbg, hg, hnc, hcm, hcs, htake⟩
  · have hx : xs = [] := List.eq_nil_of_length_eq_zero (by simpa using hown.1)
    subst hx
    obtain ⟨v2, w2, hr2, h22, _⟩ := Lib.run_append_own_string (P := P) w w.heap.size t u ty e i ht hu hi hz hsize hby (.slice none 0 0) 0 [] (World.ownsRow_nil _ _ _ _) s h63 hbytes (Nat.le_refl _)
    rw [hr] at hr2
    injection hr2 with e1 e2
    subst e1 e2
    exact .inr (h22.lt k hk).1
  · have hxl : xs.length = n := by simpa using hown.1
    by_cases hroom : n + s.size ≤ cap
    · have hr2 := Lib.run_append_room_string (P := P) w t u ty e i ht hu hi hsize g n cap cur hg s hroom (by rw [Nat.mul_one] at hcs; omega)
      rw [hr] at hr2
      injection hr2 with e1 e2
      subst e1
      exact .inl hk
    · have holds : ∀ j u, xs[j]? = some u → w.cell? ((⟨g, 0, none⟩ : Addr).add j) = some u := hown.cells (g := g) rfl
      have hr2 := Lib.run_append_grow_string (P := P) w t u ty e i (.int .u8 0) ht hu hi hz ⟨g, 0, none⟩ n cap xs (by rw [hsize]; simpa using hxl) holds s (by omega) (by unfold maxLen at h63; omega) (by rw [hby]; exact growslice_fits (by omega) (by omega))
      rw [hr] at hr2
      injection hr2 with e1 e2
      subst e1
      simp only [Value.ownBlock, Option.some.injEq] at hk
      exact .inr (by omega)

theorem wpList_append_own_string_at {ops : Array Oper} {rest : List Oper} {o : Oper} {a : Act} {Q : Exit → Act → World → Prop} (hgd : o.guard = none) (sl x : Operand) (t u : TypeId)
    (ho : o.op = .call { callee := .builtin .append, args := #[sl, x], argTypes := #[t, u] })
    (base : Nat) (e : TypeId) (i : TypeInfo) (ht : P.underlying t = some (.slice e)) (hu : P.underlying u = some .string) (hi : P.info? e = some i) (hz : i.zero = some (.int .u8 0))
    (hsize : i.size = 1) (hby : i.bytes = 1)
    (v : Value) (n : Nat) (xs : List Value) (hs : a.eval sl = v) (hown : w.ownsRow base e 1 v n xs) (s : ByteArray) (hx : a.eval x = .string s)
    (h63 : n + s.size ≤ maxLen) (hbytes : n + s.size ≤ 140737488355328) (hbase : base ≤ w.heap.size)
    (h : ∀ v' w', w'.ownsRow base e 1 v' (n + s.size) (xs ++ Lib.strCells s) → w.grownBy w' v.ownBlock → (∀ k, v'.ownBlock = some k → v.ownBlock = some k ∨ w.heap.size ≤ k) → wpList P ops Q rest (a.put o.dst v') w') : wpList P ops Q (o :: rest) a w := by
  refine wpList_plain hgd fun K hK => ?_
  obtain ⟨v', w', hr, h2, h3, h4⟩ := run_append_own_string_at (P := P) w base t u o.type e i ht hu hi hz hsize hby v n xs hown s h63 hbytes hbase
  unfold Oper.wp execOp
  simp only [ho, resolve, invoke, builtin, Sem.run_bind, Sem.run_pure, Result.andThen_ok, List.map_toArray, List.map_cons, List.map_nil, hs, hx, hr]
  exact hK _ _ (h v' w' h2 h3 h4)
end

theorem sizeB : (Try.prog.info? 104).map (·.size) = some 2 := by kernel_rfl
theorem liesB : liesAt Try.prog Try.prog.depth 104 (2 / Try.prog.cellsOf 104) 0 104 1 = true := by kernel_rfl
theorem infoByte : (Try.prog.info? 5).map (fun i => (i.zero, i.size, i.bytes)) = some (some (.int .u8 0), 1, 1) := by kernel_rfl

set_option maxHeartbeats 1000000 in
set_option maxRecDepth 100000 in
theorem copyCheck_used (b : Nat) (w : World) (h0 : w.cell? ⟨b, 0, none⟩ = some (.pointer (some ⟨b, 0, none⟩))) :
    Calls Try.prog 79 #[.pointer (some ⟨b, 0, none⟩)] w fun e w' => e = .returned (.tuple #[]) ∧ w' = w := by
  obtain ⟨j, hj, _⟩ := Option.map_eq_some_iff.1 sizeB
  go_enter Try.func79, Try.ntmps79
  go_wp2
  rw [Lib.run_neq_ptr_same w _ Try.underlying102 hj]
  go_wp2
  go_end0
  exact ⟨rfl, rfl⟩

set_option maxHeartbeats 1000000 in
set_option maxRecDepth 100000 in
theorem copyCheck_fresh (b : Nat) (w : World) (h0 : w.cell? ⟨b, 0, none⟩ = some (.pointer none)) (hsh : w.shape? b = some (104, 2)) (hfz : w.frozen? ⟨b, 0, none⟩ = false) :
    Calls Try.prog 79 #[.pointer (some ⟨b, 0, none⟩)] w fun e w' => e = .returned (.tuple #[]) ∧ w' = w.setCell ⟨b, 0, none⟩ (.pointer (some ⟨b, 0, none⟩)) := by
  obtain ⟨j, hj, hjs⟩ := Option.map_eq_some_iff.1 sizeB
  go_enter Try.func79, Try.ntmps79
  go_wp2
  rw [Lib.run_to_unsafe w ⟨b, 0, none⟩ Try.underlying102 Try.underlying139 hj (by rw [hjs]; decide) hsh (Nat.zero_lt_succ 1)]
  simp only [Result.andThen]
  rw [Oper.upon_value]
  go_wp2
  rw [run_callFunc_extern Try.func82 (by kernel_rfl) (by kernel_rfl) (by kernel_rfl) (e := Extern.AbiNoEscape.same) (by kernel_rfl)]
  rw [Lib.run_noEscape]
  simp only [Result.andThen]
  rw [Oper.upon_value]
  go_wp2
  rw [Lib.run_from_unsafe w ⟨b, 0, none⟩ Try.underlying139 Try.underlying102 hj hsh liesB]
  simp only [Result.andThen]
  rw [Oper.upon_value]
  go_wp2
  go_end0
  exact ⟨rfl, rfl⟩

theorem setCell_upd (b : Nat) (v : Value) (w : World) (j : Nat) (u : Value) : Upd b v v w (w.setCell ⟨b, j, none⟩ u) :=
  ⟨rfl, rfl, rfl, by simp [World.setCell], fun k _ hk _ => Below.heap_setCell _ _ _ _ hk, fun _ e => .inl e⟩

theorem copyCheck_any (base b : Nat) (v : Value) (bs : List UInt8) (w : World) (h : Bld base b v bs w) :
    Calls Try.prog 79 #[.pointer (some ⟨b, 0, none⟩)] w fun e w' => e = .returned (.tuple #[]) ∧ (w'.heap[b]? = some (.cells #[.pointer (some ⟨b, 0, none⟩), v] 104 (0, 0)) ∧ w'.ownsRow base 5 1 v bs.length (Lib.byteCells bs) ∧ Upd b v v w w') := by
  have h' := h
  have hne := h.ne
  obtain ⟨hB, p, hp, hbk, hown⟩ := h
  rcases hp with rfl | rfl
  · refine (copyCheck_fresh b w (by rw [Lib.cell_of_heap hbk]; rfl) (by simp [World.shape?, hbk]) (Lib.frozen_of_heap hbk 0)).mono ?_
    rintro e w' ⟨rfl, rfl⟩
    have hu := setCell_upd b v w 0 (.pointer (some ⟨b, 0, none⟩))
    refine ⟨rfl, ?_, ?_, hu⟩
    · simp [World.setCell, Array.getElem?_modify, hbk]
    · exact hown.kept (row := some b) ⟨rfl, rfl, rfl, hu.size, fun k _ hk => Below.heap_setCell _ _ _ _ (fun e => hk (by simp [e]))⟩ (Or.inr hne)
  · refine (copyCheck_used b w (by rw [Lib.cell_of_heap hbk]; rfl)).mono ?_
    rintro e w' ⟨rfl, rfl⟩
    exact ⟨rfl, hbk, hown, Upd.refl _ _ _⟩

theorem byteCells_app (l m : List UInt8) : Lib.byteCells (l ++ m) = Lib.byteCells l ++ Lib.byteCells m := by simp [Lib.byteCells]

/-- What a write leaves: the new buffer laid into 'buf'. -/
theorem put_buf {base b : Nat} {v v' : Value} {bs : List UInt8} {w w1 w2 : World} (hB : base ≤ b) (hu : Upd b v v w w1) (hbk : w1.heap[b]? = some (.cells #[.pointer (some ⟨b, 0, none⟩), v] 104 (0, 0)))
    (hne : v.ownBlock ≠ some b) (hg : w1.grownBy w2 v.ownBlock) (hown' : w2.ownsRow base 5 1 v' bs.length (Lib.byteCells bs)) (hf : ∀ k, v'.ownBlock = some k → v.ownBlock = some k ∨ w1.heap.size ≤ k) :
    Bld base b v' bs (w2.setCell ⟨b, 1, none⟩ v') ∧ Upd b v v' w (w2.setCell ⟨b, 1, none⟩ v') := by
  have hlt : b < w1.heap.size := by
    rcases Nat.lt_or_ge b w1.heap.size with h' | h'
    · exact h'
    · simp [Array.getElem?_eq_none h'] at hbk
  have hb2 : w2.heap[b]? = some (.cells #[.pointer (some ⟨b, 0, none⟩), v] 104 (0, 0)) := (hg.block b hlt (fun e => hne e.symm)).trans hbk
  have hne' := Lib.ownBlock_ne hown' hb2 (by decide)
  have hu2 : Upd b v v' w1 w2 := ⟨hg.os, hg.tape, hg.output, hg.size, fun k hk _ hv => hg.block k hk (fun e => hv e.symm), hf⟩
  refine ⟨⟨hB, _, .inr rfl, ?_, ?_⟩, (hu.trans hu2).trans (setCell_upd b v' w2 1 v')⟩
  · simp [World.setCell, Array.getElem?_modify, hb2]
  · exact hown'.kept (row := some b) ⟨rfl, rfl, rfl, by simp [World.setCell], fun k _ hk => Below.heap_setCell _ _ _ _ (fun e => hk (by simp [e]))⟩ (Or.inr hne')

set_option maxHeartbeats 1000000 in
set_option maxRecDepth 100000 in
theorem WriteByte_any (base b : Nat) (v : Value) (bs : List UInt8) (c : Int) (hc0 : 0 ≤ c) (hc1 : c < 256) (w : World) (h : Bld base b v bs w) (hlen : bs.length + 1 ≤ 140737488355328) (hBw : base ≤ w.heap.size) :
    Calls Try.prog 78 #[.pointer (some ⟨b, 0, none⟩), .int .u8 c] w fun e w' => e = .returned .nilIface ∧ ∃ v', Bld base b v' (bs ++ [UInt8.ofNat c.toNat]) w' ∧ Upd b v v' w w' := by
  obtain ⟨i0, hi, hz0, hz1, hz2⟩ := info_parts infoByte
  have hB := h.1
  have hne := h.ne
  go_enter Try.func78, Try.ntmps78
  go_wp2_with (go_at_call 79; refine (copyCheck_any base b v bs _ h).mono ?_)
  rintro e w1 ⟨rfl, hbk, hown, hu1⟩
  have c0 : w1.cell? ⟨b, 0, none⟩ = some (.pointer (some ⟨b, 0, none⟩)) := by rw [Lib.cell_of_heap hbk]; rfl
  have c1 : w1.cell? ⟨b, 1, none⟩ = some v := by rw [Lib.cell_of_heap hbk]; rfl
  go_wp2_with (at_builtin; refine wpList_append_own_at _ rfl _ _ 90 rfl base 5 i0 (.int .u8 0) 1 1 Try.underlying90 hi hz0 hz1 hz2 rfl (by decide) _ _ _ rfl (hown.alloc _) ⟨w1.heap.size, 0, none⟩ 1 1 [.int .u8 c] rfl rfl ?c1 ?c2 ?c3 ?c4 ?c5 ?_)
  case c1 =>
    intro j u hj
    match j, hj with
    | 0, hj => simp at hj; subst hj; simp [Addr.add]
  case c2 => intro u hu; simp at hu; subst hu; rfl
  case c3 => unfold maxLen; omega
  case c4 => omega
  case c5 => have := hu1.size; simp; omega
  intro v' w2 hown' hgrow _ hat
  have hlt : b < w1.heap.size := by
    rcases Nat.lt_or_ge b w1.heap.size with h' | h'
    · exact h'
    · simp [Array.getElem?_eq_none h'] at hbk
  have hb2 : w2.heap[b]? = some (.cells #[.pointer (some ⟨b, 0, none⟩), v] 104 (0, 0)) := by
    rw [hgrow.block b (by simp; omega) (fun e => hne e.symm), Lib.alloc_old w1 _ b hlt]
    exact hbk
  have d0 : w2.cell? ⟨b, 0, none⟩ = some (.pointer (some ⟨b, 0, none⟩)) := by rw [Lib.cell_of_heap hb2]; rfl
  have d1 : w2.cell? ⟨b, 1, none⟩ = some v := by rw [Lib.cell_of_heap hb2]; rfl
  have f1 : w2.frozen? ⟨b, 1, none⟩ = false := Lib.frozen_of_heap hb2 1
  obtain ⟨g, cap, rfl⟩ : ∃ g cap, v' = .slice (some ⟨g, 0, none⟩) (bs.length + 1) cap := by
    rcases hown'.2 with ⟨_, h0⟩ | ⟨g, cap, cur, hv, _⟩
    · omega
    · exact ⟨g, cap, hv⟩
  have hga : w1.grownBy w2 v.ownBlock := ⟨hgrow.os, hgrow.tape, hgrow.output, by have := hgrow.size; simp at this; omega, fun k hk hn => (hgrow.block k (by simp; omega) hn).trans (Lib.alloc_old w1 _ k hk)⟩
  have hf : ∀ k, (Value.slice (some ⟨g, 0, none⟩) (bs.length + 1) cap).ownBlock = some k → v.ownBlock = some k ∨ w1.heap.size ≤ k := by
    intro k hk
    rcases hat with e | e
    · exact .inl (e ▸ hk)
    · rw [e] at hk; simp at hk; exact .inr (by omega)
  have hbc : Lib.byteCells (bs ++ [UInt8.ofNat c.toNat]) = Lib.byteCells bs ++ [.int .u8 c] := by
    rw [byteCells_app]

    simp [Lib.byteCells]; omega
  have hfin := put_buf (bs := bs ++ [UInt8.ofNat c.toNat]) hB hu1 hbk hne hga (by rw [hbc]; simpa using hown') hf
  have HF := Aside0.mk hfin
  clear hfin hat hf hga hbc hgrow hown' hown
  go_wp2
  go_ret
  exact ⟨rfl, _, HF.out⟩

set_option maxHeartbeats 1000000 in
set_option maxRecDepth 100000 in
theorem WriteString_any (base b : Nat) (v : Value) (bs : List UInt8) (s : ByteArray) (w : World) (h : Bld base b v bs w) (hlen : bs.length + s.size ≤ 140737488355328) (hBw : base ≤ w.heap.size) :
    Calls Try.prog 58 #[.pointer (some ⟨b, 0, none⟩), .string s] w fun e w' => e = .returned (.tuple #[.int .i64 s.size, .nilIface]) ∧ ∃ v', Bld base b v' (bs ++ s.data.toList) w' ∧ Upd b v v' w w' := by
  obtain ⟨i0, hi, hz0, hz1, hz2⟩ := info_parts infoByte
  have hB := h.1
  have hne := h.ne
  go_enter Try.func58, Try.ntmps58
  go_wp2_with (go_at_call 79; refine (copyCheck_any base b v bs _ h).mono ?_)
  rintro e w1 ⟨rfl, hbk, hown, hu1⟩
  have c0 : w1.cell? ⟨b, 0, none⟩ = some (.pointer (some ⟨b, 0, none⟩)) := by rw [Lib.cell_of_heap hbk]; rfl
  have c1 : w1.cell? ⟨b, 1, none⟩ = some v := by rw [Lib.cell_of_heap hbk]; rfl
  go_wp2_with (at_builtin; refine wpList_append_own_string_at _ rfl _ _ 90 9 rfl base 5 i0 Try.underlying90 Try.underlying9 hi hz0 hz1 hz2 _ _ _ rfl hown s rfl ?c3 ?c4 ?c5 ?_)
  case c3 => unfold maxLen; omega
  case c4 => omega
  case c5 => have := hu1.size; omega
  intro v' w2 hown' hgrow hf
  have hlt : b < w1.heap.size := by
    rcases Nat.lt_or_ge b w1.heap.size with h' | h'
    · exact h'
    · simp [Array.getElem?_eq_none h'] at hbk
  have hb2 : w2.heap[b]? = some (.cells #[.pointer (some ⟨b, 0, none⟩), v] 104 (0, 0)) := by
    rw [hgrow.block b hlt (fun e => hne e.symm)]
    exact hbk
  have d0 : w2.cell? ⟨b, 0, none⟩ = some (.pointer (some ⟨b, 0, none⟩)) := by rw [Lib.cell_of_heap hb2]; rfl
  have d1 : w2.cell? ⟨b, 1, none⟩ = some v := by rw [Lib.cell_of_heap hb2]; rfl
  have f1 : w2.frozen? ⟨b, 1, none⟩ = false := Lib.frozen_of_heap hb2 1
  obtain ⟨ao, n', cap, rfl⟩ : ∃ ao n' cap, v' = .slice ao n' cap := by
    rcases hown'.2 with ⟨hv, _⟩ | ⟨g, cap, cur, hv, _⟩
    · exact ⟨_, _, _, hv⟩
    · exact ⟨_, _, _, hv⟩
  have hbc : Lib.byteCells (bs ++ s.data.toList) = Lib.byteCells bs ++ Lib.strCells s := by
    rw [byteCells_app]; rfl
  have hfin := put_buf (bs := bs ++ s.data.toList) hB hu1 hbk hne hgrow (by rw [hbc]; simpa using hown') hf
  have HF := Aside0.mk hfin
  clear hfin hf hbc hgrow hown' hown
  go_wp2
  go_ret2
  exact ⟨rfl, _, HF.out⟩

end Go.Proofs.Ytkfhedppnlocpaa.Q
namespace Go.Proofs.Ytkfhedppnlocpaa.Q
open Go.RowKit Go.Proofs.YtkfhedppnlocpaaW.PrintWords Go.Proofs.YtkfhedppnlocpaaW.PrintLast Go.Proofs.YtkfhedppnlocpaaW.PrintMore

/-- All but one row's block stands. -/
structure UpdS (v : Value) (w w' : World) : Prop where
  os : w'.os = w.os
  tape : w'.tape = w.tape
  output : w'.output = w.output
  size : w.heap.size ≤ w'.heap.size
  block : ∀ k, k < w.heap.size → v.ownBlock ≠ some k → w'.heap[k]? = w.heap[k]?

theorem UpdS.drew (v : Value) (w : World) : UpdS v w w.drew := ⟨rfl, rfl, rfl, Nat.le_refl _, fun _ _ _ => rfl⟩
theorem UpdS.freeze (g n c : Nat) (w : World) (m : Nat) : UpdS (.slice (some ⟨g, 0, none⟩) n c) w (w.drew.freeze ⟨g, 0, none⟩ m) := by
  unfold World.freeze
  split
  · exact UpdS.drew _ _
  · exact ⟨rfl, rfl, rfl, by simp, fun k hk hne => by
      simp only [Array.getElem?_modify]
      rw [if_neg (fun e => hne (by simp [Value.ownBlock, e]))]
      rfl⟩
theorem UpdS.alloc {v : Value} {w w' : World} (h : UpdS v w w') (o : Obj) : UpdS v w (w'.alloc o) :=
  ⟨h.os, h.tape, h.output, by have := h.size; simp; omega, fun k hk hne => (Lib.alloc_old w' o k (by have := h.size; omega)).trans (h.block k hk hne)⟩
theorem UpdS.below {base b : Nat} {v : Value} {bs : List UInt8} {w w' : World} (h : UpdS v w w') (hb : Bld base b v bs w) (hB : base ≤ w.heap.size) : Below base w w' :=
  ⟨h.os, h.tape, h.output, h.size, fun k hk => h.block k (by omega) (fun e => by have := (hb.2.choose_spec.2.2.lt k e).1; omega)⟩

set_option maxHeartbeats 2000000 in
set_option maxRecDepth 100000 in
theorem String_any (base b : Nat) (v : Value) (l : List UInt8) (w : World) (h : Bld base b v l w) :
    Calls Try.prog 52 #[.pointer (some ⟨b, 0, none⟩)] w fun e w' => e = .returned (.string ⟨l.toArray⟩) ∧ UpdS v w w' := by
  obtain ⟨_, p, hp, hbk, hown⟩ := h
  clear hp
  have hlt : b < w.heap.size := by
    rcases Nat.lt_or_ge b w.heap.size with h' | h'
    · exact h'
    · simp [Array.getElem?_eq_none h'] at hbk
  rcases hown.2 with ⟨rfl, hl⟩ | ⟨g, cap, cur, rfl, hbg, hg, hnc, hcm, hcs, htake⟩
  · have hl0 : l = [] := List.eq_nil_of_length_eq_zero hl
    subst hl0
    have hUS : ∀ (W : World) (q : Option Addr), (Builtin.unsafeString_ #[136, 3] 9 #[.pointer q, .int .i64 0]).run Try.prog W = .ok (.string .empty) W := fun W q => Lib.run_unsafeString_none W _ _ _ q
    have c1 : w.drew.cell? ⟨b, 1, none⟩ = some (.slice none 0 0) := by
      have : w.drew.heap[b]? = some (.cells #[p, .slice none 0 0] 104 (0, 0)) := hbk
      rw [Lib.cell_of_heap this]; rfl
    have hSD : (Builtin.unsafeSliceData_ #[90] 136 #[.slice none 0 0]).run Try.prog w.drew = .ok (.pointer none) w.drew := rfl
    clear hown hbk
    go_enter Try.func52, Try.ntmps52
    go_wp2
    go_region
    all_goals (go_wp2; go_ret; exact ⟨rfl, UpdS.drew _ _⟩)
  · by_cases hl0 : l = []
    · subst hl0
      have hUS : ∀ (W : World) (q : Option Addr), (Builtin.unsafeString_ #[136, 3] 9 #[.pointer q, .int .i64 0]).run Try.prog W = .ok (.string .empty) W := fun W q => Lib.run_unsafeString_none W _ _ _ q
      have hbk' : w.heap[b]? = some (.cells #[p, .slice (some ⟨g, 0, none⟩) 0 cap] 104 (0, 0)) := hbk
      have c1 : w.drew.cell? ⟨b, 1, none⟩ = some (.slice (some ⟨g, 0, none⟩) 0 cap) := by
        have : w.drew.heap[b]? = some (.cells #[p, .slice (some ⟨g, 0, none⟩) 0 cap] 104 (0, 0)) := hbk
        rw [Lib.cell_of_heap this]; rfl
      by_cases hc0 : cap = 0
      · subst hc0
        have hSD : (Builtin.unsafeSliceData_ #[90] 136 #[.slice (some ⟨g, 0, none⟩) 0 0]).run Try.prog w.drew = .ok (.pointer (some ⟨w.drew.heap.size, 0, none⟩)) (w.drew.alloc (.view ⟨g, 0, none⟩ 5)) :=
          Lib.run_unsafeSliceData_zero w.drew _ _ 5 Try.underlying136 ⟨g, 0, none⟩ 0 (5, cur.size) (by have hg' : w.drew.heap[g]? = some (.cells cur 5 (0, 0)) := hg; simp [World.shape?, hg'])
        have c2 : (w.drew.alloc (.view ⟨g, 0, none⟩ 5)).cell? ⟨b, 1, none⟩ = some (.slice (some ⟨g, 0, none⟩) 0 0) := by
          have : (w.drew.alloc (.view ⟨g, 0, none⟩ 5)).heap[b]? = _ := (Lib.alloc_old w.drew _ b hlt).trans hbk
          rw [Lib.cell_of_heap this]; rfl
        have c3 : (w.alloc (.view ⟨g, 0, none⟩ 5)).drew.cell? ⟨b, 1, none⟩ = some (.slice (some ⟨g, 0, none⟩) 0 0) := c2
        have c0 : w.cell? ⟨b, 1, none⟩ = some (.slice (some ⟨g, 0, none⟩) 0 0) := c1
        clear hown hbk hbk' htake hcs hg
        go_enter Try.func52, Try.ntmps52
        go_wp2
        go_region
        all_goals (go_wp2; go_ret; exact ⟨rfl, (UpdS.drew _ _).alloc _⟩)
      · have hSD : (Builtin.unsafeSliceData_ #[90] 136 #[.slice (some ⟨g, 0, none⟩) 0 cap]).run Try.prog w.drew = .ok (.pointer (some ⟨g, 0, none⟩)) w.drew :=
          Lib.run_unsafeSliceData_row _ _ _ _ _ _ hc0
        clear hc0 hown hbk hbk' htake hcs hg
        go_enter Try.func52, Try.ntmps52
        go_wp2
        go_region
        all_goals (go_wp2; go_ret; exact ⟨rfl, UpdS.drew _ _⟩)
    · have hl1 : l.length ≠ 0 := by simpa using hl0
      have c1 : w.drew.cell? ⟨b, 1, none⟩ = some (.slice (some ⟨g, 0, none⟩) l.length cap) := by
        have : w.drew.heap[b]? = some (.cells #[p, .slice (some ⟨g, 0, none⟩) l.length cap] 104 (0, 0)) := hbk
        rw [Lib.cell_of_heap this]; rfl
      have hSD : (Builtin.unsafeSliceData_ #[90] 136 #[.slice (some ⟨g, 0, none⟩) l.length cap]).run Try.prog w.drew = .ok (.pointer (some ⟨g, 0, none⟩)) w.drew :=
        Lib.run_unsafeSliceData_row _ _ _ _ _ _ (by omega)
      have hUS : (Builtin.unsafeString_ #[136, 3] 9 #[.pointer (some ⟨g, 0, none⟩), .int .i64 l.length]).run Try.prog w.drew = .ok (.string ⟨l.toArray⟩) (w.drew.freeze ⟨g, 0, none⟩ l.length) := by
        refine Lib.run_unsafeString_row w.drew 136 3 9 5 Try.underlying136 (by kernel_rfl) g cur.size (by have hg' : w.drew.heap[g]? = some (.cells cur 5 (0, 0)) := hg; simp [World.shape?, hg']) l hl0 (by omega) (by unfold maxLen at hcm; omega) ?_
        intro j x hx
        have := hown.cells (g := g) rfl j (.int .u8 x.toNat) (by simp [Lib.byteCells, hx])
        exact this
      clear hown hbk htake hcs hg
      go_enter Try.func52, Try.ntmps52
      go_wp2
      go_region
      all_goals (go_wp2; go_ret; exact ⟨rfl, UpdS.freeze _ _ _ _ _⟩)

/-! ### record.put: function 51 -/
def be : Int → Nat → List UInt8
  | _, 0 => []
  | n, w + 1 => be (n / 256) w ++ [UInt8.ofNat (n % 256).toNat]

theorem be_length (n : Int) (w : Nat) : (be n w).length = w := by
  induction w generalizing n with
  | zero => rfl
  | succ w ih => simp [be, ih]

theorem be_step (n : Int) (wd k : Nat) (hk : k < wd) : be (n / 256 ^ (wd - (k + 1))) (k + 1) = be (n / 256 ^ (wd - k)) k ++ [UInt8.ofNat (n / 2 ^ (8 * (wd - 1 - k)) % 256).toNat] := by
  obtain ⟨m, hm⟩ : ∃ m, wd - k = m + 1 := ⟨wd - k - 1, by omega⟩
  have h1 : wd - (k + 1) = m := by omega
  have h2 : wd - 1 - k = m := by omega
  rw [hm, h1, h2, be, Int.pow_succ, Int.mul_comm, Int.pow_mul]
  rw [Int.mul_comm, Int.ediv_ediv_of_nonneg (Int.le_of_lt (Int.pow_pos (by decide)))]
  rfl

set_option maxHeartbeats 1000000 in
set_option maxRecDepth 100000 in
theorem put_any (base b : Nat) (v : Value) (bs : List UInt8) (n : Int) (wd : Nat) (h1 : 1 ≤ wd) (h4 : wd ≤ 4) (w : World) (h : Bld base b v bs w) (hlen : bs.length + 4 ≤ 140737488355328) (hBw : base ≤ w.heap.size) :
    Calls Try.prog 51 #[.pointer (some ⟨b, 0, none⟩), .int .i64 n, .int .i64 wd] w fun e w' => e = .returned (.tuple #[]) ∧ ∃ v', Bld base b v' (bs ++ be n wd) w' ∧ Upd b v v' w w' := by
  go_enter Try.func51, Try.ntmps51
  go_wp2
  go_loopw [6] (fun s wr => ∃ (k : Nat) (v' : Value), k ≤ wd ∧ s = .int .i64 (8 * (wd - 1 - k : Int)) ∧ Bld base b v' (bs ++ be (n / 256 ^ (wd - k)) k) wr ∧ Upd b v v' w wr) (fun s _ => ((intOf s) + 8).toNat)
  case atStart => exact ⟨0, v, Nat.zero_le _, by simp, by simpa [be] using h, Upd.refl _ _ _⟩
  case round =>
    obtain ⟨k, v', hk, rfl, hb, hu⟩ := hrel
    by_cases hlt : k < wd
    · go_wp2_with fail
      have hq : 0 ≤ n / 2 ^ (8 * (wd - 1 - k)) % 256 ∧ n / 2 ^ (8 * (wd - 1 - k)) % 256 < 256 := by omega
      refine (WriteByte_any base b v' _ _ hq.1 hq.2 _ hb (by rw [List.length_append, be_length]; omega) (by have := hu.size; omega)).mono ?_
      rintro e w2 ⟨rfl, v2, hb2, hu2⟩
      have hbs := be_step n wd k hlt
      rw [List.append_assoc, ← hbs] at hb2
      have HB2 := Aside0.mk hb2
      have HU2 := Aside0.mk (hu.trans hu2)
      clear hb2 hu2 hb hu hbs
      go_wp2
      go_roundw
      case rel => exact ⟨k + 1, v2, by omega, congrArg (Value.int .i64) (by omega), HB2.out, HU2.out⟩
      case measure => simp [intOf]; omega
    · have hkw : k = wd := by omega
      subst hkw
      have HB := Aside0.mk hb
      have HU := Aside0.mk hu
      clear hb hu
      go_wp2
      go_end0
      have := HB.out
      simp only [Nat.sub_self, Int.pow_zero, Int.ediv_one] at this
      exact ⟨rfl, v', this, HU.out⟩

end Go.Proofs.Ytkfhedppnlocpaa.Q
namespace Go.Proofs.Ytkfhedppnlocpaa.Q
open Go.RowKit Go.Proofs.YtkfhedppnlocpaaW.PrintWords Go.Proofs.YtkfhedppnlocpaaW.PrintLast Go.Proofs.YtkfhedppnlocpaaW.PrintMore

theorem Bld.new (w : World) : Bld w.heap.size w.heap.size (.slice none 0 0) [] (w.alloc (.cells #[.pointer none, .slice none 0 0] 104)) :=
  ⟨Nat.le_refl _, _, .inl rfl, heap_alloc_new w _, World.ownsRow_nil _ _ _ _⟩

/-! ### record.Number: function 15 -/
theorem widthOK_yes (a0 : Int) (w : World) (h1 : 1 ≤ a0) (h2 : decide (a0 ≤ 16) = true) : Calls Try.prog 57 #[.int .i64 a0] w fun e w' => e = .returned (.bool true) ∧ w = w' := by
  go_enter Try.func57, Try.ntmps57
  go_wp2
  go_ret
  exact ⟨rfl, rfl⟩

/-! ### record.Entry: function 20 -/
end Go.Proofs.Ytkfhedppnlocpaa.Q
