/- Pairs that are read; append in place or anew; contracts of granarylaw3.all and marked. Condition: the list is a row of the caller's own, and not too long. -/
import Derived.Test.YtkfhedppnlocpaaK4
import Derived.Test.YtkfhedppnlocpaaRF
import Derived.ArgAppend
import Derived.Deep.DeepCutAuto
set_option linter.unusedVariables false
set_option linter.unusedSimpArgs false
namespace Go.Proofs.Ytkfhedppnlocpaa.Q
open Go.RowKit Go.Plan Go.Proofs.YtkfhedppnlocpaaW.PrintWords Go.Proofs.YtkfhedppnlocpaaW.PrintLast Go.Proofs.YtkfhedppnlocpaaW.PrintMore

/-! ### Pairs that are read -/
theorem add_block (a : Addr) (k : Nat) : (a.add k).block = a.block := by unfold Addr.add; split <;> rfl
theorem cell_keep {W W' : World} {a : Addr} (h : W'.heap[a.block]? = W.heap[a.block]?) : W'.cell? a = W.cell? a := by unfold World.cell?; rw [h]
structure RdP (W : World) (A : Option Addr) (L : List S94) : Prop where
  lt : ∀ q, rowB A = some q → q < W.heap.size
  rd : Kd.C k94 W A L.length L
section
variable {W W' : World} {A : Option Addr} {L : List S94}
theorem RdP.of {B c : Nat} (h : OwnP W B A c L) : RdP W A L := ⟨fun q hq => (ownsRow_lt h q hq).2, OwnP.reads h⟩
theorem RdP.keep (h : RdP W A L) (k : ∀ q, rowB A = some q → W'.heap[q]? = W.heap[q]?) (hs : W.heap.size ≤ W'.heap.size) : RdP W' A L := by
  refine ⟨fun q hq => Nat.lt_of_lt_of_le (h.lt q hq) hs, h.rd.1, h.rd.2.1, fun hn => ?_⟩
  obtain ⟨ad, rfl, hc⟩ := h.rd.2.2 hn
  refine ⟨ad, rfl, fun j p hj => ?_⟩
  obtain ⟨c, h1, h2, h3⟩ := hc j p hj
  refine ⟨c, h1, ?_, fun i u hu => (cell_keep (by rw [add_block]; exact k ad.block rfl)).trans (h3 i u hu)⟩
  have := k94_open h2
  subst this
  exact k94_mk W' p
theorem RdP.below (h : RdP W A L) (hb : Below W.heap.size W W') : RdP W' A L := h.keep (fun q hq => hb.block q (h.lt q hq)) hb.size
theorem RdP.prefix {M : List S94} (h : RdP W A (L ++ M)) : RdP W A L := by
  have h2 := h.rd.2.1
  rw [List.length_append] at h2
  refine ⟨h.lt, rfl, by omega, fun hn => ?_⟩
  obtain ⟨ad, hA, hc⟩ := h.rd.2.2 (by rw [List.length_append]; omega)
  exact ⟨ad, hA, fun j p hj => hc j p (by rw [List.getElem?_append_left (List.getElem?_eq_some_iff.1 hj).1]; exact hj)⟩
end

/-! ### A list of pairs is written full, and beyond -/
theorem pcells_set (L : List S94) (i : Nat) (y : S94) (hi : i < L.length) : (((L.flatMap pcell).set (i * 2) (.string y.f0)).set (i * 2 + 1) (.string y.f1)) = (L.set i y).flatMap pcell := by
  induction L generalizing i with
  | nil => simp at hi
  | cons x l ih =>
    cases i with
    | zero => rfl
    | succ i =>
      have h := ih i (by simpa using hi)
      rw [List.set_cons_succ, List.flatMap_cons, List.flatMap_cons, ← h]
      rw [List.set_append_right _ _ (by rw [pcell_length]; omega), List.set_append_right _ _ (by rw [pcell_length]; omega)]
      rw [pcell_length, show (i + 1) * 2 - 2 = i * 2 by omega, show (i + 1) * 2 + 1 - 2 = i * 2 + 1 by omega]
def setP (W : World) (q i : Nat) (y : S94) : World := (W.setCell ⟨q, i * 2, none⟩ (.string y.f0)).setCell ⟨q, i * 2 + 1, none⟩ (.string y.f1)
theorem OwnP.setP {W : World} {B q cap : Nat} {L : List S94} (h : OwnP W B (some ⟨q, 0, none⟩) cap L) (i : Nat) (y : S94) (hi : i < L.length) : OwnP (Q.setP W q i y) B (some ⟨q, 0, none⟩) cap (L.set i y) := by
  unfold OwnP
  rw [List.length_set, ← pcells_set L i y hi]
  exact ((h.stored (i * 2) _).1.stored (i * 2 + 1) _).1
theorem But.setP {w W : World} {S : Nat → Prop} (h : But w W S) {q : Nat} (hq : S q) (i : Nat) (y : S94) : But w (Q.setP W q i y) S := (h.set hq _ _).set hq _ _

section
variable {P : Program} (w : World)
/-- append onto a row of the call's own: in place, or in a new row, the old one as it was. -/
theorem run_append_two (base : Nat) (t ty e : TypeId) (i : TypeInfo) (z : Value) (size bytes : Nat) (ht : P.underlying t = some (.slice e)) (hi : P.info? e = some i) (hz : i.zero = some z)
    (hsize : i.size = size) (hby : i.bytes = bytes) (hzs : z.cells.size = size) (hsz : 0 < size)
    (A : Option Addr) (n cap : Nat) (xs : List Value) (hown : w.ownsRow base e size (.slice A n cap) n xs)
    (a : Addr) (m c : Nat) (news : List Value) (hl : news.length = m * size) (hnews : ∀ j u, news[j]? = some u → w.cell? (a.add j) = some u) (h1 : ∀ u ∈ news, u.oneCell' = true)
    (h63 : n + m ≤ maxLen) (hbytes : (n + m) * bytes ≤ 140737488355328) (hbase : base ≤ w.heap.size) :
    ∃ A' cap' w', (Builtin.append_ #[t, t] ty #[.slice A n cap, .slice (some a) m c]).run P w = .ok (.slice A' (n + m) cap') w' ∧ w'.ownsRow base e size (.slice A' (n + m) cap') (n + m) (xs ++ news) ∧
      ((A' = A ∧ w.grownBy w' (rowB A)) ∨ ((∀ q, rowB A' = some q → w.heap.size ≤ q) ∧ w.grownBy w' none)) := by
  obtain ⟨v', w', hr, h2, h3, h4, h5⟩ := run_append_own_at (P := P) w base t ty e i z size bytes ht hi hz hsize hby hzs hsz _ n xs hown a m c news hl hnews h1 h63 hbytes hbase
  obtain ⟨A', cap', rfl⟩ := own_form h2
  refine ⟨A', cap', w', hr, h2, ?_⟩
  rw [rowB_own] at h3
  rw [rowB_own, rowB_own] at h5
  have hown' := hown
  rcases hown.2 with ⟨hv, h0⟩ | ⟨g, c', cur, hv, hb, hg, hnc, hcm, hcs, htk⟩
  · simp only [Value.slice.injEq] at hv
    obtain ⟨rfl, -, rfl⟩ := hv
    refine .inr ⟨fun q hq => ?_, h3⟩
    rcases h5 with h5 | h5
    · rw [hq] at h5; cases h5
    · rw [hq] at h5; obtain rfl := Option.some.inj h5; exact Nat.le_refl _
  · simp only [Value.slice.injEq] at hv
    obtain ⟨rfl, -, rfl⟩ := hv
    by_cases hroom : n + m ≤ cap
    · have hbd : ∀ j, j < news.length → n * i.size + j < cur.size := by
        intro j hj
        rw [hsize, hcs]
        have := Nat.mul_le_mul_right size hroom
        rw [Nat.add_mul] at this
        omega
      have hrun := run_append_room_cells (P := P) w t ty e i ht hi g 0 n cap a m c news (by rw [hsize]; exact hl) hnews h1 hroom
        (fun j hj => by rw [blk_cell hg, Nat.zero_add]; rw [Array.getElem?_eq_getElem (hbd j hj)]; rfl) (fun j hj => blk_frozen hg _)
      rw [hr] at hrun
      simp only [Result.ok.injEq, Value.slice.injEq] at hrun
      exact .inl ⟨hrun.1.1, h3⟩
    · obtain ⟨v2, w2, hrun, r1, r2⟩ := run_append_arg_grows (P := P) w t ty e i z size bytes ht hi hz hsize hby hzs hsz ⟨g, 0, none⟩ n cap xs hown.1 (hown.cells (g := g) rfl) a m c news hl hnews (by omega) h63 hbytes
      rw [hr] at hrun
      simp only [Result.ok.injEq] at hrun
      obtain ⟨rfl, rfl⟩ := hrun
      exact .inr ⟨fun q hq => (ownsRow_lt r1 q hq).1, r2⟩
theorem wpList_append_two {ops : Array Oper} {rest : List Oper} {o : Oper} {ac : Act} {Q : Exit → Act → World → Prop} (hgd : o.guard = none) (s x : Operand) (t : TypeId)
    (ho : o.op = .call { callee := .builtin .append, args := #[s, x], argTypes := #[t, t] })
    (base : Nat) (e : TypeId) (i : TypeInfo) (z : Value) (size bytes : Nat) (ht : P.underlying t = some (.slice e)) (hi : P.info? e = some i) (hz : i.zero = some z)
    (hsize : i.size = size) (hby : i.bytes = bytes) (hzs : z.cells.size = size) (hsz : 0 < size)
    (A : Option Addr) (n cap : Nat) (xs : List Value) (hs : ac.eval s = .slice A n cap) (hown : w.ownsRow base e size (.slice A n cap) n xs)
    (ad : Addr) (m c : Nat) (news : List Value) (hx : ac.eval x = .slice (some ad) m c) (hl : news.length = m * size) (hnews : ∀ j u, news[j]? = some u → w.cell? (ad.add j) = some u) (h1 : ∀ u ∈ news, u.oneCell' = true)
    (h63 : n + m ≤ maxLen) (hbytes : (n + m) * bytes ≤ 140737488355328) (hbase : base ≤ w.heap.size)
    (h : ∀ A' cap' w', w'.ownsRow base e size (.slice A' (n + m) cap') (n + m) (xs ++ news) → ((A' = A ∧ w.grownBy w' (rowB A)) ∨ ((∀ q, rowB A' = some q → w.heap.size ≤ q) ∧ w.grownBy w' none)) → wpList P ops Q rest (ac.put o.dst (.slice A' (n + m) cap')) w') :
    wpList P ops Q (o :: rest) ac w := by
  refine wpList_plain hgd fun K hK => ?_
  obtain ⟨A', cap', w', hr, h2, h3⟩ := run_append_two (P := P) w base t o.type e i z size bytes ht hi hz hsize hby hzs hsz A n cap xs hown ad m c news hl hnews h1 h63 hbytes hbase
  unfold Oper.wp execOp
  simp only [ho, resolve, invoke, builtin, Sem.run_bind, Sem.run_pure, Result.andThen_ok, List.map_toArray, List.map_cons, List.map_nil, hs, hx, hr]
  exact hK _ _ (h A' cap' w' h2 h3)
end
/-- Is every pair the mark? -/
theorem all_any (A : Option Addr) (n c : Nat) (mk : ByteArray) (w : World) (h : Kd.C k94 w A n (List.replicate n ⟨mk, mk⟩)) (hn : n ≤ 1000000) :
    Calls Try.prog 46 #[.slice A n c, .string mk] w fun e w' => e = .returned (.bool true) ∧ Drawn0 w w' := by
  have H := Aside0.mk h
  have HN := Aside0.mk hn
  clear h hn
  go_enter Try.func46, Try.ntmps46
  go_wp2_with fail
  go_loopg [5] n (fun kq v5 w' => ∃ (i : Nat), v5 = .int .i64 (i : Int) ∧ Aside0 (i + kq = n) ∧ w' = w)
  case atStart => exact ⟨0, rfl, ⟨by omega⟩, rfl⟩
  case round =>
    obtain ⟨i, rfl, HK, rfl⟩ := hrel
    by_cases ci : (i : Int) < (n : Int)
    · cases gk with
      | zero => exact absurd HK.out (by omega)
      | succ k1 =>
      have cb : decide ((i : Int) < (n : Int)) = true := decide_eq_true ci
      have cb2 : decide (i < n) = true := decide_eq_true (by omega)
      have p2 : (0 ≤ (i : Int)) = True := eq_true (by omega)
      have p3 : ((i : Int) < (n : Int)) = True := eq_true ci
      have hwi : wrap64 ((i : Int) + 1) = (i : Int) + 1 := Go.IntWalk.wrap64_in _ (by have := HN.out; omega)
      have HK' := Aside0.mk (show i + 1 + k1 = n by have := HK.out; omega)
      obtain ⟨ad, hA, u0, u1⟩ := at_T94 H.out (i : Int) (by omega) (by omega)
      have hr : rd_T94 (List.replicate n (⟨mk, mk⟩ : S94)) (i : Int) = ⟨mk, mk⟩ := by
        show (List.replicate n (⟨mk, mk⟩ : S94)).getD i z94 = _
        rw [List.getD_eq_getElem?_getD, List.getElem?_eq_getElem (by rw [List.length_replicate]; omega), List.getElem_replicate]
        rfl
      rw [hr, Int.toNat_natCast] at u0 u1
      subst hA
      have k0 : (mk.toList != mk.toList) = false := by simp
      clear ci HK hr
      go_wp2_with fail
      go_roundg k1
      case measure => have := HK'.out; omega
      case rel => exact ⟨i + 1, congrArg (Value.int .i64) (by omega), HK', rfl⟩
    · have cb : decide ((i : Int) < (n : Int)) = false := decide_eq_false ci
      have cb2 : decide (i < n) = false := decide_eq_false (by omega)
      clear ci
      go_wp2_with fail
      go_ret
      exact ⟨rfl, Drawn0.refl _⟩

/-! ### marked -/
theorem rep_set (n i : Nat) (mk : S94) (l : List S94) (hl : l.length = n) (hi : i < n) : (List.replicate i mk ++ l.drop i).set i mk = List.replicate (i + 1) mk ++ l.drop (i + 1) := by
  rw [List.set_append_right _ _ (by rw [List.length_replicate]; exact Nat.le_refl _), List.length_replicate, Nat.sub_self, drop_cons l i (by omega), List.set_cons_zero, List.replicate_succ', List.append_assoc]
  rfl
/-- The state of the growing: the list itself (row g), what it grew to (row g1): m pairs so far. -/
structure MkSt (w W : World) (B g g1 c1 n m : Nat) (p : S94) : Prop where
  fr : But w W (fun i => i = g)
  l : RdP W (some ⟨g, 0, none⟩) (List.replicate n p)
  m : OwnP W B (some ⟨g1, 0, none⟩) c1 (List.replicate m p)
  ty : ∃ cur, W.heap[g]? = some (.cells cur 94 (0, 0))
  a1 : g1 = g ∨ w.heap.size ≤ g1
theorem MkSt.below {w W W1 : World} {B g g1 c1 n m : Nat} {p : S94} (h : MkSt w W B g g1 c1 n m p) (hb : Below W.heap.size W W1) : MkSt w W1 B g g1 c1 n m p := by
  obtain ⟨cur, hcur⟩ := h.ty
  exact ⟨h.fr.below_ hb, h.l.below hb, ownsRow_keep h.m (fun q hq => hb.block q (ownsRow_lt h.m q hq).2), ⟨cur, (hb.block g (blk_lt hcur)).trans hcur⟩, h.a1⟩
theorem MkSt.own {w W : World} {B g g1 c1 n m : Nat} {p : S94} (h : MkSt w W B g g1 c1 n m p) : W.ownsRow B 94 2 (.slice (some ⟨g1, 0, none⟩) m c1) m ((List.replicate m p).flatMap pcell) := by
  have h := h.m
  unfold OwnP at h
  rwa [List.length_replicate] at h
theorem MkSt.step {w W1 W2 : World} {B g g1 c1 n m : Nat} {p : S94} {A2 : Option Addr} {c2 : Nat} (h : MkSt w W1 B g g1 c1 n m p) (hn : n ≤ m)
    (ho : W2.ownsRow B 94 2 (.slice A2 (m + 1) c2) (m + 1) ((List.replicate m p).flatMap pcell ++ pcell p))
    (hc : (A2 = some ⟨g1, 0, none⟩ ∧ W1.grownBy W2 (rowB (some ⟨g1, 0, none⟩))) ∨ ((∀ q, rowB A2 = some q → W1.heap.size ≤ q) ∧ W1.grownBy W2 none)) : ∃ g2, A2 = some ⟨g2, 0, none⟩ ∧ MkSt w W2 B g g2 c2 n (m + 1) p := by
  have hM : OwnP W2 B A2 c2 (List.replicate (m + 1) p) := by
    unfold OwnP
    rw [List.length_replicate, List.replicate_succ', List.flatMap_append, List.flatMap_cons, List.flatMap_nil, List.append_nil]
    exact ho
  obtain ⟨g2, rfl⟩ := ownsRow_addr ho (by omega)
  refine ⟨g2, rfl, ?_⟩
  obtain ⟨cur, hcur⟩ := h.ty
  have hlw : w.heap.size ≤ W1.heap.size := h.fr.size
  rcases hc with ⟨he, hg⟩ | ⟨hfr, hg⟩
  · simp only [Option.some.injEq, Addr.mk.injEq, and_true] at he
    subst he
    refine ⟨⟨hg.os.trans h.fr.os, hg.tape.trans h.fr.tape, hg.output.trans h.fr.output, Nat.le_trans h.fr.size hg.size, fun i hi hs => ?_⟩, ?_, hM, ?_, h.a1⟩
    · refine (hg.block i (Nat.lt_of_lt_of_le hi hlw) (fun e => ?_)).trans (h.fr.block i hi hs)
      have e2 : i = g2 := Option.some.inj e
      rcases h.a1 with h1 | h1
      · exact hs (e2.trans h1)
      · omega
    · by_cases hgg : g2 = g
      · subst hgg
        have h3 := RdP.of hM
        have e : List.replicate (m + 1) p = List.replicate n p ++ List.replicate (m + 1 - n) p := by rw [List.replicate_append_replicate]; congr 1; omega
        rw [e] at h3
        exact h3.prefix
      · exact h.l.keep (fun q hq => hg.block q (h.l.lt q hq) (fun e => hgg (Option.some.inj (hq.trans e)).symm)) hg.size
    · by_cases hgg : g2 = g
      · subst hgg
        exact ownsRow_type hM _ rfl
      · exact ⟨cur, (hg.block g (blk_lt hcur) (fun e => hgg (Option.some.inj e).symm)).trans hcur⟩
  · have hf := hfr g2 rfl
    exact ⟨⟨hg.os.trans h.fr.os, hg.tape.trans h.fr.tape, hg.output.trans h.fr.output, Nat.le_trans h.fr.size hg.size, fun i hi hs => (hg.block i (Nat.lt_of_lt_of_le hi hlw) (fun e => by cases e)).trans (h.fr.block i hi hs)⟩, h.l.keep (fun q hq => hg.block q (h.l.lt q hq) (fun e => by cases e)) hg.size, hM, ⟨cur, (hg.block g (blk_lt hcur) (fun e => by cases e)).trans hcur⟩, .inr (by omega)⟩

set_option maxHeartbeats 8000000 in
set_option maxRecDepth 100000 in
theorem marked_any (B g c : Nat) (l : List S94) (mk : ByteArray) (w : World) (h : OwnP w B (some ⟨g, 0, none⟩) c l) (hB : B ≤ w.heap.size) (h1 : 1 ≤ l.length) (hl : l.length ≤ 4096) :
    Calls Try.prog 45 #[.slice (some ⟨g, 0, none⟩) l.length c, .string mk] w fun e w' => ∃ g1 c1, e = .returned (.slice (some ⟨g1, 0, none⟩) (l.length + 65) c1) ∧ MkSt w w' B g g1 c1 l.length (l.length + 65) ⟨mk, mk⟩ := by
  have H := Aside0.mk h
  have HB := Aside0.mk hB
  have HL := Aside0.mk (And.intro h1 hl)
  have hnb : (l.length : Int) ≤ 4096 := by omega
  obtain ⟨i0, hi, hz0, hz1, hz2⟩ := info_parts info94
  have HI := Aside0.mk (And.intro hi (And.intro hz0 (And.intro hz1 hz2)))
  clear h hB h1 hl hi hz0 hz1 hz2
  go_enter Try.func45, Try.ntmps45
  go_wp2_with fail
  go_loopg [5] l.length (fun kq v5 w' => ∃ (i : Nat), v5 = .int .i64 (i : Int) ∧ Aside0 (i + kq = l.length) ∧ Aside0 (OwnP w' B (some ⟨g, 0, none⟩) c (List.replicate i ⟨mk, mk⟩ ++ l.drop i)) ∧ Aside0 (But w w' (fun j => j = g)))
  case atStart => exact ⟨0, rfl, ⟨by omega⟩, ⟨by simpa using H.out⟩, ⟨But.refl _ _⟩⟩
  case round =>
    obtain ⟨i, rfl, HK, HO, HF⟩ := hrel
    by_cases ci : (i : Int) < (l.length : Int)
    · cases gk with
      | zero => exact absurd HK.out (by omega)
      | succ k1 =>
      have cb : decide ((i : Int) < (l.length : Int)) = true := decide_eq_true ci
      have cb2 : decide (i < l.length) = true := decide_eq_true (by omega)
      have p2 : (0 ≤ (i : Int)) = True := eq_true (by omega)
      have p3 : ((i : Int) < (l.length : Int)) = True := eq_true ci
      have hwi : wrap64 ((i : Int) + 1) = (i : Int) + 1 := Go.IntWalk.wrap64_in _ (by omega)
      have HK' := Aside0.mk (show i + 1 + k1 = l.length by have := HK.out; omega)
      have HIL := Aside0.mk (show i < l.length by omega)
      have hx : (List.replicate i (⟨mk, mk⟩ : S94) ++ l.drop i)[i]? = some (l.getD i z94) := by
        rw [List.getElem?_append_right (by rw [List.length_replicate]; exact Nat.le_refl _), List.length_replicate, Nat.sub_self, drop_cons l i HIL.out]
        rfl
      obtain ⟨g', hg', hcell⟩ := own_at (c := pcell) (by decide) pcell_length HO.out i _ hx
      simp only [Option.some.injEq, Addr.mk.injEq, and_true] at hg'
      subst hg'
      have x0 : wr.cell? ⟨g, i * 2, none⟩ = some (.string (l.getD i z94).f0) := hcell 0 _ rfl
      have x1 : wr.cell? ⟨g, i * 2 + 1, none⟩ = some (.string (l.getD i z94).f1) := hcell 1 _ rfl
      have f0 := HO.out.frozenAt (i * 2)
      have f1 := HO.out.frozenAt (i * 2 + 1)
      have HS := Aside0.mk (rep_set l.length i ⟨mk, mk⟩ l rfl HIL.out)
      have HSL := Aside0.mk (show i < (List.replicate i (⟨mk, mk⟩ : S94) ++ l.drop i).length by rw [List.length_append, List.length_replicate, List.length_drop]; have := HIL.out; omega)
      clear ci HK hcell hx
      go_wp2_with fail
      have HO2 := Aside0.mk (OwnP.setP HO.out i ⟨mk, mk⟩ HSL.out)
      rw [HS.out] at HO2
      have HF2 := Aside0.mk (But.setP HF.out (q := g) rfl i ⟨mk, mk⟩)
      go_roundg k1
      case measure => have := HK'.out; omega
      case rel => exact ⟨i + 1, congrArg (Value.int .i64) (by omega), HK', HO2, HF2⟩
    · have cb : decide ((i : Int) < (l.length : Int)) = false := decide_eq_false ci
      have cb2 : decide (i < l.length) = false := decide_eq_false (by omega)
      obtain rfl : gk = 0 := by have := HK.out; omega
      obtain rfl : i = l.length := by have := HK.out; omega
      have hO := HO.out
      rw [List.drop_length, List.append_nil] at hO
      have HST := Aside0.mk (show MkSt w wr B g g c l.length l.length ⟨mk, mk⟩ from ⟨HF.out, RdP.of hO, hO, ownsRow_type hO g rfl, .inl rfl⟩)
      clear ci HK HO HF H hO
      obtain ⟨n, hn⟩ : ∃ n, l.length = n := ⟨_, rfl⟩
      rw [hn] at HST HL hnb
      rw [hn]
      have HD := Aside0.mk (show ∀ m, m ≤ n + 65 → m + 1 ≤ maxLen ∧ (m + 1) * 32 ≤ 140737488355328 from fun m hm => by have := HL.out; exact ⟨by unfold maxLen; omega, by omega⟩)
      have HPO := Aside0.mk (show ∀ u ∈ pcell ⟨mk, mk⟩, u.oneCell' = true from fun u hu => by
        simp [pcell] at hu
        subst hu
        rfl)
      have HST1 := Aside0.mk (HST.out.below (below2a wr (.cells #[.string mk, .string mk] 94)))
      have HO1 := Aside0.mk HST1.out.own
      have HN1 := Aside0.mk (new_cells wr (pcell ⟨mk, mk⟩) 94)
      have HB1 := Aside0.mk (show B ≤ (wr.alloc (.cells #[.string mk, .string mk] 94)).heap.size from Nat.le_trans HB.out HST1.out.fr.size)
      go_upto_region 6 with (at_builtin; refine wpList_append_two _ rfl _ _ 41 rfl B 94 i0 (.agg #[.string ⟨#[]⟩, .string ⟨#[]⟩]) 2 32 Try.underlying41 HI.out.1 HI.out.2.1 HI.out.2.2.1 HI.out.2.2.2 rfl (by decide) (some ⟨g, 0, none⟩) n c _ rfl HO1.out ⟨wr.heap.size, 0, none⟩ 1 1 (pcell ⟨mk, mk⟩) rfl rfl HN1.out HPO.out (HD.out n (by omega)).1 (HD.out n (by omega)).2 HB1.out ?_; intro A1 c1 w6 hown hcase; obtain ⟨g2, rfl, hst⟩ := MkSt.step HST1.out (Nat.le_refl _) hown hcase; have HST2 := Aside0.mk hst; clear hown hcase hst)
      clear HST HST1 HO1 HN1 HB1
      go_upto_region 6 with fail
      go_wp2_with fail
      go_loopg [6, 7] 64 (fun kq v6 v7 w' => ∃ (j m g1 c1 : Nat), v6 = .slice (some ⟨g1, 0, none⟩) m c1 ∧ v7 = .int .i64 (j : Int) ∧ Aside0 (j + kq = 64) ∧ Aside0 (m + kq = n + 65) ∧ Aside0 (MkSt w w' B g g1 c1 n m ⟨mk, mk⟩))
      case atStart => exact ⟨0, n + 1, g2, c1, rfl, rfl, ⟨by omega⟩, ⟨by omega⟩, HST2⟩
      case round =>
        obtain ⟨j, m, g3, c3, rfl, rfl, HK, HM, HST⟩ := hrel
        by_cases cj : (j : Int) < 64
        · cases gk with
          | zero => exact absurd HK.out (by omega)
          | succ k1 =>
          have cb3 : decide ((j : Int) < 64) = true := decide_eq_true cj
          have hwi : wrap64 ((j : Int) + 1) = (j : Int) + 1 := Go.IntWalk.wrap64_in _ (by omega)
          have HK' := Aside0.mk (show j + 1 + k1 = 64 by have := HK.out; omega)
          have HM' := Aside0.mk (show m + 1 + k1 = n + 65 by have := HM.out; omega)
          have HMN := Aside0.mk (show n ≤ m by have := HM.out; have := HK.out; omega)
          have HST1 := Aside0.mk (HST.out.below (below2a wr (.cells #[.string mk, .string mk] 94)))
          have HO1 := Aside0.mk HST1.out.own
          have HN1 := Aside0.mk (new_cells wr (pcell ⟨mk, mk⟩) 94)
          have HB1 := Aside0.mk (show B ≤ (wr.alloc (.cells #[.string mk, .string mk] 94)).heap.size from Nat.le_trans HB.out HST1.out.fr.size)
          clear cj HK
          go_wp2_with (at_builtin; refine wpList_append_two _ rfl _ _ 41 rfl B 94 i0 (.agg #[.string ⟨#[]⟩, .string ⟨#[]⟩]) 2 32 Try.underlying41 HI.out.1 HI.out.2.1 HI.out.2.2.1 HI.out.2.2.2 rfl (by decide) (some ⟨g3, 0, none⟩) m c3 _ rfl HO1.out ⟨wr.heap.size, 0, none⟩ 1 1 (pcell ⟨mk, mk⟩) rfl rfl HN1.out HPO.out (HD.out m (by have := HM.out; omega)).1 (HD.out m (by have := HM.out; omega)).2 HB1.out ?_; intro A1 c4 w6 hown hcase; obtain ⟨g4, rfl, hst⟩ := MkSt.step HST1.out HMN.out hown hcase; have HST4 := Aside0.mk hst; clear hown hcase hst)
          go_roundg k1
          case measure => have := HK'.out; omega
          case rel => exact ⟨j + 1, m + 1, g4, c4, rfl, congrArg (Value.int .i64) (by omega), HK', HM', HST4⟩
        · have cb3 : decide ((j : Int) < 64) = false := decide_eq_false cj
          obtain rfl : gk = 0 := by have := HK.out; omega
          obtain rfl : m = n + 65 := by have := HM.out; omega
          clear cj
          go_wp2_with fail
          go_ret
          exact ⟨g3, c3, rfl, HST.out⟩

end Go.Proofs.Ytkfhedppnlocpaa.Q
