/- Plain laws: a chunk of groups that may be, as it is written; a record, as it is read. No condition. -/
import Derived.Test.YtkfhedppnlocpaaK1
set_option linter.unusedVariables false
set_option linter.unusedSimpArgs false
namespace Go.Proofs.Ytkfhedppnlocpaa.Q
open Go.RowKit Go.Proofs.YtkfhedppnlocpaaW.PrintWords Go.Proofs.YtkfhedppnlocpaaW.PrintLast

/-! ### Plain laws: a chunk of groups that may be, written and read -/
theorem bl_asymm {x y : List UInt8} (h : Op.bytesLess x y = true) : Op.bytesLess y x = false := by
  cases hb : Op.bytesLess y x with
  | false => rfl
  | true =>
    have := bl_trans _ _ _ h hb
    rw [bl_irrefl] at this
    cases this
theorem GoodG.wrong {wn : Nat} {L : List S80} (H : GoodG wn L) {g : S80} (hg : g ∈ L) : wrongF g.f1 = 0 := by
  have h1 := H.ne g hg
  have h2 := H.le g hg
  unfold wrongF
  rw [if_neg (by omega)]
  refine firstErr_of g.f1 _ 0 fun j _ hj => ?_
  have hj' : j < g.f1.length := by omega
  have hp := H.pk g hg (g.f1.getD j z94) (by rw [List.getD_eq_getElem?_getD, List.getElem?_eq_getElem hj']; exact List.getElem_mem _)
  unfold pairErr
  rw [if_neg (by omega), if_neg (by omega)]
  by_cases c : j = 0
  · rw [if_pos c]
  · have hu := up_asc k94' z94 g.f1 (H.pu g hg) j (by omega) hj'
    unfold k94' at hu
    rw [tl, tl] at hu
    rw [if_neg c, if_neg (show ¬ key g.f1 j = key g.f1 (j - 1) from fun e => bl_ne hu e.symm), if_neg (show ¬ Op.bytesLess (key g.f1 j) (key g.f1 (j - 1)) = true from by
      have := bl_asymm hu
      unfold key
      rw [this]
      decide)]
def dataOf (L : List S80) : List UInt8 := L.flatMap fun g => recBytes g.f1
theorem recBytes_length (l : List S94) : (recBytes l).length = 2 + sz l := by
  unfold recBytes
  rw [List.length_append, be_length, flat_length]
theorem dataOf_length (L : List S80) : (dataOf L).length = total L := by
  induction L with
  | nil => rfl
  | cons g L ih =>
    have h1 : dataOf (g :: L) = recBytes g.f1 ++ dataOf L := rfl
    rw [h1, List.length_append, recBytes_length, ih]
    simp [total, wG]
def idxFrom : List S80 → Nat → List UInt8
  | [], _ => []
  | g :: L, p => g.f0.data.toList ++ (be (p : Int) 4 ++ idxFrom L (p + wG g))
theorem total_cons (g : S80) (L : List S80) : total (g :: L) = wG g + total L := by simp [total]
theorem total_split (L : List S80) (i : Nat) : total (L.take i) + total (L.drop i) = total L := by
  unfold total
  rw [← List.sum_append, ← List.map_append, List.take_append_drop]
theorem total_le {L : List S80} {g : S80} (hg : g ∈ L) : wG g ≤ total L := by
  induction L with
  | nil => cases hg
  | cons x L ih =>
    rw [total_cons]
    rcases List.mem_cons.1 hg with rfl | h
    · omega
    · have := ih h; omega
theorem GoodG.recd {wn : Nat} {L : List S80} (H : GoodG wn L) {g : S80} (hg : g ∈ L) : recF g.f1 = (⟨(recBytes g.f1).toArray⟩, 0) := by
  unfold recF
  have h1 := total_le hg
  have h2 := H.wt
  unfold wG at h1
  rw [if_neg (fun h => h (H.wrong hg)), if_neg (by omega)]
theorem GoodG.ord {wn : Nat} {L : List S80} (H : GoodG wn L) {i : Nat} (hi : i < L.length) : ordN L i = true := by
  unfold ordN
  by_cases c : i = 0
  · subst c; rfl
  · have hu := up_asc k80' z80 L H.up i (by omega) hi
    unfold k80' at hu
    rw [hu]
    simp
theorem getD_mem {L : List S80} {i : Nat} (hi : i < L.length) : L.getD i z80 ∈ L := by
  rw [List.getD_eq_getElem?_getD, List.getElem?_eq_getElem hi]
  exact List.getElem_mem _
theorem encL_good {wn : Nat} {L : List S80} (H : GoodG wn L) : ∀ (k i : Nat) (X D : List UInt8), i + k = L.length → D.length + total (L.drop i) ≤ 65536 →
    encL (wn : Int) L k i X D = (X ++ idxFrom (L.drop i) D.length, D ++ dataOf (L.drop i), 0) := by
  intro k
  induction k with
  | zero =>
    intro i X D hi hD
    rw [List.drop_eq_nil_of_le (by omega)] at hD ⊢
    rw [encL, if_neg (by omega)]
    simp [idxFrom, dataOf]
  | succ k ih =>
    intro i X D hi hD
    have hil : i < L.length := by omega
    have hm := getD_mem hil
    rw [drop_cons80 L i hil] at hD ⊢
    rw [total_cons] at hD
    rw [encL, H.hs _ hm, if_neg (fun h => h rfl), H.ord hil, if_neg (by decide), H.recd hm, if_neg (fun h => h rfl)]
    dsimp only
    rw [ih (i + 1) _ _ (by omega) (by rw [List.length_append, recBytes_length]; unfold wG at hD; omega)]
    rw [List.length_append, recBytes_length, idxFrom]
    have hdc : dataOf (L.getD i z80 :: L.drop (i + 1)) = recBytes (L.getD i z80).f1 ++ dataOf (L.drop (i + 1)) := rfl
    rw [hdc]
    simp only [List.append_assoc]
    rfl
theorem enc_good {wn : Nat} (h1 : 1 ≤ wn) (h2 : wn ≤ 16) {L : List S80} (H : GoodG wn L) : encF (wn : Int) L = (idxFrom L 0, dataOf L, 0) := by
  unfold encF
  rw [if_neg (by omega), encL_good H L.length 0 [] [] (by omega) (by rw [List.drop_zero]; have := H.wt; simpa using this)]
  rw [List.drop_zero]
  rfl
theorem idxFrom_length {wn : Nat} : ∀ (L : List S80) (p : Nat), (∀ g ∈ L, g.f0.size = wn) → (idxFrom L p).length = L.length * (wn + 4) := by
  intro L
  induction L with
  | nil => intro p _; simp [idxFrom]
  | cons g L ih =>
    intro p h
    rw [idxFrom, List.length_append, List.length_append, ba_size, be_length, ih _ (fun x hx => h x (List.mem_cons_of_mem _ hx)), h g (by simp), List.length_cons, Nat.add_mul]
    omega
/-- The part of a text between two others. -/
theorem mid (d : ByteArray) (A M B : List UInt8) (h : d.data.toList = A ++ (M ++ B)) (a b : Nat) (ha : a = A.length) (hb : b = A.length + M.length) : (d.extract a b).data.toList = M := by
  subst ha hb
  have hs : d.size = A.length + (M.length + B.length) := by
    rw [← ba_size, h, List.length_append, List.length_append]
  rw [ByteArray.data_extract, Array.toList_extract, h]
  simp [List.extract]
theorem idx_at {wn : Nat} : ∀ (L : List S80) (p i : Nat), (∀ g ∈ L, g.f0.size = wn) → i < L.length → ∃ A B : List UInt8, idxFrom L p = A ++ ((L.getD i z80).f0.data.toList ++ (be ((p + total (L.take i) : Nat) : Int) 4 ++ B)) ∧ A.length = i * (wn + 4) := by
  intro L
  induction L with
  | nil => intro p i _ hi; exact absurd hi (Nat.not_lt_zero _)
  | cons g L ih =>
    intro p i h hi
    cases i with
    | zero => exact ⟨[], idxFrom L (p + wG g), by rw [idxFrom]; simp [total], by simp⟩
    | succ i =>
      obtain ⟨A, B, h1, h2⟩ := ih (p + wG g) i (fun x hx => h x (List.mem_cons_of_mem _ hx)) (by simpa using hi)
      refine ⟨g.f0.data.toList ++ (be (p : Int) 4 ++ A), B, ?_, ?_⟩
      · rw [idxFrom, h1, List.take_succ_cons, total_cons, ← Nat.add_assoc]
        simp only [List.append_assoc]
        rfl
      · rw [List.length_append, List.length_append, ba_size, be_length, h2, h g (by simp), Nat.add_mul]
        omega
theorem data_at (L : List S80) (i : Nat) (hi : i < L.length) : ∃ A B : List UInt8, dataOf L = A ++ (recBytes (L.getD i z80).f1 ++ B) ∧ A.length = total (L.take i) := by
  refine ⟨dataOf (L.take i), dataOf (L.drop (i + 1)), ?_, dataOf_length _⟩
  have h1 : dataOf L = dataOf (L.take i) ++ dataOf (L.drop i) := by
    unfold dataOf
    rw [← List.flatMap_append, List.take_append_drop]
  rw [h1, drop_cons80 L i hi]
  rfl
theorem sp_read (d : ByteArray) : ∀ (l : List S94) (A B : List UInt8) (pos : Nat), d.data.toList = A ++ (l.flatMap pairBytes ++ B) → pos = A.length → (∀ p ∈ l, p.f0.size < 65536 ∧ p.f1.size < 4294967296) → sp d l.length pos = some (l, pos + sz l) := by
  intro l
  induction l with
  | nil => intro A B pos _ _ _; simp [sp, sz]
  | cons q l ih =>
    intro A B pos h hp hq
    subst hp
    have hq0 := hq q (by simp)
    rw [List.flatMap_cons, pairBytes] at h
    simp only [List.append_assoc] at h
    have hs : d.size = A.length + (2 + (4 + (q.f0.size + (q.f1.size + ((l.flatMap pairBytes).length + B.length))))) := by
      rw [← ba_size, h]
      simp only [List.length_append, be_length, ba_size]
    have n1 : numN d A.length 2 = q.f0.size := by
      unfold numN
      rw [mid d A (be q.f0.size 2) _ h A.length (A.length + 2) rfl (by rw [be_length]), num_be 2 _ (by omega) (by omega)]
      omega
    have n2 : numN d (A.length + 2) 4 = q.f1.size := by
      unfold numN
      rw [mid d (A ++ be q.f0.size 2) (be q.f1.size 4) _ (by rw [h]; simp only [List.append_assoc]; rfl) (A.length + 2) (A.length + 2 + 4) (by rw [List.length_append, be_length]) (by rw [List.length_append, be_length, be_length]), num_be 4 _ (by omega) (by omega)]
      omega
    rw [List.length_cons, sp, n1, n2, if_neg (by omega), if_neg (by omega)]
    have hpa : pairAt d A.length = q := by
      unfold pairAt
      rw [n1, n2]
      have e1 : d.extract (A.length + 6) (A.length + 6 + q.f0.size) = q.f0 := ba_ext (mid d (A ++ (be q.f0.size 2 ++ be q.f1.size 4)) q.f0.data.toList _ (by rw [h]; simp only [List.append_assoc]; rfl) _ _ (by simp only [List.length_append, be_length]) (by simp only [List.length_append, be_length, ba_size]))
      have e2 : d.extract (A.length + 6 + q.f0.size) (A.length + 6 + q.f0.size + q.f1.size) = q.f1 := ba_ext (mid d (A ++ (be q.f0.size 2 ++ (be q.f1.size 4 ++ q.f0.data.toList))) q.f1.data.toList _ (by rw [h]; simp only [List.append_assoc]; rfl) _ _ (by simp only [List.length_append, be_length, ba_size]; omega) (by simp only [List.length_append, be_length, ba_size]; omega))
      rw [e1, e2]
    have hr := ih (A ++ (be q.f0.size 2 ++ (be q.f1.size 4 ++ (q.f0.data.toList ++ q.f1.data.toList)))) B (A.length + 6 + q.f0.size + q.f1.size) (by rw [h]; simp only [List.append_assoc]) (by simp only [List.length_append, be_length, ba_size]; omega) (fun p hp => hq p (List.mem_cons_of_mem _ hp))
    rw [hr, hpa]
    simp only [Option.map_some, sz]
    congr 2
    omega
theorem rrF_read (d : ByteArray) (l : List S94) (A B : List UInt8) (h : d.data.toList = A ++ (recBytes l ++ B)) (hw : wrongF l = 0) (hz : 2 + sz l ≤ 65536) : rrF d (A.length : Int) = (l, ((A.length + (2 + sz l) : Nat) : Int), 0) := by
  have hs : d.size = A.length + (2 + sz l + B.length) := by
    rw [← ba_size, h]
    simp only [List.length_append, recBytes_length]
  unfold recBytes at h
  simp only [List.append_assoc] at h
  obtain ⟨w1, w2, w3, w4⟩ := wrongF_zero l hw
  unfold rrF
  rw [if_neg (by omega), Int.toNat_natCast, if_neg (by omega)]
  have n1 : numN d A.length 2 = l.length := by
    unfold numN
    rw [mid d A (be l.length 2) _ h A.length (A.length + 2) rfl (by rw [be_length]), num_be 2 _ (by omega) (by omega)]
    omega
  have hsp := sp_read d l (A ++ be l.length 2) B (A.length + 2) (by rw [h]; simp only [List.append_assoc]) (by rw [List.length_append, be_length]) (fun p hp => by
    obtain ⟨j, hj, rfl⟩ := List.mem_iff_getElem.1 hp
    have h1 := pairErr_sizes l j (w3 j hj)
    rw [List.getD_eq_getElem?_getD, List.getElem?_eq_getElem hj] at h1
    have h2 := h1.2.1
    have h3 := h1.2.2
    change l[j].f0.size ≤ 255 at h2
    change l[j].f1.size ≤ 4096 at h3
    omega)
  rw [n1, hsp, fin_nil_good l _ hw, if_neg (by omega)]
  congr 2
  omega

end Go.Proofs.Ytkfhedppnlocpaa.Q
