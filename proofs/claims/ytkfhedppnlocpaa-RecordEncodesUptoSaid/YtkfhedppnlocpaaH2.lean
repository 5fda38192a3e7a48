/- Contracts of granarylaw3.Handed's list and left. Condition: what was handed in, is. -/
import Derived.Test.YtkfhedppnlocpaaH1
import Derived.Test.YtkfhedppnlocpaaQx7
set_option linter.unusedVariables false
set_option linter.unusedSimpArgs false
namespace Go.Proofs.Ytkfhedppnlocpaa.Q
open Go.RowKit Go.Plan Go.Proofs.YtkfhedppnlocpaaW.PrintWords Go.Proofs.YtkfhedppnlocpaaW.PrintLast Go.Proofs.YtkfhedppnlocpaaW.PrintMore

theorem C_prefix {α : Type} {d : Kd α} {W : World} {A : Option Addr} {xs ys : List α} (h : Kd.C d W A (xs ++ ys).length (xs ++ ys)) : Kd.C d W A xs.length xs := by
  obtain ⟨_, h2, h3⟩ := h
  rw [List.length_append] at h2 h3
  refine ⟨rfl, by omega, fun hn => ?_⟩
  obtain ⟨x, hx, hc⟩ := h3 (by omega)
  refine ⟨x, hx, fun j p hj => hc j p ?_⟩
  rw [List.getElem?_append_left (List.getElem?_eq_some_iff.1 hj).1]
  exact hj
section
variable {B g : Nat} {W : World} {gA pA : Option Addr} {gq pq : Nat} {E : List GE}
theorem HD.addr (h : HD B W g gA gq pA pq (E ++ [mkGE]) E) : ∃ a, gA = some ⟨a, 0, none⟩ := ownsRow_addr h.gr (by simp)
theorem HD.reads (h : HD B W g gA gq pA pq (E ++ [mkGE]) E) : (E.map GE.g).length ≤ gq ∧ Kd.C k80 W gA (E.map GE.g).length (E.map GE.g) := by
  have hcap := ownsRow_cap h.gr
  rw [List.length_append] at hcap
  refine ⟨by rw [List.length_map]; omega, rfl, ?_, fun hl => ?_⟩
  · rw [List.length_map]
    unfold maxLen at hcap
    omega
  · obtain ⟨a, ha⟩ := h.addr
    refine ⟨⟨a, 0, none⟩, ha, fun j p hj => ?_⟩
    rw [List.getElem?_map] at hj
    obtain ⟨e, he, rfl⟩ := Option.map_eq_some_iff.1 hj
    obtain ⟨g', hg', hc⟩ := own_at (c := gcell) (by decide) gcell_length h.gr j e (by rw [List.getElem?_append_left (List.getElem?_eq_some_iff.1 he).1]; exact he)
    rw [ha] at hg'
    simp only [Option.some.injEq, Addr.mk.injEq, and_true] at hg'
    subst hg'
    have hin := h.inn e (List.mem_of_getElem? he)
    have hk := C_prefix hin.reads
    refine ⟨gcell e, rfl, k80_mk W e.g ?_ hk, fun i u hu => by rw [add_plain]; exact hc i u hu⟩
    have := (ownsRow_cap hin).1
    rw [marks_len] at this
    show e.l.length ≤ e.c
    omega

set_option maxHeartbeats 2000000 in
set_option maxRecDepth 100000 in
theorem list_calls (h : HD B W g gA gq pA pq (E ++ [mkGE]) E) (hl : E.length ≤ 4194304) :
    Calls Try.prog 35 #[.pointer (some ⟨g, 0, none⟩)] W fun e w' => e = .returned (.slice gA E.length gq) ∧ ∃ n, w' = W.drewN n := by
  obtain ⟨a, rfl⟩ := h.addr
  have hcap := (ownsRow_cap h.gr).1
  have hbx := h.bx
  have hlen : (E ++ [mkGE]).length = E.length + 1 := by simp
  rw [hlen] at hbx hcap
  have x0 := blk_cell hbx 0
  have hpl : (E.length : Int) ≤ 4194304 := by omega
  have hw3 : wrap64 (E.length : Int) = (E.length : Int) := Go.IntWalk.wrap64_in _ (by omega)
  have q1 : (0 ≤ (E.length : Int)) = True := eq_true (by omega)
  have q2 : ((E.length : Int) ≤ (gq : Int)) = True := eq_true (by omega)
  clear hbx hcap hlen h
  go_enter Try.func35, Try.ntmps35
  go_wp2_with fail
  go_quiet (fail)
  go_wp2_with fail
  go_ret
  exact ⟨rfl, _, rfl⟩
end

theorem samePairs_big0 (l : List S94) (hl : l.length ≤ 4194310) : ∀ (d i k : Nat), i + d = l.length → d < k → granarylaw3_samePairs.l0 k l l (i : Int) = some true := by
  intro d
  induction d with
  | zero =>
    intro i k hi hk
    obtain ⟨k, rfl⟩ : ∃ m, k = m + 1 := ⟨k - 1, by omega⟩
    rw [granarylaw3_samePairs.l0, if_neg (by omega)]
  | succ d ih =>
    intro i k hi hk
    obtain ⟨k, rfl⟩ : ∃ m, k = m + 1 := ⟨k - 1, by omega⟩
    rw [granarylaw3_samePairs.l0, if_pos (by omega), if_pos (by omega), if_pos (by omega), if_pos rfl, if_pos rfl, w64 ((i : Int) + 1) (by omega) (by omega)]
    exact ih (i + 1) k (by omega) (by omega)

theorem samePairs_big (l : List S94) (hl : l.length ≤ 4194310) (k : Nat) (hk : l.length < k) : granarylaw3_samePairs.f k l l = some true := by
  unfold granarylaw3_samePairs.f
  rw [if_pos rfl]
  exact samePairs_big0 l hl l.length 0 k (by omega) hk

theorem sameGroups_big0 (l : List S80) (hl : l.length ≤ 4194304) (hp : ∀ g ∈ l, g.f1.length ≤ 4194310) : ∀ (d i k : Nat), i + d = l.length → d + 4194310 < k → granarylaw3_sameGroups.l0 k l l (i : Int) = some true := by
  intro d
  induction d with
  | zero =>
    intro i k hi hk
    obtain ⟨k, rfl⟩ : ∃ m, k = m + 1 := ⟨k - 1, by omega⟩
    rw [granarylaw3_sameGroups.l0, if_neg (by omega)]
  | succ d ih =>
    intro i k hi hk
    obtain ⟨k, rfl⟩ : ∃ m, k = m + 1 := ⟨k - 1, by omega⟩
    obtain ⟨g, hg, hm⟩ := rd_getD l i (by omega)
    have := hp g hm
    rw [granarylaw3_sameGroups.l0, if_pos (by omega), if_pos (by omega), if_pos (by omega), hg, if_pos rfl, samePairs_big g.f1 this k (by omega), Option.bind_some, if_pos rfl, w64 ((i : Int) + 1) (by omega) (by omega)]
    exact ih (i + 1) k (by omega) (by omega)
theorem sameGroups_big (l : List S80) (hl : l.length ≤ 4194304) (hp : ∀ g ∈ l, g.f1.length ≤ 4194310) : granarylaw3_sameGroups.f 9000000 l l = some true := by
  unfold granarylaw3_sameGroups.f
  rw [if_pos rfl]
  exact sameGroups_big0 l hl hp l.length 0 _ (by omega) (by omega)
set_option maxHeartbeats 8000000 in
set_option maxRecDepth 100000 in
theorem left_calls (B g : Nat) (w : World) (gA pA : Option Addr) (gq pq : Nat) (E : List GE) (A0 : Option Addr) (c0 : Nat) (l : List S80) (h : HD B w g gA gq pA pq (E ++ [mkGE]) E) (hE : E.map GE.g = l) (hK : Kd.C k80 w A0 l.length l) (hc : l.length ≤ c0) (hl : l.length ≤ 4194304) (hp : ∀ g ∈ l, g.f1.length ≤ 4194304) :
    Calls Try.prog 37 #[.pointer (some ⟨g, 0, none⟩), .slice A0 l.length c0] w fun e w' => e = .returned (.bool true) ∧ Below w.heap.size w w' := by
  have HH := Aside0.mk h
  have HE := Aside0.mk hE
  have HK := Aside0.mk hK
  have HC := Aside0.mk hc
  have HL := Aside0.mk hl
  have HP := Aside0.mk hp
  have hel : E.length = l.length := by rw [← hE, List.length_map]
  have HEL := Aside0.mk hel
  have hlen : (E ++ [mkGE]).length = l.length + 1 := by simp [hel]
  obtain ⟨a, rfl⟩ := h.addr
  have hbx := h.bx
  rw [hlen, hel] at hbx
  have x0 := blk_cell hbx 0
  have HBX := Aside0.mk hbx
  obtain ⟨a', ha', hmk⟩ := own_at (c := gcell) (by decide) gcell_length h.gr l.length mkGE (by rw [List.getElem?_append_right (by omega), hel, Nat.sub_self]; rfl)
  simp only [Option.some.injEq, Addr.mk.injEq, and_true] at ha'
  subst ha'
  have z0 : w.cell? ⟨a, l.length * 2, none⟩ = some (.string mkGE.f0) := hmk 0 _ rfl
  have z1 : w.cell? ⟨a, l.length * 2 + 1, none⟩ = some (.slice none 0 0) := hmk 1 _ rfl
  have hm0 : mkGE.f0.toList = [98, 101, 104, 105, 110, 100] := by rw [ByteArray.toList_eq]; rfl
  have hm1 : (!mkGE.f0.toList == [98, 101, 104, 105, 110, 100]) = false := by rw [hm0]; rfl
  have hnb : (l.length : Int) ≤ 4194304 := by omega
  have p2 : (0 ≤ (l.length : Int)) = True := eq_true (by omega)
  have p3 : ((l.length : Int) < (l.length : Int) + 1) = True := eq_true (by omega)
  have p4 : (l.length < l.length + 1) = True := eq_true (by omega)
  have HLC := Aside0.mk (show Calls Try.prog 35 #[.pointer (some ⟨g, 0, none⟩)] w fun e w' => e = .returned (.slice (some ⟨a, 0, none⟩) l.length gq) ∧ ∃ n, w' = w.drewN n from by
    have := list_calls h (by omega)
    rwa [hel] at this)
  have HSG := Aside0.mk (show ∀ n, Calls Try.prog 32 #[.slice (some ⟨a, 0, none⟩) l.length gq, .slice A0 l.length c0] (w.drewN n) fun e w' => e = .returned (.bool true) ∧ Drawn0 (w.drewN n) w' from fun n => by
    obtain ⟨h1, h2⟩ := (h.below (below_drewN w n)).reads
    rw [hE] at h1 h2
    exact granarylaw3_sameGroups.calls 9000000 (some ⟨a, 0, none⟩) gq l A0 c0 l true (w.drewN n) h2 h1 (Kd.C_below hK (below_drewN w n)) hc (sameGroups_big l hl (fun g hg => Nat.le_trans (hp g hg) (by omega))))
  clear h hE hK hc hl hp hel hlen hbx hmk
  go_enter Try.func37, Try.ntmps37
  go_upto_region 4 with (first
    | (go_at_call 35; (with_reducible refine HLC.out.mono ?_); rintro e w1 ⟨rfl, ⟨n, rfl⟩⟩)
    | (go_at_call 32; (with_reducible refine (HSG.out n).mono ?_); rintro e w2 ⟨rfl, ⟨n2, rfl⟩⟩))
  have HLEN := Aside0.mk HBX.out
  clear x0 z0 z1 hm0 hm1 HLC HSG
  go_wp2_with fail
  go_loopg [6] l.length (fun kq v6 w' => ∃ i : Nat, v6 = .int .i64 (i : Int) ∧ Aside0 (i + kq = l.length) ∧ Aside0 (Below w.heap.size w w'))
  case atStart => exact ⟨0, rfl, ⟨by omega⟩, ⟨below_drewN w _⟩⟩
  case round =>
    obtain ⟨i, rfl, HN, HB⟩ := hrel
    by_cases ci : (i : Int) < (l.length : Int)
    · cases gk with
      | zero => exact absurd HN.out (by omega)
      | succ k1 =>
      have hil : i < l.length := by omega
      have cb : decide ((i : Int) < (l.length : Int)) = true := decide_eq_true ci
      have cb2 : decide (i < l.length) = true := decide_eq_true hil
      have HN' := Aside0.mk (show i + 1 + k1 = l.length by have := HN.out; omega)
      obtain ⟨e, he⟩ : ∃ e, E[i]? = some e := ⟨_, List.getElem?_eq_getElem (show i < E.length by rw [HEL.out]; exact hil)⟩
      have hgi : l[i]? = some e.g := by rw [← HE.out, List.getElem?_map, he]; rfl
      have hgd : l.getD i z80 = e.g := by rw [List.getD_eq_getElem?_getD, hgi]; rfl
      obtain ⟨b, hpA, -⟩ := own_at (c := hpc) (by decide) hpc_length HH.out.pr i e he
      subst hpA
      obtain ⟨ad, A1, c1, hA0, -, -, hc1, -⟩ := at_T80 HK.out (i : Int) (by omega) (by omega)
      subst hA0
      obtain ⟨A1, c1, hz1⟩ : ∃ A1 c1, w.cell? ⟨(ad.add (i * 2)).block, (ad.add (i * 2)).off + 1, none⟩ = some (.slice A1 e.l.length c1) ∧ e.l.length ≤ c1 ∧ k94.C w A1 e.l.length e.l := by
        obtain ⟨ad', A1, c1, ha, _, z1, z2, z3⟩ := at_T80 HK.out (i : Int) (by omega) (by omega)
        obtain rfl := Option.some.inj ha
        rw [Int.toNat_natCast, rd80_nat, hgd] at z1
        rw [rd80_nat, hgd] at z2 z3
        exact ⟨A1, c1, z1, z2, z3⟩
      have HEI := Aside0.mk (And.intro he hz1.2)
      have HF := Aside0.mk (show ∀ W, Below wr.heap.size wr W → W.cell? ⟨g, 1, none⟩ = some (.slice (some ⟨b, 0, none⟩) l.length pq) ∧ W.cell? ⟨b, i, none⟩ = some (.slice e.A (e.l.length + 2) e.c) ∧ W.cell? ⟨(ad.add (i * 2)).block, (ad.add (i * 2)).off + 1, none⟩ = some (.slice A1 e.l.length c1) from fun W hW => by
        have hb2 := below_step HB.out hW
        have h2 := HH.out.below hb2
        refine ⟨?_, ?_, (hb2.cell (World.block_lt_of_cell? _ _ hz1.1)).trans hz1.1⟩
        · have := blk_cell (blk_below HBX.out hb2) 1
          exact this
        · obtain ⟨b', hb', hcs⟩ := own_at (c := hpc) (by decide) hpc_length h2.pr i e he
          simp only [Option.some.injEq, Addr.mk.injEq, and_true] at hb'
          subst hb'
          have := hcs 0 _ rfl
          rw [Nat.mul_one, Nat.add_zero] at this
          exact this)
      have p2 : (0 ≤ (i : Int)) = True := eq_true (by omega)
      have p3 : ((i : Int) < (l.length : Int)) = True := eq_true ci
      clear hgi hgd he hz1 hc1 hil
      go_upto_region 7 with fail
      have hc0 := below_drew wr
      refine wp_region_plan (quiets [0, 1, 2, 3, 4, 5, 6, 7, 8, 9, 10, 11] ++ ((true, 12) :: ((true, 13) :: (quiets [14] ++ [])))) (fun W => Below wr.heap.size wr W) (by kernel_rfl) (by kernel_rfl) hc0 ?_
      apply mix_quiets [0, 1, 2, 3, 4, 5, 6, 7, 8, 9, 10, 11] _ (by kernel_rfl) hc0
      case h =>
        intro W hW
        obtain ⟨e1, e2, e3⟩ := HF.out W hW
        clear hW
        refine still_of_quiet _ _ ?_
        simp only [segOps, List.getElem?_toArray, List.getElem?_cons_zero, List.getElem?_cons_succ, Option.toList_some, List.nil_append, List.cons_append, List.append_nil]
        repeat (go_big_quiet_step (fail))
        exact wpQuiet_nil rfl
      refine mix_writes 12 ⟨some 64, _, _, _, _, _⟩ rfl _ ?_
      change wpList _ _ _ _ _ wr.drew
      have HC2 := Aside0.mk hc0
      clear hc0
      generalize wr.drew = w2 at *
      have HK2 := Aside0.mk (Kd.C_below HEI.out.2.2 (below_step HB.out HC2.out))
      have HLE := Aside0.mk (show e.l.length ≤ 4194304 from by
        have h1 : e.g ∈ l := by rw [← HE.out]; exact List.mem_map.2 ⟨e, List.mem_of_getElem? HEI.out.1, rfl⟩
        exact HP.out _ h1)
      go_wp2_with (go_at_call 27; (with_reducible refine (roomy_any A1 c1 e.l w2 HK2.out HEI.out.2.1 (by have := HLE.out; omega)).mono ?_); rintro e' w3 ⟨A3, c3, rfl, ho, hb⟩)
      have HC3 := Aside0.mk (below_step HC2.out hb)
      have HO3 := Aside0.mk ho
      clear ho hb
      refine ⟨HC3.out, ?_⟩
      refine mix_writes 13 ⟨some 65, _, _, _, _, _⟩ rfl _ ?_
      have HSP := Aside0.mk (show Calls Try.prog 26 #[.slice e.A (e.l.length + 2) e.c, .slice A3 (e.l.length + 2) c3] w3 fun e w' => e = .returned (.bool true) ∧ Drawn0 w3 w' from by
        have h1 := (HH.out.below (below_step HB.out HC3.out)).inn e (List.mem_of_getElem? HEI.out.1)
        have h2 := h1.reads
        have h3 := HO3.out.reads
        have h4 := (ownsRow_cap h1).1
        have h5 := (ownsRow_cap HO3.out).1
        rw [← marks_len]
        exact granarylaw3_samePairs.calls 4194311 e.A e.c (e.l ++ marks) A3 c3 (e.l ++ marks) true w3 h2 h4 h3 h5 (samePairs_big (e.l ++ marks) (by rw [marks_len]; have := HLE.out; omega) 4194311 (by rw [marks_len]; have := HLE.out; omega)))
      go_wp2_with (go_at_call 26; (with_reducible refine HSP.out.mono ?_); rintro e' w4 ⟨rfl, ⟨n4, rfl⟩⟩)
      have HC4 := Aside0.mk (below_step HC3.out (below_drewN w3 n4))
      clear HSP HO3
      generalize w3.drewN n4 = w4 at *
      refine ⟨HC4.out, ?_⟩
      apply mix_quiets [14] _ (by kernel_rfl) HC4.out
      case h =>
        intro W hW
        clear hW
        refine still_of_quiet _ _ ?_
        simp only [segOps, List.getElem?_toArray, List.getElem?_cons_zero, List.getElem?_cons_succ, Option.toList_some, List.nil_append, List.cons_append, List.append_nil]
        repeat (go_big_quiet_step (fail))
        exact wpQuiet_nil rfl
      refine mix_done ?_
      go_wp2_with fail
      go_roundg k1
      case measure => have := HN'.out; omega
      case rel => exact ⟨i + 1, congrArg (Value.int .i64) (by omega), HN', ⟨below_step HB.out HC4.out⟩⟩
    · have cb : decide ((i : Int) < (l.length : Int)) = false := decide_eq_false ci
      have cb2 : decide (i < l.length) = false := decide_eq_false (by omega)
      obtain rfl : gk = 0 := by have := HN.out; omega
      go_wp2_with fail
      go_ret
      exact ⟨rfl, HB.out⟩

end Go.Proofs.Ytkfhedppnlocpaa.Q
