/- Contract of record.Lookup. Condition: the texts are not too long. -/
import Derived.Test.YtkfhedppnlocpaaEW
import Derived.BigQuiet
set_option linter.unusedVariables false
set_option linter.unusedSimpArgs false
namespace Go.Proofs.Ytkfhedppnlocpaa.Q
open Go.RowKit Go.Proofs.YtkfhedppnlocpaaW.PrintWords Go.Proofs.YtkfhedppnlocpaaW.PrintLast Go.Proofs.YtkfhedppnlocpaaW.PrintMore

/-- The three boxes of Lookup's parameters. -/
structure LB (w W : World) (x d h k : ByteArray) : Prop where
  b0 : W.heap[w.heap.size]? = some (.cells #[.string x, .string d] 53 (0, 0))
  b1 : W.heap[w.heap.size + 1]? = some (.cells #[.string h] 9 (0, 0))
  b2 : W.heap[w.heap.size + 1 + 1]? = some (.cells #[.string k] 9 (0, 0))
  bel : Below w.heap.size w W
  sz : w.heap.size + 1 + 1 < W.heap.size
theorem LB.grow {w W W' : World} {x d h k : ByteArray} (H : LB w W x d h k) (hb : Below W.heap.size W W') : LB w W' x d h k := by
  have := H.sz
  have h2 := hb.size
  exact ⟨(hb.block _ (by omega)).trans H.b0, (hb.block _ (by omega)).trans H.b1, (hb.block _ (by omega)).trans H.b2, below_step H.bel hb, by omega⟩
theorem LB.start (w : World) (x d h k : ByteArray) : LB w (((w.alloc (OCh x d)).alloc (.cells #[.string h] 9)).alloc (.cells #[.string k] 9)) x d h k := by
  have h1 := blk_new w (OCh x d)
  have h2 := blk_new (w.alloc (OCh x d)) (.cells #[.string h] 9)
  have h3 := blk_new ((w.alloc (OCh x d)).alloc (.cells #[.string h] 9)) (.cells #[.string k] 9)
  have g1 := below2a w (OCh x d)
  have g2 := below2a (w.alloc (OCh x d)) (.cells #[.string h] 9)
  have g3 := below2a ((w.alloc (OCh x d)).alloc (.cells #[.string h] 9)) (.cells #[.string k] 9)
  have s1 : (w.alloc (OCh x d)).heap.size = w.heap.size + 1 := by simp
  have s2 : ((w.alloc (OCh x d)).alloc (.cells #[.string h] 9)).heap.size = w.heap.size + 1 + 1 := by simp
  rw [s1] at h2
  rw [s2] at h3
  refine ⟨(g3.block _ (by omega)).trans ((g2.block _ (by omega)).trans h1), (g3.block _ (by omega)).trans h2, h3, below_step (below_step g1 g2) g3, by simp⟩
theorem search72 (W : World) (g3 gx : Nat) (A : Option Addr) (q : Nat) (L : List S80) (h : ByteArray) (hK : Kd.C k80 W A L.length L) (hc : L.length ≤ q) (hl : L.length ≤ 4194304)
    (ha : W.cell? ⟨g3, 0, none⟩ = some (.slice A L.length q)) (hx : W.cell? ⟨gx, 0, none⟩ = some (.string h)) (hasc : ∀ i, 0 < i → i < L.length → Op.bytesLess (L.getD (i - 1) z80).f0.toList (L.getD i z80).f0.toList = true) :
    Calls Try.prog 71 #[.int .i64 (L.length : Nat), .func (.func 72) #[] #[.pointer (some ⟨g3, 0, none⟩), .pointer (some ⟨gx, 0, none⟩)]] W fun e w' => ∃ r : Nat, e = .returned (.int .i64 (r : Int)) ∧ r ≤ L.length ∧
      ((r < L.length ∧ (L.getD r z80).f0.toList = h.toList ∧ ∀ k, amongF L h k = inPairs (L.getD r z80).f1 k) ∨ (¬ (r < L.length ∧ (L.getD r z80).f0.toList = h.toList) ∧ ∀ k, amongF L h k = none)) ∧ ∃ n, w' = W.drewN n := by
  refine (search_calls 72 _ L.length (fun i => !Op.bytesLess (L.getD i z80).f0.toList h.toList) W (enters_of Try.func72 (by kernel_rfl) rfl) (by omega) (fun m i hi => ?_) (asc_mono (fun i => (L.getD i z80).f0.toList) L.length hasc h.toList)).mono ?_
  · exact closure72 g3 gx A q L h i (W.drewN m) hi hK hc ha hx
  · rintro e w' ⟨r, he, hr, h0, h1, hd⟩
    obtain ⟨f1, f2⟩ := asc_found (fun i => (L.getD i z80).f0.toList) L.length hasc h.toList r h0 h1
    refine ⟨r, he, hr, ?_, hd⟩
    by_cases c : r < L.length ∧ (L.getD r z80).f0.toList = h.toList
    · exact .inl ⟨c.1, c.2, fun k => amongF_at h k L r c.1 c.2 (f1 c.1 c.2)⟩
    · exact .inr ⟨c, fun k => amongF_none h k L (f2 c)⟩
theorem search73 (W : World) (g3 gx : Nat) (A : Option Addr) (q : Nat) (L : List S94) (k : ByteArray) (hK : Kd.C k94 W A L.length L) (hc : L.length ≤ q) (hl : L.length ≤ 4194304)
    (ha : W.cell? ⟨g3, 0, none⟩ = some (.slice A L.length q)) (hx : W.cell? ⟨gx, 0, none⟩ = some (.string k)) (hasc : ∀ i, 0 < i → i < L.length → Op.bytesLess (L.getD (i - 1) z94).f0.toList (L.getD i z94).f0.toList = true) :
    Calls Try.prog 71 #[.int .i64 (L.length : Nat), .func (.func 73) #[] #[.pointer (some ⟨g3, 0, none⟩), .pointer (some ⟨gx, 0, none⟩)]] W fun e w' => ∃ r : Nat, e = .returned (.int .i64 (r : Int)) ∧ r ≤ L.length ∧
      ((r < L.length ∧ (L.getD r z94).f0.toList = k.toList ∧ inPairs L k = some (L.getD r z94).f1) ∨ (¬ (r < L.length ∧ (L.getD r z94).f0.toList = k.toList) ∧ inPairs L k = none)) ∧ ∃ n, w' = W.drewN n := by
  refine (search_calls 73 _ L.length (fun i => !Op.bytesLess (L.getD i z94).f0.toList k.toList) W (enters_of Try.func73 (by kernel_rfl) rfl) (by omega) (fun m i hi => ?_) (asc_mono (fun i => (L.getD i z94).f0.toList) L.length hasc k.toList)).mono ?_
  · exact closure73 g3 gx A q L k i (W.drewN m) hi hK hc ha hx
  · rintro e w' ⟨r, he, hr, h0, h1, hd⟩
    obtain ⟨f1, f2⟩ := asc_found (fun i => (L.getD i z94).f0.toList) L.length hasc k.toList r h0 h1
    refine ⟨r, he, hr, ?_, hd⟩
    by_cases c : r < L.length ∧ (L.getD r z94).f0.toList = k.toList
    · exact .inl ⟨c.1, c.2, inPairs_at k L r c.1 c.2 (f1 c.1 c.2)⟩
    · exact .inr ⟨c, inPairs_none k L (f2 c)⟩

set_option maxHeartbeats 4000000 in
set_option maxRecDepth 100000 in
theorem record_Lookup.calls (wd : Int) (x d h k : ByteArray) (w : World) (hx : x.size ≤ 16777216) (hd : d.size ≤ 140737488351232) :
    Calls Try.prog 38 #[.int .i64 wd, .agg #[.string x, .string d], .string h, .string k] w (LookRes (lookF wd x d h k) w) := by
  have HR := Aside0.mk (fun W => record_Decode.calls wd x d W hx hd)
  rw [dec_ref] at HR
  have hs := refF_sizes wd x d hx
  have hgd := refF_good wd x d hd
  unfold lookF
  obtain ⟨⟨L, er⟩, hL⟩ : ∃ t, refF wd x d = t := ⟨_, rfl⟩
  rw [hL] at HR hs hgd ⊢
  generalize hres : lookTail wd h k (L, er) = res
  have HRES := Aside0.mk hres
  have HS := Aside0.mk hs
  have HGD := Aside0.mk hgd
  clear hx hd hs hL hres hgd
  have HB := Aside0.mk (LB.start w x d h k)
  go_enter Try.func38, Try.ntmps38
  go_upto_region 1 with fail
  generalize ((w.alloc (OCh x d)).alloc (.cells #[.string h] 9)).alloc (.cells #[.string k] 9) = w1 at *
  have x0 := blk_cell HB.out.b0 0
  have x1 := blk_cell HB.out.b0 1
  go_upto_region 2 with (go_at_call 30; (with_reducible refine (HR.out _).mono ?_); rintro e w2 ⟨A0, q0, E0, rfl, he0, hg0, hb0⟩)
  have HB2 := Aside0.mk ((HB.out.grow hb0).grow (below2a w2 (.cells #[.slice A0 E0.length q0] 54)))
  have HG := Aside0.mk (hg0.below (below2a w2 (.cells #[.slice A0 E0.length q0] 54)))
  have HE0 := Aside0.mk (show E0.map GE.g = L from he0)
  have HX := Aside0.mk (blk_new w2 (.cells #[.slice A0 E0.length q0] 54))
  clear x0 x1 hb0 hg0 he0
  generalize w2.alloc (.cells #[.slice A0 E0.length q0] 54) = w3 at *
  generalize w2.heap.size = g3 at *
  by_cases c1 : er ≠ 0
  · have d1 : (er != 0) = true := by simpa using c1
    have hr := HRES.out
    unfold lookTail at hr
    dsimp only at hr
    rw [if_pos c1] at hr
    have HR2 := Aside0.mk hr
    clear hr c1
    go_wp2_with fail
    rw [← HR2.out]
    exact bodyPost_ret (v := .tuple #[.string ⟨#[]⟩, .bool false, .int .i64 er]) (by simp [results, Try.results38, go_sem]) rfl ⟨rfl, HB2.out.bel⟩
  replace c1 : er = 0 := Decidable.not_not.1 c1
  subst c1
  have HASC := Aside0.mk (HGD.out L rfl)
  have hr := HRES.out
  unfold lookTail at hr
  dsimp only at hr
  rw [if_neg (fun h => h rfl)] at hr
  have y1 := blk_cell HB2.out.b1 0
  have y2 := blk_cell HB2.out.b2 0
  by_cases c2 : (h.size : Int) ≠ wd
  · have d1 : ((h.size : Int) != wd) = true := by simpa using c2
    rw [if_pos c2] at hr
    have HR2 := Aside0.mk hr
    clear hr c2
    go_wp2_with fail
    rw [← HR2.out]
    exact bodyPost_ret (v := .tuple #[.string ⟨#[]⟩, .bool false, .int .i64 34]) (by simp [results, Try.results38, go_sem]) rfl ⟨rfl, HB2.out.bel⟩
  have d1 : ((h.size : Int) != wd) = false := by simpa using c2
  rw [if_neg c2] at hr
  have HR2 := Aside0.mk hr
  clear hr c2
  go_upto_region 6 with fail
  have hr := HR2.out
  by_cases c3 : k.size < 1
  · rw [if_pos (.inl c3)] at hr
    have HR3 := Aside0.mk hr
    have d2 : decide ((k.size : Int) < 1) = true := decide_eq_true (by omega)
    have d3 : decide (k.size < 1) = true := decide_eq_true c3
    clear hr c3
    go_wp2_with fail
    rw [← HR3.out]
    exact bodyPost_ret (v := .tuple #[.string ⟨#[]⟩, .bool false, .int .i64 32]) (by simp [results, Try.results38, go_sem]) rfl ⟨rfl, HB2.out.bel⟩
  have d2 : decide ((k.size : Int) < 1) = false := decide_eq_false (by omega)
  have d3 : decide (k.size < 1) = false := decide_eq_false c3
  by_cases c4 : 255 < k.size
  · rw [if_pos (.inr c4)] at hr
    have HR3 := Aside0.mk hr
    have d4 : decide ((255 : Int) < (k.size : Int)) = true := decide_eq_true (by omega)
    have d5 : decide (255 < k.size) = true := decide_eq_true c4
    clear hr c3 c4
    go_wp2_with fail
    rw [← HR3.out]
    exact bodyPost_ret (v := .tuple #[.string ⟨#[]⟩, .bool false, .int .i64 32]) (by simp [results, Try.results38, go_sem]) rfl ⟨rfl, HB2.out.bel⟩
  rw [if_neg (fun hh => hh.elim c3 c4)] at hr
  have HR3 := Aside0.mk hr
  have d4 : decide ((255 : Int) < (k.size : Int)) = false := decide_eq_false (by omega)
  have d5 : decide (255 < k.size) = false := decide_eq_false c4
  clear hr c3 c4
  have hll : E0.length = L.length := by rw [← HE0.out, List.length_map]
  rw [hll] at HX
  have y3 := blk_cell HX.out 0
  have HSR := Aside0.mk (show Calls Try.prog 71 #[.int .i64 (L.length : Nat), .func (.func 72) #[] #[.pointer (some ⟨g3, 0, none⟩), .pointer (some ⟨w.heap.size + 1, 0, none⟩)]] w3 fun e w' => ∃ r : Nat, e = .returned (.int .i64 (r : Int)) ∧ r ≤ L.length ∧
      ((r < L.length ∧ (L.getD r z80).f0.toList = h.toList ∧ ∀ k, amongF L h k = inPairs (L.getD r z80).f1 k) ∨ (¬ (r < L.length ∧ (L.getD r z80).f0.toList = h.toList) ∧ ∀ k, amongF L h k = none)) ∧ ∃ n, w' = w3.drewN n from by
    obtain ⟨h1, h2⟩ := HG.out.reads
    rw [HE0.out] at h1 h2
    exact search72 w3 g3 _ A0 q0 L h h2 h1 HS.out.1 y3 y1 HASC.out.1)
  go_upto_region 9 with (go_at_call 71; (with_reducible refine HSR.out.mono ?_); rintro e w4 ⟨r, rfl, hr1, hr2, ⟨n4, rfl⟩⟩)
  have HB4 := Aside0.mk (HB2.out.grow (below_drewN w3 n4))
  have HG4 := Aside0.mk (HG.out.below (below_drewN w3 n4))
  have HX4 := Aside0.mk (show (w3.drewN n4).heap[g3]? = some (.cells #[.slice A0 L.length q0] 54 (0, 0)) from HX.out)
  clear HB2 HG HX y1 y2 y3 HSR
  generalize w3.drewN n4 = w4 at *
  have y1 := blk_cell HB4.out.b1 0
  have y2 := blk_cell HB4.out.b2 0
  have y3 := blk_cell HX4.out 0
  have HR1 := Aside0.mk hr1
  have HR4 := Aside0.mk hr2
  have hrl : (r : Int) ≤ 4194304 := by have := HS.out.1; omega
  clear hr2
  by_cases cl : r = L.length
  · have e1 : ((r : Int) == (L.length : Int)) = true := by simp [cl]
    have e2 : (r == L.length) = true := by simp [cl]
    have hno : amongF L h k = none := by
      rcases HR4.out with ⟨h1, _⟩ | ⟨_, h2⟩
      · omega
      · exact h2 k
    have hr := HR3.out
    rw [hno] at hr
    have HR5 := Aside0.mk hr
    clear hr cl hno hr1
    go_quiet (fail)
    go_wp2_with fail
    rw [← HR5.out]
    exact bodyPost_ret (v := .tuple #[.string ⟨#[]⟩, .bool false, .int .i64 0]) (by simp [results, Try.results38, go_sem]) rfl ⟨rfl, below_step HB4.out.bel (below_drewN w4 _)⟩
  have e1 : ((r : Int) == (L.length : Int)) = false := by simp; omega
  have e2 : (r == L.length) = false := by simpa using cl
  have hrl2 : r < L.length := by omega
  obtain ⟨g, A1, c1, hc1, hgr, z0, z1, HK1⟩ : ∃ ad A1 c1, A0 = some ad ∧ L.getD r z80 ∈ L ∧ w4.cell? (ad.add (r * 2)) = some (.string (L.getD r z80).f0) ∧ w4.cell? ⟨(ad.add (r * 2)).block, (ad.add (r * 2)).off + 1, none⟩ = some (.slice A1 (L.getD r z80).f1.length c1) ∧ Aside0 ((L.getD r z80).f1.length ≤ c1 ∧ k94.C w4 A1 (L.getD r z80).f1.length (L.getD r z80).f1) := by
    obtain ⟨h1, h2⟩ := HG4.out.reads
    rw [HE0.out] at h1 h2
    obtain ⟨ad, A1, c1, ha, z0, z1, z2, z3⟩ := at_T80 h2 (r : Int) (by omega) (by omega)
    refine ⟨ad, A1, c1, ha, ?_, z0, z1, ⟨z2, z3⟩⟩
    rw [List.getD_eq_getElem?_getD, List.getElem?_eq_getElem hrl2]
    exact List.getElem_mem hrl2
  subst hc1
  obtain ⟨G, hG⟩ : ∃ G, L.getD r z80 = G := ⟨_, rfl⟩
  rw [hG] at z0 z1 HK1 HR4 hgr
  have HPG := Aside0.mk (And.intro (HS.out.2 G hgr) (HASC.out.2.1 G hgr))
  have p2 : (0 ≤ (r : Int)) = True := eq_true (by omega)
  have p3 : ((r : Int) < (L.length : Int)) = True := eq_true (by omega)
  have HRL := Aside0.mk hrl2
  clear hG hgr cl hrl2 hr1
  by_cases ch : ¬ G.f0.toList = h.toList
  · have e3 : (!G.f0.toList == h.toList) = true := by simpa using ch
    have hno : amongF L h k = none := by
      rcases HR4.out with ⟨_, h1, _⟩ | ⟨_, h2⟩
      · exact absurd h1 ch
      · exact h2 k
    have hr := HR3.out
    rw [hno] at hr
    have HR5 := Aside0.mk hr
    clear hr ch hno
    go_quiet (fail)
    go_wp2_with fail
    rw [← HR5.out]
    exact bodyPost_ret (v := .tuple #[.string ⟨#[]⟩, .bool false, .int .i64 0]) (by simp [results, Try.results38, go_sem]) rfl ⟨rfl, below_step HB4.out.bel (below_drewN w4 _)⟩
  replace ch := Decidable.not_not.1 ch
  have e3 : (!G.f0.toList == h.toList) = false := by simp [ch]
  have hin : amongF L h k = inPairs G.f1 k := by
    rcases HR4.out with ⟨_, _, h1⟩ | ⟨h1, _⟩
    · exact h1 k
    · exact absurd ⟨HRL.out, ch⟩ h1
  have hr := HR3.out
  rw [hin] at hr
  have HR5 := Aside0.mk hr
  clear hr ch hin
  go_quiet (fail)
  have HB5 := Aside0.mk (HB4.out.grow (below_drewN w4 nq))
  have HK5 := Aside0.mk (show G.f1.length ≤ c1 ∧ k94.C (w4.drewN nq) A1 G.f1.length G.f1 from HK1.out)
  have HX5 := Aside0.mk (show (w4.drewN nq).heap[g3]? = some (.cells #[.slice (some g) L.length q0] 54 (0, 0)) from HX4.out)
  have z5 : (w4.drewN nq).cell? ⟨(g.add (r * 2)).block, (g.add (r * 2)).off + 1, none⟩ = some (.slice A1 G.f1.length c1) := z1
  clear HB4 HG4 HX4 HK1 y1 y2 y3 z0 z1 e1 e2 e3
  generalize w4.drewN nq = w5 at *
  have y3 := blk_cell HX5.out 0
  have f5 := HX5.out
  go_upto_region 12 with fail
  have hb6 := below2a w5 (.cells #[.slice A1 G.f1.length c1] 41)
  have HB6 := Aside0.mk (HB5.out.grow hb6)
  have HX6 := Aside0.mk (blk_new w5 (.cells #[.slice A1 G.f1.length c1] 41))
  have HK6 := Aside0.mk (show G.f1.length ≤ c1 ∧ k94.C (w5.alloc (.cells #[.slice A1 G.f1.length c1] 41)) A1 G.f1.length G.f1 from ⟨HK5.out.1, Kd.C_below HK5.out.2 hb6⟩)
  clear hb6 y3 f5 z5 HB5 HK5 HX5
  generalize w5.alloc (.cells #[.slice A1 G.f1.length c1] 41) = w6 at *
  generalize w5.heap.size = g5 at *
  have y2 := blk_cell HB6.out.b2 0
  have y5 := blk_cell HX6.out 0
  have HPA := Aside0.mk (pairs_asc G.f1 HPG.out.2)
  have HSR := Aside0.mk (search73 w6 g5 _ A1 c1 G.f1 k HK6.out.2 HK6.out.1 (by have := HPG.out.1; omega) y5 y2 HPA.out)
  go_upto_region 13 with (go_at_call 71; (with_reducible refine HSR.out.mono ?_); rintro e w7 ⟨s, rfl, hs1, hs2, ⟨n7, rfl⟩⟩)
  have HB7 := Aside0.mk (HB6.out.grow (below_drewN w6 n7))
  have HK7 := Aside0.mk (show G.f1.length ≤ c1 ∧ k94.C (w6.drewN n7) A1 G.f1.length G.f1 from HK6.out)
  have HX7 := Aside0.mk (show (w6.drewN n7).heap[g5]? = some (.cells #[.slice A1 G.f1.length c1] 41 (0, 0)) from HX6.out)
  have HS7 := Aside0.mk hs2
  clear HB6 HK6 HX6 y2 y5 HSR hs2
  generalize w6.drewN n7 = w7 at *
  have y2 := blk_cell HB7.out.b2 0
  have y5 := blk_cell HX7.out 0
  have hsl : (s : Int) ≤ 4194304 := by have := HPG.out.1; omega
  by_cases cl : s = G.f1.length
  · have e1 : ((s : Int) == (G.f1.length : Int)) = true := by simp [cl]
    have e2 : (s == G.f1.length) = true := by simp [cl]
    have hno : inPairs G.f1 k = none := by
      rcases HS7.out with ⟨h1, _⟩ | ⟨_, h2⟩
      · omega
      · exact h2
    have hr := HR5.out
    rw [hno] at hr
    have HR6 := Aside0.mk hr
    clear hr cl hno hs1
    go_quiet (fail)
    go_wp2_with fail
    rw [← HR6.out]
    exact bodyPost_ret (v := .tuple #[.string ⟨#[]⟩, .bool false, .int .i64 0]) (by simp [results, Try.results38, go_sem]) rfl ⟨rfl, below_step HB7.out.bel (below_drewN w7 _)⟩
  have e1 : ((s : Int) == (G.f1.length : Int)) = false := by simp; omega
  have e2 : (s == G.f1.length) = false := by simpa using cl
  have hsl2 : s < G.f1.length := by omega
  obtain ⟨gp, hcp, z0, z1⟩ : ∃ ad, A1 = some ad ∧ w7.cell? (ad.add (s * 2)) = some (.string (G.f1.getD s z94).f0) ∧ w7.cell? ⟨(ad.add (s * 2)).block, (ad.add (s * 2)).off + 1, none⟩ = some (.string (G.f1.getD s z94).f1) := by
    obtain ⟨ad, ha, z0, z1⟩ := at_T94 HK7.out.2 (s : Int) (by omega) (by omega)
    exact ⟨ad, ha, z0, z1⟩
  subst hcp
  obtain ⟨PR, hPR⟩ : ∃ PR, G.f1.getD s z94 = PR := ⟨_, rfl⟩
  rw [hPR] at z0 z1 HS7
  have p2 : (0 ≤ (s : Int)) = True := eq_true (by omega)
  have p3 : ((s : Int) < (G.f1.length : Int)) = True := eq_true (by omega)
  have HSL := Aside0.mk hsl2
  clear hPR cl hsl2 hs1
  by_cases ch : ¬ PR.f0.toList = k.toList
  · have e3 : (!PR.f0.toList == k.toList) = true := by simpa using ch
    have hno : inPairs G.f1 k = none := by
      rcases HS7.out with ⟨_, h1, _⟩ | ⟨_, h2⟩
      · exact absurd h1 ch
      · exact h2
    have hr := HR5.out
    rw [hno] at hr
    have HR6 := Aside0.mk hr
    clear hr ch hno
    go_quiet (fail)
    go_wp2_with fail
    rw [← HR6.out]
    exact bodyPost_ret (v := .tuple #[.string ⟨#[]⟩, .bool false, .int .i64 0]) (by simp [results, Try.results38, go_sem]) rfl ⟨rfl, below_step HB7.out.bel (below_drewN w7 _)⟩
  replace ch := Decidable.not_not.1 ch
  have e3 : (!PR.f0.toList == k.toList) = false := by simp [ch]
  have hin : inPairs G.f1 k = some PR.f1 := by
    rcases HS7.out with ⟨_, _, h1⟩ | ⟨h1, _⟩
    · exact h1
    · exact absurd ⟨HSL.out, ch⟩ h1
  have hr := HR5.out
  rw [hin] at hr
  have HR6 := Aside0.mk hr
  clear hr ch hin
  go_quiet (fail)
  have HB8 := Aside0.mk (HB7.out.grow (below_drewN w7 nq))
  have y8 : (w7.drewN nq).cell? ⟨g5, 0, none⟩ = some (.slice (some gp) G.f1.length c1) := y5
  have z8 : (w7.drewN nq).cell? ⟨(gp.add (s * 2)).block, (gp.add (s * 2)).off + 1, none⟩ = some (.string PR.f1) := z1
  clear HB7 HK7 HX7 y2 y5 z0 z1 e1 e2 e3
  generalize w7.drewN nq = w8 at *
  go_wp2_with fail
  rw [← HR6.out]
  exact bodyPost_ret (v := .tuple #[.string PR.f1, .bool true, .int .i64 0]) (by simp [results, Try.results38, go_sem]) rfl ⟨rfl, HB8.out.bel⟩

end Go.Proofs.Ytkfhedppnlocpaa.Q
