/-
  DERIVED. The law AskLogic: its walk.
-/
import Derived.Test.YtkbbepienmpibaaGreatDoorJdNot
namespace Go.Proofs.YtkbbepienmpibaaGreatDoor.Jd
open Go.RowKit
open Sc (Str Tst Cmd cStr strC tstC cTst cCmd RW Stk cStk)

theorem tstJ_not (x : Ltt) (fs : List Fld) (t : Tst) : tstJ x fs (notT t) = !(tstJ x fs t) := by rw [tstJ_eq]; simp [notT]
theorem tstJ_all2 (x : Ltt) (fs : List Fld) (s t : Tst) : tstJ x fs (manyT 4 [s, t]) = (tstJ x fs s && tstJ x fs t) := by rw [tstJ_eq]; simp [manyT]
theorem tstJ_any2 (x : Ltt) (fs : List Fld) (s t : Tst) : tstJ x fs (manyT 5 [s, t]) = (tstJ x fs s || tstJ x fs t) := by rw [tstJ_eq]; simp [manyT]
/-- a letter and two tests in variables -/
structure AskSt (w W : World) (L A B : Nat) (x : Ltt) (s t : Tst) (us vs : List Value) : Prop where
  l : Has W L (lttC x)
  a : Has W A us
  b : Has W B vs
  sa : TV W 4 s us
  tb : TV W 4 t vs
  bel : Below w.heap.size w W
theorem AskSt.down {w W W' : World} {L A B : Nat} {x : Ltt} {s t : Tst} {us vs : List Value} (h : AskSt w W L A B x s t us vs) (hb : Below W.heap.size W W') : AskSt w W' L A B x s t us vs :=
  ⟨h.l.down hb, h.a.down hb, h.b.down hb, h.sa.down hb, h.tb.down hb, bt h.bel hb⟩
theorem stk_agg {n : Nat} {w : World} {F : Dom} {y : Stk} {vs : List Value} (h : (cStk n).rep w F y vs) : ∃ k a b s t G m c, vs = [.int .i64 k, .int .i64 a, .int .i64 b, .string s, .string t, .slice G m c] := by
  obtain ⟨_, G, c, -, rfl, -⟩ := Sc.stk_open h
  exact ⟨_, _, _, _, _, _, _, _, rfl⟩
set_option maxHeartbeats 8000000 in
set_option maxRecDepth 20000 in
theorem askLogic_any (a0 a1 a2 b0 b1 b2 : ByteArray) (G : Option Addr) (n c : Nat) (z : Nat → Nat → ByteArray) (bo : ByteArray) (k1 k2 : Nat) (y1 y2 : Stk) (xs ys : List Value) (F1 F2 : Dom) (m : Int) (w : World)
    (h : PostIn w a0 a1 a2 b0 b1 b2 G n c z bo) (h1 : (cStk k1).rep w F1 y1 xs) (h2 : (cStk k2).rep w F2 y2 ys) (hW : RW w m) :
    Calls Tryz.prog 3 #[.agg #[.string a0, .string a1, .string a2, .string b0, .string b1, .string b2, .slice G n c, .string bo], .agg xs.toArray, .agg ys.toArray] w fun e w' => e = .returned (.bool true) ∧ Below w.heap.size w w' := by
  obtain ⟨x, hx⟩ : ∃ x, x = ltrX a0 a1 b0 b1 z n bo := ⟨_, rfl⟩
  have hok := ltrX_ok a0 a1 b0 b1 z n bo
  rw [← hx] at hok
  obtain ⟨fs, hfs⟩ : ∃ fs, fs = ltrFs z n := ⟨_, rfl⟩
  rw [← hfs] at hok
  have HLT : Hid (∀ V, Below w.heap.size w V → Calls Tryz.prog 11 #[.agg #[.string a0, .string a1, .string a2, .string b0, .string b1, .string b2, .slice G n c, .string bo]] V (LetterP x V)) := fun V hV => by
    rw [hx]
    exact letterX_any a0 a1 a2 b0 b1 b2 G n c z bo m V (h.down hV) (hW.down hV).max
  obtain ⟨s, hs⟩ : ∃ s, s = Sc.testS 0 y1 := ⟨_, rfl⟩
  obtain ⟨t, ht⟩ : ∃ t, t = Sc.testS 0 y2 := ⟨_, rfl⟩
  have HT1 : Hid (∀ V, Below w.heap.size w V → Calls Tryz.prog 12 #[.agg xs.toArray, .int .i64 3] V (TestV 4 s V)) := fun V hV => by
    rw [hs]; exact test_tv k1 y1 xs F1 V 0 (by omega) ((cStk k1).stable h1 (Same.of_below hV) hV.size)
  have HT2 : Hid (∀ V, Below w.heap.size w V → Calls Tryz.prog 12 #[.agg ys.toArray, .int .i64 3] V (TestV 4 t V)) := fun V hV => by
    rw [ht]; exact test_tv k2 y2 ys F2 V 0 (by omega) ((cStk k2).stable h2 (Same.of_below hV) hV.size)
  have HASK : Hid (∀ (K : Nat) (u : Tst) (us : List Value) (V : World), TV V K u us → Fine 1 48 u → Below w.heap.size w V → Calls Tryz.prog 14 #[.agg us.toArray, .agg (lttC x).toArray] V (AskR (tstJ x fs u) V)) := fun K u us V hu hf hV =>
    jask_tv K 48 u us x fs _ m V hu hf (by omega) hok (hW.down hV)
  have HNOT : Hid (∀ (K : Nat) (u : Tst) (us : List Value) (V : World), TV V K u us → Calls Tryz.prog 13 #[.agg us.toArray] V (NotP K u V)) := fun K u us V hu => not_any K u us V hu
  have fs1 : ∀ d, d ≤ 6 → Fine d 13 s := fun d hd => by rw [hs]; exact zeroTest_fine d y1 hd
  have ft1 : ∀ d, d ≤ 6 → Fine d 13 t := fun d hd => by rw [ht]; exact zeroTest_fine d y2 hd
  have HF1 : Hid (Fine 1 48 s) := (fs1 1 (by omega)).up (by omega)
  have HF2 : Hid (Fine 1 48 t) := (ft1 1 (by omega)).up (by omega)
  have HF3 : Hid (Fine 1 48 (notT s)) := ((fs1 2 (by omega)).not (by omega)).up (by omega)
  have HF4 : Hid (Fine 1 48 (manyT 4 [s, t])) := (Fine.many (.inl rfl) (fun u hu => by rcases List.mem_cons.1 hu with rfl | hu; (exact fs1 2 (by omega)); (obtain rfl := List.mem_singleton.1 hu; exact ft1 2 (by omega))) (by omega) (by simp) (by simp)).up (by omega)
  have HF5 : Hid (Fine 1 48 (notT (manyT 5 [notT s, notT t]))) := (Fine.not (Fine.many (B := 14) (.inr rfl) (fun u hu => by rcases List.mem_cons.1 hu with rfl | hu; (exact (fs1 4 (by omega)).not (by omega)); (obtain rfl := List.mem_singleton.1 hu; exact (ft1 4 (by omega)).not (by omega))) (by omega) (by simp) (by simp)) (by omega)).up (by omega)
  obtain ⟨e1, e2, e3, e4, e5, e6, e7, e8, rfl⟩ := stk_agg h1
  obtain ⟨g1, g2, g3, g4, g5, g6, g7, g8, rfl⟩ := stk_agg h2
  obtain ⟨pa, hpa⟩ : ∃ pa, pa = tstJ x fs s := ⟨_, rfl⟩
  obtain ⟨pb, hpb⟩ : ∃ pb, pb = tstJ x fs t := ⟨_, rfl⟩
  have HV1 : Hid (tstJ x fs s = pa) := hpa.symm
  have HV2 : Hid (tstJ x fs t = pb) := hpb.symm
  have HV3 : Hid (tstJ x fs (notT s) = !pa) := by unfold Hid; rw [tstJ_not, ← hpa]
  have HV4 : Hid (tstJ x fs (manyT 4 [s, t]) = (pa && pb)) := by unfold Hid; rw [tstJ_all2, ← hpa, ← hpb]
  have HV5 : Hid (tstJ x fs (notT (manyT 5 [notT s, notT t])) = (pa && pb)) := by unfold Hid; rw [tstJ_not, tstJ_any2, tstJ_not, tstJ_not, ← hpa, ← hpb]; cases pa <;> cases pb <;> rfl
  have hA1 := ba (Below.refl w.heap.size w) (.cells #[.string a0, .string a1, .string a2, .string b0, .string b1, .string b2, .slice G n c, .string bo] 26)
  have hA2 := ba (Below.refl _ (w.alloc (.cells #[.string a0, .string a1, .string a2, .string b0, .string b1, .string b2, .slice G n c, .string bo] 26))) (.cells #[.int .i64 e1, .int .i64 e2, .int .i64 e3, .string e4, .string e5, .slice e6 e7 e8] 29)
  have hA3 := ba (Below.refl _ ((w.alloc (.cells #[.string a0, .string a1, .string a2, .string b0, .string b1, .string b2, .slice G n c, .string bo] 26)).alloc (.cells #[.int .i64 e1, .int .i64 e2, .int .i64 e3, .string e4, .string e5, .slice e6 e7 e8] 29))) (.cells #[.int .i64 g1, .int .i64 g2, .int .i64 g3, .string g4, .string g5, .slice g6 g7 g8] 29)
  have HX1 := Lib.hid (((Has.alloc w [.string a0, .string a1, .string a2, .string b0, .string b1, .string b2, .slice G n c, .string bo] 26).down hA2).down hA3)
  have hX2 := (Has.alloc (w.alloc (.cells #[.string a0, .string a1, .string a2, .string b0, .string b1, .string b2, .slice G n c, .string bo] 26)) [.int .i64 e1, .int .i64 e2, .int .i64 e3, .string e4, .string e5, .slice e6 e7 e8] 29).down hA3
  have hX3 := Has.alloc ((w.alloc (.cells #[.string a0, .string a1, .string a2, .string b0, .string b1, .string b2, .slice G n c, .string bo] 26)).alloc (.cells #[.int .i64 e1, .int .i64 e2, .int .i64 e3, .string e4, .string e5, .slice e6 e7 e8] 29)) [.int .i64 g1, .int .i64 g2, .int .i64 g3, .string g4, .string g5, .slice g6 g7 g8] 29
  rw [World.size_alloc] at hX2
  rw [World.size_alloc, World.size_alloc] at hX3
  have HX2 := Lib.hid hX2; have HX3 := Lib.hid hX3
  have HA := Lib.hid (bt (bt hA1 hA2) hA3)
  clear hx hfs hs ht h h1 h2 hW hok fs1 ft1 hpa hpb hA1 hA2 hA3 hX2 hX3
  go_enter Tryz.func3, Tryz.ntmps3
  go_upto_region 1 with fail
  refine wp_here (R := fun W => Has W w.heap.size [.string a0, .string a1, .string a2, .string b0, .string b1, .string b2, .slice G n c, .string bo] ∧ Has W (w.heap.size + 1) [.int .i64 e1, .int .i64 e2, .int .i64 e3, .string e4, .string e5, .slice e6 e7 e8] ∧ Has W (w.heap.size + 1 + 1) [.int .i64 g1, .int .i64 g2, .int .i64 g3, .string g4, .string g5, .slice g6 g7 g8] ∧ Below w.heap.size w W) ⟨HX1.out, HX2.out, HX3.out, HA.out⟩ (fun W hW => ?_)
  obtain ⟨hP, hX, hY, hB⟩ := hW
  clear HX1 HX2 HX3 HA
  obtain ⟨p0, p1, p2, p3, p4, p5, p6, p7⟩ := Sc.has_oct' hP
  have HXX := Lib.hid hX; have HYY := Lib.hid hY; have HB := Lib.hid hB
  have HC := Lib.hid (HLT.out W hB)
  clear hP hX hY hB HLT
  go_wp2_with fail
  refine HC.out.mono ?_
  rintro e w1 ⟨rfl, hb1⟩
  clear HC p0 p1 p2 p3 p4 p5 p6 p7
  have hA := ba (Below.refl w1.heap.size w1) (.cells (lttC x).toArray 33)
  have hL := Has.alloc w1 (lttC x) 33
  have hW2 := bt hb1 hA
  obtain ⟨L, hLe⟩ : ∃ L, L = w1.heap.size := ⟨_, rfl⟩
  rw [← hLe] at hL
  have HLe := Lib.hid hLe
  have HL := Lib.hid hL
  have HC := Lib.hid (HT1.out _ (bt HB.out hW2))
  have HB2 := Lib.hid (bt HB.out hW2)
  have HY2 := Lib.hid (HYY.out.down hW2)
  obtain ⟨q0, q1, q2, q3, q4, q5⟩ := Sc.has_six (HXX.out.down hW2)
  clear hA hL hW2 hb1 HXX HYY hLe HT1
  unfold lttC at HL HC HB2 HY2 q0 q1 q2 q3 q4 q5 ⊢
  go_wp2_with fail
  rw [← HLe.out]
  refine HC.out.mono ?_
  rintro e w2 ⟨us, rfl, hus, hb2⟩
  have hA := ba (Below.refl w2.heap.size w2) (.cells us.toArray 39)
  have hH := Has.alloc w2 us 39
  have hW3 := bt hb2 hA
  obtain ⟨A, hAe⟩ : ∃ A, A = w2.heap.size := ⟨_, rfl⟩
  rw [← hAe] at hH
  have HAe := Lib.hid hAe
  have HU := Lib.hid (hus.down hA)
  have HH := Lib.hid hH
  have HL3 := Lib.hid (HL.out.down hW3)
  have HB3 := Lib.hid (bt HB2.out hW3)
  have HC2 := Lib.hid (HT2.out _ (bt HB2.out hW3))
  obtain ⟨r0, r1, r2, r3, r4, r5⟩ := Sc.has_six (HY2.out.down hW3)
  obtain ⟨ka, ma, pa', Ga1, na1, ca1, Ga2, na2, ca2, oa, la, Ga3, na3, ca3, rfl⟩ := Sc.oct_form hus
  clear hus hb2 hA hH hW3 hAe q0 q1 q2 q3 q4 q5
  go_wp2_with fail
  rw [← HAe.out]
  refine HC2.out.mono ?_
  rintro e w3 ⟨vs, rfl, hvs, hb3⟩
  have hA := ba (Below.refl w3.heap.size w3) (.cells vs.toArray 39)
  have hH := Has.alloc w3 vs 39
  have hW4 := bt hb3 hA
  obtain ⟨B, hBe⟩ : ∃ B, B = w3.heap.size := ⟨_, rfl⟩
  rw [← hBe] at hH
  have HBe := Lib.hid hBe
  have HST : Hid (AskSt w (w3.alloc (.cells vs.toArray 39)) L A B x s t [.int .i64 ka, .int .i64 ma, .int .i64 pa', .slice Ga1 na1 ca1, .slice Ga2 na2 ca2, .bool oa, .int .i64 la, .slice Ga3 na3 ca3] vs) :=
    ⟨HL3.out.down hW4, HH.out.down hW4, hH, HU.out.down hW4, hvs.down hA, bt HB3.out hW4⟩
  obtain ⟨kb, mb, pb', Gb1, nb1, cb1, Gb2, nb2, cb2, ob, lb, Gb3, nb3, cb3, rfl⟩ := Sc.oct_form hvs
  clear hvs hb3 hA hH hW4 hBe r0 r1 r2 r3 r4 r5 HC2 HL3 HH HU HB3 HB2 HY2 HL HC
  go_upto_region 5 with fail
  rw [← HBe.out]
  refine wp_here (R := fun W => AskSt w W L A B x s t [.int .i64 ka, .int .i64 ma, .int .i64 pa', .slice Ga1 na1 ca1, .slice Ga2 na2 ca2, .bool oa, .int .i64 la, .slice Ga3 na3 ca3] [.int .i64 kb, .int .i64 mb, .int .i64 pb', .slice Gb1 nb1 cb1, .slice Gb2 nb2 cb2, .bool ob, .int .i64 lb, .slice Gb3 nb3 cb3]) HST.out (fun W hS => ?_)
  clear HST HBe HAe HLe
  -- Ask of the first
  have HS := Lib.hid hS
  have HC := Lib.hid (HASK.out 4 s _ W hS.sa HF1.out hS.bel)
  obtain ⟨l0, l1, l2, l3, l4⟩ := ltt_get hS.l
  obtain ⟨u0, u1, u2, u3, u4, u5, u6, u7⟩ := Sc.has_oct' hS.a
  rw [HV1.out] at HC
  unfold lttC at HC
  clear hS
  go_wp2_with fail
  refine HC.out.mono ?_
  rintro e w5 ⟨rfl, hb5⟩
  have HS5 := Lib.hid (HS.out.down hb5)
  clear l0 l1 l2 l3 l4 u0 u1 u2 u3 u4 u5 u6 u7 hb5 HC HS
  go_upto_region 6 with fail
  have hdr := Below.drew (Below.refl w5.heap.size w5)
  have HSD := Lib.hid (HS5.out.down hdr)
  have HSR : Hid (∀ V, Below w5.drew.heap.size w5.drew V → V.cell? ⟨A, 0, none⟩ = some (.int .i64 ka) ∧ V.cell? ⟨A, 1, none⟩ = some (.int .i64 ma) ∧ V.cell? ⟨A, 2, none⟩ = some (.int .i64 pa') ∧ V.cell? ⟨A, 3, none⟩ = some (.slice Ga1 na1 ca1) ∧ V.cell? ⟨A, 4, none⟩ = some (.slice Ga2 na2 ca2) ∧ V.cell? ⟨A, 5, none⟩ = some (.bool oa) ∧ V.cell? ⟨A, 6, none⟩ = some (.int .i64 la) ∧ V.cell? ⟨A, 7, none⟩ = some (.slice Ga3 na3 ca3) ∧ V.cell? ⟨L, 0, none⟩ = some (.string ⟨x.fa.toArray⟩) ∧ V.cell? ⟨L, 1, none⟩ = some (.string ⟨x.fd.toArray⟩) ∧ V.cell? ⟨L, 2, none⟩ = some (.string ⟨x.ta.toArray⟩) ∧ V.cell? ⟨L, 3, none⟩ = some (.string ⟨x.td.toArray⟩) ∧ V.cell? ⟨L, 4, none⟩ = some (.string ⟨x.text.toArray⟩)) := fun V hV => by
    have h := HSD.out.down hV
    obtain ⟨u0, u1, u2, u3, u4, u5, u6, u7⟩ := Sc.has_oct' h.a
    obtain ⟨l0, l1, l2, l3, l4⟩ := ltt_get h.l
    exact ⟨u0, u1, u2, u3, u4, u5, u6, u7, l0, l1, l2, l3, l4⟩
  obtain ⟨gu0, gu1, gu2, gu3, gu4, gu5, gu6, gu7, gl0, gl1, gl2, gl3, gl4⟩ := HSR.out _ (Below.refl _ _)
  clear hdr HS5
  unfold lttC at HASK
  refine wp_region_noPanic ?_
  go_region_held3 (fun w' => w'.cell? ⟨A, 0, none⟩ = some (.int .i64 ka) ∧ w'.cell? ⟨A, 1, none⟩ = some (.int .i64 ma) ∧ w'.cell? ⟨A, 2, none⟩ = some (.int .i64 pa') ∧ w'.cell? ⟨A, 3, none⟩ = some (.slice Ga1 na1 ca1) ∧ w'.cell? ⟨A, 4, none⟩ = some (.slice Ga2 na2 ca2) ∧ w'.cell? ⟨A, 5, none⟩ = some (.bool oa) ∧ w'.cell? ⟨A, 6, none⟩ = some (.int .i64 la) ∧ w'.cell? ⟨A, 7, none⟩ = some (.slice Ga3 na3 ca3) ∧ w'.cell? ⟨L, 0, none⟩ = some (.string ⟨x.fa.toArray⟩) ∧ w'.cell? ⟨L, 1, none⟩ = some (.string ⟨x.fd.toArray⟩) ∧ w'.cell? ⟨L, 2, none⟩ = some (.string ⟨x.ta.toArray⟩) ∧ w'.cell? ⟨L, 3, none⟩ = some (.string ⟨x.td.toArray⟩) ∧ w'.cell? ⟨L, 4, none⟩ = some (.string ⟨x.text.toArray⟩)) (first | exact HSR.out _ (Below.refl _ _) | exact HSR.out _ hb6 | exact HSR.out _ (bt hb6 hb7)) (first
    | (go_at_call 13; refine (HNOT.out 4 s [.int .i64 ka, .int .i64 ma, .int .i64 pa', .slice Ga1 na1 ca1, .slice Ga2 na2 ca2, .bool oa, .int .i64 la, .slice Ga3 na3 ca3] _ HSD.out.sa).mono ?_; intro e w6 hp; obtain ⟨N6, rfl, hv6, hb6⟩ := hp; have HV6 := Lib.hid hv6; have HB6 := Lib.hid (bt HSD.out.bel hb6))
    | (go_at_call 14; refine (HASK.out 5 (notT s) [.int .i64 3, .int .i64 0, .int .i64 0, .slice none 0 0, .slice none 0 0, .bool false, .int .i64 0, .slice (some ⟨N6, 0, none⟩) 1 1] _ HV6.out HF3.out HB6.out).mono ?_; rw [HV3.out]; rintro e w7 ⟨rfl, hb7⟩; have HS7 := Lib.hid ((HSD.out.down hb6).down hb7)))
  all_goals
    refine NoPanic.normal ?_
    clear hb6 hb7 hv6 HSR HSD HV6 HB6 gu0  gu1  gu2  gu3  gu4  gu5  gu6  gu7  gl0  gl1  gl2  gl3  gl4
    -- both of them
    have HS := Lib.hid HS7.out
    clear HS7
    have hA := ba (Below.refl w7.heap.size w7) (.cells #[.int .i64 ka, .int .i64 ma, .int .i64 pa', .slice Ga1 na1 ca1, .slice Ga2 na2 ca2, .bool oa, .int .i64 la, .slice Ga3 na3 ca3, .int .i64 kb, .int .i64 mb, .int .i64 pb', .slice Gb1 nb1 cb1, .slice Gb2 nb2 cb2, .bool ob, .int .i64 lb, .slice Gb3 nb3 cb3] 39)
    have HA := Lib.hid hA
    have HSA := Lib.hid (HS.out.down hA)
    have HC := Lib.hid (HASK.out 5 (manyT 4 [s, t]) _ _ (tsts_two w7 4 4 s t [.int .i64 ka, .int .i64 ma, .int .i64 pa', .slice Ga1 na1 ca1, .slice Ga2 na2 ca2, .bool oa, .int .i64 la, .slice Ga3 na3 ca3] [.int .i64 kb, .int .i64 mb, .int .i64 pb', .slice Gb1 nb1 cb1, .slice Gb2 nb2 cb2, .bool ob, .int .i64 lb, .slice Gb3 nb3 cb3] HS.out.sa HS.out.tb) HF4.out HSA.out.bel)
    rw [HV4.out] at HC
    unfold nilS at HC
    simp only [List.cons_append, List.nil_append] at HC
    obtain ⟨u0, u1, u2, u3, u4, u5, u6, u7⟩ := Sc.has_oct' HS.out.a
    obtain ⟨v0, v1, v2, v3, v4, v5, v6, v7⟩ := Sc.has_oct' HS.out.b
    obtain ⟨l0, l1, l2, l3, l4⟩ := ltt_get HSA.out.l
    clear hA
    go_wp2_with fail
    refine HC.out.mono ?_
    rintro e w8 ⟨rfl, hb8⟩
    have HS8 := Lib.hid (HSA.out.down hb8)
    clear u0 u1 u2 u3 u4 u5 u6 u7 v0 v1 v2 v3 v4 v5 v6 v7 l0 l1 l2 l3 l4 hb8 HC HSA HA HS
    go_upto_region 8 with fail
    have hdr := Below.drew (Below.refl w8.heap.size w8)
    have HSD := Lib.hid (HS8.out.down hdr)
    have HSR : Hid (∀ V, Below w8.drew.heap.size w8.drew V → V.cell? ⟨A, 0, none⟩ = some (.int .i64 ka) ∧ V.cell? ⟨A, 1, none⟩ = some (.int .i64 ma) ∧ V.cell? ⟨A, 2, none⟩ = some (.int .i64 pa') ∧ V.cell? ⟨A, 3, none⟩ = some (.slice Ga1 na1 ca1) ∧ V.cell? ⟨A, 4, none⟩ = some (.slice Ga2 na2 ca2) ∧ V.cell? ⟨A, 5, none⟩ = some (.bool oa) ∧ V.cell? ⟨A, 6, none⟩ = some (.int .i64 la) ∧ V.cell? ⟨A, 7, none⟩ = some (.slice Ga3 na3 ca3) ∧ V.cell? ⟨B, 0, none⟩ = some (.int .i64 kb) ∧ V.cell? ⟨B, 1, none⟩ = some (.int .i64 mb) ∧ V.cell? ⟨B, 2, none⟩ = some (.int .i64 pb') ∧ V.cell? ⟨B, 3, none⟩ = some (.slice Gb1 nb1 cb1) ∧ V.cell? ⟨B, 4, none⟩ = some (.slice Gb2 nb2 cb2) ∧ V.cell? ⟨B, 5, none⟩ = some (.bool ob) ∧ V.cell? ⟨B, 6, none⟩ = some (.int .i64 lb) ∧ V.cell? ⟨B, 7, none⟩ = some (.slice Gb3 nb3 cb3) ∧ V.cell? ⟨L, 0, none⟩ = some (.string ⟨x.fa.toArray⟩) ∧ V.cell? ⟨L, 1, none⟩ = some (.string ⟨x.fd.toArray⟩) ∧ V.cell? ⟨L, 2, none⟩ = some (.string ⟨x.ta.toArray⟩) ∧ V.cell? ⟨L, 3, none⟩ = some (.string ⟨x.td.toArray⟩) ∧ V.cell? ⟨L, 4, none⟩ = some (.string ⟨x.text.toArray⟩)) := fun V hV => by
      have h := HSD.out.down hV
      obtain ⟨u0, u1, u2, u3, u4, u5, u6, u7⟩ := Sc.has_oct' h.a
      obtain ⟨v0, v1, v2, v3, v4, v5, v6, v7⟩ := Sc.has_oct' h.b
      obtain ⟨l0, l1, l2, l3, l4⟩ := ltt_get h.l
      exact ⟨u0, u1, u2, u3, u4, u5, u6, u7, v0, v1, v2, v3, v4, v5, v6, v7, l0, l1, l2, l3, l4⟩
    obtain ⟨hu0, hu1, hu2, hu3, hu4, hu5, hu6, hu7, hv0, hv1, hv2, hv3, hv4, hv5, hv6, hv7, hl0, hl1, hl2, hl3, hl4⟩ := HSR.out _ (Below.refl _ _)
    clear hdr HS8
    refine wp_region_noPanic ?_
    go_region_held3 (fun w' => w'.cell? ⟨A, 0, none⟩ = some (.int .i64 ka) ∧ w'.cell? ⟨A, 1, none⟩ = some (.int .i64 ma) ∧ w'.cell? ⟨A, 2, none⟩ = some (.int .i64 pa') ∧ w'.cell? ⟨A, 3, none⟩ = some (.slice Ga1 na1 ca1) ∧ w'.cell? ⟨A, 4, none⟩ = some (.slice Ga2 na2 ca2) ∧ w'.cell? ⟨A, 5, none⟩ = some (.bool oa) ∧ w'.cell? ⟨A, 6, none⟩ = some (.int .i64 la) ∧ w'.cell? ⟨A, 7, none⟩ = some (.slice Ga3 na3 ca3) ∧ w'.cell? ⟨B, 0, none⟩ = some (.int .i64 kb) ∧ w'.cell? ⟨B, 1, none⟩ = some (.int .i64 mb) ∧ w'.cell? ⟨B, 2, none⟩ = some (.int .i64 pb') ∧ w'.cell? ⟨B, 3, none⟩ = some (.slice Gb1 nb1 cb1) ∧ w'.cell? ⟨B, 4, none⟩ = some (.slice Gb2 nb2 cb2) ∧ w'.cell? ⟨B, 5, none⟩ = some (.bool ob) ∧ w'.cell? ⟨B, 6, none⟩ = some (.int .i64 lb) ∧ w'.cell? ⟨B, 7, none⟩ = some (.slice Gb3 nb3 cb3) ∧ w'.cell? ⟨L, 0, none⟩ = some (.string ⟨x.fa.toArray⟩) ∧ w'.cell? ⟨L, 1, none⟩ = some (.string ⟨x.fd.toArray⟩) ∧ w'.cell? ⟨L, 2, none⟩ = some (.string ⟨x.ta.toArray⟩) ∧ w'.cell? ⟨L, 3, none⟩ = some (.string ⟨x.td.toArray⟩) ∧ w'.cell? ⟨L, 4, none⟩ = some (.string ⟨x.text.toArray⟩)) (first | exact HSR.out _ (Below.refl _ _) | exact HSR.out _ HBX.out | exact HSR.out _ HBY.out | exact HSR.out _ (ba HBX.out _) | exact HSR.out _ (ba HBY.out _) | exact HSR.out _ HBZ.out | exact HSR.out _ HBE.out) (first
      | (go_at_call 13; refine (HNOT.out 4 s [.int .i64 ka, .int .i64 ma, .int .i64 pa', .slice Ga1 na1 ca1, .slice Ga2 na2 ca2, .bool oa, .int .i64 la, .slice Ga3 na3 ca3] _ (by first | exact HSD.out.sa | exact (HSD.out.down HBY.out).sa)).mono ?_; intro e wx hp; obtain ⟨NX, rfl, hvx, hbx⟩ := hp; have HVX := Lib.hid hvx; have HBX : Hid (Below w8.drew.heap.size w8.drew wx) := (by first | exact hbx | exact bt HBY.out hbx); try (have HVY2 := Lib.hid (HVY.out.down hbx)))
      | (go_at_call 13; refine (HNOT.out 4 t [.int .i64 kb, .int .i64 mb, .int .i64 pb', .slice Gb1 nb1 cb1, .slice Gb2 nb2 cb2, .bool ob, .int .i64 lb, .slice Gb3 nb3 cb3] _ (by first | exact HSD.out.tb | exact (HSD.out.down HBX.out).tb)).mono ?_; intro e wy hp; obtain ⟨NY, rfl, hvy, hby⟩ := hp; have HVY := Lib.hid hvy; have HBY : Hid (Below w8.drew.heap.size w8.drew wy) := (by first | exact hby | exact bt HBX.out hby); try (have HVX2 := Lib.hid (HVX.out.down hby)))
      | (go_at_call 13; refine (HNOT.out 6 (manyT 5 [notT s, notT t]) _ _ (by first | exact tsts_two _ 5 5 (notT s) (notT t) _ _ HVX2.out HVY.out | exact tsts_two _ 5 5 (notT s) (notT t) _ _ HVX.out HVY2.out)).mono ?_; intro e wz hp; obtain ⟨NZ, rfl, hvz, hbz⟩ := hp; have HVZ := Lib.hid hvz; have HBZ : Hid (Below w8.drew.heap.size w8.drew wz) := (by first | exact bt (ba HBY.out _) hbz | exact bt (ba HBX.out _) hbz))
      | (go_at_call 14; refine (HASK.out 7 (notT (manyT 5 [notT s, notT t])) [.int .i64 3, .int .i64 0, .int .i64 0, .slice none 0 0, .slice none 0 0, .bool false, .int .i64 0, .slice (some ⟨NZ, 0, none⟩) 1 1] _ HVZ.out HF5.out (bt HSD.out.bel HBZ.out)).mono ?_; rw [HV5.out]; rintro e w9 ⟨rfl, hb9⟩; have HBE := Lib.hid (bt HBZ.out hb9); have HS9 := Lib.hid (HSD.out.down HBE.out)))
    all_goals
      refine NoPanic.normal ?_
      have HS := Lib.hid HS9.out
      have HC := Lib.hid (HASK.out 4 t [.int .i64 kb, .int .i64 mb, .int .i64 pb', .slice Gb1 nb1 cb1, .slice Gb2 nb2 cb2, .bool ob, .int .i64 lb, .slice Gb3 nb3 cb3] w9 HS.out.tb HF2.out HS.out.bel)
      rw [HV2.out] at HC
      clear hu0  hu1  hu2  hu3  hu4  hu5  hu6  hu7  hv0  hv1  hv2  hv3  hv4  hv5  hv6  hv7  hl0  hl1  hl2  hl3  hl4 HSR HSD HS9 HBE HBZ HVZ hbz hvz hbx hby hvx hvy hb9
      obtain ⟨v0, v1, v2, v3, v4, v5, v6, v7⟩ := Sc.has_oct' HS.out.b
      obtain ⟨l0, l1, l2, l3, l4⟩ := ltt_get HS.out.l
      go_wp2_with fail
      refine HC.out.mono ?_
      rintro e w10 ⟨rfl, hb10⟩
      have HB10 := Lib.hid (bt HS.out.bel hb10)
      clear v0 v1 v2 v3 v4 v5 v6 v7 l0 l1 l2 l3 l4 hb10 HC HS
      cases pa <;> cases pb
      all_goals
        go_wp2_with fail
        go_ret
        exact ⟨rfl, HB10.out⟩
theorem askLogic_walk (a0 a1 a2 b0 b1 b2 : ByteArray) (G : Option Addr) (n c : Nat) (z : Nat → Nat → ByteArray) (bo : ByteArray) (xs : List Value) (k1 : Nat) (y1 : Stk) (ys : List Value) (k2 : Nat) (y2 : Stk) (mx : Int) (W : World) (h0 : a0.size ≤ maxLen) (h1 : a1.size ≤ maxLen) (_h2 : a2.size ≤ maxLen) (j0 : b0.size ≤ maxLen) (j1 : b1.size ≤ maxLen) (_j2 : b2.size ≤ maxLen) (hx : StrRows W G n 2 z ∧ n ≤ maxLen) (hbo : bo.size ≤ maxLen)
    (hy1 : (cStk k1).rep W (fun _ => True) y1 xs) (hy2 : (cStk k2).rep W (fun _ => True) y2 ys) (hT : Sc.Tabs W W.heap.size) (hE : Sc.ExtAt W ∧ 0 < W.heap.size) (hN : NamesAt W ∧ 2 < W.heap.size) (hmx : W.cell? ⟨3, 0, none⟩ = some (.int .i64 mx)) :
    Calls Tryz.prog 3 #[.agg #[.string a0, .string a1, .string a2, .string b0, .string b1, .string b2, .slice G n c, .string bo], .agg xs.toArray, .agg ys.toArray] W fun e w' => e = .returned (.bool true) ∧ Below W.heap.size W w' :=
  askLogic_any a0 a1 a2 b0 b1 b2 G n c z bo k1 k2 y1 y2 xs ys _ _ mx W ⟨h0, h1, j0, j1, hx, hbo⟩ hy1 hy2 ⟨hT, hE, hN, hmx⟩
end Go.Proofs.YtkbbepienmpibaaGreatDoor.Jd
