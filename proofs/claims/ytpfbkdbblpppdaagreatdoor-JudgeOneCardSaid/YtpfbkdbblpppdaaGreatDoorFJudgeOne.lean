/-
  DERIVED. Of: JudgeOne.
-/
import Derived.Test.YtpfbkdbblpppdaaGreatDoorFJdOneW
import Derived.Deep.DeepCutAuto
import Derived.Deep.RegionHeld3
set_option linter.unusedVariables false
set_option linter.unusedSimpArgs false
namespace Go.Proofs.YtpfbkdbblpppdaaGreatDoor.Jd
open Go.RowKit
open Sc (Str Tst Cmd cStr strC cTst cCmd RW Stk cStk CRow reqC reqV T0 strs)

theorem one_agg {n : Nat} {w : World} {F : Dom} {y : Stk} {vs : List Value} (h : (cStk n).rep w F y vs) : ∃ k a b s t G m c, vs = [.int .i64 k, .int .i64 a, .int .i64 b, .string s, .string t, .slice G m c] := by
  obtain ⟨_, G, c, -, rfl, -⟩ := Sc.stk_open h
  exact ⟨_, _, _, _, _, _, _, _, rfl⟩
set_option maxHeartbeats 8000000 in
set_option maxRecDepth 20000 in
theorem judgeOne_any (a0 a1 a2 b0 b1 b2 : ByteArray) (G : Option Addr) (n c : Nat) (z : Nat → Nat → ByteArray) (bo : ByteArray) (kt : Nat) (t : Stk) (xs : List Value) (Ft : Dom) (la lb : List Stk) (av bv : Value) (kv kw : Nat) (F : Dom) (m : Int) (w : World)
    (h : PostIn w a0 a1 a2 b0 b1 b2 G n c z bo) (ht : (cStk kt).rep w Ft t xs) (hav : SAt (cStk kv) w F av la) (hla : la.length ≤ 140737488351232) (hbv : SAt (cStk kw) w F bv lb) (hlb : lb.length ≤ 140737488351232) (hW : RW w m) :
    Calls Tryz.prog 4 #[.agg #[.string a0, .string a1, .string a2, .string b0, .string b1, .string b2, .slice G n c, .string bo], .agg xs.toArray, av, bv] w fun e w' => e = .returned (.bool true) ∧ Below w.heap.size w w' := by
  obtain ⟨x, hx⟩ : ∃ x, x = ltrX a0 a1 b0 b1 z n bo := ⟨_, rfl⟩
  have hok := ltrX_ok a0 a1 b0 b1 z n bo
  rw [← hx] at hok
  obtain ⟨fs, hfs⟩ : ∃ fs, fs = ltrFs z n := ⟨_, rfl⟩
  rw [← hfs] at hok
  have HLT : Hid (∀ V, Below w.heap.size w V → Calls Tryz.prog 14 #[.agg #[.string a0, .string a1, .string a2, .string b0, .string b1, .string b2, .slice G n c, .string bo]] V (LetterP x V)) := fun V hV => by
    rw [hx]
    exact letterX_any a0 a1 a2 b0 b1 b2 G n c z bo m V (h.down hV) (hW.down hV).max
  have HT1 : Hid (∀ V, Below w.heap.size w V → Calls Tryz.prog 16 #[.agg xs.toArray, .int .i64 1] V (TestV 6 (Sc.testS 2 t) V)) := fun V hV =>
    test_tv kt t xs Ft V 2 (by omega) ((cStk kt).stable ht (Same.of_below hV) hV.size)
  obtain ⟨na, hna⟩ : ∃ n, (Sc.cmdsS 0 la).length = n := ⟨_, rfl⟩
  obtain ⟨nb, hnb⟩ : ∃ n, (Sc.cmdsS 0 lb).length = n := ⟨_, rfl⟩
  have hl4 : ∀ l : List Stk, (Sc.cmdsS 0 l).length ≤ 4 := fun l => by unfold Sc.cmdsS; rw [List.length_map, List.length_take]; omega
  have HCA : Hid (∀ V, Below w.heap.size w V → Calls Tryz.prog 19 #[av, .int .i64 2] V (CmsE (Sc.cmdsS 0 la) na V)) := fun V hV => commands_e la av kv F V (hav.down hV) hla na hna
  have HCB : Hid (∀ V, Below w.heap.size w V → Calls Tryz.prog 19 #[bv, .int .i64 2] V (CmsE (Sc.cmdsS 0 lb) nb V)) := fun V hV => commands_e lb bv kw F V (hbv.down hV) hlb nb hnb
  obtain ⟨p, hp⟩ : ∃ p, p = tstJ x fs (Sc.testS 2 t) := ⟨_, rfl⟩
  have HASK : Hid (∀ us V, TV V 6 (Sc.testS 2 t) us → Below w.heap.size w V → Calls Tryz.prog 17 #[.agg us.toArray, .agg (lttC x).toArray] V (AskR p V)) := fun us V hu hV => by
    rw [hp]
    exact jask_tv 6 (Sc.tB 2) (Sc.testS 2 t) us x fs _ m V hu (testS_fine 2 1 t (by omega) (by omega)) (by decide) hok (hW.down hV)
  obtain ⟨C, hC⟩ : ∃ C, C = (cmdsJ x fs [reqC, oneC t la lb] C0).1 := ⟨_, rfl⟩
  have hsd : sideL x fs t la lb = if p = true then Sc.cmdsS 0 la else Sc.cmdsS 0 lb := by rw [hp]; rfl
  have HJ1 : Hid (∀ V u F', SAt (cCmd 15) V F' u [reqC, oneC t la lb] → Below w.heap.size w V → Calls Tryz.prog 20 #[u, .agg (lttC x).toArray] V (JudgeP C V)) := fun V u F' hu hV => by
    rw [hC]
    exact judge_list _ u F' x fs _ m V (fun d hd => by
      rcases List.mem_cons.1 hd with rfl | hd
      · exact req_ok
      · rw [List.mem_singleton] at hd; subst hd; exact one_cmd_ok t la lb (hl4 la) (hl4 lb)) (by show 2 ≤ 100; omega) (one_rule t la lb (hl4 la) (hl4 lb)) hu (hW.down hV) hok
  have HJ2' : Hid (∀ V u F' sd, (sd = if p = true then Sc.cmdsS 0 la else Sc.cmdsS 0 lb) → SAt (cCmd 15) V F' u (reqC :: sd) → Below w.heap.size w V → Calls Tryz.prog 20 #[u, .agg (lttC x).toArray] V (JudgeP C V)) := fun V u F' sd hs hu hV => by
    rw [hC, one_side, hsd, ← hs]
    have hs2 : ∃ l, sd = Sc.cmdsS 0 l := by rw [hs]; split; exact ⟨la, rfl⟩; exact ⟨lb, rfl⟩
    obtain ⟨l, rfl⟩ := hs2
    have := hl4 l
    refine judge_list _ u F' x fs _ m V (fun d hd => ?_) (by rw [List.length_cons]; omega) (side_rule l (hl4 l)) hu (hW.down hV) hok
    rcases List.mem_cons.1 hd with rfl | hd
    · exact req_ok
    · exact cmdsS_okk 0 (by omega) l d hd
  have HJ3 : Hid (∀ V G n c F', SAt (cCmd 15) V F' (.slice G n c) [Sc.fileA] → Below w.heap.size w V → Calls Tryz.prog 20 #[.slice G n c, .agg (lttC x).toArray] V (JudgeBad 8 V)) := fun V G n c F' hu hV =>
    judge_bad 8 G n c x V (by decide) fun V' hV' => by
      have := rule_ok [Sc.fileA] (.slice G n c) F' m V (one_okk fileA_ok) (by show 1 ≤ 100; omega) hu (hW.down hV) V' hV'
      rw [Sc.rule_file] at this
      exact this
  have hlenC : C.acts.length ≤ 6 := by rw [hC]; exact cmdsJ_len x fs _ C0 (by unfold C0; decide)
  have HSAME : Hid (∀ V F1 F2 u1 u2, SAt cAct V F1 u1 C.acts → SAt cAct V F2 u2 C.acts → Calls Tryz.prog 22 #[.agg #[u1, .int .i64 C.flags, .bool C.asked, .int .i64 C.fault], .agg #[u2, .int .i64 C.flags, .bool C.asked, .int .i64 C.fault]] V fun e w' => e = .returned (.bool true) ∧ Below V.heap.size V w') := fun V F1 F2 u1 u2 h1 h2 => sameCrs_any u1 u2 C F1 F2 V h1 h2 (by omega)
  obtain ⟨e1, e2, e3, e4, e5, e6, e7, e8, rfl⟩ := one_agg ht
  have hA1 := ba (Below.refl w.heap.size w) (.cells #[.string a0, .string a1, .string a2, .string b0, .string b1, .string b2, .slice G n c, .string bo] 26)
  have hA2 := ba (Below.refl _ (w.alloc (.cells #[.string a0, .string a1, .string a2, .string b0, .string b1, .string b2, .slice G n c, .string bo] 26))) (.cells #[.int .i64 e1, .int .i64 e2, .int .i64 e3, .string e4, .string e5, .slice e6 e7 e8] 29)
  have HX1 := Lib.hid ((Has.alloc w [.string a0, .string a1, .string a2, .string b0, .string b1, .string b2, .slice G n c, .string bo] 26).down hA2)
  have hX2 := Has.alloc (w.alloc (.cells #[.string a0, .string a1, .string a2, .string b0, .string b1, .string b2, .slice G n c, .string bo] 26)) [.int .i64 e1, .int .i64 e2, .int .i64 e3, .string e4, .string e5, .slice e6 e7 e8] 29
  rw [World.size_alloc] at hX2
  have HX2 := Lib.hid hX2
  have HA := Lib.hid (bt hA1 hA2)
  have HNA : Hid (na ≤ 4 ∧ nb ≤ 4) := ⟨hna ▸ hl4 la, hnb ▸ hl4 lb⟩
  have HLA : Hid ((Sc.cmdsS 0 la).length = na ∧ (Sc.cmdsS 0 lb).length = nb) := ⟨hna, hnb⟩
  obtain ⟨Ga, ca, rfl, -⟩ := hav.form
  obtain ⟨Gb, cb, rfl, -⟩ := hbv.form
  clear hx hfs h ht hav hbv hW hok hla hlb hp hC hsd hlenC hA1 hA2 hX2 hl4 hna hnb
  go_enter Tryz.func4, Tryz.ntmps4
  go_upto_region 1 with fail
  refine wp_here (R := fun W => Has W w.heap.size [.string a0, .string a1, .string a2, .string b0, .string b1, .string b2, .slice G n c, .string bo] ∧ Has W (w.heap.size + 1) [.int .i64 e1, .int .i64 e2, .int .i64 e3, .string e4, .string e5, .slice e6 e7 e8] ∧ Below w.heap.size w W) ⟨HX1.out, HX2.out, HA.out⟩ (fun W hW => ?_)
  obtain ⟨hP, hX, hB⟩ := hW
  clear HX1 HX2 HA
  obtain ⟨p0, p1, p2, p3, p4, p5, p6, p7⟩ := Sc.has_oct' hP
  have HXX := Lib.hid hX; have HB := Lib.hid hB
  have HC := Lib.hid (HLT.out W hB)
  clear hP hX hB HLT
  go_wp2_with fail
  refine HC.out.mono ?_
  rintro e w1 ⟨rfl, hb1⟩
  clear HC p0 p1 p2 p3 p4 p5 p6 p7
  have hA := ba (Below.refl w1.heap.size w1) (.cells (lttC x).toArray 33)
  have hL := Has.alloc w1 (lttC x) 33
  obtain ⟨L, hLe⟩ : ∃ L, L = w1.heap.size := ⟨_, rfl⟩
  obtain ⟨W2, hW2⟩ : ∃ W2, W2 = w1.alloc (.cells (lttC x).toArray 33) := ⟨_, rfl⟩
  rw [← hLe, ← hW2] at hL
  rw [← hW2] at hA
  have HL2 := Lib.hid hL
  have HB2 := Lib.hid (bt HB.out (bt hb1 hA))
  obtain ⟨q0, q1, q2, q3, q4, q5⟩ := Sc.has_six (HXX.out.down (bt hb1 hA))
  have HC := Lib.hid (HT1.out W2 HB2.out)
  have HWe := Lib.hid hW2; have HLe := Lib.hid hLe
  unfold lttC at HWe HASK HJ1 HJ2' HJ3 ⊢
  clear hA hL hLe hW2 hb1 HXX HB HT1
  go_upto_region 2 with fail
  rw [← HWe.out, ← HLe.out]
  clear HWe HLe
  go_wp2_with fail
  refine HC.out.mono ?_
  rintro e w2 ⟨us, rfl, hus, hb2⟩
  obtain ⟨ka, ma, pa, Ga1, na1, ca1, Ga2, na2, ca2, oa, ll, Ga3, na3, ca3, rfl⟩ := Sc.oct_form hus
  have HTV := Lib.hid hus
  have HBt := Lib.hid (bt HB2.out hb2)
  have HLt := Lib.hid (HL2.out.down hb2)
  clear q0 q1 q2 q3 q4 q5 HC hus hb2 HB2 HL2
  have HC := Lib.hid (HCA.out w2 HBt.out)
  clear HCA
  go_wp2_with fail
  refine HC.out.mono ?_
  rintro e w3 ⟨Gh, ch, rfl, hsa, hea, hb3⟩
  have HBa := Lib.hid (bt HBt.out hb3)
  have HC2 := Lib.hid (HCB.out w3 HBa.out)
  have HTV3 := Lib.hid (HTV.out.down hb3)
  have HLa := Lib.hid (HLt.out.down hb3)
  have HSA := Lib.hid hsa; have HEA := Lib.hid hea
  clear HC HCB HBt HTV HLt hsa hea hb3
  go_wp2_with fail
  refine HC2.out.mono ?_
  rintro e w4 ⟨Ge, ce, rfl, hsb, heb, hb4⟩
  have hA := ba (Below.refl w4.heap.size w4) (.cells (List.toArray [.int .i64 2, .slice none 0 0, .int .i64 ka, .int .i64 ma, .int .i64 pa, .slice Ga1 na1 ca1, .slice Ga2 na2 ca2, .bool oa, .int .i64 ll, .slice Ga3 na3 ca3, .slice Gh na ch, .slice Ge nb ce]) 50)
  have hK := Has.alloc w4 [.int .i64 2, .slice none 0 0, .int .i64 ka, .int .i64 ma, .int .i64 pa, .slice Ga1 na1 ca1, .slice Ga2 na2 ca2, .bool oa, .int .i64 ll, .slice Ga3 na3 ca3, .slice Gh na ch, .slice Ge nb ce] 50
  obtain ⟨K, hKe⟩ : ∃ K, K = w4.heap.size := ⟨_, rfl⟩
  obtain ⟨W5, hW5⟩ : ∃ W, W = w4.alloc (.cells (List.toArray [.int .i64 2, .slice none 0 0, .int .i64 ka, .int .i64 ma, .int .i64 pa, .slice Ga1 na1 ca1, .slice Ga2 na2 ca2, .bool oa, .int .i64 ll, .slice Ga3 na3 ca3, .slice Gh na ch, .slice Ge nb ce]) 50) := ⟨_, rfl⟩
  rw [← hKe, ← hW5] at hK
  rw [← hW5] at hA
  have hb := bt hb4 hA
  have HK5 := Lib.hid hK
  have HB5 := Lib.hid (bt HBa.out hb)
  have HL5 := Lib.hid (HLa.out.down hb)
  have HTV5 := Lib.hid (HTV3.out.down hb)
  have HVA5 : Hid (SAt (cCmd 8) W5 (fun b => b < W5.heap.size) (.slice Gh na ch) (Sc.cmdsS 0 la)) := (HSA.out.down hb).mono fun b h => Nat.lt_of_lt_of_le h hb.size
  have HVB5 : Hid (SAt (cCmd 8) W5 (fun b => b < W5.heap.size) (.slice Ge nb ce) (Sc.cmdsS 0 lb)) := (hsb.down hA).mono fun b h => Nat.lt_of_lt_of_le h hA.size
  have HEB := Lib.hid heb
  have HWe := Lib.hid hW5; have HKe := Lib.hid hKe
  clear hA hK hKe hW5 hb hb4 hsb heb HC2 HBa HTV3 HLa HSA
  go_upto_region 3 with fail
  rw [← HWe.out, ← HKe.out]
  clear HWe HKe
  obtain ⟨c0, c1, c2, c3, c4, c5, c6, c7, c8, c9, c10, c11⟩ := Sc.has_twelve2 HK5.out
  obtain ⟨l0, l1, l2, l3, l4⟩ := ltt_get HL5.out
  have HC := Lib.hid (HASK.out [.int .i64 ka, .int .i64 ma, .int .i64 pa, .slice Ga1 na1 ca1, .slice Ga2 na2 ca2, .bool oa, .int .i64 ll, .slice Ga3 na3 ca3] W5 HTV5.out HB5.out)
  go_wp2_with fail
  refine HC.out.mono ?_
  rintro e W4 ⟨rfl, hb5⟩
  have HK4 := Lib.hid (HK5.out.down hb5)
  have HB4 := Lib.hid (bt HB5.out hb5)
  have HL4 := Lib.hid (HL5.out.down hb5)
  have HTV4 := Lib.hid (HTV5.out.down hb5)
  have HVA4 : Hid (SAt (cCmd 8) W4 (fun b => b < W4.heap.size) (.slice Gh na ch) (Sc.cmdsS 0 la)) := (HVA5.out.down hb5).mono fun b h => Nat.lt_of_lt_of_le h hb5.size
  have HVB4 : Hid (SAt (cCmd 8) W4 (fun b => b < W4.heap.size) (.slice Ge nb ce) (Sc.cmdsS 0 lb)) := (HVB5.out.down hb5).mono fun b h => Nat.lt_of_lt_of_le h hb5.size
  clear c0 c1 c2 c3 c4 c5 c6 c7 c8 c9 c10 c11 l0 l1 l2 l3 l4 HC HASK HK5 HB5 HL5 HTV5 HVA5 HVB5 hb5
  go_upto_region 4 with fail
  go_cut [14, 15] (fun vc ve wx => ∃ Kb, vc = .pointer (some ⟨Kb, 0, none⟩) ∧ ve = .int .i64 0 ∧ CrsAt wx Kb C ∧ Below W4.heap.size W4 wx)
  case first =>
    clear HJ2' HJ3 HSAME HEA HEB
    have hd := Below.drew (Below.refl W4.heap.size W4)
    refine wp_region_noPanic ?_
    refine wp_region_held_drew (S := fun wx => Below W4.heap.size W4 wx) (by kernel_rfl) hd (fun hHeld => ?_)
    refine heldTo (fun X => Below W4.heap.size W4 X) (fun X => Below W4.heap.size W4 X) hd (fun X h => h) (fun _ h => h) (fun V0 hR hHeld => ?_)
    clear hR
    refine wpAnyH_take (i := 1) (v := ?_) (by (simp only [List.getElem?_toArray, List.getElem?_cons_succ, List.getElem?_cons_zero]; rfl)) (by kernel_rfl) (by kernel_rfl) (by kernel_rfl) (fun _ _ _ h => h) (Or.inl ⟨by rfl, ?_⟩) (by assumption) ?_
    rotate_left 1
    · intro w' hSw; obtain ⟨c0, c1, c2, c3, c4, c5, c6, c7, c8, c9, c10, c11⟩ := Sc.has_twelve2 (HK4.out.down hSw); (go_simp) <;> with_reducible rfl
    try simp only [Act.put, List.setIfInBounds_toArray, List.set_cons_zero, List.set_cons_succ]
    refine wpAnyH_take (i := 3) (v := ?_) (by (simp only [List.getElem?_toArray, List.getElem?_cons_succ, List.getElem?_cons_zero]; rfl)) (by kernel_rfl) (by kernel_rfl) (by kernel_rfl) (fun _ _ _ h => h) (Or.inl ⟨by rfl, ?_⟩) (by assumption) ?_
    rotate_left 1
    · intro w' hSw; obtain ⟨l0, l1, l2, l3, l4⟩ := ltt_get (HL4.out.down hSw); (go_simp) <;> with_reducible rfl
    try simp only [Act.put, List.setIfInBounds_toArray, List.set_cons_zero, List.set_cons_succ]
    refine wpAnyH_ready (rs := [0, 8]) (by kernel_rfl) (by simp) ?_
    refine AllReadyH.cons (by (simp only [List.getElem?_toArray, List.getElem?_cons_zero]; rfl)) (fun K hK => ?_) ?_
    · go_simp
      go_at_call 21
      refine (Sc.requires_any _).mono ?_
      rintro e w6 ⟨N, rfl, hN6, -, hb6⟩
      unfold reqV
      try (go_wp2_with fail)
      have hHeld0 := hHeld
      refine hK.out _ _ ?_ (fun hHeld => ?_)
      · exact bt hHeld hb6
      clear hK K
      try simp only [Act.put, List.setIfInBounds_toArray, List.set_cons_zero, List.set_cons_succ]
      refine heldTo (fun V1 => (Below W4.heap.size W4 V1) ∧ (Has V1 N (strs reqC.texts))) (fun V1 => Below W4.heap.size W4 V1) ⟨hHeld, hN6⟩ (fun V1 h => h.1) (fun _ h => h) (fun V1 hR hHeld => ?_)
      clear hHeld0
      clear hb6 hN6
      obtain ⟨-, hN⟩ := hR
      refine wpAnyH_ready (rs := [2, 8]) (by kernel_rfl) (by simp) ?_
      refine AllReadyH.cons (by (simp only [List.getElem?_toArray, List.getElem?_cons_succ, List.getElem?_cons_zero]; rfl)) (fun K hK => ?_) ?_
      · go_simp
        have hHeld0 := hHeld
        refine hK.out _ _ ?_ (fun hHeld => ?_)
        · exact ba hHeld _
        clear hK K
        try simp only [Act.put, List.setIfInBounds_toArray, List.set_cons_zero, List.set_cons_succ]
        refine heldTo (fun V2 => (Below W4.heap.size W4 V2) ∧ (SAt (cCmd 15) V2 (fun _ => True) (.slice (some ⟨V1.heap.size, 0, none⟩) 2 2) [reqC, oneC t la lb])) (fun V2 => Below W4.heap.size W4 V2) ⟨hHeld, one_lit hN (HTV4.out.down hHeld0) ((HVA4.out.down hHeld0).mono fun b h => Nat.lt_of_lt_of_le h hHeld0.size) ((HVB4.out.down hHeld0).mono fun b h => Nat.lt_of_lt_of_le h hHeld0.size)⟩ (fun V2 h => h.1) (fun _ h => h) (fun V2 hR hHeld => ?_)
        clear hHeld0
        clear hN
        obtain ⟨-, hs⟩ := hR
        generalize V1.heap.size = K1 at hs ⊢
        refine wpAnyH_ready (rs := [4, 8]) (by kernel_rfl) (by simp) ?_
        refine AllReadyH.cons (by (simp only [List.getElem?_toArray, List.getElem?_cons_succ, List.getElem?_cons_zero]; rfl)) (fun K hK => ?_) ?_
        · go_simp
          go_at_call 20
          refine (HJ1.out _ _ _ hs (bt HB4.out hHeld)).mono ?_
          rintro e w7 ⟨u7, rfl, hr7, hb7⟩
          obtain ⟨G7, c7, rfl⟩ := Sc.row_slice hr7
          try (go_wp2_with fail)
          have hHeld0 := hHeld
          refine hK.out _ _ ?_ (fun hHeld => ?_)
          · exact bt hHeld hb7
          clear hK K
          try simp only [Act.put, List.setIfInBounds_toArray, List.set_cons_zero, List.set_cons_succ]
          refine heldTo (fun V3 => (Below W4.heap.size W4 V3) ∧ (World.ownsRow V3 W4.heap.size 65 3 (.slice G7 C.acts.length c7) C.acts.length (C.acts.flatMap actC))) (fun V3 => Below W4.heap.size W4 V3) ⟨hHeld, row_base hr7 hHeld0.size⟩ (fun V3 h => h.1) (fun _ h => h) (fun V3 hR hHeld => ?_)
          clear hHeld0
          clear hb7 hr7 hs
          obtain ⟨-, hr⟩ := hR
          refine wpAnyH_take (i := 5) (v := ?_) (by (simp only [List.getElem?_toArray, List.getElem?_cons_succ, List.getElem?_cons_zero]; rfl)) (by kernel_rfl) (by kernel_rfl) (by kernel_rfl) (fun _ _ _ h => h) (Or.inl ⟨by rfl, ?_⟩) (by assumption) ?_
          rotate_left 1
          · intro w' hSw; (go_simp) <;> with_reducible rfl
          try simp only [Act.put, List.setIfInBounds_toArray, List.set_cons_zero, List.set_cons_succ]
          refine wpAnyH_take (i := 6) (v := ?_) (by (simp only [List.getElem?_toArray, List.getElem?_cons_succ, List.getElem?_cons_zero]; rfl)) (by kernel_rfl) (by kernel_rfl) (by kernel_rfl) (fun _ _ _ h => h) (Or.inl ⟨by rfl, ?_⟩) (by assumption) ?_
          rotate_left 1
          · intro w' hSw; (go_simp) <;> with_reducible rfl
          try simp only [Act.put, List.setIfInBounds_toArray, List.set_cons_zero, List.set_cons_succ]
          refine wpAnyH_take (i := 7) (v := ?_) (by (simp only [List.getElem?_toArray, List.getElem?_cons_succ, List.getElem?_cons_zero]; rfl)) (by kernel_rfl) (by kernel_rfl) (by kernel_rfl) (fun _ _ _ h => h) (Or.inl ⟨by rfl, ?_⟩) (by assumption) ?_
          rotate_left 1
          · intro w' hSw; (go_simp) <;> with_reducible rfl
          try simp only [Act.put, List.setIfInBounds_toArray, List.set_cons_zero, List.set_cons_succ]
          refine wpAnyH_ready (rs := [8]) (by kernel_rfl) (by simp) ?_
          refine AllReadyH.cons (by (simp only [List.getElem?_toArray, List.getElem?_cons_succ, List.getElem?_cons_zero]; rfl)) (fun K hK => ?_) ?_
          · go_simp
            have hHeld0 := hHeld
            refine hK.out _ _ ?_ (fun hHeld => ?_)
            · exact ba hHeld _
            clear hK K
            try simp only [Act.put, List.setIfInBounds_toArray, List.set_cons_zero, List.set_cons_succ]
            have hKW : W4.heap.size ≤ V3.heap.size := hHeld0.size
            refine heldTo (fun V4 => (Below W4.heap.size W4 V4) ∧ (World.ownsRow V4 W4.heap.size 65 3 (.slice G7 C.acts.length c7) C.acts.length (C.acts.flatMap actC)) ∧ (Has V4 V3.heap.size [.slice none 0 0, .int .i64 0, .bool false, .int .i64 0]) ∧ ((Value.slice G7 C.acts.length c7).ownBlock ≠ some V3.heap.size)) (fun V4 => Below W4.heap.size W4 V4) ⟨hHeld, row_down hr (ba (Below.refl _ _) _), Has.alloc V3 _ _, fun e => by have := (World.ownsRow.lt hr _ e).2; omega⟩ (fun V4 h => h.1) (fun _ h => h) (fun V4 hR hHeld => ?_)
            clear hHeld0
            clear hr
            obtain ⟨-, hr, hC, hne⟩ := hR
            generalize V3.heap.size = Kb at hC hKW hne ⊢
            refine wpAnyH_ready (rs := [9]) (by kernel_rfl) (by simp) ?_
            refine AllReadyH.cons (by (simp only [List.getElem?_toArray, List.getElem?_cons_succ, List.getElem?_cons_zero]; rfl)) (fun K hK => ?_) ?_
            · obtain ⟨e0, e1, e2, e3⟩ := has_quad hC
              obtain ⟨f0, f1, f2, f3⟩ := has_quadf hC
              go_simp
              have hHeld0 := hHeld
              refine hK.out _ _ ?_ (fun hHeld => ?_)
              · exact put4_below hHeld hKW _ _ _ _
              clear hK K
              try simp only [Act.put, List.setIfInBounds_toArray, List.set_cons_zero, List.set_cons_succ]
              refine wpAnyH_take (i := 10) (v := ?_) (by (simp only [List.getElem?_toArray, List.getElem?_cons_succ, List.getElem?_cons_zero]; rfl)) (by kernel_rfl) (by kernel_rfl) (by kernel_rfl) (fun _ _ _ h => h) (Or.inl ⟨by rfl, ?_⟩) (by assumption) ?_
              rotate_left 1
              · intro w' hSw; (go_simp) <;> with_reducible rfl
              try simp only [Act.put, List.setIfInBounds_toArray, List.set_cons_zero, List.set_cons_succ]
              refine wpAnyH_done (by kernel_rfl) ?_ _
              refine NoPanic.normal ?_
              go_wp2_with fail
              go_meet
              case rel => exact ⟨Kb, rfl, rfl, crs_put hC hr hne, hHeld⟩
            exact AllReadyH.nil
          exact AllReadyH.nil
        refine AllReadyH.cons (by (simp only [List.getElem?_toArray, List.getElem?_cons_succ, List.getElem?_cons_zero]; rfl)) (fun K hK => ?_) ?_
        · go_simp
          have hHeld0 := hHeld
          refine hK.out _ _ ?_ (fun hHeld => ?_)
          · exact ba hHeld _
          clear hK K
          try simp only [Act.put, List.setIfInBounds_toArray, List.set_cons_zero, List.set_cons_succ]
          have hKW : W4.heap.size ≤ V2.heap.size := hHeld0.size
          refine heldTo (fun V3 => (Below W4.heap.size W4 V3) ∧ (SAt (cCmd 15) V3 (fun _ => True) (.slice (some ⟨K1, 0, none⟩) 2 2) [reqC, oneC t la lb]) ∧ (Has V3 V2.heap.size [.slice none 0 0, .int .i64 0, .bool false, .int .i64 0])) (fun V3 => Below W4.heap.size W4 V3) ⟨hHeld, hs.down (ba (Below.refl _ _) _), Has.alloc V2 _ _⟩ (fun V3 h => h.1) (fun _ h => h) (fun V3 hR hHeld => ?_)
          clear hHeld0
          clear hs
          obtain ⟨-, hs, hC⟩ := hR
          generalize V2.heap.size = Kb at hC hKW ⊢
          refine wpAnyH_ready (rs := [4]) (by kernel_rfl) (by simp) ?_
          refine AllReadyH.cons (by (simp only [List.getElem?_toArray, List.getElem?_cons_succ, List.getElem?_cons_zero]; rfl)) (fun K hK => ?_) ?_
          · go_simp
            go_at_call 20
            refine (HJ1.out _ _ _ hs (bt HB4.out hHeld)).mono ?_
            rintro e w7 ⟨u7, rfl, hr7, hb7⟩
            obtain ⟨G7, c7, rfl⟩ := Sc.row_slice hr7
            try (go_wp2_with fail)
            have hHeld0 := hHeld
            refine hK.out _ _ ?_ (fun hHeld => ?_)
            · exact bt hHeld hb7
            clear hK K
            try simp only [Act.put, List.setIfInBounds_toArray, List.set_cons_zero, List.set_cons_succ]
            refine heldTo (fun V4 => (Below W4.heap.size W4 V4) ∧ (World.ownsRow V4 W4.heap.size 65 3 (.slice G7 C.acts.length c7) C.acts.length (C.acts.flatMap actC)) ∧ (Has V4 Kb [.slice none 0 0, .int .i64 0, .bool false, .int .i64 0]) ∧ ((Value.slice G7 C.acts.length c7).ownBlock ≠ some Kb)) (fun V4 => Below W4.heap.size W4 V4) ⟨hHeld, row_base hr7 hHeld0.size, hC.down hb7, fun e => by have h1 := (World.ownsRow.lt hr7 _ e).1; have h2 := hC.2.2; omega⟩ (fun V4 h => h.1) (fun _ h => h) (fun V4 hR hHeld => ?_)
            clear hHeld0
            clear hb7 hr7 hC hs
            obtain ⟨-, hr, hC, hne⟩ := hR
            refine wpAnyH_take (i := 5) (v := ?_) (by (simp only [List.getElem?_toArray, List.getElem?_cons_succ, List.getElem?_cons_zero]; rfl)) (by kernel_rfl) (by kernel_rfl) (by kernel_rfl) (fun _ _ _ h => h) (Or.inl ⟨by rfl, ?_⟩) (by assumption) ?_
            rotate_left 1
            · intro w' hSw; (go_simp) <;> with_reducible rfl
            try simp only [Act.put, List.setIfInBounds_toArray, List.set_cons_zero, List.set_cons_succ]
            refine wpAnyH_take (i := 6) (v := ?_) (by (simp only [List.getElem?_toArray, List.getElem?_cons_succ, List.getElem?_cons_zero]; rfl)) (by kernel_rfl) (by kernel_rfl) (by kernel_rfl) (fun _ _ _ h => h) (Or.inl ⟨by rfl, ?_⟩) (by assumption) ?_
            rotate_left 1
            · intro w' hSw; (go_simp) <;> with_reducible rfl
            try simp only [Act.put, List.setIfInBounds_toArray, List.set_cons_zero, List.set_cons_succ]
            refine wpAnyH_take (i := 7) (v := ?_) (by (simp only [List.getElem?_toArray, List.getElem?_cons_succ, List.getElem?_cons_zero]; rfl)) (by kernel_rfl) (by kernel_rfl) (by kernel_rfl) (fun _ _ _ h => h) (Or.inl ⟨by rfl, ?_⟩) (by assumption) ?_
            rotate_left 1
            · intro w' hSw; (go_simp) <;> with_reducible rfl
            try simp only [Act.put, List.setIfInBounds_toArray, List.set_cons_zero, List.set_cons_succ]
            refine wpAnyH_ready (rs := [9]) (by kernel_rfl) (by simp) ?_
            refine AllReadyH.cons (by (simp only [List.getElem?_toArray, List.getElem?_cons_succ, List.getElem?_cons_zero]; rfl)) (fun K hK => ?_) ?_
            · obtain ⟨e0, e1, e2, e3⟩ := has_quad hC
              obtain ⟨f0, f1, f2, f3⟩ := has_quadf hC
              go_simp
              have hHeld0 := hHeld
              refine hK.out _ _ ?_ (fun hHeld => ?_)
              · exact put4_below hHeld hKW _ _ _ _
              clear hK K
              try simp only [Act.put, List.setIfInBounds_toArray, List.set_cons_zero, List.set_cons_succ]
              refine wpAnyH_take (i := 10) (v := ?_) (by (simp only [List.getElem?_toArray, List.getElem?_cons_succ, List.getElem?_cons_zero]; rfl)) (by kernel_rfl) (by kernel_rfl) (by kernel_rfl) (fun _ _ _ h => h) (Or.inl ⟨by rfl, ?_⟩) (by assumption) ?_
              rotate_left 1
              · intro w' hSw; (go_simp) <;> with_reducible rfl
              try simp only [Act.put, List.setIfInBounds_toArray, List.set_cons_zero, List.set_cons_succ]
              refine wpAnyH_done (by kernel_rfl) ?_ _
              refine NoPanic.normal ?_
              go_wp2_with fail
              go_meet
              case rel => exact ⟨Kb, rfl, rfl, crs_put hC hr hne, hHeld⟩
            exact AllReadyH.nil
          exact AllReadyH.nil
        exact AllReadyH.nil
      refine AllReadyH.cons (by (simp only [List.getElem?_toArray, List.getElem?_cons_succ, List.getElem?_cons_zero]; rfl)) (fun K hK => ?_) ?_
      · go_simp
        have hHeld0 := hHeld
        refine hK.out _ _ ?_ (fun hHeld => ?_)
        · exact ba hHeld _
        clear hK K
        try simp only [Act.put, List.setIfInBounds_toArray, List.set_cons_zero, List.set_cons_succ]
        have hKW : W4.heap.size ≤ V1.heap.size := hHeld0.size
        refine heldTo (fun V2 => (Below W4.heap.size W4 V2) ∧ (Has V2 N (strs reqC.texts)) ∧ (Has V2 V1.heap.size [.slice none 0 0, .int .i64 0, .bool false, .int .i64 0])) (fun V2 => Below W4.heap.size W4 V2) ⟨hHeld, hN.down (ba (Below.refl _ _) _), Has.alloc V1 _ _⟩ (fun V2 h => h.1) (fun _ h => h) (fun V2 hR hHeld => ?_)
        clear hHeld0
        clear hN
        obtain ⟨-, hN, hC⟩ := hR
        generalize V1.heap.size = Kb at hC hKW ⊢
        refine wpAnyH_ready (rs := [2]) (by kernel_rfl) (by simp) ?_
        refine AllReadyH.cons (by (simp only [List.getElem?_toArray, List.getElem?_cons_succ, List.getElem?_cons_zero]; rfl)) (fun K hK => ?_) ?_
        · go_simp
          have hHeld0 := hHeld
          refine hK.out _ _ ?_ (fun hHeld => ?_)
          · exact ba hHeld _
          clear hK K
          try simp only [Act.put, List.setIfInBounds_toArray, List.set_cons_zero, List.set_cons_succ]
          refine heldTo (fun V3 => (Below W4.heap.size W4 V3) ∧ (SAt (cCmd 15) V3 (fun _ => True) (.slice (some ⟨V2.heap.size, 0, none⟩) 2 2) [reqC, oneC t la lb]) ∧ (Has V3 Kb [.slice none 0 0, .int .i64 0, .bool false, .int .i64 0])) (fun V3 => Below W4.heap.size W4 V3) ⟨hHeld, one_lit hN (HTV4.out.down hHeld0) ((HVA4.out.down hHeld0).mono fun b h => Nat.lt_of_lt_of_le h hHeld0.size) ((HVB4.out.down hHeld0).mono fun b h => Nat.lt_of_lt_of_le h hHeld0.size), hC.down (ba (Below.refl _ _) _)⟩ (fun V3 h => h.1) (fun _ h => h) (fun V3 hR hHeld => ?_)
          clear hHeld0
          clear hC hN
          obtain ⟨-, hs, hC⟩ := hR
          generalize V2.heap.size = K1 at hs ⊢
          refine wpAnyH_ready (rs := [4]) (by kernel_rfl) (by simp) ?_
          refine AllReadyH.cons (by (simp only [List.getElem?_toArray, List.getElem?_cons_succ, List.getElem?_cons_zero]; rfl)) (fun K hK => ?_) ?_
          · go_simp
            go_at_call 20
            refine (HJ1.out _ _ _ hs (bt HB4.out hHeld)).mono ?_
            rintro e w7 ⟨u7, rfl, hr7, hb7⟩
            obtain ⟨G7, c7, rfl⟩ := Sc.row_slice hr7
            try (go_wp2_with fail)
            have hHeld0 := hHeld
            refine hK.out _ _ ?_ (fun hHeld => ?_)
            · exact bt hHeld hb7
            clear hK K
            try simp only [Act.put, List.setIfInBounds_toArray, List.set_cons_zero, List.set_cons_succ]
            refine heldTo (fun V4 => (Below W4.heap.size W4 V4) ∧ (World.ownsRow V4 W4.heap.size 65 3 (.slice G7 C.acts.length c7) C.acts.length (C.acts.flatMap actC)) ∧ (Has V4 Kb [.slice none 0 0, .int .i64 0, .bool false, .int .i64 0]) ∧ ((Value.slice G7 C.acts.length c7).ownBlock ≠ some Kb)) (fun V4 => Below W4.heap.size W4 V4) ⟨hHeld, row_base hr7 hHeld0.size, hC.down hb7, fun e => by have h1 := (World.ownsRow.lt hr7 _ e).1; have h2 := hC.2.2; omega⟩ (fun V4 h => h.1) (fun _ h => h) (fun V4 hR hHeld => ?_)
            clear hHeld0
            clear hb7 hr7 hC hs
            obtain ⟨-, hr, hC, hne⟩ := hR
            refine wpAnyH_take (i := 5) (v := ?_) (by (simp only [List.getElem?_toArray, List.getElem?_cons_succ, List.getElem?_cons_zero]; rfl)) (by kernel_rfl) (by kernel_rfl) (by kernel_rfl) (fun _ _ _ h => h) (Or.inl ⟨by rfl, ?_⟩) (by assumption) ?_
            rotate_left 1
            · intro w' hSw; (go_simp) <;> with_reducible rfl
            try simp only [Act.put, List.setIfInBounds_toArray, List.set_cons_zero, List.set_cons_succ]
            refine wpAnyH_take (i := 6) (v := ?_) (by (simp only [List.getElem?_toArray, List.getElem?_cons_succ, List.getElem?_cons_zero]; rfl)) (by kernel_rfl) (by kernel_rfl) (by kernel_rfl) (fun _ _ _ h => h) (Or.inl ⟨by rfl, ?_⟩) (by assumption) ?_
            rotate_left 1
            · intro w' hSw; (go_simp) <;> with_reducible rfl
            try simp only [Act.put, List.setIfInBounds_toArray, List.set_cons_zero, List.set_cons_succ]
            refine wpAnyH_take (i := 7) (v := ?_) (by (simp only [List.getElem?_toArray, List.getElem?_cons_succ, List.getElem?_cons_zero]; rfl)) (by kernel_rfl) (by kernel_rfl) (by kernel_rfl) (fun _ _ _ h => h) (Or.inl ⟨by rfl, ?_⟩) (by assumption) ?_
            rotate_left 1
            · intro w' hSw; (go_simp) <;> with_reducible rfl
            try simp only [Act.put, List.setIfInBounds_toArray, List.set_cons_zero, List.set_cons_succ]
            refine wpAnyH_ready (rs := [9]) (by kernel_rfl) (by simp) ?_
            refine AllReadyH.cons (by (simp only [List.getElem?_toArray, List.getElem?_cons_succ, List.getElem?_cons_zero]; rfl)) (fun K hK => ?_) ?_
            · obtain ⟨e0, e1, e2, e3⟩ := has_quad hC
              obtain ⟨f0, f1, f2, f3⟩ := has_quadf hC
              go_simp
              have hHeld0 := hHeld
              refine hK.out _ _ ?_ (fun hHeld => ?_)
              · exact put4_below hHeld hKW _ _ _ _
              clear hK K
              try simp only [Act.put, List.setIfInBounds_toArray, List.set_cons_zero, List.set_cons_succ]
              refine wpAnyH_take (i := 10) (v := ?_) (by (simp only [List.getElem?_toArray, List.getElem?_cons_succ, List.getElem?_cons_zero]; rfl)) (by kernel_rfl) (by kernel_rfl) (by kernel_rfl) (fun _ _ _ h => h) (Or.inl ⟨by rfl, ?_⟩) (by assumption) ?_
              rotate_left 1
              · intro w' hSw; (go_simp) <;> with_reducible rfl
              try simp only [Act.put, List.setIfInBounds_toArray, List.set_cons_zero, List.set_cons_succ]
              refine wpAnyH_done (by kernel_rfl) ?_ _
              refine NoPanic.normal ?_
              go_wp2_with fail
              go_meet
              case rel => exact ⟨Kb, rfl, rfl, crs_put hC hr hne, hHeld⟩
            exact AllReadyH.nil
          exact AllReadyH.nil
        exact AllReadyH.nil
      exact AllReadyH.nil
    refine AllReadyH.cons (by (simp only [List.getElem?_toArray, List.getElem?_cons_succ, List.getElem?_cons_zero]; rfl)) (fun K hK => ?_) ?_
    · go_simp
      have hHeld0 := hHeld
      refine hK.out _ _ ?_ (fun hHeld => ?_)
      · exact ba hHeld _
      clear hK K
      try simp only [Act.put, List.setIfInBounds_toArray, List.set_cons_zero, List.set_cons_succ]
      have hKW : W4.heap.size ≤ V0.heap.size := hHeld0.size
      refine heldTo (fun V1 => (Below W4.heap.size W4 V1) ∧ (Has V1 V0.heap.size [.slice none 0 0, .int .i64 0, .bool false, .int .i64 0])) (fun V1 => Below W4.heap.size W4 V1) ⟨hHeld, Has.alloc V0 _ _⟩ (fun V1 h => h.1) (fun _ h => h) (fun V1 hR hHeld => ?_)
      clear hHeld0
      obtain ⟨-, hC⟩ := hR
      generalize V0.heap.size = Kb at hC hKW ⊢
      refine wpAnyH_ready (rs := [0]) (by kernel_rfl) (by simp) ?_
      refine AllReadyH.cons (by (simp only [List.getElem?_toArray, List.getElem?_cons_zero]; rfl)) (fun K hK => ?_) ?_
      · go_simp
        go_at_call 21
        refine (Sc.requires_any _).mono ?_
        rintro e w6 ⟨N, rfl, hN6, -, hb6⟩
        unfold reqV
        try (go_wp2_with fail)
        have hHeld0 := hHeld
        refine hK.out _ _ ?_ (fun hHeld => ?_)
        · exact bt hHeld hb6
        clear hK K
        try simp only [Act.put, List.setIfInBounds_toArray, List.set_cons_zero, List.set_cons_succ]
        refine heldTo (fun V2 => (Below W4.heap.size W4 V2) ∧ (Has V2 N (strs reqC.texts)) ∧ (Has V2 Kb [.slice none 0 0, .int .i64 0, .bool false, .int .i64 0])) (fun V2 => Below W4.heap.size W4 V2) ⟨hHeld, hN6, hC.down hb6⟩ (fun V2 h => h.1) (fun _ h => h) (fun V2 hR hHeld => ?_)
        clear hHeld0
        clear hb6 hN6 hC
        obtain ⟨-, hN, hC⟩ := hR
        refine wpAnyH_ready (rs := [2]) (by kernel_rfl) (by simp) ?_
        refine AllReadyH.cons (by (simp only [List.getElem?_toArray, List.getElem?_cons_succ, List.getElem?_cons_zero]; rfl)) (fun K hK => ?_) ?_
        · go_simp
          have hHeld0 := hHeld
          refine hK.out _ _ ?_ (fun hHeld => ?_)
          · exact ba hHeld _
          clear hK K
          try simp only [Act.put, List.setIfInBounds_toArray, List.set_cons_zero, List.set_cons_succ]
          refine heldTo (fun V3 => (Below W4.heap.size W4 V3) ∧ (SAt (cCmd 15) V3 (fun _ => True) (.slice (some ⟨V2.heap.size, 0, none⟩) 2 2) [reqC, oneC t la lb]) ∧ (Has V3 Kb [.slice none 0 0, .int .i64 0, .bool false, .int .i64 0])) (fun V3 => Below W4.heap.size W4 V3) ⟨hHeld, one_lit hN (HTV4.out.down hHeld0) ((HVA4.out.down hHeld0).mono fun b h => Nat.lt_of_lt_of_le h hHeld0.size) ((HVB4.out.down hHeld0).mono fun b h => Nat.lt_of_lt_of_le h hHeld0.size), hC.down (ba (Below.refl _ _) _)⟩ (fun V3 h => h.1) (fun _ h => h) (fun V3 hR hHeld => ?_)
          clear hHeld0
          clear hC hN
          obtain ⟨-, hs, hC⟩ := hR
          generalize V2.heap.size = K1 at hs ⊢
          refine wpAnyH_ready (rs := [4]) (by kernel_rfl) (by simp) ?_
          refine AllReadyH.cons (by (simp only [List.getElem?_toArray, List.getElem?_cons_succ, List.getElem?_cons_zero]; rfl)) (fun K hK => ?_) ?_
          · go_simp
            go_at_call 20
            refine (HJ1.out _ _ _ hs (bt HB4.out hHeld)).mono ?_
            rintro e w7 ⟨u7, rfl, hr7, hb7⟩
            obtain ⟨G7, c7, rfl⟩ := Sc.row_slice hr7
            try (go_wp2_with fail)
            have hHeld0 := hHeld
            refine hK.out _ _ ?_ (fun hHeld => ?_)
            · exact bt hHeld hb7
            clear hK K
            try simp only [Act.put, List.setIfInBounds_toArray, List.set_cons_zero, List.set_cons_succ]
            refine heldTo (fun V4 => (Below W4.heap.size W4 V4) ∧ (World.ownsRow V4 W4.heap.size 65 3 (.slice G7 C.acts.length c7) C.acts.length (C.acts.flatMap actC)) ∧ (Has V4 Kb [.slice none 0 0, .int .i64 0, .bool false, .int .i64 0]) ∧ ((Value.slice G7 C.acts.length c7).ownBlock ≠ some Kb)) (fun V4 => Below W4.heap.size W4 V4) ⟨hHeld, row_base hr7 hHeld0.size, hC.down hb7, fun e => by have h1 := (World.ownsRow.lt hr7 _ e).1; have h2 := hC.2.2; omega⟩ (fun V4 h => h.1) (fun _ h => h) (fun V4 hR hHeld => ?_)
            clear hHeld0
            clear hb7 hr7 hC hs
            obtain ⟨-, hr, hC, hne⟩ := hR
            refine wpAnyH_take (i := 5) (v := ?_) (by (simp only [List.getElem?_toArray, List.getElem?_cons_succ, List.getElem?_cons_zero]; rfl)) (by kernel_rfl) (by kernel_rfl) (by kernel_rfl) (fun _ _ _ h => h) (Or.inl ⟨by rfl, ?_⟩) (by assumption) ?_
            rotate_left 1
            · intro w' hSw; (go_simp) <;> with_reducible rfl
            try simp only [Act.put, List.setIfInBounds_toArray, List.set_cons_zero, List.set_cons_succ]
            refine wpAnyH_take (i := 6) (v := ?_) (by (simp only [List.getElem?_toArray, List.getElem?_cons_succ, List.getElem?_cons_zero]; rfl)) (by kernel_rfl) (by kernel_rfl) (by kernel_rfl) (fun _ _ _ h => h) (Or.inl ⟨by rfl, ?_⟩) (by assumption) ?_
            rotate_left 1
            · intro w' hSw; (go_simp) <;> with_reducible rfl
            try simp only [Act.put, List.setIfInBounds_toArray, List.set_cons_zero, List.set_cons_succ]
            refine wpAnyH_take (i := 7) (v := ?_) (by (simp only [List.getElem?_toArray, List.getElem?_cons_succ, List.getElem?_cons_zero]; rfl)) (by kernel_rfl) (by kernel_rfl) (by kernel_rfl) (fun _ _ _ h => h) (Or.inl ⟨by rfl, ?_⟩) (by assumption) ?_
            rotate_left 1
            · intro w' hSw; (go_simp) <;> with_reducible rfl
            try simp only [Act.put, List.setIfInBounds_toArray, List.set_cons_zero, List.set_cons_succ]
            refine wpAnyH_ready (rs := [9]) (by kernel_rfl) (by simp) ?_
            refine AllReadyH.cons (by (simp only [List.getElem?_toArray, List.getElem?_cons_succ, List.getElem?_cons_zero]; rfl)) (fun K hK => ?_) ?_
            · obtain ⟨e0, e1, e2, e3⟩ := has_quad hC
              obtain ⟨f0, f1, f2, f3⟩ := has_quadf hC
              go_simp
              have hHeld0 := hHeld
              refine hK.out _ _ ?_ (fun hHeld => ?_)
              · exact put4_below hHeld hKW _ _ _ _
              clear hK K
              try simp only [Act.put, List.setIfInBounds_toArray, List.set_cons_zero, List.set_cons_succ]
              refine wpAnyH_take (i := 10) (v := ?_) (by (simp only [List.getElem?_toArray, List.getElem?_cons_succ, List.getElem?_cons_zero]; rfl)) (by kernel_rfl) (by kernel_rfl) (by kernel_rfl) (fun _ _ _ h => h) (Or.inl ⟨by rfl, ?_⟩) (by assumption) ?_
              rotate_left 1
              · intro w' hSw; (go_simp) <;> with_reducible rfl
              try simp only [Act.put, List.setIfInBounds_toArray, List.set_cons_zero, List.set_cons_succ]
              refine wpAnyH_done (by kernel_rfl) ?_ _
              refine NoPanic.normal ?_
              go_wp2_with fail
              go_meet
              case rel => exact ⟨Kb, rfl, rfl, crs_put hC hr hne, hHeld⟩
            exact AllReadyH.nil
          exact AllReadyH.nil
        exact AllReadyH.nil
      exact AllReadyH.nil
    exact AllReadyH.nil
  case rest =>
    obtain ⟨X1, rfl, rfl, hX1, hb6⟩ := hcut
    have HX1 := Lib.hid hX1
    have HK6 := Lib.hid (HK4.out.down hb6)
    have HB6 := Lib.hid (bt HB4.out hb6)
    have HL6 := Lib.hid (HL4.out.down hb6)
    have HVA6 : Hid (SAt (cCmd 8) wc (fun b => b < wc.heap.size) (.slice Gh na ch) (Sc.cmdsS 0 la)) := (HVA4.out.down hb6).mono fun b h => Nat.lt_of_lt_of_le h hb6.size
    have HVB6 : Hid (SAt (cCmd 8) wc (fun b => b < wc.heap.size) (.slice Ge nb ce) (Sc.cmdsS 0 lb)) := (HVB4.out.down hb6).mono fun b h => Nat.lt_of_lt_of_le h hb6.size
    obtain ⟨c0, c1, c2, c3, c4, c5, c6, c7, c8, c9, c10, c11⟩ := Sc.has_twelve2 HK6.out
    clear hX1 hb6 HJ1 HK4 HB4 HL4 HTV4 HVA4 HVB4
    go_upto_if 51 with fail
    go_cut [16] (fun vs wx => ∃ Gs ns cS sd, vs = .slice Gs ns cS ∧ (sd = if p = true then Sc.cmdsS 0 la else Sc.cmdsS 0 lb) ∧ sd.length = ns ∧ ns ≤ 4 ∧ (ns = 0 → Gs = none ∧ cS = 0) ∧ SAt (cCmd 8) wc (fun b => b < wc.heap.size) (.slice Gs ns cS) sd ∧ wc = wx)
    case first =>
      cases p with
      | true =>
        go_wp2_with fail
        go_meet
        case rel => exact ⟨_, _, _, Sc.cmdsS 0 la, rfl, rfl, HLA.out.1, HNA.out.1, HEA.out, HVA6.out, rfl⟩
      | false =>
        go_wp2_with fail
        go_meet
        case rel => exact ⟨_, _, _, Sc.cmdsS 0 lb, rfl, rfl, HLA.out.2, HNA.out.2, HEB.out, HVB6.out, rfl⟩
    case rest =>
      obtain ⟨Gs, ns, cS, sd, rfl, hsd, hsl, hn4, hne, hss, rfl⟩ := hcut
      have HJ2 : Hid (∀ V u F', SAt (cCmd 15) V F' u (reqC :: sd) → Below w.heap.size w V → Calls Tryz.prog 20 #[u, .agg [.string ⟨x.fa.toArray⟩, .string ⟨x.fd.toArray⟩, .string ⟨x.ta.toArray⟩, .string ⟨x.td.toArray⟩, .string ⟨x.text.toArray⟩].toArray] V (JudgeP C V)) := fun V u F' hu hV => HJ2'.out V u F' sd hsd hu hV
      obtain ⟨W8, hW8⟩ : ∃ W, W = wc := ⟨_, rfl⟩
      rw [← hW8] at HX1 HB6 HL6 hss ⊢
      have HB8 := HB6; have HL8 := HL6
      have HSL := Lib.hid hsl
      have HSD8 : Hid (SAt (cCmd 15) W8 (fun b => b < W8.heap.size) (.slice Gs ns cS) sd) := Sc.cmds_le (by omega) hss
      have HNE := Lib.hid hne
      clear hsd hsl hne hss hW8 HJ2' HK6 HB6 HL6 HVA6 HVB6 HLA HNA HEA HEB c0 c1 c2 c3 c4 c5 c6 c7 c8 c9 c10 c11
      go_upto_region 8 with fail
      go_cut [17, 18] (fun vc ve wx => ∃ Kb, vc = .pointer (some ⟨Kb, 0, none⟩) ∧ ve = .int .i64 0 ∧ CrsAt wx Kb C ∧ Below W8.heap.size W8 wx)
      case first =>
        clear HJ3 HSAME
        by_cases hns : 0 < ns
        · obtain ⟨gs, os, rfl⟩ := Sc.sat_block HSD8.out hns
          clear HNE
          have hd := Below.drew (Below.refl W8.heap.size W8)
          refine wp_region_noPanic ?_
          refine wp_region_held_drew (S := fun wx => Below W8.heap.size W8 wx) (by kernel_rfl) hd (fun hHeld => ?_)
          refine heldTo (fun X => Below W8.heap.size W8 X) (fun X => Below W8.heap.size W8 X) hd (fun X h => h) (fun _ h => h) (fun V0 hR hHeld => ?_)
          clear hR
          refine wpAnyH_take (i := 2) (v := ?_) (by (simp only [List.getElem?_toArray, List.getElem?_cons_succ, List.getElem?_cons_zero]; rfl)) (by kernel_rfl) (by kernel_rfl) (by kernel_rfl) (fun _ _ _ h => h) (Or.inl ⟨by rfl, ?_⟩) (by assumption) ?_
          rotate_left 1
          · intro w' hSw; (go_simp) <;> with_reducible rfl
          try simp only [Act.put, List.setIfInBounds_toArray, List.set_cons_zero, List.set_cons_succ]
          refine wpAnyH_take (i := 4) (v := ?_) (by (simp only [List.getElem?_toArray, List.getElem?_cons_succ, List.getElem?_cons_zero]; rfl)) (by kernel_rfl) (by kernel_rfl) (by kernel_rfl) (fun _ _ _ h => h) (Or.inl ⟨by rfl, ?_⟩) (by assumption) ?_
          rotate_left 1
          · intro w' hSw; obtain ⟨l0, l1, l2, l3, l4⟩ := ltt_get (HL8.out.down hSw); (go_simp) <;> with_reducible rfl
          try simp only [Act.put, List.setIfInBounds_toArray, List.set_cons_zero, List.set_cons_succ]
          refine wpAnyH_ready (rs := [0, 9]) (by kernel_rfl) (by simp) ?_
          refine AllReadyH.cons (by (simp only [List.getElem?_toArray, List.getElem?_cons_zero]; rfl)) (fun K hK => ?_) ?_
          · go_simp
            go_at_call 21
            refine (Sc.requires_any _).mono ?_
            rintro e w6 ⟨N, rfl, hN6, -, hb6⟩
            unfold reqV
            try (go_wp2_with fail)
            have hHeld0 := hHeld
            refine hK.out _ _ ?_ (fun hHeld => ?_)
            · exact bt hHeld hb6
            clear hK K
            try simp only [Act.put, List.setIfInBounds_toArray, List.set_cons_zero, List.set_cons_succ]
            refine heldTo (fun V1 => (Below W8.heap.size W8 V1) ∧ (Has V1 N (strs reqC.texts))) (fun V1 => Below W8.heap.size W8 V1) ⟨hHeld, hN6⟩ (fun V1 h => h.1) (fun _ h => h) (fun V1 hR hHeld => ?_)
            clear hHeld0
            clear hb6 hN6
            obtain ⟨-, hN⟩ := hR
            refine wpAnyH_ready (rs := [1, 9]) (by kernel_rfl) (by simp) ?_
            refine AllReadyH.cons (by (simp only [List.getElem?_toArray, List.getElem?_cons_succ, List.getElem?_cons_zero]; rfl)) (fun K hK => ?_) ?_
            · go_simp
              have hHeld0 := hHeld
              refine hK.out _ _ ?_ (fun hHeld => ?_)
              · exact ba hHeld _
              clear hK K
              try simp only [Act.put, List.setIfInBounds_toArray, List.set_cons_zero, List.set_cons_succ]
              refine heldTo (fun V2 => (Below W8.heap.size W8 V2) ∧ (CRow W8.heap.size V2 (.slice (some ⟨V1.heap.size, 0, none⟩) 1 1) 1 [reqC])) (fun V2 => Below W8.heap.size W8 V2) ⟨hHeld, req_lit hHeld0.size hN⟩ (fun V2 h => h.1) (fun _ h => h) (fun V2 hR hHeld => ?_)
              clear hHeld0
              clear hN
              obtain ⟨-, hr1⟩ := hR
              generalize V1.heap.size = K1 at hr1 ⊢
              refine wpAnyH_ready (rs := [3, 9]) (by kernel_rfl) (by simp) ?_
              refine AllReadyH.cons (by (simp only [List.getElem?_toArray, List.getElem?_cons_succ, List.getElem?_cons_zero]; rfl)) (fun K hK => ?_) ?_
              · refine Sc.step_cmds (by rfl) _ _ (by rfl) (by rfl) hr1 hHeld.size (by rfl) ((HSD8.out.down hHeld).mono fun b hb e => by have h1 := (hr1.low e).1; omega) hns (by omega) (rfl : 1 + ns = 1 + ns) (rfl : [reqC] ++ sd = reqC :: sd) (fun g2 cap2 w2' hr2' hf2 hg2 => ?_)
                have hHeld0 := hHeld
                refine hK.out _ _ ?_ (fun hHeld => ?_)
                · exact hf2 W8 hHeld (Nat.le_refl _)
                clear hK K
                try simp only [Act.put, List.setIfInBounds_toArray, List.set_cons_zero, List.set_cons_succ]
                refine heldTo (fun V3 => (Below W8.heap.size W8 V3) ∧ (CRow W8.heap.size V3 (.slice (some ⟨g2, 0, none⟩) (1 + ns) cap2) (1 + ns) (reqC :: sd))) (fun V3 => Below W8.heap.size W8 V3) ⟨hHeld, hr2'⟩ (fun V3 h => h.1) (fun _ h => h) (fun V3 hR hHeld => ?_)
                clear hHeld0
                clear hg2 hf2 hr2' hr1
                obtain ⟨-, hr2⟩ := hR
                refine wpAnyH_ready (rs := [5, 9]) (by kernel_rfl) (by simp) ?_
                refine AllReadyH.cons (by (simp only [List.getElem?_toArray, List.getElem?_cons_succ, List.getElem?_cons_zero]; rfl)) (fun K hK => ?_) ?_
                · go_simp
                  go_at_call 20
                  refine (HJ2.out _ _ _ hr2.sat (bt HB8.out hHeld)).mono ?_
                  rintro e w7 ⟨u7, rfl, hr7, hb7⟩
                  obtain ⟨G7, c7, rfl⟩ := Sc.row_slice hr7
                  try (go_wp2_with fail)
                  have hHeld0 := hHeld
                  refine hK.out _ _ ?_ (fun hHeld => ?_)
                  · exact bt hHeld hb7
                  clear hK K
                  try simp only [Act.put, List.setIfInBounds_toArray, List.set_cons_zero, List.set_cons_succ]
                  refine heldTo (fun V4 => (Below W8.heap.size W8 V4) ∧ (World.ownsRow V4 W8.heap.size 65 3 (.slice G7 C.acts.length c7) C.acts.length (C.acts.flatMap actC))) (fun V4 => Below W8.heap.size W8 V4) ⟨hHeld, row_base hr7 hHeld0.size⟩ (fun V4 h => h.1) (fun _ h => h) (fun V4 hR hHeld => ?_)
                  clear hHeld0
                  clear hb7 hr7 hr2
                  obtain ⟨-, hr⟩ := hR
                  refine wpAnyH_take (i := 6) (v := ?_) (by (simp only [List.getElem?_toArray, List.getElem?_cons_succ, List.getElem?_cons_zero]; rfl)) (by kernel_rfl) (by kernel_rfl) (by kernel_rfl) (fun _ _ _ h => h) (Or.inl ⟨by rfl, ?_⟩) (by assumption) ?_
                  rotate_left 1
                  · intro w' hSw; (go_simp) <;> with_reducible rfl
                  try simp only [Act.put, List.setIfInBounds_toArray, List.set_cons_zero, List.set_cons_succ]
                  refine wpAnyH_take (i := 7) (v := ?_) (by (simp only [List.getElem?_toArray, List.getElem?_cons_succ, List.getElem?_cons_zero]; rfl)) (by kernel_rfl) (by kernel_rfl) (by kernel_rfl) (fun _ _ _ h => h) (Or.inl ⟨by rfl, ?_⟩) (by assumption) ?_
                  rotate_left 1
                  · intro w' hSw; (go_simp) <;> with_reducible rfl
                  try simp only [Act.put, List.setIfInBounds_toArray, List.set_cons_zero, List.set_cons_succ]
                  refine wpAnyH_take (i := 8) (v := ?_) (by (simp only [List.getElem?_toArray, List.getElem?_cons_succ, List.getElem?_cons_zero]; rfl)) (by kernel_rfl) (by kernel_rfl) (by kernel_rfl) (fun _ _ _ h => h) (Or.inl ⟨by rfl, ?_⟩) (by assumption) ?_
                  rotate_left 1
                  · intro w' hSw; (go_simp) <;> with_reducible rfl
                  try simp only [Act.put, List.setIfInBounds_toArray, List.set_cons_zero, List.set_cons_succ]
                  refine wpAnyH_ready (rs := [9]) (by kernel_rfl) (by simp) ?_
                  refine AllReadyH.cons (by (simp only [List.getElem?_toArray, List.getElem?_cons_succ, List.getElem?_cons_zero]; rfl)) (fun K hK => ?_) ?_
                  · go_simp
                    have hHeld0 := hHeld
                    refine hK.out _ _ ?_ (fun hHeld => ?_)
                    · exact ba hHeld _
                    clear hK K
                    try simp only [Act.put, List.setIfInBounds_toArray, List.set_cons_zero, List.set_cons_succ]
                    have hKW : W8.heap.size ≤ V4.heap.size := hHeld0.size
                    refine heldTo (fun V5 => (Below W8.heap.size W8 V5) ∧ (World.ownsRow V5 W8.heap.size 65 3 (.slice G7 C.acts.length c7) C.acts.length (C.acts.flatMap actC)) ∧ (Has V5 V4.heap.size [.slice none 0 0, .int .i64 0, .bool false, .int .i64 0]) ∧ ((Value.slice G7 C.acts.length c7).ownBlock ≠ some V4.heap.size)) (fun V5 => Below W8.heap.size W8 V5) ⟨hHeld, row_down hr (ba (Below.refl _ _) _), Has.alloc V4 _ _, fun e => by have := (World.ownsRow.lt hr _ e).2; omega⟩ (fun V5 h => h.1) (fun _ h => h) (fun V5 hR hHeld => ?_)
                    clear hHeld0
                    clear hr
                    obtain ⟨-, hr, hC, hne⟩ := hR
                    generalize V4.heap.size = Kb at hC hKW hne ⊢
                    refine wpAnyH_ready (rs := [10]) (by kernel_rfl) (by simp) ?_
                    refine AllReadyH.cons (by (simp only [List.getElem?_toArray, List.getElem?_cons_succ, List.getElem?_cons_zero]; rfl)) (fun K hK => ?_) ?_
                    · obtain ⟨e0, e1, e2, e3⟩ := has_quad hC
                      obtain ⟨f0, f1, f2, f3⟩ := has_quadf hC
                      go_simp
                      have hHeld0 := hHeld
                      refine hK.out _ _ ?_ (fun hHeld => ?_)
                      · exact put4_below hHeld hKW _ _ _ _
                      clear hK K
                      try simp only [Act.put, List.setIfInBounds_toArray, List.set_cons_zero, List.set_cons_succ]
                      refine wpAnyH_take (i := 11) (v := ?_) (by (simp only [List.getElem?_toArray, List.getElem?_cons_succ, List.getElem?_cons_zero]; rfl)) (by kernel_rfl) (by kernel_rfl) (by kernel_rfl) (fun _ _ _ h => h) (Or.inl ⟨by rfl, ?_⟩) (by assumption) ?_
                      rotate_left 1
                      · intro w' hSw; (go_simp) <;> with_reducible rfl
                      try simp only [Act.put, List.setIfInBounds_toArray, List.set_cons_zero, List.set_cons_succ]
                      refine wpAnyH_done (by kernel_rfl) ?_ _
                      refine NoPanic.normal ?_
                      go_wp2_with fail
                      go_meet
                      case rel => exact ⟨Kb, rfl, rfl, crs_put hC hr hne, hHeld⟩
                    exact AllReadyH.nil
                  exact AllReadyH.nil
                refine AllReadyH.cons (by (simp only [List.getElem?_toArray, List.getElem?_cons_succ, List.getElem?_cons_zero]; rfl)) (fun K hK => ?_) ?_
                · go_simp
                  have hHeld0 := hHeld
                  refine hK.out _ _ ?_ (fun hHeld => ?_)
                  · exact ba hHeld _
                  clear hK K
                  try simp only [Act.put, List.setIfInBounds_toArray, List.set_cons_zero, List.set_cons_succ]
                  have hKW : W8.heap.size ≤ V3.heap.size := hHeld0.size
                  refine heldTo (fun V4 => (Below W8.heap.size W8 V4) ∧ (CRow W8.heap.size V4 (.slice (some ⟨g2, 0, none⟩) (1 + ns) cap2) (1 + ns) (reqC :: sd)) ∧ (Has V4 V3.heap.size [.slice none 0 0, .int .i64 0, .bool false, .int .i64 0])) (fun V4 => Below W8.heap.size W8 V4) ⟨hHeld, hr2.down (ba (Below.refl _ _) _), Has.alloc V3 _ _⟩ (fun V4 h => h.1) (fun _ h => h) (fun V4 hR hHeld => ?_)
                  clear hHeld0
                  clear hr2
                  obtain ⟨-, hr2, hC⟩ := hR
                  generalize V3.heap.size = Kb at hC hKW ⊢
                  refine wpAnyH_ready (rs := [5]) (by kernel_rfl) (by simp) ?_
                  refine AllReadyH.cons (by (simp only [List.getElem?_toArray, List.getElem?_cons_succ, List.getElem?_cons_zero]; rfl)) (fun K hK => ?_) ?_
                  · go_simp
                    go_at_call 20
                    refine (HJ2.out _ _ _ hr2.sat (bt HB8.out hHeld)).mono ?_
                    rintro e w7 ⟨u7, rfl, hr7, hb7⟩
                    obtain ⟨G7, c7, rfl⟩ := Sc.row_slice hr7
                    try (go_wp2_with fail)
                    have hHeld0 := hHeld
                    refine hK.out _ _ ?_ (fun hHeld => ?_)
                    · exact bt hHeld hb7
                    clear hK K
                    try simp only [Act.put, List.setIfInBounds_toArray, List.set_cons_zero, List.set_cons_succ]
                    refine heldTo (fun V5 => (Below W8.heap.size W8 V5) ∧ (World.ownsRow V5 W8.heap.size 65 3 (.slice G7 C.acts.length c7) C.acts.length (C.acts.flatMap actC)) ∧ (Has V5 Kb [.slice none 0 0, .int .i64 0, .bool false, .int .i64 0]) ∧ ((Value.slice G7 C.acts.length c7).ownBlock ≠ some Kb)) (fun V5 => Below W8.heap.size W8 V5) ⟨hHeld, row_base hr7 hHeld0.size, hC.down hb7, fun e => by have h1 := (World.ownsRow.lt hr7 _ e).1; have h2 := hC.2.2; omega⟩ (fun V5 h => h.1) (fun _ h => h) (fun V5 hR hHeld => ?_)
                    clear hHeld0
                    clear hb7 hr7 hC hr2
                    obtain ⟨-, hr, hC, hne⟩ := hR
                    refine wpAnyH_take (i := 6) (v := ?_) (by (simp only [List.getElem?_toArray, List.getElem?_cons_succ, List.getElem?_cons_zero]; rfl)) (by kernel_rfl) (by kernel_rfl) (by kernel_rfl) (fun _ _ _ h => h) (Or.inl ⟨by rfl, ?_⟩) (by assumption) ?_
                    rotate_left 1
                    · intro w' hSw; (go_simp) <;> with_reducible rfl
                    try simp only [Act.put, List.setIfInBounds_toArray, List.set_cons_zero, List.set_cons_succ]
                    refine wpAnyH_take (i := 7) (v := ?_) (by (simp only [List.getElem?_toArray, List.getElem?_cons_succ, List.getElem?_cons_zero]; rfl)) (by kernel_rfl) (by kernel_rfl) (by kernel_rfl) (fun _ _ _ h => h) (Or.inl ⟨by rfl, ?_⟩) (by assumption) ?_
                    rotate_left 1
                    · intro w' hSw; (go_simp) <;> with_reducible rfl
                    try simp only [Act.put, List.setIfInBounds_toArray, List.set_cons_zero, List.set_cons_succ]
                    refine wpAnyH_take (i := 8) (v := ?_) (by (simp only [List.getElem?_toArray, List.getElem?_cons_succ, List.getElem?_cons_zero]; rfl)) (by kernel_rfl) (by kernel_rfl) (by kernel_rfl) (fun _ _ _ h => h) (Or.inl ⟨by rfl, ?_⟩) (by assumption) ?_
                    rotate_left 1
                    · intro w' hSw; (go_simp) <;> with_reducible rfl
                    try simp only [Act.put, List.setIfInBounds_toArray, List.set_cons_zero, List.set_cons_succ]
                    refine wpAnyH_ready (rs := [10]) (by kernel_rfl) (by simp) ?_
                    refine AllReadyH.cons (by (simp only [List.getElem?_toArray, List.getElem?_cons_succ, List.getElem?_cons_zero]; rfl)) (fun K hK => ?_) ?_
                    · obtain ⟨e0, e1, e2, e3⟩ := has_quad hC
                      obtain ⟨f0, f1, f2, f3⟩ := has_quadf hC
                      go_simp
                      have hHeld0 := hHeld
                      refine hK.out _ _ ?_ (fun hHeld => ?_)
                      · exact put4_below hHeld hKW _ _ _ _
                      clear hK K
                      try simp only [Act.put, List.setIfInBounds_toArray, List.set_cons_zero, List.set_cons_succ]
                      refine wpAnyH_take (i := 11) (v := ?_) (by (simp only [List.getElem?_toArray, List.getElem?_cons_succ, List.getElem?_cons_zero]; rfl)) (by kernel_rfl) (by kernel_rfl) (by kernel_rfl) (fun _ _ _ h => h) (Or.inl ⟨by rfl, ?_⟩) (by assumption) ?_
                      rotate_left 1
                      · intro w' hSw; (go_simp) <;> with_reducible rfl
                      try simp only [Act.put, List.setIfInBounds_toArray, List.set_cons_zero, List.set_cons_succ]
                      refine wpAnyH_done (by kernel_rfl) ?_ _
                      refine NoPanic.normal ?_
                      go_wp2_with fail
                      go_meet
                      case rel => exact ⟨Kb, rfl, rfl, crs_put hC hr hne, hHeld⟩
                    exact AllReadyH.nil
                  exact AllReadyH.nil
                exact AllReadyH.nil
              refine AllReadyH.cons (by (simp only [List.getElem?_toArray, List.getElem?_cons_succ, List.getElem?_cons_zero]; rfl)) (fun K hK => ?_) ?_
              · go_simp
                have hHeld0 := hHeld
                refine hK.out _ _ ?_ (fun hHeld => ?_)
                · exact ba hHeld _
                clear hK K
                try simp only [Act.put, List.setIfInBounds_toArray, List.set_cons_zero, List.set_cons_succ]
                have hKW : W8.heap.size ≤ V2.heap.size := hHeld0.size
                refine heldTo (fun V3 => (Below W8.heap.size W8 V3) ∧ (CRow W8.heap.size V3 (.slice (some ⟨K1, 0, none⟩) 1 1) 1 [reqC]) ∧ (K1 ≠ V2.heap.size) ∧ (Has V3 V2.heap.size [.slice none 0 0, .int .i64 0, .bool false, .int .i64 0])) (fun V3 => Below W8.heap.size W8 V3) ⟨hHeld, hr1.down (ba (Below.refl _ _) _), by have h1 := (hr1.low rfl).2; dsimp only at h1; omega, Has.alloc V2 _ _⟩ (fun V3 h => h.1) (fun _ h => h) (fun V3 hR hHeld => ?_)
                clear hHeld0
                clear hr1
                obtain ⟨-, hr1, hne1, hC⟩ := hR
                generalize V2.heap.size = Kb at hC hKW hne1 ⊢
                refine wpAnyH_ready (rs := [3]) (by kernel_rfl) (by simp) ?_
                refine AllReadyH.cons (by (simp only [List.getElem?_toArray, List.getElem?_cons_succ, List.getElem?_cons_zero]; rfl)) (fun K hK => ?_) ?_
                · refine Sc.step_cmds (by rfl) _ _ (by rfl) (by rfl) hr1 hHeld.size (by rfl) ((HSD8.out.down hHeld).mono fun b hb e => by have h1 := (hr1.low e).1; omega) hns (by omega) (rfl : 1 + ns = 1 + ns) (rfl : [reqC] ++ sd = reqC :: sd) (fun g2 cap2 w2' hr2' hf2 hg2 => ?_)
                  have hHeld0 := hHeld
                  refine hK.out _ _ ?_ (fun hHeld => ?_)
                  · exact hf2 W8 hHeld (Nat.le_refl _)
                  clear hK K
                  try simp only [Act.put, List.setIfInBounds_toArray, List.set_cons_zero, List.set_cons_succ]
                  refine heldTo (fun V4 => (Below W8.heap.size W8 V4) ∧ (CRow W8.heap.size V4 (.slice (some ⟨g2, 0, none⟩) (1 + ns) cap2) (1 + ns) (reqC :: sd)) ∧ (Has V4 Kb [.slice none 0 0, .int .i64 0, .bool false, .int .i64 0])) (fun V4 => Below W8.heap.size W8 V4) ⟨hHeld, hr2', hC.kept hg2 (fun e => hne1 (Option.some.inj e).symm)⟩ (fun V4 h => h.1) (fun _ h => h) (fun V4 hR hHeld => ?_)
                  clear hHeld0
                  clear hg2 hf2 hr2' hC hne1 hr1
                  obtain ⟨-, hr2, hC⟩ := hR
                  refine wpAnyH_ready (rs := [5]) (by kernel_rfl) (by simp) ?_
                  refine AllReadyH.cons (by (simp only [List.getElem?_toArray, List.getElem?_cons_succ, List.getElem?_cons_zero]; rfl)) (fun K hK => ?_) ?_
                  · go_simp
                    go_at_call 20
                    refine (HJ2.out _ _ _ hr2.sat (bt HB8.out hHeld)).mono ?_
                    rintro e w7 ⟨u7, rfl, hr7, hb7⟩
                    obtain ⟨G7, c7, rfl⟩ := Sc.row_slice hr7
                    try (go_wp2_with fail)
                    have hHeld0 := hHeld
                    refine hK.out _ _ ?_ (fun hHeld => ?_)
                    · exact bt hHeld hb7
                    clear hK K
                    try simp only [Act.put, List.setIfInBounds_toArray, List.set_cons_zero, List.set_cons_succ]
                    refine heldTo (fun V5 => (Below W8.heap.size W8 V5) ∧ (World.ownsRow V5 W8.heap.size 65 3 (.slice G7 C.acts.length c7) C.acts.length (C.acts.flatMap actC)) ∧ (Has V5 Kb [.slice none 0 0, .int .i64 0, .bool false, .int .i64 0]) ∧ ((Value.slice G7 C.acts.length c7).ownBlock ≠ some Kb)) (fun V5 => Below W8.heap.size W8 V5) ⟨hHeld, row_base hr7 hHeld0.size, hC.down hb7, fun e => by have h1 := (World.ownsRow.lt hr7 _ e).1; have h2 := hC.2.2; omega⟩ (fun V5 h => h.1) (fun _ h => h) (fun V5 hR hHeld => ?_)
                    clear hHeld0
                    clear hb7 hr7 hC hr2
                    obtain ⟨-, hr, hC, hne⟩ := hR
                    refine wpAnyH_take (i := 6) (v := ?_) (by (simp only [List.getElem?_toArray, List.getElem?_cons_succ, List.getElem?_cons_zero]; rfl)) (by kernel_rfl) (by kernel_rfl) (by kernel_rfl) (fun _ _ _ h => h) (Or.inl ⟨by rfl, ?_⟩) (by assumption) ?_
                    rotate_left 1
                    · intro w' hSw; (go_simp) <;> with_reducible rfl
                    try simp only [Act.put, List.setIfInBounds_toArray, List.set_cons_zero, List.set_cons_succ]
                    refine wpAnyH_take (i := 7) (v := ?_) (by (simp only [List.getElem?_toArray, List.getElem?_cons_succ, List.getElem?_cons_zero]; rfl)) (by kernel_rfl) (by kernel_rfl) (by kernel_rfl) (fun _ _ _ h => h) (Or.inl ⟨by rfl, ?_⟩) (by assumption) ?_
                    rotate_left 1
                    · intro w' hSw; (go_simp) <;> with_reducible rfl
                    try simp only [Act.put, List.setIfInBounds_toArray, List.set_cons_zero, List.set_cons_succ]
                    refine wpAnyH_take (i := 8) (v := ?_) (by (simp only [List.getElem?_toArray, List.getElem?_cons_succ, List.getElem?_cons_zero]; rfl)) (by kernel_rfl) (by kernel_rfl) (by kernel_rfl) (fun _ _ _ h => h) (Or.inl ⟨by rfl, ?_⟩) (by assumption) ?_
                    rotate_left 1
                    · intro w' hSw; (go_simp) <;> with_reducible rfl
                    try simp only [Act.put, List.setIfInBounds_toArray, List.set_cons_zero, List.set_cons_succ]
                    refine wpAnyH_ready (rs := [10]) (by kernel_rfl) (by simp) ?_
                    refine AllReadyH.cons (by (simp only [List.getElem?_toArray, List.getElem?_cons_succ, List.getElem?_cons_zero]; rfl)) (fun K hK => ?_) ?_
                    · obtain ⟨e0, e1, e2, e3⟩ := has_quad hC
                      obtain ⟨f0, f1, f2, f3⟩ := has_quadf hC
                      go_simp
                      have hHeld0 := hHeld
                      refine hK.out _ _ ?_ (fun hHeld => ?_)
                      · exact put4_below hHeld hKW _ _ _ _
                      clear hK K
                      try simp only [Act.put, List.setIfInBounds_toArray, List.set_cons_zero, List.set_cons_succ]
                      refine wpAnyH_take (i := 11) (v := ?_) (by (simp only [List.getElem?_toArray, List.getElem?_cons_succ, List.getElem?_cons_zero]; rfl)) (by kernel_rfl) (by kernel_rfl) (by kernel_rfl) (fun _ _ _ h => h) (Or.inl ⟨by rfl, ?_⟩) (by assumption) ?_
                      rotate_left 1
                      · intro w' hSw; (go_simp) <;> with_reducible rfl
                      try simp only [Act.put, List.setIfInBounds_toArray, List.set_cons_zero, List.set_cons_succ]
                      refine wpAnyH_done (by kernel_rfl) ?_ _
                      refine NoPanic.normal ?_
                      go_wp2_with fail
                      go_meet
                      case rel => exact ⟨Kb, rfl, rfl, crs_put hC hr hne, hHeld⟩
                    exact AllReadyH.nil
                  exact AllReadyH.nil
                exact AllReadyH.nil
              exact AllReadyH.nil
            refine AllReadyH.cons (by (simp only [List.getElem?_toArray, List.getElem?_cons_succ, List.getElem?_cons_zero]; rfl)) (fun K hK => ?_) ?_
            · go_simp
              have hHeld0 := hHeld
              refine hK.out _ _ ?_ (fun hHeld => ?_)
              · exact ba hHeld _
              clear hK K
              try simp only [Act.put, List.setIfInBounds_toArray, List.set_cons_zero, List.set_cons_succ]
              have hKW : W8.heap.size ≤ V1.heap.size := hHeld0.size
              refine heldTo (fun V2 => (Below W8.heap.size W8 V2) ∧ (Has V2 N (strs reqC.texts)) ∧ (Has V2 V1.heap.size [.slice none 0 0, .int .i64 0, .bool false, .int .i64 0])) (fun V2 => Below W8.heap.size W8 V2) ⟨hHeld, hN.down (ba (Below.refl _ _) _), Has.alloc V1 _ _⟩ (fun V2 h => h.1) (fun _ h => h) (fun V2 hR hHeld => ?_)
              clear hHeld0
              clear hN
              obtain ⟨-, hN, hC⟩ := hR
              generalize V1.heap.size = Kb at hC hKW ⊢
              refine wpAnyH_ready (rs := [1]) (by kernel_rfl) (by simp) ?_
              refine AllReadyH.cons (by (simp only [List.getElem?_toArray, List.getElem?_cons_succ, List.getElem?_cons_zero]; rfl)) (fun K hK => ?_) ?_
              · go_simp
                have hHeld0 := hHeld
                refine hK.out _ _ ?_ (fun hHeld => ?_)
                · exact ba hHeld _
                clear hK K
                try simp only [Act.put, List.setIfInBounds_toArray, List.set_cons_zero, List.set_cons_succ]
                refine heldTo (fun V3 => (Below W8.heap.size W8 V3) ∧ (CRow W8.heap.size V3 (.slice (some ⟨V2.heap.size, 0, none⟩) 1 1) 1 [reqC]) ∧ (V2.heap.size ≠ Kb) ∧ (Has V3 Kb [.slice none 0 0, .int .i64 0, .bool false, .int .i64 0])) (fun V3 => Below W8.heap.size W8 V3) ⟨hHeld, req_lit hHeld0.size hN, by have := hC.2.2; omega, hC.down (ba (Below.refl _ _) _)⟩ (fun V3 h => h.1) (fun _ h => h) (fun V3 hR hHeld => ?_)
                clear hHeld0
                clear hC hN
                obtain ⟨-, hr1, hne1, hC⟩ := hR
                generalize V2.heap.size = K1 at hr1 hne1 ⊢
                refine wpAnyH_ready (rs := [3]) (by kernel_rfl) (by simp) ?_
                refine AllReadyH.cons (by (simp only [List.getElem?_toArray, List.getElem?_cons_succ, List.getElem?_cons_zero]; rfl)) (fun K hK => ?_) ?_
                · refine Sc.step_cmds (by rfl) _ _ (by rfl) (by rfl) hr1 hHeld.size (by rfl) ((HSD8.out.down hHeld).mono fun b hb e => by have h1 := (hr1.low e).1; omega) hns (by omega) (rfl : 1 + ns = 1 + ns) (rfl : [reqC] ++ sd = reqC :: sd) (fun g2 cap2 w2' hr2' hf2 hg2 => ?_)
                  have hHeld0 := hHeld
                  refine hK.out _ _ ?_ (fun hHeld => ?_)
                  · exact hf2 W8 hHeld (Nat.le_refl _)
                  clear hK K
                  try simp only [Act.put, List.setIfInBounds_toArray, List.set_cons_zero, List.set_cons_succ]
                  refine heldTo (fun V4 => (Below W8.heap.size W8 V4) ∧ (CRow W8.heap.size V4 (.slice (some ⟨g2, 0, none⟩) (1 + ns) cap2) (1 + ns) (reqC :: sd)) ∧ (Has V4 Kb [.slice none 0 0, .int .i64 0, .bool false, .int .i64 0])) (fun V4 => Below W8.heap.size W8 V4) ⟨hHeld, hr2', hC.kept hg2 (fun e => hne1 (Option.some.inj e).symm)⟩ (fun V4 h => h.1) (fun _ h => h) (fun V4 hR hHeld => ?_)
                  clear hHeld0
                  clear hg2 hf2 hr2' hC hne1 hr1
                  obtain ⟨-, hr2, hC⟩ := hR
                  refine wpAnyH_ready (rs := [5]) (by kernel_rfl) (by simp) ?_
                  refine AllReadyH.cons (by (simp only [List.getElem?_toArray, List.getElem?_cons_succ, List.getElem?_cons_zero]; rfl)) (fun K hK => ?_) ?_
                  · go_simp
                    go_at_call 20
                    refine (HJ2.out _ _ _ hr2.sat (bt HB8.out hHeld)).mono ?_
                    rintro e w7 ⟨u7, rfl, hr7, hb7⟩
                    obtain ⟨G7, c7, rfl⟩ := Sc.row_slice hr7
                    try (go_wp2_with fail)
                    have hHeld0 := hHeld
                    refine hK.out _ _ ?_ (fun hHeld => ?_)
                    · exact bt hHeld hb7
                    clear hK K
                    try simp only [Act.put, List.setIfInBounds_toArray, List.set_cons_zero, List.set_cons_succ]
                    refine heldTo (fun V5 => (Below W8.heap.size W8 V5) ∧ (World.ownsRow V5 W8.heap.size 65 3 (.slice G7 C.acts.length c7) C.acts.length (C.acts.flatMap actC)) ∧ (Has V5 Kb [.slice none 0 0, .int .i64 0, .bool false, .int .i64 0]) ∧ ((Value.slice G7 C.acts.length c7).ownBlock ≠ some Kb)) (fun V5 => Below W8.heap.size W8 V5) ⟨hHeld, row_base hr7 hHeld0.size, hC.down hb7, fun e => by have h1 := (World.ownsRow.lt hr7 _ e).1; have h2 := hC.2.2; omega⟩ (fun V5 h => h.1) (fun _ h => h) (fun V5 hR hHeld => ?_)
                    clear hHeld0
                    clear hb7 hr7 hC hr2
                    obtain ⟨-, hr, hC, hne⟩ := hR
                    refine wpAnyH_take (i := 6) (v := ?_) (by (simp only [List.getElem?_toArray, List.getElem?_cons_succ, List.getElem?_cons_zero]; rfl)) (by kernel_rfl) (by kernel_rfl) (by kernel_rfl) (fun _ _ _ h => h) (Or.inl ⟨by rfl, ?_⟩) (by assumption) ?_
                    rotate_left 1
                    · intro w' hSw; (go_simp) <;> with_reducible rfl
                    try simp only [Act.put, List.setIfInBounds_toArray, List.set_cons_zero, List.set_cons_succ]
                    refine wpAnyH_take (i := 7) (v := ?_) (by (simp only [List.getElem?_toArray, List.getElem?_cons_succ, List.getElem?_cons_zero]; rfl)) (by kernel_rfl) (by kernel_rfl) (by kernel_rfl) (fun _ _ _ h => h) (Or.inl ⟨by rfl, ?_⟩) (by assumption) ?_
                    rotate_left 1
                    · intro w' hSw; (go_simp) <;> with_reducible rfl
                    try simp only [Act.put, List.setIfInBounds_toArray, List.set_cons_zero, List.set_cons_succ]
                    refine wpAnyH_take (i := 8) (v := ?_) (by (simp only [List.getElem?_toArray, List.getElem?_cons_succ, List.getElem?_cons_zero]; rfl)) (by kernel_rfl) (by kernel_rfl) (by kernel_rfl) (fun _ _ _ h => h) (Or.inl ⟨by rfl, ?_⟩) (by assumption) ?_
                    rotate_left 1
                    · intro w' hSw; (go_simp) <;> with_reducible rfl
                    try simp only [Act.put, List.setIfInBounds_toArray, List.set_cons_zero, List.set_cons_succ]
                    refine wpAnyH_ready (rs := [10]) (by kernel_rfl) (by simp) ?_
                    refine AllReadyH.cons (by (simp only [List.getElem?_toArray, List.getElem?_cons_succ, List.getElem?_cons_zero]; rfl)) (fun K hK => ?_) ?_
                    · obtain ⟨e0, e1, e2, e3⟩ := has_quad hC
                      obtain ⟨f0, f1, f2, f3⟩ := has_quadf hC
                      go_simp
                      have hHeld0 := hHeld
                      refine hK.out _ _ ?_ (fun hHeld => ?_)
                      · exact put4_below hHeld hKW _ _ _ _
                      clear hK K
                      try simp only [Act.put, List.setIfInBounds_toArray, List.set_cons_zero, List.set_cons_succ]
                      refine wpAnyH_take (i := 11) (v := ?_) (by (simp only [List.getElem?_toArray, List.getElem?_cons_succ, List.getElem?_cons_zero]; rfl)) (by kernel_rfl) (by kernel_rfl) (by kernel_rfl) (fun _ _ _ h => h) (Or.inl ⟨by rfl, ?_⟩) (by assumption) ?_
                      rotate_left 1
                      · intro w' hSw; (go_simp) <;> with_reducible rfl
                      try simp only [Act.put, List.setIfInBounds_toArray, List.set_cons_zero, List.set_cons_succ]
                      refine wpAnyH_done (by kernel_rfl) ?_ _
                      refine NoPanic.normal ?_
                      go_wp2_with fail
                      go_meet
                      case rel => exact ⟨Kb, rfl, rfl, crs_put hC hr hne, hHeld⟩
                    exact AllReadyH.nil
                  exact AllReadyH.nil
                exact AllReadyH.nil
              exact AllReadyH.nil
            exact AllReadyH.nil
          refine AllReadyH.cons (by (simp only [List.getElem?_toArray, List.getElem?_cons_succ, List.getElem?_cons_zero]; rfl)) (fun K hK => ?_) ?_
          · go_simp
            have hHeld0 := hHeld
            refine hK.out _ _ ?_ (fun hHeld => ?_)
            · exact ba hHeld _
            clear hK K
            try simp only [Act.put, List.setIfInBounds_toArray, List.set_cons_zero, List.set_cons_succ]
            have hKW : W8.heap.size ≤ V0.heap.size := hHeld0.size
            refine heldTo (fun V1 => (Below W8.heap.size W8 V1) ∧ (Has V1 V0.heap.size [.slice none 0 0, .int .i64 0, .bool false, .int .i64 0])) (fun V1 => Below W8.heap.size W8 V1) ⟨hHeld, Has.alloc V0 _ _⟩ (fun V1 h => h.1) (fun _ h => h) (fun V1 hR hHeld => ?_)
            clear hHeld0
            obtain ⟨-, hC⟩ := hR
            generalize V0.heap.size = Kb at hC hKW ⊢
            refine wpAnyH_ready (rs := [0]) (by kernel_rfl) (by simp) ?_
            refine AllReadyH.cons (by (simp only [List.getElem?_toArray, List.getElem?_cons_zero]; rfl)) (fun K hK => ?_) ?_
            · go_simp
              go_at_call 21
              refine (Sc.requires_any _).mono ?_
              rintro e w6 ⟨N, rfl, hN6, -, hb6⟩
              unfold reqV
              try (go_wp2_with fail)
              have hHeld0 := hHeld
              refine hK.out _ _ ?_ (fun hHeld => ?_)
              · exact bt hHeld hb6
              clear hK K
              try simp only [Act.put, List.setIfInBounds_toArray, List.set_cons_zero, List.set_cons_succ]
              refine heldTo (fun V2 => (Below W8.heap.size W8 V2) ∧ (Has V2 N (strs reqC.texts)) ∧ (Has V2 Kb [.slice none 0 0, .int .i64 0, .bool false, .int .i64 0])) (fun V2 => Below W8.heap.size W8 V2) ⟨hHeld, hN6, hC.down hb6⟩ (fun V2 h => h.1) (fun _ h => h) (fun V2 hR hHeld => ?_)
              clear hHeld0
              clear hb6 hN6 hC
              obtain ⟨-, hN, hC⟩ := hR
              refine wpAnyH_ready (rs := [1]) (by kernel_rfl) (by simp) ?_
              refine AllReadyH.cons (by (simp only [List.getElem?_toArray, List.getElem?_cons_succ, List.getElem?_cons_zero]; rfl)) (fun K hK => ?_) ?_
              · go_simp
                have hHeld0 := hHeld
                refine hK.out _ _ ?_ (fun hHeld => ?_)
                · exact ba hHeld _
                clear hK K
                try simp only [Act.put, List.setIfInBounds_toArray, List.set_cons_zero, List.set_cons_succ]
                refine heldTo (fun V3 => (Below W8.heap.size W8 V3) ∧ (CRow W8.heap.size V3 (.slice (some ⟨V2.heap.size, 0, none⟩) 1 1) 1 [reqC]) ∧ (V2.heap.size ≠ Kb) ∧ (Has V3 Kb [.slice none 0 0, .int .i64 0, .bool false, .int .i64 0])) (fun V3 => Below W8.heap.size W8 V3) ⟨hHeld, req_lit hHeld0.size hN, by have := hC.2.2; omega, hC.down (ba (Below.refl _ _) _)⟩ (fun V3 h => h.1) (fun _ h => h) (fun V3 hR hHeld => ?_)
                clear hHeld0
                clear hC hN
                obtain ⟨-, hr1, hne1, hC⟩ := hR
                generalize V2.heap.size = K1 at hr1 hne1 ⊢
                refine wpAnyH_ready (rs := [3]) (by kernel_rfl) (by simp) ?_
                refine AllReadyH.cons (by (simp only [List.getElem?_toArray, List.getElem?_cons_succ, List.getElem?_cons_zero]; rfl)) (fun K hK => ?_) ?_
                · refine Sc.step_cmds (by rfl) _ _ (by rfl) (by rfl) hr1 hHeld.size (by rfl) ((HSD8.out.down hHeld).mono fun b hb e => by have h1 := (hr1.low e).1; omega) hns (by omega) (rfl : 1 + ns = 1 + ns) (rfl : [reqC] ++ sd = reqC :: sd) (fun g2 cap2 w2' hr2' hf2 hg2 => ?_)
                  have hHeld0 := hHeld
                  refine hK.out _ _ ?_ (fun hHeld => ?_)
                  · exact hf2 W8 hHeld (Nat.le_refl _)
                  clear hK K
                  try simp only [Act.put, List.setIfInBounds_toArray, List.set_cons_zero, List.set_cons_succ]
                  refine heldTo (fun V4 => (Below W8.heap.size W8 V4) ∧ (CRow W8.heap.size V4 (.slice (some ⟨g2, 0, none⟩) (1 + ns) cap2) (1 + ns) (reqC :: sd)) ∧ (Has V4 Kb [.slice none 0 0, .int .i64 0, .bool false, .int .i64 0])) (fun V4 => Below W8.heap.size W8 V4) ⟨hHeld, hr2', hC.kept hg2 (fun e => hne1 (Option.some.inj e).symm)⟩ (fun V4 h => h.1) (fun _ h => h) (fun V4 hR hHeld => ?_)
                  clear hHeld0
                  clear hg2 hf2 hr2' hC hne1 hr1
                  obtain ⟨-, hr2, hC⟩ := hR
                  refine wpAnyH_ready (rs := [5]) (by kernel_rfl) (by simp) ?_
                  refine AllReadyH.cons (by (simp only [List.getElem?_toArray, List.getElem?_cons_succ, List.getElem?_cons_zero]; rfl)) (fun K hK => ?_) ?_
                  · go_simp
                    go_at_call 20
                    refine (HJ2.out _ _ _ hr2.sat (bt HB8.out hHeld)).mono ?_
                    rintro e w7 ⟨u7, rfl, hr7, hb7⟩
                    obtain ⟨G7, c7, rfl⟩ := Sc.row_slice hr7
                    try (go_wp2_with fail)
                    have hHeld0 := hHeld
                    refine hK.out _ _ ?_ (fun hHeld => ?_)
                    · exact bt hHeld hb7
                    clear hK K
                    try simp only [Act.put, List.setIfInBounds_toArray, List.set_cons_zero, List.set_cons_succ]
                    refine heldTo (fun V5 => (Below W8.heap.size W8 V5) ∧ (World.ownsRow V5 W8.heap.size 65 3 (.slice G7 C.acts.length c7) C.acts.length (C.acts.flatMap actC)) ∧ (Has V5 Kb [.slice none 0 0, .int .i64 0, .bool false, .int .i64 0]) ∧ ((Value.slice G7 C.acts.length c7).ownBlock ≠ some Kb)) (fun V5 => Below W8.heap.size W8 V5) ⟨hHeld, row_base hr7 hHeld0.size, hC.down hb7, fun e => by have h1 := (World.ownsRow.lt hr7 _ e).1; have h2 := hC.2.2; omega⟩ (fun V5 h => h.1) (fun _ h => h) (fun V5 hR hHeld => ?_)
                    clear hHeld0
                    clear hb7 hr7 hC hr2
                    obtain ⟨-, hr, hC, hne⟩ := hR
                    refine wpAnyH_take (i := 6) (v := ?_) (by (simp only [List.getElem?_toArray, List.getElem?_cons_succ, List.getElem?_cons_zero]; rfl)) (by kernel_rfl) (by kernel_rfl) (by kernel_rfl) (fun _ _ _ h => h) (Or.inl ⟨by rfl, ?_⟩) (by assumption) ?_
                    rotate_left 1
                    · intro w' hSw; (go_simp) <;> with_reducible rfl
                    try simp only [Act.put, List.setIfInBounds_toArray, List.set_cons_zero, List.set_cons_succ]
                    refine wpAnyH_take (i := 7) (v := ?_) (by (simp only [List.getElem?_toArray, List.getElem?_cons_succ, List.getElem?_cons_zero]; rfl)) (by kernel_rfl) (by kernel_rfl) (by kernel_rfl) (fun _ _ _ h => h) (Or.inl ⟨by rfl, ?_⟩) (by assumption) ?_
                    rotate_left 1
                    · intro w' hSw; (go_simp) <;> with_reducible rfl
                    try simp only [Act.put, List.setIfInBounds_toArray, List.set_cons_zero, List.set_cons_succ]
                    refine wpAnyH_take (i := 8) (v := ?_) (by (simp only [List.getElem?_toArray, List.getElem?_cons_succ, List.getElem?_cons_zero]; rfl)) (by kernel_rfl) (by kernel_rfl) (by kernel_rfl) (fun _ _ _ h => h) (Or.inl ⟨by rfl, ?_⟩) (by assumption) ?_
                    rotate_left 1
                    · intro w' hSw; (go_simp) <;> with_reducible rfl
                    try simp only [Act.put, List.setIfInBounds_toArray, List.set_cons_zero, List.set_cons_succ]
                    refine wpAnyH_ready (rs := [10]) (by kernel_rfl) (by simp) ?_
                    refine AllReadyH.cons (by (simp only [List.getElem?_toArray, List.getElem?_cons_succ, List.getElem?_cons_zero]; rfl)) (fun K hK => ?_) ?_
                    · obtain ⟨e0, e1, e2, e3⟩ := has_quad hC
                      obtain ⟨f0, f1, f2, f3⟩ := has_quadf hC
                      go_simp
                      have hHeld0 := hHeld
                      refine hK.out _ _ ?_ (fun hHeld => ?_)
                      · exact put4_below hHeld hKW _ _ _ _
                      clear hK K
                      try simp only [Act.put, List.setIfInBounds_toArray, List.set_cons_zero, List.set_cons_succ]
                      refine wpAnyH_take (i := 11) (v := ?_) (by (simp only [List.getElem?_toArray, List.getElem?_cons_succ, List.getElem?_cons_zero]; rfl)) (by kernel_rfl) (by kernel_rfl) (by kernel_rfl) (fun _ _ _ h => h) (Or.inl ⟨by rfl, ?_⟩) (by assumption) ?_
                      rotate_left 1
                      · intro w' hSw; (go_simp) <;> with_reducible rfl
                      try simp only [Act.put, List.setIfInBounds_toArray, List.set_cons_zero, List.set_cons_succ]
                      refine wpAnyH_done (by kernel_rfl) ?_ _
                      refine NoPanic.normal ?_
                      go_wp2_with fail
                      go_meet
                      case rel => exact ⟨Kb, rfl, rfl, crs_put hC hr hne, hHeld⟩
                    exact AllReadyH.nil
                  exact AllReadyH.nil
                exact AllReadyH.nil
              exact AllReadyH.nil
            exact AllReadyH.nil
          exact AllReadyH.nil
        · obtain rfl : ns = 0 := by omega
          obtain ⟨rfl, rfl⟩ := HNE.out rfl
          obtain rfl : sd = [] := List.eq_nil_of_length_eq_zero HSL.out
          clear HNE HSL HSD8
          have hd := Below.drew (Below.refl W8.heap.size W8)
          refine wp_region_noPanic ?_
          refine wp_region_held_drew (S := fun wx => Below W8.heap.size W8 wx) (by kernel_rfl) hd (fun hHeld => ?_)
          refine heldTo (fun X => Below W8.heap.size W8 X) (fun X => Below W8.heap.size W8 X) hd (fun X h => h) (fun _ h => h) (fun V0 hR hHeld => ?_)
          clear hR
          refine wpAnyH_take (i := 2) (v := ?_) (by (simp only [List.getElem?_toArray, List.getElem?_cons_succ, List.getElem?_cons_zero]; rfl)) (by kernel_rfl) (by kernel_rfl) (by kernel_rfl) (fun _ _ _ h => h) (Or.inl ⟨by rfl, ?_⟩) (by assumption) ?_
          rotate_left 1
          · intro w' hSw; (go_simp) <;> with_reducible rfl
          try simp only [Act.put, List.setIfInBounds_toArray, List.set_cons_zero, List.set_cons_succ]
          refine wpAnyH_take (i := 4) (v := ?_) (by (simp only [List.getElem?_toArray, List.getElem?_cons_succ, List.getElem?_cons_zero]; rfl)) (by kernel_rfl) (by kernel_rfl) (by kernel_rfl) (fun _ _ _ h => h) (Or.inl ⟨by rfl, ?_⟩) (by assumption) ?_
          rotate_left 1
          · intro w' hSw; obtain ⟨l0, l1, l2, l3, l4⟩ := ltt_get (HL8.out.down hSw); (go_simp) <;> with_reducible rfl
          try simp only [Act.put, List.setIfInBounds_toArray, List.set_cons_zero, List.set_cons_succ]
          refine wpAnyH_ready (rs := [0, 9]) (by kernel_rfl) (by simp) ?_
          refine AllReadyH.cons (by (simp only [List.getElem?_toArray, List.getElem?_cons_zero]; rfl)) (fun K hK => ?_) ?_
          · go_simp
            go_at_call 21
            refine (Sc.requires_any _).mono ?_
            rintro e w6 ⟨N, rfl, hN6, -, hb6⟩
            unfold reqV
            try (go_wp2_with fail)
            have hHeld0 := hHeld
            refine hK.out _ _ ?_ (fun hHeld => ?_)
            · exact bt hHeld hb6
            clear hK K
            try simp only [Act.put, List.setIfInBounds_toArray, List.set_cons_zero, List.set_cons_succ]
            refine heldTo (fun V1 => (Below W8.heap.size W8 V1) ∧ (Has V1 N (strs reqC.texts))) (fun V1 => Below W8.heap.size W8 V1) ⟨hHeld, hN6⟩ (fun V1 h => h.1) (fun _ h => h) (fun V1 hR hHeld => ?_)
            clear hHeld0
            clear hb6 hN6
            obtain ⟨-, hN⟩ := hR
            refine wpAnyH_ready (rs := [1, 9]) (by kernel_rfl) (by simp) ?_
            refine AllReadyH.cons (by (simp only [List.getElem?_toArray, List.getElem?_cons_succ, List.getElem?_cons_zero]; rfl)) (fun K hK => ?_) ?_
            · go_simp
              have hHeld0 := hHeld
              refine hK.out _ _ ?_ (fun hHeld => ?_)
              · exact ba hHeld _
              clear hK K
              try simp only [Act.put, List.setIfInBounds_toArray, List.set_cons_zero, List.set_cons_succ]
              refine heldTo (fun V2 => (Below W8.heap.size W8 V2) ∧ (CRow W8.heap.size V2 (.slice (some ⟨V1.heap.size, 0, none⟩) 1 1) 1 [reqC])) (fun V2 => Below W8.heap.size W8 V2) ⟨hHeld, req_lit hHeld0.size hN⟩ (fun V2 h => h.1) (fun _ h => h) (fun V2 hR hHeld => ?_)
              clear hHeld0
              clear hN
              obtain ⟨-, hr1⟩ := hR
              generalize V1.heap.size = K1 at hr1 ⊢
              refine wpAnyH_ready (rs := [3, 9]) (by kernel_rfl) (by simp) ?_
              refine AllReadyH.cons (by (simp only [List.getElem?_toArray, List.getElem?_cons_succ, List.getElem?_cons_zero]; rfl)) (fun K hK => ?_) ?_
              · go_simp
                have hHeld0 := hHeld
                refine hK.out _ _ ?_ (fun hHeld => ?_)
                · exact hHeld
                clear hK K
                try simp only [Act.put, List.setIfInBounds_toArray, List.set_cons_zero, List.set_cons_succ]
                refine heldTo (fun V3 => (Below W8.heap.size W8 V3) ∧ (CRow W8.heap.size V3 (.slice (some ⟨K1, 0, none⟩) 1 1) 1 [reqC])) (fun V3 => Below W8.heap.size W8 V3) ⟨hHeld, hr1⟩ (fun V3 h => h.1) (fun _ h => h) (fun V3 hR hHeld => ?_)
                clear hHeld0
                clear hr1
                obtain ⟨-, hr2⟩ := hR
                refine wpAnyH_ready (rs := [5, 9]) (by kernel_rfl) (by simp) ?_
                refine AllReadyH.cons (by (simp only [List.getElem?_toArray, List.getElem?_cons_succ, List.getElem?_cons_zero]; rfl)) (fun K hK => ?_) ?_
                · go_simp
                  go_at_call 20
                  refine (HJ2.out _ _ _ hr2.sat (bt HB8.out hHeld)).mono ?_
                  rintro e w7 ⟨u7, rfl, hr7, hb7⟩
                  obtain ⟨G7, c7, rfl⟩ := Sc.row_slice hr7
                  try (go_wp2_with fail)
                  have hHeld0 := hHeld
                  refine hK.out _ _ ?_ (fun hHeld => ?_)
                  · exact bt hHeld hb7
                  clear hK K
                  try simp only [Act.put, List.setIfInBounds_toArray, List.set_cons_zero, List.set_cons_succ]
                  refine heldTo (fun V4 => (Below W8.heap.size W8 V4) ∧ (World.ownsRow V4 W8.heap.size 65 3 (.slice G7 C.acts.length c7) C.acts.length (C.acts.flatMap actC))) (fun V4 => Below W8.heap.size W8 V4) ⟨hHeld, row_base hr7 hHeld0.size⟩ (fun V4 h => h.1) (fun _ h => h) (fun V4 hR hHeld => ?_)
                  clear hHeld0
                  clear hb7 hr7 hr2
                  obtain ⟨-, hr⟩ := hR
                  refine wpAnyH_take (i := 6) (v := ?_) (by (simp only [List.getElem?_toArray, List.getElem?_cons_succ, List.getElem?_cons_zero]; rfl)) (by kernel_rfl) (by kernel_rfl) (by kernel_rfl) (fun _ _ _ h => h) (Or.inl ⟨by rfl, ?_⟩) (by assumption) ?_
                  rotate_left 1
                  · intro w' hSw; (go_simp) <;> with_reducible rfl
                  try simp only [Act.put, List.setIfInBounds_toArray, List.set_cons_zero, List.set_cons_succ]
                  refine wpAnyH_take (i := 7) (v := ?_) (by (simp only [List.getElem?_toArray, List.getElem?_cons_succ, List.getElem?_cons_zero]; rfl)) (by kernel_rfl) (by kernel_rfl) (by kernel_rfl) (fun _ _ _ h => h) (Or.inl ⟨by rfl, ?_⟩) (by assumption) ?_
                  rotate_left 1
                  · intro w' hSw; (go_simp) <;> with_reducible rfl
                  try simp only [Act.put, List.setIfInBounds_toArray, List.set_cons_zero, List.set_cons_succ]
                  refine wpAnyH_take (i := 8) (v := ?_) (by (simp only [List.getElem?_toArray, List.getElem?_cons_succ, List.getElem?_cons_zero]; rfl)) (by kernel_rfl) (by kernel_rfl) (by kernel_rfl) (fun _ _ _ h => h) (Or.inl ⟨by rfl, ?_⟩) (by assumption) ?_
                  rotate_left 1
                  · intro w' hSw; (go_simp) <;> with_reducible rfl
                  try simp only [Act.put, List.setIfInBounds_toArray, List.set_cons_zero, List.set_cons_succ]
                  refine wpAnyH_ready (rs := [9]) (by kernel_rfl) (by simp) ?_
                  refine AllReadyH.cons (by (simp only [List.getElem?_toArray, List.getElem?_cons_succ, List.getElem?_cons_zero]; rfl)) (fun K hK => ?_) ?_
                  · go_simp
                    have hHeld0 := hHeld
                    refine hK.out _ _ ?_ (fun hHeld => ?_)
                    · exact ba hHeld _
                    clear hK K
                    try simp only [Act.put, List.setIfInBounds_toArray, List.set_cons_zero, List.set_cons_succ]
                    have hKW : W8.heap.size ≤ V4.heap.size := hHeld0.size
                    refine heldTo (fun V5 => (Below W8.heap.size W8 V5) ∧ (World.ownsRow V5 W8.heap.size 65 3 (.slice G7 C.acts.length c7) C.acts.length (C.acts.flatMap actC)) ∧ (Has V5 V4.heap.size [.slice none 0 0, .int .i64 0, .bool false, .int .i64 0]) ∧ ((Value.slice G7 C.acts.length c7).ownBlock ≠ some V4.heap.size)) (fun V5 => Below W8.heap.size W8 V5) ⟨hHeld, row_down hr (ba (Below.refl _ _) _), Has.alloc V4 _ _, fun e => by have := (World.ownsRow.lt hr _ e).2; omega⟩ (fun V5 h => h.1) (fun _ h => h) (fun V5 hR hHeld => ?_)
                    clear hHeld0
                    clear hr
                    obtain ⟨-, hr, hC, hne⟩ := hR
                    generalize V4.heap.size = Kb at hC hKW hne ⊢
                    refine wpAnyH_ready (rs := [10]) (by kernel_rfl) (by simp) ?_
                    refine AllReadyH.cons (by (simp only [List.getElem?_toArray, List.getElem?_cons_succ, List.getElem?_cons_zero]; rfl)) (fun K hK => ?_) ?_
                    · obtain ⟨e0, e1, e2, e3⟩ := has_quad hC
                      obtain ⟨f0, f1, f2, f3⟩ := has_quadf hC
                      go_simp
                      have hHeld0 := hHeld
                      refine hK.out _ _ ?_ (fun hHeld => ?_)
                      · exact put4_below hHeld hKW _ _ _ _
                      clear hK K
                      try simp only [Act.put, List.setIfInBounds_toArray, List.set_cons_zero, List.set_cons_succ]
                      refine wpAnyH_take (i := 11) (v := ?_) (by (simp only [List.getElem?_toArray, List.getElem?_cons_succ, List.getElem?_cons_zero]; rfl)) (by kernel_rfl) (by kernel_rfl) (by kernel_rfl) (fun _ _ _ h => h) (Or.inl ⟨by rfl, ?_⟩) (by assumption) ?_
                      rotate_left 1
                      · intro w' hSw; (go_simp) <;> with_reducible rfl
                      try simp only [Act.put, List.setIfInBounds_toArray, List.set_cons_zero, List.set_cons_succ]
                      refine wpAnyH_done (by kernel_rfl) ?_ _
                      refine NoPanic.normal ?_
                      go_wp2_with fail
                      go_meet
                      case rel => exact ⟨Kb, rfl, rfl, crs_put hC hr hne, hHeld⟩
                    exact AllReadyH.nil
                  exact AllReadyH.nil
                refine AllReadyH.cons (by (simp only [List.getElem?_toArray, List.getElem?_cons_succ, List.getElem?_cons_zero]; rfl)) (fun K hK => ?_) ?_
                · go_simp
                  have hHeld0 := hHeld
                  refine hK.out _ _ ?_ (fun hHeld => ?_)
                  · exact ba hHeld _
                  clear hK K
                  try simp only [Act.put, List.setIfInBounds_toArray, List.set_cons_zero, List.set_cons_succ]
                  have hKW : W8.heap.size ≤ V3.heap.size := hHeld0.size
                  refine heldTo (fun V4 => (Below W8.heap.size W8 V4) ∧ (CRow W8.heap.size V4 (.slice (some ⟨K1, 0, none⟩) 1 1) 1 [reqC]) ∧ (Has V4 V3.heap.size [.slice none 0 0, .int .i64 0, .bool false, .int .i64 0])) (fun V4 => Below W8.heap.size W8 V4) ⟨hHeld, hr2.down (ba (Below.refl _ _) _), Has.alloc V3 _ _⟩ (fun V4 h => h.1) (fun _ h => h) (fun V4 hR hHeld => ?_)
                  clear hHeld0
                  clear hr2
                  obtain ⟨-, hr2, hC⟩ := hR
                  generalize V3.heap.size = Kb at hC hKW ⊢
                  refine wpAnyH_ready (rs := [5]) (by kernel_rfl) (by simp) ?_
                  refine AllReadyH.cons (by (simp only [List.getElem?_toArray, List.getElem?_cons_succ, List.getElem?_cons_zero]; rfl)) (fun K hK => ?_) ?_
                  · go_simp
                    go_at_call 20
                    refine (HJ2.out _ _ _ hr2.sat (bt HB8.out hHeld)).mono ?_
                    rintro e w7 ⟨u7, rfl, hr7, hb7⟩
                    obtain ⟨G7, c7, rfl⟩ := Sc.row_slice hr7
                    try (go_wp2_with fail)
                    have hHeld0 := hHeld
                    refine hK.out _ _ ?_ (fun hHeld => ?_)
                    · exact bt hHeld hb7
                    clear hK K
                    try simp only [Act.put, List.setIfInBounds_toArray, List.set_cons_zero, List.set_cons_succ]
                    refine heldTo (fun V5 => (Below W8.heap.size W8 V5) ∧ (World.ownsRow V5 W8.heap.size 65 3 (.slice G7 C.acts.length c7) C.acts.length (C.acts.flatMap actC)) ∧ (Has V5 Kb [.slice none 0 0, .int .i64 0, .bool false, .int .i64 0]) ∧ ((Value.slice G7 C.acts.length c7).ownBlock ≠ some Kb)) (fun V5 => Below W8.heap.size W8 V5) ⟨hHeld, row_base hr7 hHeld0.size, hC.down hb7, fun e => by have h1 := (World.ownsRow.lt hr7 _ e).1; have h2 := hC.2.2; omega⟩ (fun V5 h => h.1) (fun _ h => h) (fun V5 hR hHeld => ?_)
                    clear hHeld0
                    clear hb7 hr7 hC hr2
                    obtain ⟨-, hr, hC, hne⟩ := hR
                    refine wpAnyH_take (i := 6) (v := ?_) (by (simp only [List.getElem?_toArray, List.getElem?_cons_succ, List.getElem?_cons_zero]; rfl)) (by kernel_rfl) (by kernel_rfl) (by kernel_rfl) (fun _ _ _ h => h) (Or.inl ⟨by rfl, ?_⟩) (by assumption) ?_
                    rotate_left 1
                    · intro w' hSw; (go_simp) <;> with_reducible rfl
                    try simp only [Act.put, List.setIfInBounds_toArray, List.set_cons_zero, List.set_cons_succ]
                    refine wpAnyH_take (i := 7) (v := ?_) (by (simp only [List.getElem?_toArray, List.getElem?_cons_succ, List.getElem?_cons_zero]; rfl)) (by kernel_rfl) (by kernel_rfl) (by kernel_rfl) (fun _ _ _ h => h) (Or.inl ⟨by rfl, ?_⟩) (by assumption) ?_
                    rotate_left 1
                    · intro w' hSw; (go_simp) <;> with_reducible rfl
                    try simp only [Act.put, List.setIfInBounds_toArray, List.set_cons_zero, List.set_cons_succ]
                    refine wpAnyH_take (i := 8) (v := ?_) (by (simp only [List.getElem?_toArray, List.getElem?_cons_succ, List.getElem?_cons_zero]; rfl)) (by kernel_rfl) (by kernel_rfl) (by kernel_rfl) (fun _ _ _ h => h) (Or.inl ⟨by rfl, ?_⟩) (by assumption) ?_
                    rotate_left 1
                    · intro w' hSw; (go_simp) <;> with_reducible rfl
                    try simp only [Act.put, List.setIfInBounds_toArray, List.set_cons_zero, List.set_cons_succ]
                    refine wpAnyH_ready (rs := [10]) (by kernel_rfl) (by simp) ?_
                    refine AllReadyH.cons (by (simp only [List.getElem?_toArray, List.getElem?_cons_succ, List.getElem?_cons_zero]; rfl)) (fun K hK => ?_) ?_
                    · obtain ⟨e0, e1, e2, e3⟩ := has_quad hC
                      obtain ⟨f0, f1, f2, f3⟩ := has_quadf hC
                      go_simp
                      have hHeld0 := hHeld
                      refine hK.out _ _ ?_ (fun hHeld => ?_)
                      · exact put4_below hHeld hKW _ _ _ _
                      clear hK K
                      try simp only [Act.put, List.setIfInBounds_toArray, List.set_cons_zero, List.set_cons_succ]
                      refine wpAnyH_take (i := 11) (v := ?_) (by (simp only [List.getElem?_toArray, List.getElem?_cons_succ, List.getElem?_cons_zero]; rfl)) (by kernel_rfl) (by kernel_rfl) (by kernel_rfl) (fun _ _ _ h => h) (Or.inl ⟨by rfl, ?_⟩) (by assumption) ?_
                      rotate_left 1
                      · intro w' hSw; (go_simp) <;> with_reducible rfl
                      try simp only [Act.put, List.setIfInBounds_toArray, List.set_cons_zero, List.set_cons_succ]
                      refine wpAnyH_done (by kernel_rfl) ?_ _
                      refine NoPanic.normal ?_
                      go_wp2_with fail
                      go_meet
                      case rel => exact ⟨Kb, rfl, rfl, crs_put hC hr hne, hHeld⟩
                    exact AllReadyH.nil
                  exact AllReadyH.nil
                exact AllReadyH.nil
              refine AllReadyH.cons (by (simp only [List.getElem?_toArray, List.getElem?_cons_succ, List.getElem?_cons_zero]; rfl)) (fun K hK => ?_) ?_
              · go_simp
                have hHeld0 := hHeld
                refine hK.out _ _ ?_ (fun hHeld => ?_)
                · exact ba hHeld _
                clear hK K
                try simp only [Act.put, List.setIfInBounds_toArray, List.set_cons_zero, List.set_cons_succ]
                have hKW : W8.heap.size ≤ V2.heap.size := hHeld0.size
                refine heldTo (fun V3 => (Below W8.heap.size W8 V3) ∧ (CRow W8.heap.size V3 (.slice (some ⟨K1, 0, none⟩) 1 1) 1 [reqC]) ∧ (K1 ≠ V2.heap.size) ∧ (Has V3 V2.heap.size [.slice none 0 0, .int .i64 0, .bool false, .int .i64 0])) (fun V3 => Below W8.heap.size W8 V3) ⟨hHeld, hr1.down (ba (Below.refl _ _) _), by have h1 := (hr1.low rfl).2; dsimp only at h1; omega, Has.alloc V2 _ _⟩ (fun V3 h => h.1) (fun _ h => h) (fun V3 hR hHeld => ?_)
                clear hHeld0
                clear hr1
                obtain ⟨-, hr1, hne1, hC⟩ := hR
                generalize V2.heap.size = Kb at hC hKW hne1 ⊢
                refine wpAnyH_ready (rs := [3]) (by kernel_rfl) (by simp) ?_
                refine AllReadyH.cons (by (simp only [List.getElem?_toArray, List.getElem?_cons_succ, List.getElem?_cons_zero]; rfl)) (fun K hK => ?_) ?_
                · go_simp
                  have hHeld0 := hHeld
                  refine hK.out _ _ ?_ (fun hHeld => ?_)
                  · exact hHeld
                  clear hK K
                  try simp only [Act.put, List.setIfInBounds_toArray, List.set_cons_zero, List.set_cons_succ]
                  refine heldTo (fun V4 => (Below W8.heap.size W8 V4) ∧ (CRow W8.heap.size V4 (.slice (some ⟨K1, 0, none⟩) 1 1) 1 [reqC]) ∧ (Has V4 Kb [.slice none 0 0, .int .i64 0, .bool false, .int .i64 0])) (fun V4 => Below W8.heap.size W8 V4) ⟨hHeld, hr1, hC⟩ (fun V4 h => h.1) (fun _ h => h) (fun V4 hR hHeld => ?_)
                  clear hHeld0
                  clear hC hne1 hr1
                  obtain ⟨-, hr2, hC⟩ := hR
                  refine wpAnyH_ready (rs := [5]) (by kernel_rfl) (by simp) ?_
                  refine AllReadyH.cons (by (simp only [List.getElem?_toArray, List.getElem?_cons_succ, List.getElem?_cons_zero]; rfl)) (fun K hK => ?_) ?_
                  · go_simp
                    go_at_call 20
                    refine (HJ2.out _ _ _ hr2.sat (bt HB8.out hHeld)).mono ?_
                    rintro e w7 ⟨u7, rfl, hr7, hb7⟩
                    obtain ⟨G7, c7, rfl⟩ := Sc.row_slice hr7
                    try (go_wp2_with fail)
                    have hHeld0 := hHeld
                    refine hK.out _ _ ?_ (fun hHeld => ?_)
                    · exact bt hHeld hb7
                    clear hK K
                    try simp only [Act.put, List.setIfInBounds_toArray, List.set_cons_zero, List.set_cons_succ]
                    refine heldTo (fun V5 => (Below W8.heap.size W8 V5) ∧ (World.ownsRow V5 W8.heap.size 65 3 (.slice G7 C.acts.length c7) C.acts.length (C.acts.flatMap actC)) ∧ (Has V5 Kb [.slice none 0 0, .int .i64 0, .bool false, .int .i64 0]) ∧ ((Value.slice G7 C.acts.length c7).ownBlock ≠ some Kb)) (fun V5 => Below W8.heap.size W8 V5) ⟨hHeld, row_base hr7 hHeld0.size, hC.down hb7, fun e => by have h1 := (World.ownsRow.lt hr7 _ e).1; have h2 := hC.2.2; omega⟩ (fun V5 h => h.1) (fun _ h => h) (fun V5 hR hHeld => ?_)
                    clear hHeld0
                    clear hb7 hr7 hC hr2
                    obtain ⟨-, hr, hC, hne⟩ := hR
                    refine wpAnyH_take (i := 6) (v := ?_) (by (simp only [List.getElem?_toArray, List.getElem?_cons_succ, List.getElem?_cons_zero]; rfl)) (by kernel_rfl) (by kernel_rfl) (by kernel_rfl) (fun _ _ _ h => h) (Or.inl ⟨by rfl, ?_⟩) (by assumption) ?_
                    rotate_left 1
                    · intro w' hSw; (go_simp) <;> with_reducible rfl
                    try simp only [Act.put, List.setIfInBounds_toArray, List.set_cons_zero, List.set_cons_succ]
                    refine wpAnyH_take (i := 7) (v := ?_) (by (simp only [List.getElem?_toArray, List.getElem?_cons_succ, List.getElem?_cons_zero]; rfl)) (by kernel_rfl) (by kernel_rfl) (by kernel_rfl) (fun _ _ _ h => h) (Or.inl ⟨by rfl, ?_⟩) (by assumption) ?_
                    rotate_left 1
                    · intro w' hSw; (go_simp) <;> with_reducible rfl
                    try simp only [Act.put, List.setIfInBounds_toArray, List.set_cons_zero, List.set_cons_succ]
                    refine wpAnyH_take (i := 8) (v := ?_) (by (simp only [List.getElem?_toArray, List.getElem?_cons_succ, List.getElem?_cons_zero]; rfl)) (by kernel_rfl) (by kernel_rfl) (by kernel_rfl) (fun _ _ _ h => h) (Or.inl ⟨by rfl, ?_⟩) (by assumption) ?_
                    rotate_left 1
                    · intro w' hSw; (go_simp) <;> with_reducible rfl
                    try simp only [Act.put, List.setIfInBounds_toArray, List.set_cons_zero, List.set_cons_succ]
                    refine wpAnyH_ready (rs := [10]) (by kernel_rfl) (by simp) ?_
                    refine AllReadyH.cons (by (simp only [List.getElem?_toArray, List.getElem?_cons_succ, List.getElem?_cons_zero]; rfl)) (fun K hK => ?_) ?_
                    · obtain ⟨e0, e1, e2, e3⟩ := has_quad hC
                      obtain ⟨f0, f1, f2, f3⟩ := has_quadf hC
                      go_simp
                      have hHeld0 := hHeld
                      refine hK.out _ _ ?_ (fun hHeld => ?_)
                      · exact put4_below hHeld hKW _ _ _ _
                      clear hK K
                      try simp only [Act.put, List.setIfInBounds_toArray, List.set_cons_zero, List.set_cons_succ]
                      refine wpAnyH_take (i := 11) (v := ?_) (by (simp only [List.getElem?_toArray, List.getElem?_cons_succ, List.getElem?_cons_zero]; rfl)) (by kernel_rfl) (by kernel_rfl) (by kernel_rfl) (fun _ _ _ h => h) (Or.inl ⟨by rfl, ?_⟩) (by assumption) ?_
                      rotate_left 1
                      · intro w' hSw; (go_simp) <;> with_reducible rfl
                      try simp only [Act.put, List.setIfInBounds_toArray, List.set_cons_zero, List.set_cons_succ]
                      refine wpAnyH_done (by kernel_rfl) ?_ _
                      refine NoPanic.normal ?_
                      go_wp2_with fail
                      go_meet
                      case rel => exact ⟨Kb, rfl, rfl, crs_put hC hr hne, hHeld⟩
                    exact AllReadyH.nil
                  exact AllReadyH.nil
                exact AllReadyH.nil
              exact AllReadyH.nil
            refine AllReadyH.cons (by (simp only [List.getElem?_toArray, List.getElem?_cons_succ, List.getElem?_cons_zero]; rfl)) (fun K hK => ?_) ?_
            · go_simp
              have hHeld0 := hHeld
              refine hK.out _ _ ?_ (fun hHeld => ?_)
              · exact ba hHeld _
              clear hK K
              try simp only [Act.put, List.setIfInBounds_toArray, List.set_cons_zero, List.set_cons_succ]
              have hKW : W8.heap.size ≤ V1.heap.size := hHeld0.size
              refine heldTo (fun V2 => (Below W8.heap.size W8 V2) ∧ (Has V2 N (strs reqC.texts)) ∧ (Has V2 V1.heap.size [.slice none 0 0, .int .i64 0, .bool false, .int .i64 0])) (fun V2 => Below W8.heap.size W8 V2) ⟨hHeld, hN.down (ba (Below.refl _ _) _), Has.alloc V1 _ _⟩ (fun V2 h => h.1) (fun _ h => h) (fun V2 hR hHeld => ?_)
              clear hHeld0
              clear hN
              obtain ⟨-, hN, hC⟩ := hR
              generalize V1.heap.size = Kb at hC hKW ⊢
              refine wpAnyH_ready (rs := [1]) (by kernel_rfl) (by simp) ?_
              refine AllReadyH.cons (by (simp only [List.getElem?_toArray, List.getElem?_cons_succ, List.getElem?_cons_zero]; rfl)) (fun K hK => ?_) ?_
              · go_simp
                have hHeld0 := hHeld
                refine hK.out _ _ ?_ (fun hHeld => ?_)
                · exact ba hHeld _
                clear hK K
                try simp only [Act.put, List.setIfInBounds_toArray, List.set_cons_zero, List.set_cons_succ]
                refine heldTo (fun V3 => (Below W8.heap.size W8 V3) ∧ (CRow W8.heap.size V3 (.slice (some ⟨V2.heap.size, 0, none⟩) 1 1) 1 [reqC]) ∧ (V2.heap.size ≠ Kb) ∧ (Has V3 Kb [.slice none 0 0, .int .i64 0, .bool false, .int .i64 0])) (fun V3 => Below W8.heap.size W8 V3) ⟨hHeld, req_lit hHeld0.size hN, by have := hC.2.2; omega, hC.down (ba (Below.refl _ _) _)⟩ (fun V3 h => h.1) (fun _ h => h) (fun V3 hR hHeld => ?_)
                clear hHeld0
                clear hC hN
                obtain ⟨-, hr1, hne1, hC⟩ := hR
                generalize V2.heap.size = K1 at hr1 hne1 ⊢
                refine wpAnyH_ready (rs := [3]) (by kernel_rfl) (by simp) ?_
                refine AllReadyH.cons (by (simp only [List.getElem?_toArray, List.getElem?_cons_succ, List.getElem?_cons_zero]; rfl)) (fun K hK => ?_) ?_
                · go_simp
                  have hHeld0 := hHeld
                  refine hK.out _ _ ?_ (fun hHeld => ?_)
                  · exact hHeld
                  clear hK K
                  try simp only [Act.put, List.setIfInBounds_toArray, List.set_cons_zero, List.set_cons_succ]
                  refine heldTo (fun V4 => (Below W8.heap.size W8 V4) ∧ (CRow W8.heap.size V4 (.slice (some ⟨K1, 0, none⟩) 1 1) 1 [reqC]) ∧ (Has V4 Kb [.slice none 0 0, .int .i64 0, .bool false, .int .i64 0])) (fun V4 => Below W8.heap.size W8 V4) ⟨hHeld, hr1, hC⟩ (fun V4 h => h.1) (fun _ h => h) (fun V4 hR hHeld => ?_)
                  clear hHeld0
                  clear hC hne1 hr1
                  obtain ⟨-, hr2, hC⟩ := hR
                  refine wpAnyH_ready (rs := [5]) (by kernel_rfl) (by simp) ?_
                  refine AllReadyH.cons (by (simp only [List.getElem?_toArray, List.getElem?_cons_succ, List.getElem?_cons_zero]; rfl)) (fun K hK => ?_) ?_
                  · go_simp
                    go_at_call 20
                    refine (HJ2.out _ _ _ hr2.sat (bt HB8.out hHeld)).mono ?_
                    rintro e w7 ⟨u7, rfl, hr7, hb7⟩
                    obtain ⟨G7, c7, rfl⟩ := Sc.row_slice hr7
                    try (go_wp2_with fail)
                    have hHeld0 := hHeld
                    refine hK.out _ _ ?_ (fun hHeld => ?_)
                    · exact bt hHeld hb7
                    clear hK K
                    try simp only [Act.put, List.setIfInBounds_toArray, List.set_cons_zero, List.set_cons_succ]
                    refine heldTo (fun V5 => (Below W8.heap.size W8 V5) ∧ (World.ownsRow V5 W8.heap.size 65 3 (.slice G7 C.acts.length c7) C.acts.length (C.acts.flatMap actC)) ∧ (Has V5 Kb [.slice none 0 0, .int .i64 0, .bool false, .int .i64 0]) ∧ ((Value.slice G7 C.acts.length c7).ownBlock ≠ some Kb)) (fun V5 => Below W8.heap.size W8 V5) ⟨hHeld, row_base hr7 hHeld0.size, hC.down hb7, fun e => by have h1 := (World.ownsRow.lt hr7 _ e).1; have h2 := hC.2.2; omega⟩ (fun V5 h => h.1) (fun _ h => h) (fun V5 hR hHeld => ?_)
                    clear hHeld0
                    clear hb7 hr7 hC hr2
                    obtain ⟨-, hr, hC, hne⟩ := hR
                    refine wpAnyH_take (i := 6) (v := ?_) (by (simp only [List.getElem?_toArray, List.getElem?_cons_succ, List.getElem?_cons_zero]; rfl)) (by kernel_rfl) (by kernel_rfl) (by kernel_rfl) (fun _ _ _ h => h) (Or.inl ⟨by rfl, ?_⟩) (by assumption) ?_
                    rotate_left 1
                    · intro w' hSw; (go_simp) <;> with_reducible rfl
                    try simp only [Act.put, List.setIfInBounds_toArray, List.set_cons_zero, List.set_cons_succ]
                    refine wpAnyH_take (i := 7) (v := ?_) (by (simp only [List.getElem?_toArray, List.getElem?_cons_succ, List.getElem?_cons_zero]; rfl)) (by kernel_rfl) (by kernel_rfl) (by kernel_rfl) (fun _ _ _ h => h) (Or.inl ⟨by rfl, ?_⟩) (by assumption) ?_
                    rotate_left 1
                    · intro w' hSw; (go_simp) <;> with_reducible rfl
                    try simp only [Act.put, List.setIfInBounds_toArray, List.set_cons_zero, List.set_cons_succ]
                    refine wpAnyH_take (i := 8) (v := ?_) (by (simp only [List.getElem?_toArray, List.getElem?_cons_succ, List.getElem?_cons_zero]; rfl)) (by kernel_rfl) (by kernel_rfl) (by kernel_rfl) (fun _ _ _ h => h) (Or.inl ⟨by rfl, ?_⟩) (by assumption) ?_
                    rotate_left 1
                    · intro w' hSw; (go_simp) <;> with_reducible rfl
                    try simp only [Act.put, List.setIfInBounds_toArray, List.set_cons_zero, List.set_cons_succ]
                    refine wpAnyH_ready (rs := [10]) (by kernel_rfl) (by simp) ?_
                    refine AllReadyH.cons (by (simp only [List.getElem?_toArray, List.getElem?_cons_succ, List.getElem?_cons_zero]; rfl)) (fun K hK => ?_) ?_
                    · obtain ⟨e0, e1, e2, e3⟩ := has_quad hC
                      obtain ⟨f0, f1, f2, f3⟩ := has_quadf hC
                      go_simp
                      have hHeld0 := hHeld
                      refine hK.out _ _ ?_ (fun hHeld => ?_)
                      · exact put4_below hHeld hKW _ _ _ _
                      clear hK K
                      try simp only [Act.put, List.setIfInBounds_toArray, List.set_cons_zero, List.set_cons_succ]
                      refine wpAnyH_take (i := 11) (v := ?_) (by (simp only [List.getElem?_toArray, List.getElem?_cons_succ, List.getElem?_cons_zero]; rfl)) (by kernel_rfl) (by kernel_rfl) (by kernel_rfl) (fun _ _ _ h => h) (Or.inl ⟨by rfl, ?_⟩) (by assumption) ?_
                      rotate_left 1
                      · intro w' hSw; (go_simp) <;> with_reducible rfl
                      try simp only [Act.put, List.setIfInBounds_toArray, List.set_cons_zero, List.set_cons_succ]
                      refine wpAnyH_done (by kernel_rfl) ?_ _
                      refine NoPanic.normal ?_
                      go_wp2_with fail
                      go_meet
                      case rel => exact ⟨Kb, rfl, rfl, crs_put hC hr hne, hHeld⟩
                    exact AllReadyH.nil
                  exact AllReadyH.nil
                exact AllReadyH.nil
              exact AllReadyH.nil
            exact AllReadyH.nil
          refine AllReadyH.cons (by (simp only [List.getElem?_toArray, List.getElem?_cons_succ, List.getElem?_cons_zero]; rfl)) (fun K hK => ?_) ?_
          · go_simp
            have hHeld0 := hHeld
            refine hK.out _ _ ?_ (fun hHeld => ?_)
            · exact ba hHeld _
            clear hK K
            try simp only [Act.put, List.setIfInBounds_toArray, List.set_cons_zero, List.set_cons_succ]
            have hKW : W8.heap.size ≤ V0.heap.size := hHeld0.size
            refine heldTo (fun V1 => (Below W8.heap.size W8 V1) ∧ (Has V1 V0.heap.size [.slice none 0 0, .int .i64 0, .bool false, .int .i64 0])) (fun V1 => Below W8.heap.size W8 V1) ⟨hHeld, Has.alloc V0 _ _⟩ (fun V1 h => h.1) (fun _ h => h) (fun V1 hR hHeld => ?_)
            clear hHeld0
            obtain ⟨-, hC⟩ := hR
            generalize V0.heap.size = Kb at hC hKW ⊢
            refine wpAnyH_ready (rs := [0]) (by kernel_rfl) (by simp) ?_
            refine AllReadyH.cons (by (simp only [List.getElem?_toArray, List.getElem?_cons_zero]; rfl)) (fun K hK => ?_) ?_
            · go_simp
              go_at_call 21
              refine (Sc.requires_any _).mono ?_
              rintro e w6 ⟨N, rfl, hN6, -, hb6⟩
              unfold reqV
              try (go_wp2_with fail)
              have hHeld0 := hHeld
              refine hK.out _ _ ?_ (fun hHeld => ?_)
              · exact bt hHeld hb6
              clear hK K
              try simp only [Act.put, List.setIfInBounds_toArray, List.set_cons_zero, List.set_cons_succ]
              refine heldTo (fun V2 => (Below W8.heap.size W8 V2) ∧ (Has V2 N (strs reqC.texts)) ∧ (Has V2 Kb [.slice none 0 0, .int .i64 0, .bool false, .int .i64 0])) (fun V2 => Below W8.heap.size W8 V2) ⟨hHeld, hN6, hC.down hb6⟩ (fun V2 h => h.1) (fun _ h => h) (fun V2 hR hHeld => ?_)
              clear hHeld0
              clear hb6 hN6 hC
              obtain ⟨-, hN, hC⟩ := hR
              refine wpAnyH_ready (rs := [1]) (by kernel_rfl) (by simp) ?_
              refine AllReadyH.cons (by (simp only [List.getElem?_toArray, List.getElem?_cons_succ, List.getElem?_cons_zero]; rfl)) (fun K hK => ?_) ?_
              · go_simp
                have hHeld0 := hHeld
                refine hK.out _ _ ?_ (fun hHeld => ?_)
                · exact ba hHeld _
                clear hK K
                try simp only [Act.put, List.setIfInBounds_toArray, List.set_cons_zero, List.set_cons_succ]
                refine heldTo (fun V3 => (Below W8.heap.size W8 V3) ∧ (CRow W8.heap.size V3 (.slice (some ⟨V2.heap.size, 0, none⟩) 1 1) 1 [reqC]) ∧ (V2.heap.size ≠ Kb) ∧ (Has V3 Kb [.slice none 0 0, .int .i64 0, .bool false, .int .i64 0])) (fun V3 => Below W8.heap.size W8 V3) ⟨hHeld, req_lit hHeld0.size hN, by have := hC.2.2; omega, hC.down (ba (Below.refl _ _) _)⟩ (fun V3 h => h.1) (fun _ h => h) (fun V3 hR hHeld => ?_)
                clear hHeld0
                clear hC hN
                obtain ⟨-, hr1, hne1, hC⟩ := hR
                generalize V2.heap.size = K1 at hr1 hne1 ⊢
                refine wpAnyH_ready (rs := [3]) (by kernel_rfl) (by simp) ?_
                refine AllReadyH.cons (by (simp only [List.getElem?_toArray, List.getElem?_cons_succ, List.getElem?_cons_zero]; rfl)) (fun K hK => ?_) ?_
                · go_simp
                  have hHeld0 := hHeld
                  refine hK.out _ _ ?_ (fun hHeld => ?_)
                  · exact hHeld
                  clear hK K
                  try simp only [Act.put, List.setIfInBounds_toArray, List.set_cons_zero, List.set_cons_succ]
                  refine heldTo (fun V4 => (Below W8.heap.size W8 V4) ∧ (CRow W8.heap.size V4 (.slice (some ⟨K1, 0, none⟩) 1 1) 1 [reqC]) ∧ (Has V4 Kb [.slice none 0 0, .int .i64 0, .bool false, .int .i64 0])) (fun V4 => Below W8.heap.size W8 V4) ⟨hHeld, hr1, hC⟩ (fun V4 h => h.1) (fun _ h => h) (fun V4 hR hHeld => ?_)
                  clear hHeld0
                  clear hC hne1 hr1
                  obtain ⟨-, hr2, hC⟩ := hR
                  refine wpAnyH_ready (rs := [5]) (by kernel_rfl) (by simp) ?_
                  refine AllReadyH.cons (by (simp only [List.getElem?_toArray, List.getElem?_cons_succ, List.getElem?_cons_zero]; rfl)) (fun K hK => ?_) ?_
                  · go_simp
                    go_at_call 20
                    refine (HJ2.out _ _ _ hr2.sat (bt HB8.out hHeld)).mono ?_
                    rintro e w7 ⟨u7, rfl, hr7, hb7⟩
                    obtain ⟨G7, c7, rfl⟩ := Sc.row_slice hr7
                    try (go_wp2_with fail)
                    have hHeld0 := hHeld
                    refine hK.out _ _ ?_ (fun hHeld => ?_)
                    · exact bt hHeld hb7
                    clear hK K
                    try simp only [Act.put, List.setIfInBounds_toArray, List.set_cons_zero, List.set_cons_succ]
                    refine heldTo (fun V5 => (Below W8.heap.size W8 V5) ∧ (World.ownsRow V5 W8.heap.size 65 3 (.slice G7 C.acts.length c7) C.acts.length (C.acts.flatMap actC)) ∧ (Has V5 Kb [.slice none 0 0, .int .i64 0, .bool false, .int .i64 0]) ∧ ((Value.slice G7 C.acts.length c7).ownBlock ≠ some Kb)) (fun V5 => Below W8.heap.size W8 V5) ⟨hHeld, row_base hr7 hHeld0.size, hC.down hb7, fun e => by have h1 := (World.ownsRow.lt hr7 _ e).1; have h2 := hC.2.2; omega⟩ (fun V5 h => h.1) (fun _ h => h) (fun V5 hR hHeld => ?_)
                    clear hHeld0
                    clear hb7 hr7 hC hr2
                    obtain ⟨-, hr, hC, hne⟩ := hR
                    refine wpAnyH_take (i := 6) (v := ?_) (by (simp only [List.getElem?_toArray, List.getElem?_cons_succ, List.getElem?_cons_zero]; rfl)) (by kernel_rfl) (by kernel_rfl) (by kernel_rfl) (fun _ _ _ h => h) (Or.inl ⟨by rfl, ?_⟩) (by assumption) ?_
                    rotate_left 1
                    · intro w' hSw; (go_simp) <;> with_reducible rfl
                    try simp only [Act.put, List.setIfInBounds_toArray, List.set_cons_zero, List.set_cons_succ]
                    refine wpAnyH_take (i := 7) (v := ?_) (by (simp only [List.getElem?_toArray, List.getElem?_cons_succ, List.getElem?_cons_zero]; rfl)) (by kernel_rfl) (by kernel_rfl) (by kernel_rfl) (fun _ _ _ h => h) (Or.inl ⟨by rfl, ?_⟩) (by assumption) ?_
                    rotate_left 1
                    · intro w' hSw; (go_simp) <;> with_reducible rfl
                    try simp only [Act.put, List.setIfInBounds_toArray, List.set_cons_zero, List.set_cons_succ]
                    refine wpAnyH_take (i := 8) (v := ?_) (by (simp only [List.getElem?_toArray, List.getElem?_cons_succ, List.getElem?_cons_zero]; rfl)) (by kernel_rfl) (by kernel_rfl) (by kernel_rfl) (fun _ _ _ h => h) (Or.inl ⟨by rfl, ?_⟩) (by assumption) ?_
                    rotate_left 1
                    · intro w' hSw; (go_simp) <;> with_reducible rfl
                    try simp only [Act.put, List.setIfInBounds_toArray, List.set_cons_zero, List.set_cons_succ]
                    refine wpAnyH_ready (rs := [10]) (by kernel_rfl) (by simp) ?_
                    refine AllReadyH.cons (by (simp only [List.getElem?_toArray, List.getElem?_cons_succ, List.getElem?_cons_zero]; rfl)) (fun K hK => ?_) ?_
                    · obtain ⟨e0, e1, e2, e3⟩ := has_quad hC
                      obtain ⟨f0, f1, f2, f3⟩ := has_quadf hC
                      go_simp
                      have hHeld0 := hHeld
                      refine hK.out _ _ ?_ (fun hHeld => ?_)
                      · exact put4_below hHeld hKW _ _ _ _
                      clear hK K
                      try simp only [Act.put, List.setIfInBounds_toArray, List.set_cons_zero, List.set_cons_succ]
                      refine wpAnyH_take (i := 11) (v := ?_) (by (simp only [List.getElem?_toArray, List.getElem?_cons_succ, List.getElem?_cons_zero]; rfl)) (by kernel_rfl) (by kernel_rfl) (by kernel_rfl) (fun _ _ _ h => h) (Or.inl ⟨by rfl, ?_⟩) (by assumption) ?_
                      rotate_left 1
                      · intro w' hSw; (go_simp) <;> with_reducible rfl
                      try simp only [Act.put, List.setIfInBounds_toArray, List.set_cons_zero, List.set_cons_succ]
                      refine wpAnyH_done (by kernel_rfl) ?_ _
                      refine NoPanic.normal ?_
                      go_wp2_with fail
                      go_meet
                      case rel => exact ⟨Kb, rfl, rfl, crs_put hC hr hne, hHeld⟩
                    exact AllReadyH.nil
                  exact AllReadyH.nil
                exact AllReadyH.nil
              exact AllReadyH.nil
            exact AllReadyH.nil
          exact AllReadyH.nil
      case rest =>
        obtain ⟨X2, rfl, rfl, hX2, hb9⟩ := hcut
        have HX2 := Lib.hid hX2
        have HX19 := Lib.hid (HX1.out.down hb9)
        have HB9 := Lib.hid (bt HB8.out hb9)
        have HL9 := Lib.hid (HL8.out.down hb9)
        clear hX2 hb9 HX1 HB8 HL8 HJ2 HSD8 HNE HSL
        go_upto_region 9 with fail
        have hA0 := Has.alloc wc [.string ⟨#[97]⟩] 9
        have hF := file_lit (wc.alloc (.cells #[.string ⟨#[97]⟩] 9)) wc.heap.size hA0
        have hbF := ba (ba (Below.refl wc.heap.size wc) (.cells #[.string ⟨#[97]⟩] 9)) (.cells #[.int .i64 5, .slice (some ⟨wc.heap.size, 0, none⟩) 1 1, .int .i64 0, .int .i64 0, .int .i64 0, .slice none 0 0, .slice none 0 0, .bool false, .int .i64 0, .slice none 0 0, .slice none 0 0, .slice none 0 0] 50)
        rw [World.size_alloc] at hF
        have HC := Lib.hid (HJ3.out _ _ _ _ _ hF (bt HB9.out hbF))
        have HBF := Lib.hid hbF
        obtain ⟨l0, l1, l2, l3, l4⟩ := ltt_get HL9.out
        obtain ⟨m0, m1, m2, m3, m4⟩ := ltt_get (HL9.out.down hbF)
        clear hA0 hF hbF HJ3
        go_wp2_with fail
        refine HC.out.mono ?_
        rintro e w10 ⟨rfl, hb10⟩
        have hA := ba (Below.refl w10.heap.size w10) (.cells #[.slice none 0 0, .int .i64 0, .bool false, .int .i64 0] 53)
        obtain ⟨W11, hW11⟩ : ∃ W, W = w10.alloc (.cells #[.slice none 0 0, .int .i64 0, .bool false, .int .i64 0] 53) := ⟨_, rfl⟩
        rw [← hW11] at hA
        have hb := bt (bt HBF.out hb10) hA
        obtain ⟨Ga1, ka1, hk1, hs1⟩ := HX19.out.down hb
        obtain ⟨Ga2, ka2, hk2, hs2⟩ := HX2.out.down hb
        have HC2 := Lib.hid (HSAME.out _ _ _ _ _ hs1 hs2)
        obtain ⟨d0, d1, d2, d3⟩ := has_quad hk1
        obtain ⟨f0, f1, f2, f3⟩ := has_quad hk2
        have HB11 := Lib.hid (bt HB9.out hb)
        have HWe := Lib.hid hW11
        clear hA hW11 hb hk1 hs1 hk2 hs2 HC hb10 HBF HX19 HX2 HB9 HL9 HSAME l0 l1 l2 l3 l4 m0 m1 m2 m3 m4
        go_upto_region 10 with fail
        rw [← HWe.out]
        clear HWe
        go_wp2_with fail
        refine HC2.out.mono ?_
        rintro e w12 ⟨rfl, hb12⟩
        have HB12 := Lib.hid (bt HB11.out hb12)
        clear hb12 HC2
        go_wp2_with fail
        go_ret
        exact ⟨rfl, HB12.out⟩
theorem judgeOne_walk (a0 a1 a2 b0 b1 b2 : ByteArray) (G : Option Addr) (n c : Nat) (z : Nat → Nat → ByteArray) (bo : ByteArray) (xs : List Value) (kt : Nat) (t : Stk) (av : Value) (kv : Nat) (la : List Stk) (bv : Value) (kw : Nat) (lb : List Stk) (mx : Int) (W : World) (h0 : a0.size ≤ maxLen) (h1 : a1.size ≤ maxLen) (_h2 : a2.size ≤ maxLen) (j0 : b0.size ≤ maxLen) (j1 : b1.size ≤ maxLen) (_j2 : b2.size ≤ maxLen) (hx : StrRows W G n 2 z ∧ n ≤ maxLen) (hbo : bo.size ≤ maxLen)
    (ht : (cStk kt).rep W (fun _ => True) t xs) (hl : SAt (cStk kv) W (fun _ => True) av la) (hlen : la.length ≤ 140737488351232) (hl2 : SAt (cStk kw) W (fun _ => True) bv lb) (hlen2 : lb.length ≤ 140737488351232) (hT : Sc.Tabs W W.heap.size) (hE : Sc.ExtAt W ∧ 0 < W.heap.size) (hN : NamesAt W ∧ 2 < W.heap.size) (hmx : W.cell? ⟨6, 0, none⟩ = some (.int .i64 mx)) :
    Calls Tryz.prog 4 #[.agg #[.string a0, .string a1, .string a2, .string b0, .string b1, .string b2, .slice G n c, .string bo], .agg xs.toArray, av, bv] W fun e w' => e = .returned (.bool true) ∧ Below W.heap.size W w' :=
  judgeOne_any a0 a1 a2 b0 b1 b2 G n c z bo kt t xs _ la lb av bv kv kw _ mx W ⟨h0, h1, j0, j1, hx, hbo⟩ ht hl hlen hl2 hlen2 ⟨hT, hE, hN, hmx⟩
end Go.Proofs.YtpfbkdbblpppdaaGreatDoor.Jd
