/-
  DERIVED. CreateOnce: the walk.
-/
import Derived.Test.YthllhakgcnfmcaaDoorBoxHead
namespace Go.Proofs.YthllhakgcnfmcaaDoor
open Go.RowKit

set_option maxHeartbeats 8000000 in
set_option maxRecDepth 20000 in
theorem createOnce_walk (a : Option Addr) (cap : Nat) (cs : List Raw) (c : Raw) (m : Int) (w : World) (h : RawsAt w a cs) (hlen : cs.length ≤ 9223372036854775807) (hok : RawOK c) (hm : w.cell? ⟨0, 0, none⟩ = some (.int .i64 m)) :
    Calls Tryd.prog 5 #[.slice a cs.length cap, .agg #[.int .i64 c.kind, .int .i64 c.box, .int .i64 c.uid, .int .i64 c.flags, .int .i64 c.dest, .string c.text]] w fun e w' => e = .returned (.bool true) ∧ Below w.heap.size w w' := by
  have hA0 := ba (Below.refl w.heap.size w) (.cells #[.int .i64 c.kind, .int .i64 c.box, .int .i64 c.uid, .int .i64 c.flags, .int .i64 c.dest, .string c.text] 24)
  have HZ := Lib.hid (Has.alloc w [.int .i64 c.kind, .int .i64 c.box, .int .i64 c.uid, .int .i64 c.flags, .int .i64 c.dest, .string c.text] 24)
  have HS := Lib.hid (state_any a cap cs m _ (h.down hA0) hlen (moved hm hA0 (Nat.le_refl _)))
  have hg := stOf_good cs
  obtain ⟨s, hs⟩ : ∃ s, s = stOf cs := ⟨_, rfl⟩
  rw [← hs] at HS hg
  obtain ⟨x, hx⟩ : ∃ x, x = entOf ⟨0, c.box, 0, 0, 0, ⟨#[]⟩⟩ := ⟨_, rfl⟩
  have HE : Hid (∀ w', Calls Tryd.prog 13 #[.agg #[.int .i64 0, .int .i64 c.box, .int .i64 0, .int .i64 0, .int .i64 0, .string ⟨#[]⟩]] w' (EntPost x w')) := by
    rw [hx]; exact fun w' => entry_c ⟨0, c.box, 0, 0, 0, ⟨#[]⟩⟩ w' (raw_ok i64z hok.2.1 i64z i64z i64z (by decide))
  have hxf : formV x = 0 := by rw [hx]; exact entOf_form _
  have hxk : x.kind = 1 := by rw [hx]; rfl
  have HF := Lib.hid hxf; have HA0 := Lib.hid hA0
  have HG := Lib.hid hg; have HM := Lib.hid hm; have hsl := hg.spool; have hbl := hg.boxes
  have HK := Lib.hid hxk; have HSO := Lib.hid hs; have HXO := Lib.hid hx
  clear h hm hg hs hx hxf hxk hA0
  go_enter Tryd.func5, Tryd.ntmps5
  go_wp2_with fail
  refine HS.out.mono ?_
  rintro e w1 ⟨⟨G1, c1, G2, c2, rfl, h1, h2⟩, hb1⟩
  have HV1 := Lib.hid (VarS.new h1 h2 28)
  have hA1 := bt hb1 (ba (Below.refl w1.heap.size w1) (.cells #[.slice G1 s.boxes.length c1, .slice G2 s.spool.length c2] 28))
  have HB1 := Lib.hid (bt HA0.out hA1)
  have hz0 : w.heap.size ≤ w1.heap.size := by have := hb1.size; simp at this; omega
  have hzz : w.heap.size < w1.heap.size := by have := hb1.size; simp at this; omega
  have HZ1 := Lib.hid (HZ.out.down hA1)
  obtain ⟨z0, z1, z2, z3, z4, z5⟩ := HZ1.out.six
  clear h1 h2 hb1 hA1 HS HA0 HZ
  go_wp2_with fail
  refine (HE.out _).mono ?_
  rintro e w2 ⟨rfl, hb2⟩
  have hz1 : w1.heap.size < w2.heap.size := by have := hb2.size; simp at this; omega
  have hA2 := bt hb2 (ba (Below.refl w2.heap.size w2) (.cells #[.int .i64 x.kind, .string ⟨x.box.toArray⟩, .int .i64 x.uid, .int .i64 x.flags, .string ⟨x.to.toArray⟩, .string ⟨x.text.toArray⟩] 31))
  have HV2 := Lib.hid (HV1.out.down hA2); have HB2 := Lib.hid (bt HB1.out hA2)
  have HY2 := Lib.hid (Has.alloc w2 [.int .i64 x.kind, .string ⟨x.box.toArray⟩, .int .i64 x.uid, .int .i64 x.flags, .string ⟨x.to.toArray⟩, .string ⟨x.text.toArray⟩] 31)
  obtain ⟨c0, c1', -, -⟩ := HV2.out.1.two
  obtain ⟨y0, y1, y2, y3, y4, y5⟩ := HY2.out.six
  clear hA2 hb2 HV1 HB1 HE HZ1 z0 z1 z2 z3 z4 z5
  go_wp2_with fail
  obtain ⟨W2, hW2⟩ : ∃ W2, W2 = w2.alloc (.cells #[.int .i64 x.kind, .string ⟨x.box.toArray⟩, .int .i64 x.uid, .int .i64 x.flags, .string ⟨x.to.toArray⟩, .string ⟨x.text.toArray⟩] 31) := ⟨_, rfl⟩
  rw [← hW2] at HV2 HB2 HY2 ⊢
  have hz2 : w2.heap.size < W2.heap.size := by rw [hW2]; simp
  clear hW2 c0 c1' y0 y1 y2 y3 y4 y5
  have HKF : Hid (∀ k, idx (findB s.boxes x.box) = k → ∀ w', SAt cBox w' (fun b => b ≠ w1.heap.size) (.slice G1 s.boxes.length c1) s.boxes → Calls Tryd.prog 15 #[.agg #[.slice G1 s.boxes.length c1, .slice G2 s.spool.length c2], .string ⟨x.box.toArray⟩] w' fun e w'' => e = .returned (.int .i64 k) ∧ Below w'.heap.size w' w'') := by
    rintro k rfl w' h
    exact kfind_any _ _ _ _ _ _ _ _ h (by omega)
  have HC : Hid ((∃ i : Nat, idx (findB s.boxes x.box) = i ∧ allS s [x] = (s, 10)) ∨ (findB s.boxes x.box = none ∧ s.boxes.length = 5 ∧ allS s [x] = (s, 5)) ∨ (findB s.boxes x.box = none ∧ s.boxes.length ≠ 5 ∧ ∃ T : St, T = ⟨s.boxes ++ [⟨x.box, 1, []⟩], s.spool⟩ ∧ allS s [x] = (T, 0) ∧ allS T [x] = (T, 10) ∧ GoodS T)) := by
    cases hf : findB s.boxes x.box with
    | some i => exact .inl ⟨i, rfl, create_twice HK.out HF.out hf⟩
    | none =>
      by_cases h5 : s.boxes.length = 5
      · exact .inr (.inl ⟨rfl, h5, create_full HK.out HF.out hf h5⟩)
      · have h1 := create_ok HK.out HF.out hf h5
        have hg := one_good HG.out HF.out
        rw [h1] at hg
        exact .inr (.inr ⟨rfl, h5, _, rfl, h1, create_twice HK.out HF.out (findB_snoc hf 1 []), hg⟩)
  rcases HC.out with ⟨i, hi, hr⟩ | ⟨hi, hf, hr⟩ | ⟨hi, hf, T, hT, hr, hr2, hgT⟩
  · have HR := Lib.hid hr; have HI := Lib.hid hi
    clear hi hr HC
    refine (apply_err HR.out (by decide) _ _ _ m _ HV2.out.2.1 HV2.out.2.2 HG.out HF.out (moved HM.out HB2.out (Nat.le_refl _))).mono ?_
    rintro e w3 ⟨rfl, hb3⟩
    have hA3 := bt hb3 (ba (Below.refl w3.heap.size w3) (.cells #[.slice none 0 0, .slice none 0 0] 28))
    have HV3 := Lib.hid (HV2.out.down hA3); have HY3 := Lib.hid (HY2.out.down hA3); have HB3 := Lib.hid (bt HB2.out hA3)
    clear hb3 hA3 HV2 HY2 HB2
    obtain ⟨c0, c1', -, -⟩ := HV3.out.1.two
    obtain ⟨-, y1, -, -, -, -⟩ := HY3.out.six
    go_wp2_with fail
    refine (HKF.out _ HI.out _ HV3.out.2.1).mono ?_
    rintro e w4 ⟨rfl, hb4⟩
    have HB4 := Lib.hid (bt HB3.out hb4)
    obtain ⟨d0, d1, -, -⟩ := (HV3.out.1.down hb4).two
    clear c0 c1' y1 hb4
    go_wp2_with fail
    go_ret
    exact ⟨rfl, HB4.out⟩
  · have HR := Lib.hid hr; have HI : Hid (idx (findB s.boxes x.box) = -1) := by unfold Hid; rw [hi]; rfl
    have q : ((s.boxes.length : Int) == 5) = true := by rw [hf]; rfl
    clear hf
    clear hi hr HC
    refine (apply_err HR.out (by decide) _ _ _ m _ HV2.out.2.1 HV2.out.2.2 HG.out HF.out (moved HM.out HB2.out (Nat.le_refl _))).mono ?_
    rintro e w3 ⟨rfl, hb3⟩
    have hA3 := bt hb3 (ba (Below.refl w3.heap.size w3) (.cells #[.slice none 0 0, .slice none 0 0] 28))
    have HV3 := Lib.hid (HV2.out.down hA3); have HY3 := Lib.hid (HY2.out.down hA3); have HB3 := Lib.hid (bt HB2.out hA3)
    clear hb3 hA3 HV2 HY2 HB2
    obtain ⟨c0, c1', -, -⟩ := HV3.out.1.two
    obtain ⟨-, y1, -, -, -, -⟩ := HY3.out.six
    go_wp2_with fail
    refine (HKF.out _ HI.out _ HV3.out.2.1).mono ?_
    rintro e w4 ⟨rfl, hb4⟩
    have HB4 := Lib.hid (bt HB3.out hb4)
    obtain ⟨d0, d1, -, -⟩ := (HV3.out.1.down hb4).two
    clear c0 c1' y1 hb4
    go_wp2_with fail
    go_ret
    exact ⟨rfl, HB4.out⟩
  · have HR := Lib.hid hr; have HR2 := Lib.hid hr2; have HGT := Lib.hid hgT; have HTE := Lib.hid hT
    have HI : Hid (idx (findB s.boxes x.box) = -1) := by unfold Hid; rw [hi]; rfl
    have q : ((s.boxes.length : Int) == 5) = false := by simp; omega
    clear hi hr hr2 hgT HC hf hT
    refine (apply_ok HR.out _ _ _ m _ HV2.out.2.1 HV2.out.2.2 HG.out HF.out (moved HM.out HB2.out (Nat.le_refl _))).mono ?_
    rintro e w3 ⟨⟨E1, e1, E2, e2, rfl, hv⟩, hb3⟩
    have hA3 := bt hb3 (ba (Below.refl w3.heap.size w3) (.cells #[.slice E1 T.boxes.length e1, .slice E2 T.spool.length e2] 28))
    obtain ⟨k1, k2⟩ := hv.sat (F := fun _ => True) (fun _ _ => trivial)
    have HT3 := Lib.hid (VarS.new k1 k2 28)
    have HV3 := Lib.hid (HV2.out.down hA3); have HY3 := Lib.hid (HY2.out.down hA3); have HB3 := Lib.hid (bt HB2.out hA3)
    have hz3 : W2.heap.size ≤ w3.heap.size := hb3.size
    clear hb3 hA3 HV2 HY2 HB2 hv k1 k2
    obtain ⟨c0, c1', -, -⟩ := HV3.out.1.two
    obtain ⟨-, y1, -, -, -, -⟩ := HY3.out.six
    go_wp2_with fail
    refine (HKF.out _ HI.out _ HV3.out.2.1).mono ?_
    rintro e w4 ⟨rfl, hb4⟩
    have HB4 := Lib.hid (bt HB3.out hb4); have HV4 := Lib.hid (HV3.out.down hb4); have HY4 := Lib.hid (HY3.out.down hb4); have HT4 := Lib.hid (HT3.out.down hb4)
    have hz4 := hb4.size
    simp only [World.size_alloc] at hz4
    clear c0 c1' y1 hb4 HV3 HY3 HT3 HB3
    obtain ⟨d0, d1, -, -⟩ := HV4.out.1.two
    obtain ⟨t0, t1, -, -⟩ := HT4.out.1.two
    obtain ⟨y0, y1, y2, y3, y4, y5⟩ := HY4.out.six
    go_wp2_with fail
    refine (apply_err HR2.out (by decide) _ _ _ m _ HT4.out.2.1 HT4.out.2.2 HGT.out HF.out (moved HM.out HB4.out (Nat.le_refl _))).mono ?_
    rintro e w5 ⟨rfl, hb5⟩
    have hA5 := bt hb5 (ba (Below.refl w5.heap.size w5) (.cells #[.slice none 0 0, .slice none 0 0] 28))
    have HV5 := Lib.hid (HV4.out.down hA5); have HY5 := Lib.hid (HY4.out.down hA5); have HB5 := Lib.hid (bt HB4.out hA5); have HT5 := Lib.hid (HT4.out.down hA5)
    clear hb5 hA5 HV4 HY4 HB4 HT4 d0 d1 t0 t1 y0 y1 y2 y3 y4 y5
    obtain ⟨d0, d1, -, -⟩ := HV5.out.1.two
    obtain ⟨t0, t1, -, -⟩ := HT5.out.1.two
    obtain ⟨-, y1, -, -, -, -⟩ := HY5.out.six
    have hT := HTE.out
    clear HTE
    subst hT
    have hTl : (s.boxes ++ [(⟨x.box, 1, []⟩ : Bx)]).length = s.boxes.length + 1 := by simp
    simp only [hTl] at t0 t1 HT5
    obtain ⟨g, off, ga, gc, rfl, -, hgl, hgc, hgm, p0, p1, p2⟩ := box_get HT5.out.2.1 (Below.refl _ _) s.boxes.length (by simp)
    simp only [List.getElem_concat_length, List.length_nil] at p0 p1 p2
    clear hgc hgm
    go_wp2_with fail
    go_quiet (fail)
    have HB6 := Lib.hid (bt HB5.out (below_drewN _ nq))
    clear d0 d1 t0 t1 y1 p0 p1 p2
    go_wp2_with fail
    go_ret
    exact ⟨rfl, HB6.out⟩
end Go.Proofs.YthllhakgcnfmcaaDoor
