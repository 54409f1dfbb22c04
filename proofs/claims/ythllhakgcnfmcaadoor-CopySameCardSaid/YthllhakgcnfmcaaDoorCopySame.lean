/-
  DERIVED. CopySame: the walk.
-/
import Derived.Test.YthllhakgcnfmcaaDoorBoxUids
namespace Go.Proofs.YthllhakgcnfmcaaDoor
open Go.RowKit

theorem append_form {bx tx : List UInt8} {fl : Nat} (hb : nameCode bx = 0) (hf : fl ≤ 31) (ht : tx.length ≤ 2000) : formV ⟨2, fl, 0, bx, [], tx⟩ = 0 := by
  have hs : shapeOK ⟨2, fl, 0, bx, [], tx⟩ = true := by unfold shapeOK; simp
  unfold formV
  rw [hs]
  simp only
  rw [if_neg (by omega), if_neg (by decide), if_neg (by omega), if_neg (by omega), if_neg (by omega), if_neg (by rw [hb]; decide), if_neg (by omega)]
theorem append_no {s : St} {x : Ent} {i : Nat} (hk : x.kind = 2) (h : findB s.boxes x.box = some i) (ha : addS s i x.flags x.text = none) : applyS s x = (s, 5) := by rw [append_eq hk h, ha]
theorem append_yes {s T : St} {x : Ent} {i : Nat} (hk : x.kind = 2) (h : findB s.boxes x.box = some i) (ha : addS s i x.flags x.text = some T) : applyS s x = (T, 0) := by rw [append_eq hk h, ha]
theorem copy_to {x : Ent} (hk : x.kind = 5) (hx : formV x = 0) : nameCode x.to = 0 := by
  unfold formV at hx
  split at hx
  · cases hx
  · split at hx
    · cases hx
    · split at hx
      · cases hx
      · split at hx
        · cases hx
        · split at hx
          · omega
          · split at hx
            · exact absurd hx (by assumption)
            · exact hx

set_option maxHeartbeats 8000000 in
set_option maxRecDepth 20000 in
theorem copySame_walk (a : Option Addr) (cap : Nat) (cs : List Raw) (c : Raw) (m : Int) (w : World) (h : RawsAt w a cs) (hlen : cs.length ≤ 9223372036854775807) (hok : RawOK c) (hm : w.cell? ⟨0, 0, none⟩ = some (.int .i64 m)) :
    Calls Tryd.prog 4 #[.slice a cs.length cap, .agg #[.int .i64 c.kind, .int .i64 c.box, .int .i64 c.uid, .int .i64 c.flags, .int .i64 c.dest, .string c.text]] w fun e w' => e = .returned (.bool true) ∧ Below w.heap.size w w' := by
  have hA0 := ba (Below.refl w.heap.size w) (.cells #[.int .i64 c.kind, .int .i64 c.box, .int .i64 c.uid, .int .i64 c.flags, .int .i64 c.dest, .string c.text] 24)
  have HZ := Lib.hid (Has.alloc w [.int .i64 c.kind, .int .i64 c.box, .int .i64 c.uid, .int .i64 c.flags, .int .i64 c.dest, .string c.text] 24)
  have HS := Lib.hid (state_any a cap cs m _ (h.down hA0) hlen (moved hm hA0 (Nat.le_refl _)))
  have hg := stOf_good cs
  obtain ⟨s, hs⟩ : ∃ s, s = stOf cs := ⟨_, rfl⟩
  rw [← hs] at HS hg
  obtain ⟨x, hx⟩ : ∃ x, x = entOf ⟨4, c.box, c.uid, 0, c.dest, ⟨#[]⟩⟩ := ⟨_, rfl⟩
  have HE : Hid (∀ w', Calls Tryd.prog 13 #[.agg #[.int .i64 4, .int .i64 c.box, .int .i64 c.uid, .int .i64 0, .int .i64 c.dest, .string ⟨#[]⟩]] w' (EntPost x w')) := by
    rw [hx]; exact fun w' => entry_c ⟨4, c.box, c.uid, 0, c.dest, ⟨#[]⟩⟩ w' (raw_ok (i64k 4 (by decide)) hok.2.1 hok.2.2.1 i64z hok.2.2.2.2.1 (by decide))
  have hxf : formV x = 0 := by rw [hx]; exact entOf_form _
  have hxk : x.kind = 5 := by rw [hx]; rfl
  have HF := Lib.hid hxf; have HA0 := Lib.hid hA0
  have HG := Lib.hid hg; have HM := Lib.hid hm; have hsl := hg.spool; have hbl := hg.boxes
  have HK := Lib.hid hxk; have HSO := Lib.hid hs; have HXO := Lib.hid hx
  clear h hm hg hs hx hxf hxk hA0
  go_enter Tryd.func4, Tryd.ntmps4
  go_wp2_with fail
  refine HS.out.mono ?_
  rintro e w1 ⟨⟨G1, c1, G2, c2, rfl, h1, h2⟩, hb1⟩
  have HV1 := Lib.hid (VarS.new h1 h2 28)
  have hA1 := bt hb1 (ba (Below.refl w1.heap.size w1) (.cells #[.slice G1 s.boxes.length c1, .slice G2 s.spool.length c2] 28))
  have HB1 := Lib.hid (bt HA0.out hA1)
  have hz0 : w.heap.size ≤ w1.heap.size := by have := hb1.size; simp at this; omega
  have hzz : w.heap.size < w1.heap.size := by have := hb1.size; simp at this; omega
  have HZ1 := Lib.hid (HZ.out.down hA1)
  obtain ⟨z0, z1, z2, z3, z4, z5⟩ := HZ1.out.six
  clear h1 h2 hb1 hA1 HS HA0 HZ
  go_wp2_with fail
  refine (HE.out _).mono ?_
  rintro e w2 ⟨rfl, hb2⟩
  have hz1 : w1.heap.size < w2.heap.size := by have := hb2.size; simp at this; omega
  have hA2 := bt hb2 (ba (Below.refl w2.heap.size w2) (.cells #[.int .i64 x.kind, .string ⟨x.box.toArray⟩, .int .i64 x.uid, .int .i64 x.flags, .string ⟨x.to.toArray⟩, .string ⟨x.text.toArray⟩] 31))
  have HV2 := Lib.hid (HV1.out.down hA2); have HB2 := Lib.hid (bt HB1.out hA2)
  have HY2 := Lib.hid (Has.alloc w2 [.int .i64 x.kind, .string ⟨x.box.toArray⟩, .int .i64 x.uid, .int .i64 x.flags, .string ⟨x.to.toArray⟩, .string ⟨x.text.toArray⟩] 31)
  obtain ⟨c0, c1', -, -⟩ := HV2.out.1.two
  obtain ⟨y0, y1, y2, y3, y4, y5⟩ := HY2.out.six
  clear hA2 hb2 HV1 HB1 HE HZ1 z0 z1 z2 z3 z4 z5
  go_wp2_with fail
  obtain ⟨W2, hW2⟩ : ∃ W2, W2 = w2.alloc (.cells #[.int .i64 x.kind, .string ⟨x.box.toArray⟩, .int .i64 x.uid, .int .i64 x.flags, .string ⟨x.to.toArray⟩, .string ⟨x.text.toArray⟩] 31) := ⟨_, rfl⟩
  rw [← hW2] at HV2 HB2 HY2 ⊢
  have hz2 : w2.heap.size < W2.heap.size := by rw [hW2]; simp
  clear hW2 c0 c1' y0 y1 y2 y3 y4 y5
  obtain ⟨ib, hib⟩ : ∃ ib, ib = idx (findB s.boxes x.box) := ⟨_, rfl⟩
  obtain ⟨it, hit⟩ : ∃ it, it = idx (findB s.boxes x.to) := ⟨_, rfl⟩
  have HKF : Hid (∀ w', SAt cBox w' (fun b => b ≠ w1.heap.size) (.slice G1 s.boxes.length c1) s.boxes → Calls Tryd.prog 15 #[.agg #[.slice G1 s.boxes.length c1, .slice G2 s.spool.length c2], .string ⟨x.box.toArray⟩] w' fun e w'' => e = .returned (.int .i64 ib) ∧ Below w'.heap.size w' w'') := by
    subst hib; intro w' h
    exact kfind_any _ _ _ _ _ _ _ _ h (by omega)
  have HKT : Hid (∀ w', SAt cBox w' (fun b => b ≠ w1.heap.size) (.slice G1 s.boxes.length c1) s.boxes → Calls Tryd.prog 15 #[.agg #[.slice G1 s.boxes.length c1, .slice G2 s.spool.length c2], .string ⟨x.to.toArray⟩] w' fun e w'' => e = .returned (.int .i64 it) ∧ Below w'.heap.size w' w'') := by
    subst hit; intro w' h
    exact kfind_any _ _ _ _ _ _ _ _ h (by omega)
  have HC : Hid ((ib = -1 ∧ allS s [x] = (s, 7)) ∨ ∃ (i : Nat) (b : Bx), ib = i ∧ findB s.boxes x.box = some i ∧ s.boxes[i]? = some b ∧ ((uidIdx b.mails x.uid = none ∧ allS s [x] = (s, 7)) ∨ ∃ (k : Nat) (m' : Mail), uidIdx b.mails x.uid = some k ∧ b.mails[k]? = some m' ∧
      ((it = -1 ∧ allS s [x] = (s, 7)) ∨ ∃ jt : Nat, it = jt ∧ ∃ y : Ent, y = ⟨2, m'.flags, 0, x.to, [], m'.text⟩ ∧ formV y = 0 ∧ ((allS s [x] = (s, 5) ∧ allS s [y] = (s, 5)) ∨ ∃ T, allS s [x] = (T, 0) ∧ allS s [y] = (T, 0) ∧ GoodS T)))) := by
    cases hf : findB s.boxes x.box with
    | none => exact .inl ⟨by rw [hib, hf]; rfl, none_box (by have := HK.out; omega) (by have := HK.out; omega) HF.out hf⟩
    | some i =>
      obtain ⟨hi, -⟩ := findB_some hf
      refine .inr ⟨i, s.boxes[i], by rw [hib, hf]; rfl, rfl, List.getElem?_eq_getElem hi, ?_⟩
      have hbi : s.boxes[i]? = some s.boxes[i] := List.getElem?_eq_getElem hi
      cases hu : uidIdx s.boxes[i].mails x.uid with
      | none => exact .inl ⟨rfl, none_mail (.inr HK.out) HF.out hf hbi hu⟩
      | some k =>
        obtain ⟨m', h1, _⟩ := uidIdx_some hu
        refine .inr ⟨k, m', rfl, h1, ?_⟩
        cases ht : findB s.boxes x.to with
        | none => exact .inl ⟨by rw [hit, ht]; rfl, copy_none HK.out HF.out hf hbi hu h1 ht⟩
        | some jt =>
          obtain ⟨hfl, htx⟩ := mail_bounds (HG.out.ok _ (List.mem_of_getElem? hbi)).2.2.2.2 h1
          have hy : formV ⟨2, m'.flags, 0, x.to, [], m'.text⟩ = 0 := append_form (copy_to HK.out HF.out) hfl htx
          have he := copy_append (y := ⟨2, m'.flags, 0, x.to, [], m'.text⟩) HK.out HF.out hf hbi hu h1 ht hy rfl rfl rfl rfl
          refine .inr ⟨jt, by rw [hit, ht]; rfl, _, rfl, hy, ?_⟩
          rw [he]
          cases ha : addS s jt m'.flags m'.text with
          | none => 
            have := one_err hy (t := s) (append_no rfl ht ha) (by decide)
            exact .inl ⟨this, this⟩
          | some T =>
            have := one_ok hy (t := T) (append_yes rfl ht ha)
            exact .inr ⟨T, this, this, addS_good HG.out hfl htx ha⟩
  clear hib hit
  rcases HC.out with ⟨rfl, hr⟩ | ⟨i, b, rfl, hf, hbi, hcase⟩
  · have HR := Lib.hid hr
    clear hr HC
    refine (apply_err HR.out (by decide) _ _ _ m _ HV2.out.2.1 HV2.out.2.2 HG.out HF.out (moved HM.out HB2.out (Nat.le_refl _))).mono ?_
    rintro e wt ⟨rfl, hb3⟩
    have hA3 := bt hb3 (ba (Below.refl wt.heap.size wt) (.cells #[.slice none 0 0, .slice none 0 0] 28))
    have HT3 : Hid (VarS (wt.alloc (.cells #[.slice none 0 0, .slice none 0 0] 28)) wt.heap.size (.slice none 0 0) (.slice none 0 0) ⟨[], []⟩) := VarS.new (F := fun _ => True) (SAt.nil _ _ _) (SAt.nil _ _ _) _
    have HV3 := Lib.hid (HV2.out.down hA3); have HY3 := Lib.hid (HY2.out.down hA3); have HB3 := Lib.hid (bt HB2.out hA3)
    clear hb3 hA3 HV2 HY2 HB2
    obtain ⟨c0, c1', -, -⟩ := HV3.out.1.two
    obtain ⟨-, y1, -, -, -, -⟩ := HY3.out.six
    go_wp2_with fail
    refine (HKF.out _ HV3.out.2.1).mono ?_
    rintro e w3 ⟨rfl, hb4⟩
    have HB3b := Lib.hid (bt HB3.out hb4); have HV3b := Lib.hid (HV3.out.down hb4); have HY3b := Lib.hid (HY3.out.down hb4); have HT3b := Lib.hid (HT3.out.down hb4)
    have hz3b := hb4.size
    clear c0 c1' y1 hb4 HV3 HY3 HB3 HT3
    obtain ⟨c0, c1', -, -⟩ := HV3b.out.1.two
    obtain ⟨-, -, -, -, y4, -⟩ := HY3b.out.six
    go_wp2_with fail
    refine (HKT.out _ HV3b.out.2.1).mono ?_
    rintro e w4 ⟨rfl, hb4⟩
    have HB4 := Lib.hid (bt HB3b.out hb4); have HV4 := Lib.hid (HV3b.out.down hb4); have HY4 := Lib.hid (HY3b.out.down hb4); have HT4 := Lib.hid (HT3b.out.down hb4)
    have hz4 := hb4.size
    clear c0 c1' y4 hb4 HV3b HY3b HB3b HT3b
    go_wp2_with fail
    go_loopw [11, 12] (fun v i' wr => v = .int .i64 (-1) ∧ i' = .int .i64 0 ∧ wr = w4) (fun _ _ _ => 0)
    case atStart => exact ⟨rfl, rfl, rfl⟩
    case round =>
      obtain ⟨rfl, rfl, rfl⟩ := hrel
      go_wp2_with fail
      go_ret
      exact ⟨rfl, HB4.out⟩
  · obtain ⟨hil, rfl⟩ := List.getElem?_eq_some_iff.1 hbi
    obtain ⟨b, hb⟩ : ∃ b, b = s.boxes[i] := ⟨_, rfl⟩
    rw [← hb] at hcase hbi
    have HBI : Hid (∀ h, s.boxes[i]'h = b) := fun _ => hb.symm
    have HIL := Lib.hid hil
    have HMO := Lib.hid (HG.out.ok b (List.mem_of_getElem? hbi)).2.2.2.2
    have hbm := (HG.out.ok b (List.mem_of_getElem? hbi)).2.2.2.1
    clear hf hil HC hb
    rcases hcase with ⟨hu, hr⟩ | ⟨k, m', hu, hm', hcase⟩
    · have HR := Lib.hid hr; have HU := Lib.hid hu
      clear hr hu hbi
      refine (apply_err HR.out (by decide) _ _ _ m _ HV2.out.2.1 HV2.out.2.2 HG.out HF.out (moved HM.out HB2.out (Nat.le_refl _))).mono ?_
      rintro e wt ⟨rfl, hb3⟩
      have hA3 := bt hb3 (ba (Below.refl wt.heap.size wt) (.cells #[.slice none 0 0, .slice none 0 0] 28))
      have HT3 : Hid (VarS (wt.alloc (.cells #[.slice none 0 0, .slice none 0 0] 28)) wt.heap.size (.slice none 0 0) (.slice none 0 0) ⟨[], []⟩) := VarS.new (F := fun _ => True) (SAt.nil _ _ _) (SAt.nil _ _ _) _
      have HV3 := Lib.hid (HV2.out.down hA3); have HY3 := Lib.hid (HY2.out.down hA3); have HB3 := Lib.hid (bt HB2.out hA3)
      clear hb3 hA3 HV2 HY2 HB2
      obtain ⟨c0, c1', -, -⟩ := HV3.out.1.two
      obtain ⟨-, y1, -, -, -, -⟩ := HY3.out.six
      go_wp2_with fail
      refine (HKF.out _ HV3.out.2.1).mono ?_
      rintro e w3 ⟨rfl, hb4⟩
      have HB3b := Lib.hid (bt HB3.out hb4); have HV3b := Lib.hid (HV3.out.down hb4); have HY3b := Lib.hid (HY3.out.down hb4); have HT3b := Lib.hid (HT3.out.down hb4)
      have hz3b := hb4.size
      clear c0 c1' y1 hb4 HV3 HY3 HB3 HT3
      obtain ⟨c0, c1', -, -⟩ := HV3b.out.1.two
      obtain ⟨-, -, -, -, y4, -⟩ := HY3b.out.six
      go_wp2_with fail
      refine (HKT.out _ HV3b.out.2.1).mono ?_
      rintro e w4 ⟨rfl, hb4⟩
      have HB4 := Lib.hid (bt HB3b.out hb4); have HV4 := Lib.hid (HV3b.out.down hb4); have HY4 := Lib.hid (HY3b.out.down hb4); have HT4 := Lib.hid (HT3b.out.down hb4)
      have hz4 := hb4.size
      clear c0 c1' y4 hb4 HV3b HY3b HB3b HT3b
      go_wp2_with fail
      go_loopw [11, 12] (fun v i' wr => ∃ j : Nat, j ≤ b.mails.length ∧ i' = .int .i64 j ∧ v = .int .i64 (idx (uidIdx (b.mails.take j) x.uid)) ∧ Below w4.heap.size w4 wr) (fun _ i' _ => b.mails.length - (intOf i').toNat)
      case atStart => exact ⟨0, Nat.zero_le _, rfl, rfl, Below.refl _ _⟩
      case round =>
        obtain ⟨j, hj, rfl, rfl, hb⟩ := hrel
        obtain ⟨c0, c1', -, -⟩ := (HV4.out.1.down hb).two
        obtain ⟨-, -, y2, -, -, -⟩ := (HY4.out.down hb).six
        obtain ⟨g, off, gm, gc, rfl, hF, hg, hgc, hgm, p0, p1, p2⟩ := box_get HV4.out.2.1 hb i HIL.out
        rw [HBI.out HIL.out] at hgc hgm p0 p1 p2
        have hil := HIL.out
        by_cases hlt : j < b.mails.length
        · obtain ⟨g2, off2, rfl, -, hg2, q0, q1, q2⟩ := mail_get hgm (Below.refl _ _) j hlt
          have hst := uid_step (u := x.uid) HMO.out j hlt
          generalize b.mails[j] = mm at q0 q1 q2 hst
          obtain ⟨va, hp⟩ : ∃ va, va = idx (uidIdx (b.mails.take j) x.uid) := ⟨_, rfl⟩
          rw [← hp]
          have HPV := Lib.hid hp
          clear hp hgm
          cases he : (((mm.uid : Nat) : Int) == (x.uid : Int)) with
          | true =>
            have hue : mm.uid = x.uid := by have := eq_of_beq he; omega
            rw [if_pos hue] at hst
            have HST := Lib.hid hst
            clear hst hue
            go_wp2_with fail
            go_quiet (fail)
            have HBD := Lib.hid (bt hb (below_drewN wr nq))
            clear hb
            go_wp2_with fail
            go_roundw
            case rel => exact ⟨j + 1, hlt, by go_num, by rw [HST.out]; rfl, HBD.out⟩
            case measure => simp [intOf]; omega
          | false =>
            have hue : mm.uid ≠ x.uid := by have := ne_of_beq_false he; omega
            rw [if_neg hue] at hst
            have HST := Lib.hid hst
            clear hst hue
            go_wp2_with fail
            go_quiet (fail)
            have HBD := Lib.hid (bt hb (below_drewN wr nq))
            clear hb
            go_wp2_with fail
            go_roundw
            case rel => exact ⟨j + 1, hlt, by go_num, by rw [HST.out, HPV.out], HBD.out⟩
            case measure => simp [intOf]; omega
        · obtain rfl : j = b.mails.length := by omega
          rw [List.take_length, HU.out]
          rw [show idx none = -1 from rfl]
          have HBE := Lib.hid (bt HB4.out hb)
          clear hb
          go_wp2_with fail
          go_ret
          exact ⟨rfl, HBE.out⟩
    · have HM' := Lib.hid hm'
      have HU := Lib.hid hu
      rcases hcase with ⟨rfl, hr⟩ | ⟨jt, rfl, y, hy, hfy, hcase⟩
      · have HR := Lib.hid hr
        clear hr hu hbi hm'
        refine (apply_err HR.out (by decide) _ _ _ m _ HV2.out.2.1 HV2.out.2.2 HG.out HF.out (moved HM.out HB2.out (Nat.le_refl _))).mono ?_
        rintro e wt ⟨rfl, hb3⟩
        have hA3 := bt hb3 (ba (Below.refl wt.heap.size wt) (.cells #[.slice none 0 0, .slice none 0 0] 28))
        have HT3 : Hid (VarS (wt.alloc (.cells #[.slice none 0 0, .slice none 0 0] 28)) wt.heap.size (.slice none 0 0) (.slice none 0 0) ⟨[], []⟩) := VarS.new (F := fun _ => True) (SAt.nil _ _ _) (SAt.nil _ _ _) _
        have HV3 := Lib.hid (HV2.out.down hA3); have HY3 := Lib.hid (HY2.out.down hA3); have HB3 := Lib.hid (bt HB2.out hA3)
        clear hb3 hA3 HV2 HY2 HB2
        obtain ⟨c0, c1', -, -⟩ := HV3.out.1.two
        obtain ⟨-, y1, -, -, -, -⟩ := HY3.out.six
        go_wp2_with fail
        refine (HKF.out _ HV3.out.2.1).mono ?_
        rintro e w3 ⟨rfl, hb4⟩
        have HB3b := Lib.hid (bt HB3.out hb4); have HV3b := Lib.hid (HV3.out.down hb4); have HY3b := Lib.hid (HY3.out.down hb4); have HT3b := Lib.hid (HT3.out.down hb4)
        have hz3b := hb4.size
        clear c0 c1' y1 hb4 HV3 HY3 HB3 HT3
        obtain ⟨c0, c1', -, -⟩ := HV3b.out.1.two
        obtain ⟨-, -, -, -, y4, -⟩ := HY3b.out.six
        go_wp2_with fail
        refine (HKT.out _ HV3b.out.2.1).mono ?_
        rintro e w4 ⟨rfl, hb4⟩
        have HB4 := Lib.hid (bt HB3b.out hb4); have HV4 := Lib.hid (HV3b.out.down hb4); have HY4 := Lib.hid (HY3b.out.down hb4); have HT4 := Lib.hid (HT3b.out.down hb4)
        have hz4 := hb4.size
        clear c0 c1' y4 hb4 HV3b HY3b HB3b HT3b
        go_wp2_with fail
        go_loopw [11, 12] (fun v i' wr => ∃ j : Nat, j ≤ b.mails.length ∧ i' = .int .i64 j ∧ v = .int .i64 (idx (uidIdx (b.mails.take j) x.uid)) ∧ Below w4.heap.size w4 wr) (fun _ i' _ => b.mails.length - (intOf i').toNat)
        case atStart => exact ⟨0, Nat.zero_le _, rfl, rfl, Below.refl _ _⟩
        case round =>
          obtain ⟨j, hj, rfl, rfl, hb⟩ := hrel
          obtain ⟨c0, c1', -, -⟩ := (HV4.out.1.down hb).two
          obtain ⟨-, -, y2, -, -, -⟩ := (HY4.out.down hb).six
          obtain ⟨g, off, gm, gc, rfl, hF, hg, hgc, hgm, p0, p1, p2⟩ := box_get HV4.out.2.1 hb i HIL.out
          rw [HBI.out HIL.out] at hgc hgm p0 p1 p2
          have hil := HIL.out
          by_cases hlt : j < b.mails.length
          · obtain ⟨g2, off2, rfl, -, hg2, q0, q1, q2⟩ := mail_get hgm (Below.refl _ _) j hlt
            have hst := uid_step (u := x.uid) HMO.out j hlt
            generalize b.mails[j] = mm at q0 q1 q2 hst
            obtain ⟨va, hp⟩ : ∃ va, va = idx (uidIdx (b.mails.take j) x.uid) := ⟨_, rfl⟩
            rw [← hp]
            have HPV := Lib.hid hp
            clear hp hgm
            cases he : (((mm.uid : Nat) : Int) == (x.uid : Int)) with
            | true =>
              have hue : mm.uid = x.uid := by have := eq_of_beq he; omega
              rw [if_pos hue] at hst
              have HST := Lib.hid hst
              clear hst hue
              go_wp2_with fail
              go_quiet (fail)
              have HBD := Lib.hid (bt hb (below_drewN wr nq))
              clear hb
              go_wp2_with fail
              go_roundw
              case rel => exact ⟨j + 1, hlt, by go_num, by rw [HST.out]; rfl, HBD.out⟩
              case measure => simp [intOf]; omega
            | false =>
              have hue : mm.uid ≠ x.uid := by have := ne_of_beq_false he; omega
              rw [if_neg hue] at hst
              have HST := Lib.hid hst
              clear hst hue
              go_wp2_with fail
              go_quiet (fail)
              have HBD := Lib.hid (bt hb (below_drewN wr nq))
              clear hb
              go_wp2_with fail
              go_roundw
              case rel => exact ⟨j + 1, hlt, by go_num, by rw [HST.out, HPV.out], HBD.out⟩
              case measure => simp [intOf]; omega
          · obtain rfl : j = b.mails.length := by omega
            rw [List.take_length, HU.out]
            rw [show idx (some k) = (k : Int) from rfl]
            have HBE := Lib.hid (bt HB4.out hb)
            clear hb
            go_wp2_with fail
            go_ret
            exact ⟨rfl, HBE.out⟩
      · have HFY := Lib.hid hfy; have HYE := Lib.hid hy
        have hkl : k < b.mails.length := (List.getElem?_eq_some_iff.1 hm').1
        have HKL : Hid (∀ h, b.mails[k]'h = m') := fun h => (List.getElem?_eq_some_iff.1 hm').2
        clear hu hbi hm' hfy hy
        rcases hcase with ⟨hr, hr2⟩ | ⟨T, hr, hr2, hgT⟩
        · have HR := Lib.hid hr; have HR2 := Lib.hid hr2
          clear hr hr2
          refine (apply_err HR.out (by decide) _ _ _ m _ HV2.out.2.1 HV2.out.2.2 HG.out HF.out (moved HM.out HB2.out (Nat.le_refl _))).mono ?_
          rintro e wt ⟨rfl, hb3⟩
          have hA3 := bt hb3 (ba (Below.refl wt.heap.size wt) (.cells #[.slice none 0 0, .slice none 0 0] 28))
          have HT3 : Hid (VarS (wt.alloc (.cells #[.slice none 0 0, .slice none 0 0] 28)) wt.heap.size (.slice none 0 0) (.slice none 0 0) ⟨[], []⟩) := VarS.new (F := fun _ => True) (SAt.nil _ _ _) (SAt.nil _ _ _) _
          have HV3 := Lib.hid (HV2.out.down hA3); have HY3 := Lib.hid (HY2.out.down hA3); have HB3 := Lib.hid (bt HB2.out hA3)
          clear hb3 hA3 HV2 HY2 HB2
          obtain ⟨c0, c1', -, -⟩ := HV3.out.1.two
          obtain ⟨-, y1, -, -, -, -⟩ := HY3.out.six
          go_wp2_with fail
          refine (HKF.out _ HV3.out.2.1).mono ?_
          rintro e w3 ⟨rfl, hb4⟩
          have HB3b := Lib.hid (bt HB3.out hb4); have HV3b := Lib.hid (HV3.out.down hb4); have HY3b := Lib.hid (HY3.out.down hb4); have HT3b := Lib.hid (HT3.out.down hb4)
          have hz3b := hb4.size
          clear c0 c1' y1 hb4 HV3 HY3 HB3 HT3
          obtain ⟨c0, c1', -, -⟩ := HV3b.out.1.two
          obtain ⟨-, -, -, -, y4, -⟩ := HY3b.out.six
          go_wp2_with fail
          refine (HKT.out _ HV3b.out.2.1).mono ?_
          rintro e w4 ⟨rfl, hb4⟩
          have HB4 := Lib.hid (bt HB3b.out hb4); have HV4 := Lib.hid (HV3b.out.down hb4); have HY4 := Lib.hid (HY3b.out.down hb4); have HT4 := Lib.hid (HT3b.out.down hb4)
          have hz4 := hb4.size
          clear c0 c1' y4 hb4 HV3b HY3b HB3b HT3b
          go_wp2_with fail
          go_loopw [11, 12] (fun v i' wr => ∃ j : Nat, j ≤ b.mails.length ∧ i' = .int .i64 j ∧ v = .int .i64 (idx (uidIdx (b.mails.take j) x.uid)) ∧ Below w4.heap.size w4 wr) (fun _ i' _ => b.mails.length - (intOf i').toNat)
          case atStart => exact ⟨0, Nat.zero_le _, rfl, rfl, Below.refl _ _⟩
          case round =>
            obtain ⟨j, hj, rfl, rfl, hb⟩ := hrel
            obtain ⟨c0, c1', -, -⟩ := (HV4.out.1.down hb).two
            obtain ⟨-, -, y2, -, -, -⟩ := (HY4.out.down hb).six
            obtain ⟨g, off, gm, gc, rfl, hF, hg, hgc, hgm, p0, p1, p2⟩ := box_get HV4.out.2.1 hb i HIL.out
            rw [HBI.out HIL.out] at hgc hgm p0 p1 p2
            have hil := HIL.out
            by_cases hlt : j < b.mails.length
            · obtain ⟨g2, off2, rfl, -, hg2, q0, q1, q2⟩ := mail_get hgm (Below.refl _ _) j hlt
              have hst := uid_step (u := x.uid) HMO.out j hlt
              generalize b.mails[j] = mm at q0 q1 q2 hst
              obtain ⟨va, hp⟩ : ∃ va, va = idx (uidIdx (b.mails.take j) x.uid) := ⟨_, rfl⟩
              rw [← hp]
              have HPV := Lib.hid hp
              clear hp hgm
              cases he : (((mm.uid : Nat) : Int) == (x.uid : Int)) with
              | true =>
                have hue : mm.uid = x.uid := by have := eq_of_beq he; omega
                rw [if_pos hue] at hst
                have HST := Lib.hid hst
                clear hst hue
                go_wp2_with fail
                go_quiet (fail)
                have HBD := Lib.hid (bt hb (below_drewN wr nq))
                clear hb
                go_wp2_with fail
                go_roundw
                case rel => exact ⟨j + 1, hlt, by go_num, by rw [HST.out]; rfl, HBD.out⟩
                case measure => simp [intOf]; omega
              | false =>
                have hue : mm.uid ≠ x.uid := by have := ne_of_beq_false he; omega
                rw [if_neg hue] at hst
                have HST := Lib.hid hst
                clear hst hue
                go_wp2_with fail
                go_quiet (fail)
                have HBD := Lib.hid (bt hb (below_drewN wr nq))
                clear hb
                go_wp2_with fail
                go_roundw
                case rel => exact ⟨j + 1, hlt, by go_num, by rw [HST.out, HPV.out], HBD.out⟩
                case measure => simp [intOf]; omega
            · obtain rfl : j = b.mails.length := by omega
              rw [List.take_length, HU.out]
              rw [show idx (some k) = (k : Int) from rfl]
              obtain ⟨g2, off2, rfl, -, hg2, q0, q1, q2⟩ := mail_get hgm (Below.refl _ _) k hkl
              rw [HKL.out hkl] at q0 q1 q2
              have hA5 := ba (Below.refl wr.heap.size wr) (.cells #[.int .i64 m'.uid, .int .i64 m'.flags, .string ⟨m'.text.toArray⟩] 41)
              have HN5 := Lib.hid (Has.alloc wr [.int .i64 m'.uid, .int .i64 m'.flags, .string ⟨m'.text.toArray⟩] 41)
              have HV5 := Lib.hid ((HV4.out.down hb).down hA5); have HY5 := Lib.hid ((HY4.out.down hb).down hA5); have HT5 := Lib.hid ((HT4.out.down hb).down hA5); have HB5 := Lib.hid (bt (bt HB4.out hb) hA5)
              obtain ⟨a0, a1, -, -⟩ := HV5.out.1.two
              obtain ⟨-, -, -, -, y4, -⟩ := HY5.out.six
              have n1 := HN5.out.1 1 _ rfl
              have n2 := HN5.out.1 2 _ rfl
              clear hb HB4 HV4 HY4 HT4 hA5 hgm
              go_wp2_with fail
              obtain ⟨W6, hW6⟩ : ∃ W6, W6 = wr.alloc (.cells #[.int .i64 m'.uid, .int .i64 m'.flags, .string ⟨m'.text.toArray⟩] 41) := ⟨_, rfl⟩
              rw [← hW6] at HB5 HV5 HT5 ⊢
              clear hW6 a0 a1 y4 n1 n2 c0 c1' y2 p0 p1 p2 q0 q1 q2 HN5 HY5
              have hy := HYE.out
              subst hy
              refine (apply_err HR2.out (by decide) _ _ _ m _ HV5.out.2.1 HV5.out.2.2 HG.out HFY.out (moved HM.out HB5.out (Nat.le_refl _))).mono ?_
              rintro e w7 ⟨rfl, hb7⟩
              have hA7 := bt hb7 (ba (Below.refl w7.heap.size w7) (.cells #[.slice none 0 0, .slice none 0 0] 28))
              have HU7 : Hid (VarS (w7.alloc (.cells #[.slice none 0 0, .slice none 0 0] 28)) w7.heap.size (.slice none 0 0) (.slice none 0 0) ⟨[], []⟩) := VarS.new (F := fun _ => True) (SAt.nil _ _ _) (SAt.nil _ _ _) _
              have HT7 := Lib.hid (HT5.out.down hA7); have HB7 := Lib.hid (bt HB5.out hA7)
              clear hb7 hA7 HV5 HT5 HB5
              obtain ⟨t0, t1, -, -⟩ := HT7.out.1.two
              obtain ⟨u0, u1', -, -⟩ := HU7.out.1.two
              go_wp2_with fail
              refine (same_any ⟨[], []⟩ _ _ _ _ _ _ _ HT7.out.2.1 HT7.out.2.2 HU7.out.2.1 HU7.out.2.2 (by simp) (by simp) (by simp)).mono ?_
              rintro e w8 ⟨rfl, hb8⟩
              have HB8 := Lib.hid (bt HB7.out hb8)
              clear hb8 t0 t1 u0 u1'
              go_wp2_with fail
              go_ret
              exact ⟨rfl, HB8.out⟩
        · have HR := Lib.hid hr; have HR2 := Lib.hid hr2; have HGT := Lib.hid hgT; have hTb := hgT.boxes; have hTs := hgT.spool
          clear hr hr2 hgT
          refine (apply_ok HR.out _ _ _ m _ HV2.out.2.1 HV2.out.2.2 HG.out HF.out (moved HM.out HB2.out (Nat.le_refl _))).mono ?_
          rintro e wt ⟨⟨E1, e1, E2, e2, rfl, hv⟩, hb3⟩
          have hA3 := bt hb3 (ba (Below.refl wt.heap.size wt) (.cells #[.slice E1 T.boxes.length e1, .slice E2 T.spool.length e2] 28))
          obtain ⟨k1, k2⟩ := hv.sat (F := fun _ => True) (fun _ _ => trivial)
          have HT3 := Lib.hid (VarS.new k1 k2 28)
          have HV3 := Lib.hid (HV2.out.down hA3); have HY3 := Lib.hid (HY2.out.down hA3); have HB3 := Lib.hid (bt HB2.out hA3)
          clear hb3 hA3 HV2 HY2 HB2 hv k1 k2
          obtain ⟨c0, c1', -, -⟩ := HV3.out.1.two
          obtain ⟨-, y1, -, -, -, -⟩ := HY3.out.six
          go_wp2_with fail
          refine (HKF.out _ HV3.out.2.1).mono ?_
          rintro e w3 ⟨rfl, hb4⟩
          have HB3b := Lib.hid (bt HB3.out hb4); have HV3b := Lib.hid (HV3.out.down hb4); have HY3b := Lib.hid (HY3.out.down hb4); have HT3b := Lib.hid (HT3.out.down hb4)
          have hz3b := hb4.size
          clear c0 c1' y1 hb4 HV3 HY3 HB3 HT3
          obtain ⟨c0, c1', -, -⟩ := HV3b.out.1.two
          obtain ⟨-, -, -, -, y4, -⟩ := HY3b.out.six
          go_wp2_with fail
          refine (HKT.out _ HV3b.out.2.1).mono ?_
          rintro e w4 ⟨rfl, hb4⟩
          have HB4 := Lib.hid (bt HB3b.out hb4); have HV4 := Lib.hid (HV3b.out.down hb4); have HY4 := Lib.hid (HY3b.out.down hb4); have HT4 := Lib.hid (HT3b.out.down hb4)
          have hz4 := hb4.size
          clear c0 c1' y4 hb4 HV3b HY3b HB3b HT3b
          go_wp2_with fail
          go_loopw [11, 12] (fun v i' wr => ∃ j : Nat, j ≤ b.mails.length ∧ i' = .int .i64 j ∧ v = .int .i64 (idx (uidIdx (b.mails.take j) x.uid)) ∧ Below w4.heap.size w4 wr) (fun _ i' _ => b.mails.length - (intOf i').toNat)
          case atStart => exact ⟨0, Nat.zero_le _, rfl, rfl, Below.refl _ _⟩
          case round =>
            obtain ⟨j, hj, rfl, rfl, hb⟩ := hrel
            obtain ⟨c0, c1', -, -⟩ := (HV4.out.1.down hb).two
            obtain ⟨-, -, y2, -, -, -⟩ := (HY4.out.down hb).six
            obtain ⟨g, off, gm, gc, rfl, hF, hg, hgc, hgm, p0, p1, p2⟩ := box_get HV4.out.2.1 hb i HIL.out
            rw [HBI.out HIL.out] at hgc hgm p0 p1 p2
            have hil := HIL.out
            by_cases hlt : j < b.mails.length
            · obtain ⟨g2, off2, rfl, -, hg2, q0, q1, q2⟩ := mail_get hgm (Below.refl _ _) j hlt
              have hst := uid_step (u := x.uid) HMO.out j hlt
              generalize b.mails[j] = mm at q0 q1 q2 hst
              obtain ⟨va, hp⟩ : ∃ va, va = idx (uidIdx (b.mails.take j) x.uid) := ⟨_, rfl⟩
              rw [← hp]
              have HPV := Lib.hid hp
              clear hp hgm
              cases he : (((mm.uid : Nat) : Int) == (x.uid : Int)) with
              | true =>
                have hue : mm.uid = x.uid := by have := eq_of_beq he; omega
                rw [if_pos hue] at hst
                have HST := Lib.hid hst
                clear hst hue
                go_wp2_with fail
                go_quiet (fail)
                have HBD := Lib.hid (bt hb (below_drewN wr nq))
                clear hb
                go_wp2_with fail
                go_roundw
                case rel => exact ⟨j + 1, hlt, by go_num, by rw [HST.out]; rfl, HBD.out⟩
                case measure => simp [intOf]; omega
              | false =>
                have hue : mm.uid ≠ x.uid := by have := ne_of_beq_false he; omega
                rw [if_neg hue] at hst
                have HST := Lib.hid hst
                clear hst hue
                go_wp2_with fail
                go_quiet (fail)
                have HBD := Lib.hid (bt hb (below_drewN wr nq))
                clear hb
                go_wp2_with fail
                go_roundw
                case rel => exact ⟨j + 1, hlt, by go_num, by rw [HST.out, HPV.out], HBD.out⟩
                case measure => simp [intOf]; omega
            · obtain rfl : j = b.mails.length := by omega
              rw [List.take_length, HU.out]
              rw [show idx (some k) = (k : Int) from rfl]
              obtain ⟨g2, off2, rfl, -, hg2, q0, q1, q2⟩ := mail_get hgm (Below.refl _ _) k hkl
              rw [HKL.out hkl] at q0 q1 q2
              have hA5 := ba (Below.refl wr.heap.size wr) (.cells #[.int .i64 m'.uid, .int .i64 m'.flags, .string ⟨m'.text.toArray⟩] 41)
              have HN5 := Lib.hid (Has.alloc wr [.int .i64 m'.uid, .int .i64 m'.flags, .string ⟨m'.text.toArray⟩] 41)
              have HV5 := Lib.hid ((HV4.out.down hb).down hA5); have HY5 := Lib.hid ((HY4.out.down hb).down hA5); have HT5 := Lib.hid ((HT4.out.down hb).down hA5); have HB5 := Lib.hid (bt (bt HB4.out hb) hA5)
              obtain ⟨a0, a1, -, -⟩ := HV5.out.1.two
              obtain ⟨-, -, -, -, y4, -⟩ := HY5.out.six
              have n1 := HN5.out.1 1 _ rfl
              have n2 := HN5.out.1 2 _ rfl
              clear hb HB4 HV4 HY4 HT4 hA5 hgm
              go_wp2_with fail
              obtain ⟨W6, hW6⟩ : ∃ W6, W6 = wr.alloc (.cells #[.int .i64 m'.uid, .int .i64 m'.flags, .string ⟨m'.text.toArray⟩] 41) := ⟨_, rfl⟩
              rw [← hW6] at HB5 HV5 HT5 ⊢
              clear hW6 a0 a1 y4 n1 n2 c0 c1' y2 p0 p1 p2 q0 q1 q2 HN5 HY5
              have hy := HYE.out
              subst hy
              refine (apply_ok HR2.out _ _ _ m _ HV5.out.2.1 HV5.out.2.2 HG.out HFY.out (moved HM.out HB5.out (Nat.le_refl _))).mono ?_
              rintro e w7 ⟨⟨U1, u1, U2, u2, rfl, hv⟩, hb7⟩
              have hA7 := bt hb7 (ba (Below.refl w7.heap.size w7) (.cells #[.slice U1 T.boxes.length u1, .slice U2 T.spool.length u2] 28))
              obtain ⟨k1, k2⟩ := hv.sat (F := fun _ => True) (fun _ _ => trivial)
              have HU7 := Lib.hid (VarS.new k1 k2 28)
              have HT7 := Lib.hid (HT5.out.down hA7); have HB7 := Lib.hid (bt HB5.out hA7)
              clear hb7 hA7 HV5 HT5 HB5 hv k1 k2
              obtain ⟨t0, t1, -, -⟩ := HT7.out.1.two
              obtain ⟨u0, u1', -, -⟩ := HU7.out.1.two
              go_wp2_with fail
              refine (same_any T _ _ _ _ _ _ _ HT7.out.2.1 HT7.out.2.2 HU7.out.2.1 HU7.out.2.2 (by omega) (by omega) (good_mails HGT.out)).mono ?_
              rintro e w8 ⟨rfl, hb8⟩
              have HB8 := Lib.hid (bt HB7.out hb8)
              clear hb8 t0 t1 u0 u1'
              go_wp2_with fail
              go_ret
              exact ⟨rfl, HB8.out⟩
end Go.Proofs.YthllhakgcnfmcaaDoor
