/-
  DERIVED. FlagOnly: the walk.
-/
import Derived.Test.YthllhakgcnfmcaaDoorBoxUids
namespace Go.Proofs.YthllhakgcnfmcaaDoor
open Go.RowKit

set_option maxHeartbeats 8000000 in
set_option maxRecDepth 20000 in
theorem flagOnly_walk (a : Option Addr) (cap : Nat) (cs : List Raw) (c : Raw) (m : Int) (w : World) (h : RawsAt w a cs) (hlen : cs.length ≤ 9223372036854775807) (hok : RawOK c) (hm : w.cell? ⟨0, 0, none⟩ = some (.int .i64 m)) :
    Calls Tryd.prog 10 #[.slice a cs.length cap, .agg #[.int .i64 c.kind, .int .i64 c.box, .int .i64 c.uid, .int .i64 c.flags, .int .i64 c.dest, .string c.text]] w fun e w' => e = .returned (.bool true) ∧ Below w.heap.size w w' := by
  have hA0 := ba (Below.refl w.heap.size w) (.cells #[.int .i64 c.kind, .int .i64 c.box, .int .i64 c.uid, .int .i64 c.flags, .int .i64 c.dest, .string c.text] 24)
  have HZ := Lib.hid (Has.alloc w [.int .i64 c.kind, .int .i64 c.box, .int .i64 c.uid, .int .i64 c.flags, .int .i64 c.dest, .string c.text] 24)
  have HS := Lib.hid (state_any a cap cs m _ (h.down hA0) hlen (moved hm hA0 (Nat.le_refl _)))
  have hg := stOf_good cs
  obtain ⟨s, hs⟩ : ∃ s, s = stOf cs := ⟨_, rfl⟩
  rw [← hs] at HS hg
  obtain ⟨x, hx⟩ : ∃ x, x = entOf ⟨2, c.box, c.uid, c.flags, 0, ⟨#[]⟩⟩ := ⟨_, rfl⟩
  have HE : Hid (∀ w', Calls Tryd.prog 13 #[.agg #[.int .i64 2, .int .i64 c.box, .int .i64 c.uid, .int .i64 c.flags, .int .i64 0, .string ⟨#[]⟩]] w' (EntPost x w')) := by
    rw [hx]; exact fun w' => entry_c ⟨2, c.box, c.uid, c.flags, 0, ⟨#[]⟩⟩ w' (raw_ok (i64k 2 (by decide)) hok.2.1 hok.2.2.1 hok.2.2.2.1 i64z (by decide))
  have hxf : formV x = 0 := by rw [hx]; exact entOf_form _
  have hxk : x.kind = 3 := by rw [hx]; rfl
  have HF := Lib.hid hxf; have HA0 := Lib.hid hA0
  have HG := Lib.hid hg; have HM := Lib.hid hm; have hsl := hg.spool; have hbl := hg.boxes
  have HK := Lib.hid hxk; have HSO := Lib.hid hs; have HXO := Lib.hid hx
  clear h hm hg hs hx hxf hxk hA0
  go_enter Tryd.func10, Tryd.ntmps10
  go_wp2_with fail
  refine HS.out.mono ?_
  rintro e w1 ⟨⟨G1, c1, G2, c2, rfl, h1, h2⟩, hb1⟩
  have HV1 := Lib.hid (VarS.new h1 h2 28)
  have hA1 := bt hb1 (ba (Below.refl w1.heap.size w1) (.cells #[.slice G1 s.boxes.length c1, .slice G2 s.spool.length c2] 28))
  have HB1 := Lib.hid (bt HA0.out hA1)
  have hz0 : w.heap.size ≤ w1.heap.size := by have := hb1.size; simp at this; omega
  have hzz : w.heap.size < w1.heap.size := by have := hb1.size; simp at this; omega
  have HZ1 := Lib.hid (HZ.out.down hA1)
  obtain ⟨z0, z1, z2, z3, z4, z5⟩ := HZ1.out.six
  clear h1 h2 hb1 hA1 HS HA0 HZ
  go_wp2_with fail
  refine (HE.out _).mono ?_
  rintro e w2 ⟨rfl, hb2⟩
  have hz1 : w1.heap.size < w2.heap.size := by have := hb2.size; simp at this; omega
  have hA2 := bt hb2 (ba (Below.refl w2.heap.size w2) (.cells #[.int .i64 x.kind, .string ⟨x.box.toArray⟩, .int .i64 x.uid, .int .i64 x.flags, .string ⟨x.to.toArray⟩, .string ⟨x.text.toArray⟩] 31))
  have HV2 := Lib.hid (HV1.out.down hA2); have HB2 := Lib.hid (bt HB1.out hA2)
  have HY2 := Lib.hid (Has.alloc w2 [.int .i64 x.kind, .string ⟨x.box.toArray⟩, .int .i64 x.uid, .int .i64 x.flags, .string ⟨x.to.toArray⟩, .string ⟨x.text.toArray⟩] 31)
  obtain ⟨c0, c1', -, -⟩ := HV2.out.1.two
  obtain ⟨y0, y1, y2, y3, y4, y5⟩ := HY2.out.six
  clear hA2 hb2 HV1 HB1 HE HZ1 z0 z1 z2 z3 z4 z5
  go_wp2_with fail
  obtain ⟨W2, hW2⟩ : ∃ W2, W2 = w2.alloc (.cells #[.int .i64 x.kind, .string ⟨x.box.toArray⟩, .int .i64 x.uid, .int .i64 x.flags, .string ⟨x.to.toArray⟩, .string ⟨x.text.toArray⟩] 31) := ⟨_, rfl⟩
  rw [← hW2] at HV2 HB2 HY2 ⊢
  have hz2 : w2.heap.size < W2.heap.size := by rw [hW2]; simp
  clear hW2 c0 c1' y0 y1 y2 y3 y4 y5
  have HKF : Hid (∀ k, idx (findB s.boxes x.box) = k → ∀ w', SAt cBox w' (fun b => b ≠ w1.heap.size) (.slice G1 s.boxes.length c1) s.boxes → Calls Tryd.prog 15 #[.agg #[.slice G1 s.boxes.length c1, .slice G2 s.spool.length c2], .string ⟨x.box.toArray⟩] w' fun e w'' => e = .returned (.int .i64 k) ∧ Below w'.heap.size w' w'') := by
    rintro k rfl w' h
    exact kfind_any _ _ _ _ _ _ _ _ h (by omega)
  have HC : Hid ((findB s.boxes x.box = none ∧ allS s [x] = (s, 7)) ∨ ∃ (i : Nat) (b : Bx), findB s.boxes x.box = some i ∧ s.boxes[i]? = some b ∧ ((uidIdx b.mails x.uid = none ∧ allS s [x] = (s, 7)) ∨ ∃ (k : Nat) (m' : Mail), uidIdx b.mails x.uid = some k ∧ b.mails[k]? = some m')) := by
    cases hf : findB s.boxes x.box with
    | none => exact .inl ⟨rfl, none_box (by have := HK.out; omega) (by have := HK.out; omega) HF.out hf⟩
    | some i =>
      obtain ⟨hi, -⟩ := findB_some hf
      refine .inr ⟨i, s.boxes[i], rfl, List.getElem?_eq_getElem hi, ?_⟩
      cases hu : uidIdx s.boxes[i].mails x.uid with
      | none => exact .inl ⟨rfl, none_mail (.inl HK.out) HF.out hf (List.getElem?_eq_getElem hi) hu⟩
      | some k => obtain ⟨m', h1, _⟩ := uidIdx_some hu; exact .inr ⟨k, m', rfl, h1⟩
  rcases HC.out with ⟨hf, hr⟩ | ⟨i, b, hf, hbi, hcase⟩
  · have HR := Lib.hid hr; have HI : Hid (idx (findB s.boxes x.box) = -1) := by unfold Hid; rw [hf]; rfl
    clear hf hr HC
    refine (apply_err HR.out (by decide) _ _ _ m _ HV2.out.2.1 HV2.out.2.2 HG.out HF.out (moved HM.out HB2.out (Nat.le_refl _))).mono ?_
    rintro e w3 ⟨rfl, hb3⟩
    have hA3 := bt hb3 (ba (Below.refl w3.heap.size w3) (.cells #[.slice none 0 0, .slice none 0 0] 28))
    have HV3 := Lib.hid (HV2.out.down hA3); have HY3 := Lib.hid (HY2.out.down hA3); have HB3 := Lib.hid (bt HB2.out hA3)
    clear hb3 hA3 HV2 HY2 HB2
    obtain ⟨c0, c1', -, -⟩ := HV3.out.1.two
    obtain ⟨-, y1, -, -, -, -⟩ := HY3.out.six
    go_wp2_with fail
    refine (HKF.out _ HI.out _ HV3.out.2.1).mono ?_
    rintro e w4 ⟨rfl, hb4⟩
    have HB4 := Lib.hid (bt HB3.out hb4); have HV4 := Lib.hid (HV3.out.down hb4); have HY4 := Lib.hid (HY3.out.down hb4)
    clear c0 c1' y1 hb4 HV3 HY3 HB3
    go_wp2_with fail
    go_loopw [10, 11] (fun v i' wr => v = .int .i64 (-1) ∧ i' = .int .i64 0 ∧ wr = w4) (fun _ _ _ => 0)
    case atStart => exact ⟨rfl, rfl, rfl⟩
    case round =>
      obtain ⟨rfl, rfl, rfl⟩ := hrel
      go_wp2_with fail
      go_ret
      exact ⟨rfl, HB4.out⟩
  · obtain ⟨hil, rfl⟩ := List.getElem?_eq_some_iff.1 hbi
    have HI : Hid (idx (findB s.boxes x.box) = i) := by unfold Hid; rw [hf]; rfl
    obtain ⟨b, hb⟩ : ∃ b, b = s.boxes[i] := ⟨_, rfl⟩
    rw [← hb] at hcase hbi
    have HBI : Hid (∀ h, s.boxes[i]'h = b) := fun _ => hb.symm
    have HIL := Lib.hid hil; have HFB := Lib.hid hf; have HBX := Lib.hid hbi
    have HMO := Lib.hid (HG.out.ok b (List.mem_of_getElem? hbi)).2.2.2.2
    have hbm := (HG.out.ok b (List.mem_of_getElem? hbi)).2.2.2.1
    clear hf hbi hil HC hb
    rcases hcase with ⟨hu, hr⟩ | ⟨k, m', hu, hm'⟩
    · have HR := Lib.hid hr; have HU := Lib.hid hu
      clear hr hu
      refine (apply_err HR.out (by decide) _ _ _ m _ HV2.out.2.1 HV2.out.2.2 HG.out HF.out (moved HM.out HB2.out (Nat.le_refl _))).mono ?_
      rintro e w3 ⟨rfl, hb3⟩
      have hA3 := bt hb3 (ba (Below.refl w3.heap.size w3) (.cells #[.slice none 0 0, .slice none 0 0] 28))
      have HV3 := Lib.hid (HV2.out.down hA3); have HY3 := Lib.hid (HY2.out.down hA3); have HB3 := Lib.hid (bt HB2.out hA3)
      clear hb3 hA3 HV2 HY2 HB2
      obtain ⟨c0, c1', -, -⟩ := HV3.out.1.two
      obtain ⟨-, y1, -, -, -, -⟩ := HY3.out.six
      go_wp2_with fail
      refine (HKF.out _ HI.out _ HV3.out.2.1).mono ?_
      rintro e w4 ⟨rfl, hb4⟩
      have HB4 := Lib.hid (bt HB3.out hb4); have HV4 := Lib.hid (HV3.out.down hb4); have HY4 := Lib.hid (HY3.out.down hb4)
      clear c0 c1' y1 hb4 HV3 HY3 HB3
      go_wp2_with fail
      go_loopw [10, 11] (fun v i' wr => ∃ j : Nat, j ≤ b.mails.length ∧ i' = .int .i64 j ∧ v = .int .i64 (flagAt b.mails (uidIdx (b.mails.take j) x.uid)) ∧ Below w4.heap.size w4 wr) (fun _ i' _ => b.mails.length - (intOf i').toNat)
      case atStart => exact ⟨0, Nat.zero_le _, rfl, rfl, Below.refl _ _⟩
      case round =>
        obtain ⟨j, hj, rfl, rfl, hb⟩ := hrel
        obtain ⟨c0, c1', -, -⟩ := (HV4.out.1.down hb).two
        obtain ⟨-, -, y2, -, -, -⟩ := (HY4.out.down hb).six
        obtain ⟨g, off, gm, gc, rfl, hF, hg, hgc, hgm, p0, p1, p2⟩ := box_get HV4.out.2.1 hb i HIL.out
        rw [HBI.out HIL.out] at hgc hgm p0 p1 p2
        have hil := HIL.out
        by_cases hlt : j < b.mails.length
        · obtain ⟨g2, off2, rfl, -, hg2, q0, q1, q2⟩ := mail_get hgm (Below.refl _ _) j hlt
          have hst := uid_step (u := x.uid) HMO.out j hlt
          have hfl := flagAt_some (List.getElem?_eq_getElem hlt)
          generalize b.mails[j] = mm at q0 q1 q2 hst hfl
          obtain ⟨va, hp⟩ : ∃ va, va = flagAt b.mails (uidIdx (b.mails.take j) x.uid) := ⟨_, rfl⟩
          rw [← hp]
          have HPV := Lib.hid hp
          clear hp hgm
          cases he : (((mm.uid : Nat) : Int) == (x.uid : Int)) with
          | true =>
            have hue : mm.uid = x.uid := by have := eq_of_beq he; omega
            rw [if_pos hue] at hst
            have HST := Lib.hid hst; have HFL := Lib.hid hfl
            clear hst hfl hue
            go_wp2_with fail
            go_quiet (fail)
            have hdn := below_drewN wr nq
            have HBD := Lib.hid (bt hb hdn)
            have c0 := moved c0 hdn (Nat.le_refl _); have p2 := moved p2 hdn (Nat.le_refl _); have q1 := moved q1 hdn (Nat.le_refl _)
            clear hb hdn
            go_wp2_with fail
            go_roundw
            case rel => exact ⟨j + 1, hlt, by go_num, by rw [HST.out, HFL.out], HBD.out⟩
            case measure => simp [intOf]; omega
          | false =>
            have hue : mm.uid ≠ x.uid := by have := ne_of_beq_false he; omega
            rw [if_neg hue] at hst
            have HST := Lib.hid hst
            clear hst hfl hue
            go_wp2_with fail
            go_quiet (fail)
            have hdn := below_drewN wr nq
            have HBD := Lib.hid (bt hb hdn)
            clear hb hdn
            go_wp2_with fail
            go_roundw
            case rel => exact ⟨j + 1, hlt, by go_num, by rw [HST.out, HPV.out], HBD.out⟩
            case measure => simp [intOf]; omega
        · obtain rfl : j = b.mails.length := by omega
          rw [List.take_length, HU.out]
          have hfa : flagAt b.mails none = -1 := rfl
          rw [hfa]
          clear hfa
          have HBE := Lib.hid (bt HB4.out hb)
          clear hb
          go_wp2_with fail
          go_ret
          exact ⟨rfl, HBE.out⟩
    · have HU := Lib.hid hu; have HM' := Lib.hid hm'
      have hfm := (mail_bounds HMO.out hm').1
      have HR := Lib.hid (flag_ok HK.out HF.out HFB.out HBX.out hu hm')
      have HFY := Lib.hid (flags_form m'.flags HK.out HF.out hfm)
      have HR2 := Lib.hid (flag_back (x := x) ⟨x.kind, m'.flags, x.uid, x.box, x.to, x.text⟩ HFY.out HK.out rfl rfl rfl HFB.out HBX.out hu hm')
      have HSU := Lib.hid (flags_sum (fl := x.flags) HBX.out hm')
      have hgT := one_good HG.out HF.out
      rw [HR.out] at hgT
      have HFA := Lib.hid (flagAt_some hm')
      obtain ⟨T, hT⟩ : ∃ T : St, T = ⟨s.boxes.set i ⟨b.name, b.next, b.mails.set k ⟨m'.uid, x.flags, m'.text⟩⟩, s.spool⟩ := ⟨_, rfl⟩
      have HTB : Hid (sumB T.boxes = sumB s.boxes) := by unfold Hid; rw [hT]; exact HSU.out
      rw [← hT] at HR HR2 hgT
      have HGT := Lib.hid hgT
      have hTsp : T.spool.length ≤ 20 := hgT.spool
      clear hu hm' hT hgT HSU
      refine (apply_ok HR.out _ _ _ m _ HV2.out.2.1 HV2.out.2.2 HG.out HF.out (moved HM.out HB2.out (Nat.le_refl _))).mono ?_
      rintro e w3 ⟨⟨E1, e1, E2, e2, rfl, hv⟩, hb3⟩
      have hA3 := bt hb3 (ba (Below.refl w3.heap.size w3) (.cells #[.slice E1 T.boxes.length e1, .slice E2 T.spool.length e2] 28))
      obtain ⟨k1, k2⟩ := hv.sat (F := fun _ => True) (fun _ _ => trivial)
      have HT3 := Lib.hid (VarS.new k1 k2 28)
      have HV3 := Lib.hid (HV2.out.down hA3); have HY3 := Lib.hid (HY2.out.down hA3); have HB3 := Lib.hid (bt HB2.out hA3)
      have hz3 : W2.heap.size ≤ w3.heap.size := hb3.size
      clear hb3 hA3 HV2 HY2 HB2 hv k1 k2
      obtain ⟨c0, c1', -, -⟩ := HV3.out.1.two
      obtain ⟨-, y1, -, -, -, -⟩ := HY3.out.six
      go_wp2_with fail
      refine (HKF.out _ HI.out _ HV3.out.2.1).mono ?_
      rintro e w4 ⟨rfl, hb4⟩
      have HB4 := Lib.hid (bt HB3.out hb4); have HV4 := Lib.hid (HV3.out.down hb4); have HY4 := Lib.hid (HY3.out.down hb4); have HT4 := Lib.hid (HT3.out.down hb4)
      have hz4 := hb4.size
      simp only [World.size_alloc] at hz4
      clear c0 c1' y1 hb4 HV3 HY3 HT3 HB3
      go_wp2_with fail
      go_loopw [10, 11] (fun v i' wr => ∃ j : Nat, j ≤ b.mails.length ∧ i' = .int .i64 j ∧ v = .int .i64 (flagAt b.mails (uidIdx (b.mails.take j) x.uid)) ∧ Below w4.heap.size w4 wr) (fun _ i' _ => b.mails.length - (intOf i').toNat)
      case atStart => exact ⟨0, Nat.zero_le _, rfl, rfl, Below.refl _ _⟩
      case round =>
        obtain ⟨j, hj, rfl, rfl, hb⟩ := hrel
        obtain ⟨c0, c1', -, -⟩ := (HV4.out.1.down hb).two
        obtain ⟨-, -, y2, -, -, -⟩ := (HY4.out.down hb).six
        obtain ⟨g, off, gm, gc, rfl, hF, hg, hgc, hgm, p0, p1, p2⟩ := box_get HV4.out.2.1 hb i HIL.out
        rw [HBI.out HIL.out] at hgc hgm p0 p1 p2
        have hil := HIL.out
        by_cases hlt : j < b.mails.length
        · obtain ⟨g2, off2, rfl, -, hg2, q0, q1, q2⟩ := mail_get hgm (Below.refl _ _) j hlt
          have hst := uid_step (u := x.uid) HMO.out j hlt
          have hfl := flagAt_some (List.getElem?_eq_getElem hlt)
          generalize b.mails[j] = mm at q0 q1 q2 hst hfl
          obtain ⟨va, hp⟩ : ∃ va, va = flagAt b.mails (uidIdx (b.mails.take j) x.uid) := ⟨_, rfl⟩
          rw [← hp]
          have HPV := Lib.hid hp
          clear hp hgm
          cases he : (((mm.uid : Nat) : Int) == (x.uid : Int)) with
          | true =>
            have hue : mm.uid = x.uid := by have := eq_of_beq he; omega
            rw [if_pos hue] at hst
            have HST := Lib.hid hst; have HFL := Lib.hid hfl
            clear hst hfl hue
            go_wp2_with fail
            go_quiet (fail)
            have hdn := below_drewN wr nq
            have HBD := Lib.hid (bt hb hdn)
            have c0 := moved c0 hdn (Nat.le_refl _); have p2 := moved p2 hdn (Nat.le_refl _); have q1 := moved q1 hdn (Nat.le_refl _)
            clear hb hdn
            go_wp2_with fail
            go_roundw
            case rel => exact ⟨j + 1, hlt, by go_num, by rw [HST.out, HFL.out], HBD.out⟩
            case measure => simp [intOf]; omega
          | false =>
            have hue : mm.uid ≠ x.uid := by have := ne_of_beq_false he; omega
            rw [if_neg hue] at hst
            have HST := Lib.hid hst
            clear hst hfl hue
            go_wp2_with fail
            go_quiet (fail)
            have hdn := below_drewN wr nq
            have HBD := Lib.hid (bt hb hdn)
            clear hb hdn
            go_wp2_with fail
            go_roundw
            case rel => exact ⟨j + 1, hlt, by go_num, by rw [HST.out, HPV.out], HBD.out⟩
            case measure => simp [intOf]; omega
        · obtain rfl : j = b.mails.length := by omega
          rw [List.take_length, HU.out]
          rw [HFA.out]
          have HB5 := Lib.hid (bt HB4.out hb); have HV5 := Lib.hid (HV4.out.down hb); have HY5 := Lib.hid (HY4.out.down hb); have HT5 := Lib.hid (HT4.out.down hb)
          have hz5 := hb.size
          clear hb y2 p0 p1 hgm HB4 HV4 HY4 HT4
          obtain ⟨y0, y1, y2, y3, y4, y5⟩ := HY5.out.six
          have hA6 := ba (Below.refl wr.heap.size wr) (.cells #[.int .i64 x.kind, .string ⟨x.box.toArray⟩, .int .i64 x.uid, .int .i64 m'.flags, .string ⟨x.to.toArray⟩, .string ⟨x.text.toArray⟩] 31)
          have HN6 := Lib.hid (Has.alloc wr [.int .i64 x.kind, .string ⟨x.box.toArray⟩, .int .i64 x.uid, .int .i64 m'.flags, .string ⟨x.to.toArray⟩, .string ⟨x.text.toArray⟩] 31)
          have HB6 := Lib.hid (bt HB5.out hA6); have HV6 := Lib.hid (HV5.out.down hA6); have HT6 := Lib.hid (HT5.out.down hA6)
          obtain ⟨t0, t1, -, -⟩ := HT6.out.1.two
          obtain ⟨n0, n1, n2, n3, n4, n5⟩ := HN6.out.six
          clear hA6
          have hmi : ¬ ((m'.flags : Nat) : Int) < 0 := by omega
          go_wp2_with fail
          obtain ⟨W6, hW6⟩ : ∃ W6, W6 = wr.alloc (.cells #[.int .i64 x.kind, .string ⟨x.box.toArray⟩, .int .i64 x.uid, .int .i64 m'.flags, .string ⟨x.to.toArray⟩, .string ⟨x.text.toArray⟩] 31) := ⟨_, rfl⟩
          rw [← hW6] at HB6 HV6 HT6 ⊢
          clear hW6 n0 n1 n2 n3 n4 n5 t0 t1 y0 y1 y2 y3 y4 y5 c0 c1' p2 HN6 HB5 HV5 HT5 HY5
          refine (apply_ok HR2.out _ _ _ m _ HT6.out.2.1 HT6.out.2.2 HGT.out HFY.out (moved HM.out HB6.out (Nat.le_refl _))).mono ?_
          rintro e w7 ⟨⟨U1, u1, U2, u2, rfl, hv⟩, hb7⟩
          have hA7 := bt hb7 (ba (Below.refl w7.heap.size w7) (.cells #[.slice U1 s.boxes.length u1, .slice U2 s.spool.length u2] 28))
          obtain ⟨k1, k2⟩ := hv.sat (F := fun _ => True) (fun _ _ => trivial)
          have HU7 := Lib.hid (VarS.new k1 k2 28)
          have HV7 := Lib.hid (HV6.out.down hA7); have HT7 := Lib.hid (HT6.out.down hA7); have HB7 := Lib.hid (bt HB6.out hA7)
          clear hb7 hA7 HV6 HT6 HB6 hv k1 k2
          obtain ⟨t0, t1, -, -⟩ := HT7.out.1.two
          go_wp2_with fail
          refine (Size_any T _ _ _ m _ HT7.out.2.1 HT7.out.2.2 HGT.out (moved HM.out HB7.out (Nat.le_refl _))).mono ?_
          rintro e w8 ⟨rfl, hb8⟩
          have HB8 := Lib.hid (bt HB7.out hb8); have HV8 := Lib.hid (HV7.out.down hb8); have HU8 := Lib.hid (HU7.out.down hb8)
          clear hb8 HB7 HV7 HU7 HT7 t0 t1
          obtain ⟨c0, c1', -, -⟩ := HV8.out.1.two
          rw [HTB.out]
          go_wp2_with fail
          refine (Size_any s _ _ _ m _ HV8.out.2.1 HV8.out.2.2 HG.out (moved HM.out HB8.out (Nat.le_refl _))).mono ?_
          rintro e w9 ⟨rfl, hb9⟩
          have HB9 := Lib.hid (bt HB8.out hb9); have HV9 := Lib.hid (HV8.out.down hb9); have HU9 := Lib.hid (HU8.out.down hb9)
          clear hb9 HB8 HV8 HU8 c0 c1'
          obtain ⟨c0, c1', -, -⟩ := HV9.out.1.two
          obtain ⟨u0, u1', -, -⟩ := HU9.out.1.two
          go_wp2_with fail
          refine (same_any s _ _ _ _ _ _ _ HU9.out.2.1 HU9.out.2.2 HV9.out.2.1 HV9.out.2.2 (by omega) (by omega) (good_mails HG.out)).mono ?_
          rintro e w10 ⟨rfl, hb10⟩
          have HB10 := Lib.hid (bt HB9.out hb10)
          clear hb10 c0 c1' u0 u1'
          go_wp2_with fail
          go_ret
          exact ⟨rfl, HB10.out⟩
end Go.Proofs.YthllhakgcnfmcaaDoor
