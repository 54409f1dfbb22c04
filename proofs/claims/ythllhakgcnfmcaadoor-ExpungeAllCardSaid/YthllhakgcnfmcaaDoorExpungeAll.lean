/-
  DERIVED. ExpungeAll: the walk.
-/
import Derived.Test.YthllhakgcnfmcaaDoorBoxUids
namespace Go.Proofs.YthllhakgcnfmcaaDoor
open Go.RowKit

def pD (m : Mail) : Bool := m.flags &&& 8 == 0
theorem bitsD {f : Nat} (h : f ≤ 31) : (bits .and .i64 (f : Int) 8 == 0) = (f &&& 8 == 0) := by
  have := bits8 ⟨f, by omega⟩
  simp only at this
  have e : ∀ a b : Bool, (!a) = (!b) → a = b := by decide
  exact e _ _ this
theorem filter_step (p : Mail → Bool) (l : List Mail) (j : Nat) (hj : j < l.length) : (l.take (j + 1)).filter p = (l.take j).filter p ++ (if p l[j] then [l[j]] else []) := by
  rw [List.take_succ_eq_append_getElem hj, List.filter_append]
  congr 1
  cases h : p l[j] <;> simp [h]
theorem news_three (w : World) (a0 a1 a2 : Value) (t : TypeId) : ∀ j u, [a0, a1, a2][j]? = some u → (w.alloc (.cells #[a0, a1, a2] t)).cell? (Addr.add ⟨w.heap.size, 0, none⟩ j) = some u := by
  intro j u hj
  rw [Addr.add_lit, Nat.zero_add]
  exact alloc_cell w #[a0, a1, a2] t j u (by simpa using hj)

set_option maxHeartbeats 8000000 in
set_option maxRecDepth 20000 in
theorem expungeAll_walk (a : Option Addr) (cap : Nat) (cs : List Raw) (c : Raw) (m : Int) (w : World) (h : RawsAt w a cs) (hlen : cs.length ≤ 9223372036854775807) (hok : RawOK c) (hm : w.cell? ⟨0, 0, none⟩ = some (.int .i64 m)) :
    Calls Tryd.prog 3 #[.slice a cs.length cap, .agg #[.int .i64 c.kind, .int .i64 c.box, .int .i64 c.uid, .int .i64 c.flags, .int .i64 c.dest, .string c.text]] w fun e w' => e = .returned (.bool true) ∧ Below w.heap.size w w' := by
  have hA0 := ba (Below.refl w.heap.size w) (.cells #[.int .i64 c.kind, .int .i64 c.box, .int .i64 c.uid, .int .i64 c.flags, .int .i64 c.dest, .string c.text] 24)
  have HZ := Lib.hid (Has.alloc w [.int .i64 c.kind, .int .i64 c.box, .int .i64 c.uid, .int .i64 c.flags, .int .i64 c.dest, .string c.text] 24)
  have HS := Lib.hid (state_any a cap cs m _ (h.down hA0) hlen (moved hm hA0 (Nat.le_refl _)))
  have hg := stOf_good cs
  obtain ⟨s, hs⟩ : ∃ s, s = stOf cs := ⟨_, rfl⟩
  rw [← hs] at HS hg
  obtain ⟨x, hx⟩ : ∃ x, x = entOf ⟨3, c.box, 0, 0, 0, ⟨#[]⟩⟩ := ⟨_, rfl⟩
  have HE : Hid (∀ w', Calls Tryd.prog 13 #[.agg #[.int .i64 3, .int .i64 c.box, .int .i64 0, .int .i64 0, .int .i64 0, .string ⟨#[]⟩]] w' (EntPost x w')) := by
    rw [hx]; exact fun w' => entry_c ⟨3, c.box, 0, 0, 0, ⟨#[]⟩⟩ w' (raw_ok (i64k 3 (by decide)) hok.2.1 i64z i64z i64z (by decide))
  have hxf : formV x = 0 := by rw [hx]; exact entOf_form _
  have hxk : x.kind = 4 := by rw [hx]; rfl
  have HF := Lib.hid hxf; have HA0 := Lib.hid hA0
  have HG := Lib.hid hg; have HM := Lib.hid hm; have hsl := hg.spool; have hbl := hg.boxes
  have HK := Lib.hid hxk; have HSO := Lib.hid hs; have HXO := Lib.hid hx
  clear h hm hg hs hx hxf hxk hA0
  go_enter Tryd.func3, Tryd.ntmps3
  go_wp2_with fail
  refine HS.out.mono ?_
  rintro e w1 ⟨⟨G1, c1, G2, c2, rfl, h1, h2⟩, hb1⟩
  have HV1 := Lib.hid (VarS.new h1 h2 28)
  have hA1 := bt hb1 (ba (Below.refl w1.heap.size w1) (.cells #[.slice G1 s.boxes.length c1, .slice G2 s.spool.length c2] 28))
  have HB1 := Lib.hid (bt HA0.out hA1)
  have hz0 : w.heap.size ≤ w1.heap.size := by have := hb1.size; simp at this; omega
  have hzz : w.heap.size < w1.heap.size := by have := hb1.size; simp at this; omega
  have HZ1 := Lib.hid (HZ.out.down hA1)
  obtain ⟨z0, z1, z2, z3, z4, z5⟩ := HZ1.out.six
  clear h1 h2 hb1 hA1 HS HA0 HZ
  go_wp2_with fail
  refine (HE.out _).mono ?_
  rintro e w2 ⟨rfl, hb2⟩
  have hz1 : w1.heap.size < w2.heap.size := by have := hb2.size; simp at this; omega
  have hA2 := bt hb2 (ba (Below.refl w2.heap.size w2) (.cells #[.int .i64 x.kind, .string ⟨x.box.toArray⟩, .int .i64 x.uid, .int .i64 x.flags, .string ⟨x.to.toArray⟩, .string ⟨x.text.toArray⟩] 31))
  have HV2 := Lib.hid (HV1.out.down hA2); have HB2 := Lib.hid (bt HB1.out hA2)
  have HY2 := Lib.hid (Has.alloc w2 [.int .i64 x.kind, .string ⟨x.box.toArray⟩, .int .i64 x.uid, .int .i64 x.flags, .string ⟨x.to.toArray⟩, .string ⟨x.text.toArray⟩] 31)
  obtain ⟨c0, c1', -, -⟩ := HV2.out.1.two
  obtain ⟨y0, y1, y2, y3, y4, y5⟩ := HY2.out.six
  clear hA2 hb2 HV1 HB1 HE HZ1 z0 z1 z2 z3 z4 z5
  go_wp2_with fail
  obtain ⟨W2, hW2⟩ : ∃ W2, W2 = w2.alloc (.cells #[.int .i64 x.kind, .string ⟨x.box.toArray⟩, .int .i64 x.uid, .int .i64 x.flags, .string ⟨x.to.toArray⟩, .string ⟨x.text.toArray⟩] 31) := ⟨_, rfl⟩
  rw [← hW2] at HV2 HB2 HY2 ⊢
  have hz2 : w2.heap.size < W2.heap.size := by rw [hW2]; simp
  clear hW2 c0 c1' y0 y1 y2 y3 y4 y5
  obtain ⟨i0, hi, hz0', hz1', hz2'⟩ := info_parts infoMail
  have HIN := Lib.hid hi; have HZ0 := Lib.hid hz0'; have HZ1 := Lib.hid hz1'; have HZ2 := Lib.hid hz2'
  clear hi hz0' hz1' hz2'
  obtain ⟨ib, hib⟩ : ∃ ib, ib = idx (findB s.boxes x.box) := ⟨_, rfl⟩
  have HKF : Hid (∀ w', SAt cBox w' (fun b => b ≠ w1.heap.size) (.slice G1 s.boxes.length c1) s.boxes → Calls Tryd.prog 15 #[.agg #[.slice G1 s.boxes.length c1, .slice G2 s.spool.length c2], .string ⟨x.box.toArray⟩] w' fun e w'' => e = .returned (.int .i64 ib) ∧ Below w'.heap.size w' w'') := by
    subst hib; intro w' h
    exact kfind_any _ _ _ _ _ _ _ _ h (by omega)
  have HC : Hid ((ib = -1 ∧ allS s [x] = (s, 7)) ∨ ∃ (i : Nat) (b : Bx), ib = i ∧ s.boxes[i]? = some b ∧ ∃ T : St, T = ⟨s.boxes.set i ⟨b.name, b.next, b.mails.filter pD⟩, s.spool⟩ ∧ allS s [x] = (T, 0) ∧ allS T [x] = (T, 0) ∧ GoodS T) := by
    cases hf : findB s.boxes x.box with
    | none => exact .inl ⟨by rw [hib, hf]; rfl, none_box (by have := HK.out; omega) (by have := HK.out; omega) HF.out hf⟩
    | some i =>
      obtain ⟨hi, -⟩ := findB_some hf
      have hbi : s.boxes[i]? = some s.boxes[i] := List.getElem?_eq_getElem hi
      have h1 := expunge_ok HK.out HF.out hf hbi
      have h2 := expunge_again HK.out HF.out hf hbi
      have hg := one_good HG.out HF.out
      rw [h1] at hg
      exact .inr ⟨i, s.boxes[i], by rw [hib, hf]; rfl, hbi, _, rfl, h1, h2, hg⟩
  clear hib
  rcases HC.out with ⟨rfl, hr⟩ | ⟨i, b, rfl, hbi, T, hT, hr, hr2, hgT⟩
  · have HR := Lib.hid hr
    clear hr HC
    refine (apply_err HR.out (by decide) _ _ _ m _ HV2.out.2.1 HV2.out.2.2 HG.out HF.out (moved HM.out HB2.out (Nat.le_refl _))).mono ?_
    rintro e w3 ⟨rfl, hb3⟩
    have hA3 := bt hb3 (ba (Below.refl w3.heap.size w3) (.cells #[.slice none 0 0, .slice none 0 0] 28))
    have HV3 := Lib.hid (HV2.out.down hA3); have HY3 := Lib.hid (HY2.out.down hA3); have HB3 := Lib.hid (bt HB2.out hA3)
    clear hb3 hA3 HV2 HY2 HB2
    obtain ⟨c0, c1', -, -⟩ := HV3.out.1.two
    obtain ⟨-, y1, -, -, -, -⟩ := HY3.out.six
    go_wp2_with fail
    refine (HKF.out _ HV3.out.2.1).mono ?_
    rintro e w4 ⟨rfl, hb4⟩
    have HB4 := Lib.hid (bt HB3.out hb4)
    clear c0 c1' y1 hb4
    go_wp2_with fail
    go_ret
    exact ⟨rfl, HB4.out⟩
  · obtain ⟨hil, rfl⟩ := List.getElem?_eq_some_iff.1 hbi
    obtain ⟨b, hb⟩ : ∃ b, b = s.boxes[i] := ⟨_, rfl⟩
    rw [← hb] at hT hbi
    have HBI : Hid (∀ h, s.boxes[i]'h = b) := fun _ => hb.symm
    have hTl : T.boxes.length = s.boxes.length := by rw [hT]; simp
    have HTI : Hid (∀ h, T.boxes[i]'h = ⟨b.name, b.next, b.mails.filter pD⟩) := by subst hT; intro h; simp
    have HTL := Lib.hid hTl; have HIL := Lib.hid hil
    have HMO := Lib.hid (HG.out.ok b (List.mem_of_getElem? hbi)).2.2.2.2
    have hbm := (HG.out.ok b (List.mem_of_getElem? hbi)).2.2.2.1
    have HR := Lib.hid hr; have HR2 := Lib.hid hr2; have HGT := Lib.hid hgT; have hTs := hgT.spool; have hTb := hgT.boxes
    clear hr hr2 hgT hT hTl hil hb hbi HC
    refine (apply_ok HR.out _ _ _ m _ HV2.out.2.1 HV2.out.2.2 HG.out HF.out (moved HM.out HB2.out (Nat.le_refl _))).mono ?_
    rintro e w3 ⟨⟨E1, e1, E2, e2, rfl, hv⟩, hb3⟩
    have hA3 := bt hb3 (ba (Below.refl w3.heap.size w3) (.cells #[.slice E1 T.boxes.length e1, .slice E2 T.spool.length e2] 28))
    obtain ⟨k1, k2⟩ := hv.sat (F := fun _ => True) (fun _ _ => trivial)
    have HT3 := Lib.hid (VarS.new k1 k2 28)
    have HV3 := Lib.hid (HV2.out.down hA3); have HY3 := Lib.hid (HY2.out.down hA3); have HB3 := Lib.hid (bt HB2.out hA3)
    clear hb3 hA3 HV2 HY2 HB2 hv k1 k2
    obtain ⟨c0, c1', -, -⟩ := HV3.out.1.two
    obtain ⟨-, y1, -, -, -, -⟩ := HY3.out.six
    go_wp2_with fail
    refine (HKF.out _ HV3.out.2.1).mono ?_
    rintro e w4 ⟨rfl, hb4⟩
    have HB4 := Lib.hid (bt HB3.out hb4); have HV4 := Lib.hid (HV3.out.down hb4); have HY4 := Lib.hid (HY3.out.down hb4); have HT4 := Lib.hid (HT3.out.down hb4)
    clear c0 c1' y1 hb4 HV3 HY3 HT3 HB3
    go_wp2_with fail
    go_loopw [10, 11] (fun v i' wr => ∃ j n : Nat, j ≤ b.mails.length ∧ i' = .int .i64 j ∧ n = ((b.mails.take j).filter pD).length ∧ wr.ownsRow w4.heap.size 41 3 v n (((b.mails.take j).filter pD).flatMap mailC) ∧ Below w4.heap.size w4 wr) (fun _ i' _ => b.mails.length - (intOf i').toNat)
    case atStart => exact ⟨0, 0, Nat.zero_le _, rfl, by simp, World.ownsRow_nil _ _ _ _, Below.refl _ _⟩
    case round =>
      obtain ⟨j, n, hj, rfl, hn, hown, hb⟩ := hrel
      obtain ⟨c0, c1', -, -⟩ := (HV4.out.1.down hb).two
      obtain ⟨g, off, gm, gc, rfl, hF, hg, hgc, hgm, p0, p1, p2⟩ := box_get HV4.out.2.1 hb i HIL.out
      rw [HBI.out HIL.out] at hgc hgm p0 p1 p2
      have hil := HIL.out
      have hzr : w4.heap.size ≤ wr.heap.size := hb.size
      have hnl : n ≤ j := by rw [hn]; have := List.length_filter_le pD (b.mails.take j); simp at this; omega
      by_cases hlt : j < b.mails.length
      · obtain ⟨g2, off2, rfl, -, hg2, q0, q1, q2⟩ := mail_get hgm (Below.refl _ _) j hlt
        have hst := filter_step pD b.mails j hlt
        have hfl := (mail_bounds HMO.out (List.getElem?_eq_getElem hlt)).1
        generalize b.mails[j] = mm at q0 q1 q2 hst hfl
        have hbits := bitsD hfl
        obtain ⟨L, hL⟩ : ∃ L, L = (b.mails.take j).filter pD := ⟨_, rfl⟩
        rw [← hL] at hst hn hown
        obtain ⟨R, hR⟩ : ∃ R, R = L.flatMap mailC := ⟨_, rfl⟩
        rw [← hR] at hown
        have HO := Lib.hid hown; have HBR := Lib.hid hb; have HN := Lib.hid hn; have HRE := Lib.hid hR
        clear hown hb hn hL hfl hR hgm
        cases he : pD mm with
        | true =>
          rw [he, if_pos rfl] at hst
          have he2 : (mm.flags &&& 8 == 0) = true := he
          rw [he2] at hbits
          have HST := Lib.hid hst
          clear hst he he2
          go_wp2_with (at_builtin; refine wpList_append_lies _ (by rfl) _ _ _ (by rfl) w4.heap.size 41 i0 _ 3 32 Tryd.underlying37 HIN.out HZ0.out HZ1.out HZ2.out rfl (by omega) u10 n R (by rfl) (HO.out.alloc _) ⟨wr.heap.size, 0, none⟩ 1 1 [.int .i64 mm.uid, .int .i64 mm.flags, .string ⟨mm.text.toArray⟩] (by rfl) (by rfl) (news_three wr _ _ _ _) (by simp [Value.oneCell']) (by omega) (by unfold maxLen; omega) (by omega) (by simp; omega) (wr.heap.size + 1) (by simp) ?_)
          intro g3 cap3 w5 hown3 hgrow hat hlt3
          have HB5 := Lib.hid (below_row (ba HBR.out _) (Nat.le_refl _) (HO.out.alloc _) (Nat.le_refl _) hgrow)
          have HO5 := Lib.hid hown3
          clear hown3 hgrow hat hlt3 c0 c1' p0 p1 p2 q0 q1 q2 hbits
          go_wp2_with fail
          go_roundw
          case rel => exact ⟨j + 1, n + 1, hlt, by go_num, by rw [HST.out, HN.out]; simp, by rw [HST.out, List.flatMap_append, ← HRE.out]; simpa [mailC] using HO5.out, HB5.out⟩
          case measure => simp [intOf]; omega
        | false =>
          rw [he, if_neg (by decide), List.append_nil] at hst
          have he2 : (mm.flags &&& 8 == 0) = false := he
          rw [he2] at hbits
          have HST := Lib.hid hst
          clear hst he he2
          go_wp2_with fail
          go_roundw
          case rel => exact ⟨j + 1, n, hlt, by go_num, by rw [HST.out]; exact HN.out, by rw [HST.out, ← HRE.out]; exact HO.out, HBR.out⟩
          case measure => simp [intOf]; omega
      · obtain rfl : j = b.mails.length := by omega
        rw [List.take_length] at hn hown
        obtain ⟨L, hL⟩ : ∃ L, L = b.mails.filter pD := ⟨_, rfl⟩
        have HTI2 : Hid (∀ h, T.boxes[i]'h = ⟨b.name, b.next, L⟩) := by unfold Hid; rw [hL]; exact HTI.out
        rw [← hL] at hn hown
        subst hn
        have hsw : SAt cMail wr (fun _ => True) u10 L := SAt.of_row hown (fun _ _ => trivial)
        obtain ⟨Gw, cw, rfl, hcw⟩ := hsw.form
        have HSW := Lib.hid hsw
        have hT4 := HT4.out.down hb; have HV5 := Lib.hid (HV4.out.down hb); have HY5 := Lib.hid (HY4.out.down hb)
        obtain ⟨t0, t1, -, -⟩ := hT4.1.two
        obtain ⟨gt, offt, gtm, gtc, rfl, -, hgt, hgtc, hgtm, r0, r1, r2⟩ := box_get hT4.2.1 (Below.refl _ _) i (by rw [HTL.out]; exact hil)
        rw [HTI2.out (by rw [HTL.out]; exact hil)] at hgtc hgtm r0 r1 r2
        simp only at hgtc hgtm r0 r1 r2
        have hLl : L.length ≤ b.mails.length := hnl
        rw [HTL.out] at t0 hT4 ⊢
        have HT5 := Lib.hid hT4; have HTM := Lib.hid hgtm; have HBR := Lib.hid (bt HB4.out hb)
        clear hown hL hsw hT4 hgtm hb hgm
        go_wp2_with fail
        go_quiet (fail)
        have hd6 := below_drewN wr nq
        obtain ⟨W6, hW6⟩ : ∃ W6, W6 = wr.drewN nq := ⟨_, rfl⟩
        rw [← hW6] at hd6 ⊢
        have HV6 := Lib.hid (HV5.out.down hd6); have HY6 := Lib.hid (HY5.out.down hd6); have HT6 := Lib.hid (HT5.out.down hd6); have HS6 := Lib.hid (HSW.out.down hd6); have HB6 := Lib.hid (bt HBR.out hd6)
        clear hd6 hW6 HV5 HY5 HT5 HSW HBR t0 t1 r0 r1 r2 c0 c1' p0 p1 p2 HV4 HY4 HT4 HB4 HTM
        go_wp2_with fail
        go_loopw [12] (fun i' wq => ∃ k : Nat, k ≤ L.length ∧ i' = .int .i64 k ∧ Below W6.heap.size W6 wq) (fun i' _ => L.length - (intOf i').toNat)
        case atStart => exact ⟨0, Nat.zero_le _, rfl, Below.refl _ _⟩
        case round =>
          obtain ⟨wq, rfl⟩ : ∃ wq : World, wq = wr := ⟨_, rfl⟩
          obtain ⟨k, hk, rfl, hbq⟩ := hrel
          obtain ⟨t0, t1, -, -⟩ := (HT6.out.1.down hbq).two
          by_cases hlk : k < L.length
          · obtain ⟨gt2, offt2, gtm2, gtc2, hge, -, hgt2, hgtc2, hgtm2, r0, r1, r2⟩ := box_get HT6.out.2.1 hbq i (by rw [HTL.out]; exact hil)
            cases hge
            rw [HTI2.out (by rw [HTL.out]; exact hil)] at hgtc2 hgtm2 r0 r1 r2
            simp only at hgtc2 hgtm2 r0 r1 r2
            obtain ⟨g3, off3, rfl, -, hg3, q0, q1, q2⟩ := mail_get hgtm2 (Below.refl _ _) k hlk
            obtain ⟨g4, off4, rfl, -, hg4, o0, o1, o2⟩ := mail_get HS6.out hbq k hlk
            generalize L[k] = mm at q0 q1 q2 o0 o1 o2
            clear hgtm2
            go_wp2_with fail
            go_quiet (fail)
            have HBQ := Lib.hid (bt hbq (below_drewN wq nq))
            clear hbq t0 t1 r0 r1 r2 q0 q1 q2 o0 o1 o2
            go_wp2_with fail
            go_roundw
            case rel => exact ⟨k + 1, hlk, by go_num, HBQ.out⟩
            case measure => simp [intOf]; omega
          · obtain rfl : k = L.length := by omega
            have HT7 := Lib.hid (HT6.out.down hbq); have HB7 := Lib.hid (bt HB6.out hbq)
            obtain ⟨y0, y1, y2, y3, y4, y5⟩ := (HY6.out.down hbq).six
            clear hbq HT6 HB6
            go_wp2_with fail
            refine (apply_ok HR2.out _ _ _ m _ HT7.out.2.1 HT7.out.2.2 HGT.out HF.out (moved HM.out HB7.out (Nat.le_refl _))).mono ?_
            rintro e w8 ⟨⟨U1, u1, U2, u2, rfl, hv⟩, hb8⟩
            have hA8 := bt hb8 (ba (Below.refl w8.heap.size w8) (.cells #[.slice U1 T.boxes.length u1, .slice U2 T.spool.length u2] 28))
            obtain ⟨k1, k2⟩ := hv.sat (F := fun _ => True) (fun _ _ => trivial)
            have HU8 := Lib.hid (VarS.new k1 k2 28)
            have HT8 := Lib.hid (HT7.out.down hA8); have HB8 := Lib.hid (bt HB7.out hA8)
            clear hb8 hA8 HT7 HB7 hv k1 k2 t0 t1 y0 y1 y2 y3 y4 y5
            obtain ⟨t0, t1, -, -⟩ := HT8.out.1.two
            obtain ⟨u0, u1', -, -⟩ := HU8.out.1.two
            go_wp2_with fail
            refine (same_any T _ _ _ _ _ _ _ HT8.out.2.1 HT8.out.2.2 HU8.out.2.1 HU8.out.2.2 (by omega) (by omega) (good_mails HGT.out)).mono ?_
            rintro e w9 ⟨rfl, hb9⟩
            have HB9 := Lib.hid (bt HB8.out hb9)
            clear hb9 t0 t1 u0 u1'
            go_wp2_with fail
            go_ret
            exact ⟨rfl, HB9.out⟩
end Go.Proofs.YthllhakgcnfmcaaDoor
