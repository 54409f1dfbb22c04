/-
  DERIVED. 'All' and 'Apply' of box: the walks.
-/
import Derived.Test.YtaeejmggmgejcaaDoorBoxApply
import Derived.Test.YtaeejmggmgejcaaDoorBoxGood
namespace Go.Proofs.YtaeejmggmgejcaaDoor
open Go.RowKit

/-- what All answers: a state, or what is wrong -/
def AllPost (r : St × Int) (w : World) (e : Ending) (w' : World) : Prop :=
  (if r.2 = 0 then ∃ G1 c1 G2 c2, e = .returned (.tuple #[.agg #[.slice G1 r.1.boxes.length c1, .slice G2 r.1.spool.length c2], .int .i64 0]) ∧ OwnV w' w.heap.size (.slice G1 r.1.boxes.length c1) (.slice G2 r.1.spool.length c2) r.1
   else e = .returned (.tuple #[.agg #[.slice none 0 0, .slice none 0 0], .int .i64 r.2])) ∧ Below w.heap.size w w'
theorem all_end {R : Nat} {r : St × Int} {G1 G2 : Option Addr} {c1 c2 : Nat} {a : Act} {W w : World} (ht : a.tmps.getD 4 undef = .pointer (some ⟨R, 0, none⟩)) (ht5 : a.tmps.getD 5 undef = .int .i64 0) (hd : a.defers = []) (hr : r.2 = 0)
    (h : Has W R [.slice G1 r.1.boxes.length c1, .slice G2 r.1.spool.length c2]) (he : OwnV W w.heap.size (.slice G1 r.1.boxes.length c1) (.slice G2 r.1.spool.length c2) r.1) (hb : Below w.heap.size w W) : bodyPost Tryd.prog Tryd.f7 (AllPost r w) .ret a W := by
  obtain ⟨c0, c1', _, _⟩ := h.two
  refine bodyPost_ret (v := .tuple #[.agg #[.slice G1 r.1.boxes.length c1, .slice G2 r.1.spool.length c2], .int .i64 0]) ?_ hd ⟨by rw [if_pos hr]; exact ⟨_, _, _, _, rfl, he⟩, hb⟩
  have ht' : a.tmps[4]?.getD undef = .pointer (some ⟨R, 0, none⟩) := by simpa using ht
  have ht5' : a.tmps[5]?.getD undef = .int .i64 0 := by simpa using ht5
  simp [results, Tryd.results7, go_sem, ht', ht5', c0, c1']
theorem all_end0 {R : Nat} {r : St × Int} {a : Act} {W w : World} (ht : a.tmps.getD 4 undef = .pointer (some ⟨R, 0, none⟩)) (ht5 : a.tmps.getD 5 undef = .int .i64 r.2) (hd : a.defers = []) (hr : r.2 ≠ 0)
    (h : Has W R [.slice none 0 0, .slice none 0 0]) (hb : Below w.heap.size w W) : bodyPost Tryd.prog Tryd.f7 (AllPost r w) .ret a W := by
  obtain ⟨c0, c1', _, _⟩ := h.two
  refine bodyPost_ret (v := .tuple #[.agg #[.slice none 0 0, .slice none 0 0], .int .i64 r.2]) ?_ hd ⟨by rw [if_neg hr], hb⟩
  have ht' : a.tmps[4]?.getD undef = .pointer (some ⟨R, 0, none⟩) := by simpa using ht
  have ht5' : a.tmps[5]?.getD undef = .int .i64 r.2 := by simpa using ht5
  simp [results, Tryd.results7, go_sem, ht', ht5', c0, c1']
theorem OwnV.else' {w : World} {base R i : Nat} {vB vS u : Value} {s : St} (h : OwnV w base vB vS s) (hR : R < base) : OwnV (w.setCell ⟨R, i, none⟩ u) base vB vS s := by
  obtain ⟨qs, h1, h2⟩ := h
  exact ⟨qs, h1, h2.else' (Go.Lib.grownBy_setB (World.grownBy.refl w (some R)) i u) (offR_low h2 hR)⟩
theorem OwnV.base {w : World} {base base' : Nat} {vB vS : Value} {s : St} (h : OwnV w base vB vS s) (hb : base' ≤ base) : OwnV w base' vB vS s := by
  obtain ⟨qs, h1, h2⟩ := h
  exact ⟨qs, h1, fun r hr => row_base hb (h2.1 r hr), h2.2⟩
theorem OwnV.sat {w : World} {base : Nat} {vB vS : Value} {s : St} {F : Dom} (h : OwnV w base vB vS s) (hF : ∀ b, base ≤ b → F b) : SAt cBox w F vB s.boxes ∧ SAt cEnt w F vS s.spool := by
  obtain ⟨qs, h1, h2⟩ := h
  rw [h1]
  exact ⟨h2.boxes hF, h2.spool hF⟩
/-- a variable that holds what own answered -/
theorem OwnV.var {w : World} {base : Nat} {vB vS : Value} {s : St} (h : OwnV w base vB vS s) (hb : base ≤ w.heap.size) (t : TypeId) : OwnS (w.alloc (.cells #[vB, vS] t)) base w.heap.size s := by
  obtain ⟨qs, h1, h2⟩ := h
  exact ⟨qs, vB, vS, h1, Has.alloc w [vB, vS] t, hb, h2.down (ba (Below.refl _ _) _), fun r hr e => by have := (World.ownsRow.lt (h2.1 r hr) _ e).2; omega⟩
theorem code_small {x : Ent} : formV x = 0 ∨ 0 < formV x := by
  unfold formV
  have h1 := nameCode_cases x.box
  have h2 := nameCode_cases x.to
  repeat' split
  all_goals first | exact .inl rfl | exact .inr (by decide) | (rcases h1 with h | h | h <;> rw [h] <;> decide) | (rcases h2 with h | h | h <;> rw [h] <;> decide)

set_option maxHeartbeats 8000000 in
set_option maxRecDepth 20000 in
theorem all_any (s : St) (l : List Ent) (vB vS v : Value) (F : Dom) (m : Int) (w : World) (hB : SAt cBox w F vB s.boxes) (hS : SAt cEnt w F vS s.spool) (hg : GoodS s) (hL : SAt cEnt w F v l) (hl : l.length ≤ 10) (hsm : ∀ x ∈ l, Small x)
    (hm : w.cell? ⟨0, 0, none⟩ = some (.int .i64 m)) : Calls Tryd.prog 7 #[.agg #[vB, vS], v] w (AllPost (allS s l) w) := by
  obtain ⟨Gb, cb, rfl, hcb⟩ := hB.form
  obtain ⟨Gs, cS, rfl, hcs⟩ := hS.form
  obtain ⟨Gl, cl, rfl, hcl⟩ := hL.form
  have hA := ba (ba (Below.refl w.heap.size w) (.cells #[.slice Gb s.boxes.length cb, .slice Gs s.spool.length cS] 29)) (.cells #[.slice none 0 0, .slice none 0 0] 29)
  have h1 := (Has.alloc w [.slice Gb s.boxes.length cb, .slice Gs s.spool.length cS] 29).down (ba (Below.refl _ _) (.cells #[.slice none 0 0, .slice none 0 0] 29))
  have h2 := Has.alloc (w.alloc (.cells #[.slice Gb s.boxes.length cb, .slice Gs s.spool.length cS] 29)) [.slice none 0 0, .slice none 0 0] 29
  simp only [World.size_alloc] at h2
  have HA := Lib.hid hA; have H1 := Lib.hid h1; have H2 := Lib.hid h2; have HB := Lib.hid hB; have HS := Lib.hid hS; have HL := Lib.hid hL; have HG := Lib.hid hg; have HSM := Lib.hid hsm; have HM := Lib.hid hm
  have hbl := hg.boxes; have hsl := hg.spool
  clear hA h1 h2 hB hS hL hg hsm hm
  go_enter Tryd.func7, Tryd.ntmps7
  go_wp2_with fail
  refine (checkS_any s _ _ F m _ (HB.out.down HA.out) (HS.out.down HA.out) HG.out (moved HM.out HA.out (Nat.le_refl _))).mono ?_
  rintro e w1 ⟨rfl, hb1⟩
  have HA1 := Lib.hid (bt HA.out hb1); have HN1 := Lib.hid (H1.out.down hb1); have HR1 := Lib.hid (H2.out.down hb1)
  obtain ⟨n0, n1, -, -⟩ := HN1.out.two
  have hz1 := HR1.out.2.2
  clear hb1 H1 H2 HA
  go_wp2_with fail
  refine (own_any s _ _ F w1 (HB.out.down HA1.out) (HS.out.down HA1.out) (by omega) (by omega) (fun b hb => by have := (HG.out.ok b hb).2.2.2.1; omega)).mono ?_
  rintro e w2 ⟨⟨G1, c1, G2, c2, rfl, hv⟩, hb2⟩
  have hz2 := hb2.size
  have hown := hv.var hz2 29
  have hA2 := ba (Below.refl w2.heap.size w2) (.cells #[.slice G1 s.boxes.length c1, .slice G2 s.spool.length c2] 29)
  have HO2 := Lib.hid hown; have HA2 := Lib.hid (bt (bt HA1.out hb2) hA2); have HR2 := Lib.hid ((HR1.out.down hb2).down hA2)
  obtain ⟨base, hbase⟩ : ∃ base, base = w1.heap.size := ⟨_, rfl⟩
  rw [← hbase] at HO2 hz1 hz2
  clear hv hb2 hown hA2 n0 n1 HA1 HN1 HR1 HB HS hbase
  go_wp2_with fail
  obtain ⟨R7, hR7⟩ : ∃ R7, R7 = w2.heap.size := ⟨_, rfl⟩
  rw [← hR7] at HO2 ⊢
  obtain ⟨W2, hW2⟩ : ∃ W2, W2 = w2.alloc (.cells #[.slice G1 s.boxes.length c1, .slice G2 s.spool.length c2] 29) := ⟨_, rfl⟩
  rw [← hW2] at HO2 HA2 HR2 ⊢
  clear hR7 hW2 hz2
  go_loopw [26] (fun i wr => ∃ (j : Nat) (t : St), j ≤ l.length ∧ i = .int .i64 j ∧ OwnS wr base R7 t ∧ GoodS t ∧ allS s l = allS t (l.drop j) ∧ Has wr (w.heap.size + 1) [.slice none 0 0, .slice none 0 0] ∧ Below w.heap.size w wr) (fun i _ => l.length - (intOf i).toNat)
  case atStart => exact ⟨0, s, Nat.zero_le _, rfl, HO2.out, HG.out, rfl, HR2.out, HA2.out⟩
  case round =>
    obtain ⟨j, t, hj, rfl, hown, hgt, hall, hR, hb⟩ := hrel
    clear HO2 HR2 HA2
    have HALL := Lib.hid hall; have HGT := Lib.hid hgt; have HOW := Lib.hid hown; have HR := Lib.hid hR; have HBW := Lib.hid hb
    clear hall hgt hown hR
    by_cases hlt : j < l.length
    · obtain ⟨g, off, rfl, hF, hgw, c0, c1', c2', c3, c4, c5⟩ := ent_get HL.out hb j hlt
      have hxs := HSM.out l[j] (List.getElem_mem _)
      have hdr : Hid (l.drop j = l[j] :: l.drop (j + 1)) := List.drop_eq_getElem_cons hlt
      have hgr : g < wr.heap.size := Nat.lt_of_lt_of_le hgw hb.size
      generalize l[j] = x at c0 c1' c2' c3 c4 c5 hxs hdr
      obtain ⟨f1, f2, f3, f4, f5, f6⟩ := hxs
      have hA3 := ba (Below.refl wr.heap.size wr) (.cells #[.int .i64 x.kind, .string ⟨x.box.toArray⟩, .int .i64 x.uid, .int .i64 x.flags, .string ⟨x.to.toArray⟩, .string ⟨x.text.toArray⟩] 44)
      have HX := Lib.hid (Has.alloc wr [.int .i64 x.kind, .string ⟨x.box.toArray⟩, .int .i64 x.uid, .int .i64 x.flags, .string ⟨x.to.toArray⟩, .string ⟨x.text.toArray⟩] 44)
      have HB3 := Lib.hid (bt hb hA3); have HR3 := Lib.hid (HR.out.down hA3); have HO3 := Lib.hid (HOW.out.down hA3)
      have hfm := Lib.hid (form_any x m _ (by omega) (by omega) (by omega) (by omega) (by omega) (by omega) (moved HM.out HB3.out (Nat.le_refl _)))
      clear hA3 hb HR HOW HBW f1 f2 f3 f4 f5 f6
      go_wp2_with fail
      refine hfm.out.mono ?_
      rintro e w3 ⟨rfl, hb3⟩
      have HB4 := Lib.hid (bt HB3.out hb3); have HR4 := Lib.hid (HR3.out.down hb3); have HO4 := Lib.hid (HO3.out.down hb3)
      have hx4 := HX.out.down hb3
      obtain ⟨x0, x1, x2, x3, x4, x5⟩ := hx4.six
      clear hb3 c0 c1' c2' c3 c4 c5 HX hx4 HB3 HR3 HO3 hfm
      by_cases hf : formV x = 0
      · rw [hf]
        have hap := Lib.hid (apply_any t x base R7 w3 HO4.out HGT.out hf)
        have hgd := Lib.hid (applyS_good HGT.out hf)
        obtain ⟨ar, har⟩ : ∃ ar, ar = applyS t x := ⟨_, rfl⟩
        have HAR := Lib.hid har; have HF0 := Lib.hid hf
        clear hf har
        go_wp2_with fail
        refine hap.out.mono ?_
        rintro e w4 ⟨rfl, hown4, hb4⟩
        rw [← HAR.out] at hown4 ⊢
        have hgd2 := hgd.out
        rw [← HAR.out] at hgd2
        have HO5 := Lib.hid hown4; have HG5 := Lib.hid hgd2
        have HR5 := Lib.hid (HR4.out.below hb4 (by omega)); have HB5 := Lib.hid (HB4.out.trans (hb4.mono (by omega)))
        clear hown4 hgd2 hb4 x0 x1 x2 x3 x4 x5 hap hgd
        by_cases hc : ar.2 = 0
        · rw [hc]
          have hall2 : Hid (allS s l = allS ar.1 (l.drop (j + 1))) := by
            unfold Hid
            rw [HALL.out, hdr.out]
            show (if formV x ≠ 0 then _ else if (applyS t x).2 ≠ 0 then _ else _) = _
            rw [if_neg (by rw [HF0.out]; decide), if_neg (by rw [← HAR.out, hc]; decide), ← HAR.out]
          clear hc
          go_wp2_with fail
          go_roundw
          case rel => exact ⟨j + 1, ar.1, hlt, by go_num, HO5.out, HG5.out, hall2.out, HR5.out, HB5.out⟩
          case measure => simp [intOf]; omega
        · have hall2 : Hid (allS s l = (t, ar.2)) := by
            unfold Hid
            rw [HALL.out, hdr.out]
            show (if formV x ≠ 0 then _ else if (applyS t x).2 ≠ 0 then _ else _) = _
            rw [if_neg (by rw [HF0.out]; decide), if_pos (by rw [← HAR.out]; exact hc), ← HAR.out]
          obtain ⟨cc, hcc⟩ : ∃ cc, cc = ar.2 := ⟨_, rfl⟩
          rw [← hcc] at hc hall2 ⊢
          have q : (cc != 0) = true := by simpa using hc
          have q' : (cc == 0) = false := by simpa using hc
          obtain ⟨d0, d1, g0, g1⟩ := HR5.out.two
          have hz5 := HR5.out.2.2
          have HC := Lib.hid hc
          clear hc hcc
          go_wp2_with fail
          rw [hall2.out]
          exact all_end0 (R := w.heap.size + 1) rfl rfl rfl HC.out ((HR5.out.set' (i := 0) (.slice none 0 0) (by simp)).set' (i := 1) (.slice none 0 0) (by simp)) ((HB5.out.setCell (p := ⟨w.heap.size + 1, 0, none⟩) (by show w.heap.size ≤ w.heap.size + 1; omega) _).setCell (p := ⟨w.heap.size + 1, 1, none⟩) (by show w.heap.size ≤ w.heap.size + 1; omega) _)
      · have hall2 : Hid (allS s l = (t, formV x)) := by
          unfold Hid
          rw [HALL.out, hdr.out]
          show (if formV x ≠ 0 then _ else if (applyS t x).2 ≠ 0 then _ else _) = _
          rw [if_pos hf]
        obtain ⟨cc, hcc⟩ : ∃ cc, cc = formV x := ⟨_, rfl⟩
        rw [← hcc] at hf hall2 ⊢
        have q : (cc != 0) = true := by simpa using hf
        have q' : (cc == 0) = false := by simpa using hf
        obtain ⟨d0, d1, g0, g1⟩ := HR4.out.two
        have hz5 := HR4.out.2.2
        have HC := Lib.hid hf
        clear hf hcc x0 x1 x2 x3 x4 x5
        go_wp2_with fail
        rw [hall2.out]
        exact all_end0 (R := w.heap.size + 1) rfl rfl rfl HC.out ((HR4.out.set' (i := 0) (.slice none 0 0) (by simp)).set' (i := 1) (.slice none 0 0) (by simp)) ((HB4.out.setCell (p := ⟨w.heap.size + 1, 0, none⟩) (by show w.heap.size ≤ w.heap.size + 1; omega) _).setCell (p := ⟨w.heap.size + 1, 1, none⟩) (by show w.heap.size ≤ w.heap.size + 1; omega) _)
    · obtain rfl : j = l.length := by omega
      obtain ⟨qs, vB7, vS7, ho⟩ := HOW.out.opn
      obtain ⟨⟨G7, c7, rfl⟩, G8, c8, rfl⟩ := ho.form
      obtain ⟨r0, r1, -, -⟩ := ho.has.two
      have hall2 : Hid (allS s l = (t, 0)) := by
        unfold Hid; rw [HALL.out, List.drop_length]; rfl
      have hOw := Lib.hid (own_any t _ _ (fun b => base ≤ b) wr ho.sat (ho.rows.spool (fun b h => h)) (by have := HGT.out.boxes; omega) (by have := HGT.out.spool; omega) (fun b hb => by have := (HGT.out.ok b hb).2.2.2.1; omega))
      have hzr := HR.out.2.2
      clear ho hb HALL
      go_wp2_with fail
      refine hOw.out.mono ?_
      rintro e w3 ⟨⟨G9, c9, G10, c10, rfl, hv⟩, hb3⟩
      have HR3 := Lib.hid (HR.out.down hb3); have HB3 := Lib.hid (bt HBW.out hb3); have HV := Lib.hid hv
      obtain ⟨d0, d1, g0, g1⟩ := HR3.out.two
      have hz3 := HR3.out.2.2
      clear hb3 hv r0 r1 HR HBW hOw HOW
      go_wp2_with fail
      rw [hall2.out]
      exact all_end (R := w.heap.size + 1) (r := (t, 0)) rfl rfl rfl rfl ((HR3.out.set' (i := 0) _ (by simp)).set' (i := 1) _ (by simp)) (((HV.out.else' (by omega)).else' (by omega)).base (by omega)) ((HB3.out.setCell (p := ⟨w.heap.size + 1, 0, none⟩) (by show w.heap.size ≤ w.heap.size + 1; omega) _).setCell (p := ⟨w.heap.size + 1, 1, none⟩) (by show w.heap.size ≤ w.heap.size + 1; omega) _)

set_option maxHeartbeats 4000000 in
set_option maxRecDepth 20000 in
/-- more than ten entries are too many -/
theorem all_many (s : St) (Gl : Option Addr) (n cl : Nat) (vB vS : Value) (F : Dom) (m : Int) (w : World) (hB : SAt cBox w F vB s.boxes) (hS : SAt cEnt w F vS s.spool) (hg : GoodS s) (hn : 10 < n) (hn2 : n ≤ 1000)
    (hm : w.cell? ⟨0, 0, none⟩ = some (.int .i64 m)) : Calls Tryd.prog 7 #[.agg #[vB, vS], .slice Gl n cl] w (AllPost (s, 1) w) := by
  obtain ⟨Gb, cb, rfl, hcb⟩ := hB.form
  obtain ⟨Gs, cS, rfl, hcs⟩ := hS.form
  have hA := ba (ba (Below.refl w.heap.size w) (.cells #[.slice Gb s.boxes.length cb, .slice Gs s.spool.length cS] 29)) (.cells #[.slice none 0 0, .slice none 0 0] 29)
  have h2 := Has.alloc (w.alloc (.cells #[.slice Gb s.boxes.length cb, .slice Gs s.spool.length cS] 29)) [.slice none 0 0, .slice none 0 0] 29
  simp only [World.size_alloc] at h2
  have HA := Lib.hid hA; have H2 := Lib.hid h2; have HB := Lib.hid hB; have HS := Lib.hid hS; have HG := Lib.hid hg; have HM := Lib.hid hm
  clear hA h2 hB hS hg hm
  go_enter Tryd.func7, Tryd.ntmps7
  go_wp2_with fail
  refine (checkS_any s _ _ F m _ (HB.out.down HA.out) (HS.out.down HA.out) HG.out (moved HM.out HA.out (Nat.le_refl _))).mono ?_
  rintro e w1 ⟨rfl, hb1⟩
  have HA1 := Lib.hid (bt HA.out hb1); have HR1 := Lib.hid (H2.out.down hb1)
  obtain ⟨d0, d1, g0, g1⟩ := HR1.out.two
  have hz1 := HR1.out.2.2
  clear hb1 H2 HA
  go_wp2_with fail
  exact all_end0 (R := w.heap.size + 1) rfl rfl rfl (by show (1 : Int) ≠ 0; decide) ((HR1.out.set' (i := 0) (.slice none 0 0) (by simp)).set' (i := 1) (.slice none 0 0) (by simp)) ((HA1.out.setCell (p := ⟨w.heap.size + 1, 0, none⟩) (by show w.heap.size ≤ w.heap.size + 1; omega) _).setCell (p := ⟨w.heap.size + 1, 1, none⟩) (by show w.heap.size ≤ w.heap.size + 1; omega) _)
end Go.Proofs.YtaeejmggmgejcaaDoor
