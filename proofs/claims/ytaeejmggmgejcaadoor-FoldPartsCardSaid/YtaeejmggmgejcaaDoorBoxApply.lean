/-
  DERIVED. 'apply' of box: the walk.
-/
import Derived.Test.YtaeejmggmgejcaaDoorBoxApp
import Derived.Test.YtaeejmggmgejcaaDoorBoxFind
import Derived.Test.YtaeejmggmgejcaaDoorBoxCheck
import Derived.StillTailTactics
namespace Go.Proofs.YtaeejmggmgejcaaDoor
open Go.RowKit

/-- what apply answers -/
def AppS (s : St) (x : Ent) (base R : Nat) (w : World) (e : Ending) (w' : World) : Prop := e = .returned (.int .i64 (applyS s x).2) ∧ OwnS w' base R (applyS s x).1 ∧ Below base w w'
theorem form_kinds {x : Ent} (h : formV x = 0) : 1 ≤ x.kind ∧ x.kind ≤ 6 := by
  unfold formV at h
  split at h
  · cases h
  · omega
theorem form_bounds {x : Ent} (h : formV x = 0) : x.flags ≤ 31 ∧ x.text.length ≤ 2000 := by
  have hk := form_kinds h
  unfold formV at h
  rw [if_neg (by omega)] at h
  split at h
  · cases h
  · split at h
    · cases h
    · split at h
      · cases h
      · omega
theorem keep_eq : keep = fun m => m.flags &&& 8 == 0 := by
  funext m
  simp [keep, delB, bne]
theorem own_create2 {w w5 : World} {base R g5 cap5 : Nat} {s : St} {nm : List UInt8} {qs : List BQ} {vS : Value} {G : Option Addr} {c : Nat} (h : Opn w base R s qs (.slice G s.boxes.length c) vS) (hgrow : w.grownBy w5 (Value.slice G s.boxes.length c).ownBlock)
    (hown5 : w5.ownsRow base 52 3 (.slice (some ⟨g5, 0, none⟩) (s.boxes.length + 1) cap5) (s.boxes.length + 1) (bxcells qs ++ bxC (⟨nm, 1, []⟩, .slice none 0 0))) (hat : (Value.slice G s.boxes.length c).ownBlock = some g5 ∨ g5 = w.heap.size) :
    OwnS (w5.setCell ⟨R, 0, none⟩ (.slice (some ⟨g5, 0, none⟩) (s.boxes.length + 1) cap5)) base R ⟨s.boxes ++ [⟨nm, 1, []⟩], s.spool⟩ := by
  have e : s.boxes.length = qs.length := by rw [h.boxes, List.length_map]
  rw [e] at h hgrow hown5 hat ⊢
  exact own_create h hgrow hown5 hat
theorem idx_dec (o : Option Nat) : (o = none ∧ idx o = -1) ∨ ∃ i : Nat, o = some i ∧ idx o = (i : Int) := by
  cases o with
  | none => exact .inl ⟨rfl, rfl⟩
  | some i => exact .inr ⟨i, rfl, rfl⟩

set_option maxHeartbeats 16000000 in
set_option maxRecDepth 20000 in
theorem apply_any (s : St) (x : Ent) (base R : Nat) (w : World) (h : OwnS w base R s) (hg : GoodS s) (hx : formV x = 0) :
    Calls Tryd.prog 15 #[.pointer (some ⟨R, 0, none⟩), .agg #[.int .i64 x.kind, .string ⟨x.box.toArray⟩, .int .i64 x.uid, .int .i64 x.flags, .string ⟨x.to.toArray⟩, .string ⟨x.text.toArray⟩]] w (AppS s x base R w) := by
  obtain ⟨qs, vB, vS, ho⟩ := h.opn
  obtain ⟨⟨Gb, cb, rfl⟩, Gs, cS, rfl⟩ := ho.form
  have hbs := h.size
  obtain ⟨hk1, hk6⟩ := form_kinds hx
  have HG := Lib.hid hg; have HBS := Lib.hid hbs
  obtain ⟨hfl, htx⟩ := form_bounds hx
  obtain ⟨e0, he0, ez0, ez1, ez2⟩ := info_parts infoEnt2
  have EI := Lib.hid he0; have EZ0 := Lib.hid ez0; have EZ1 := Lib.hid ez1; have EZ2 := Lib.hid ez2
  obtain ⟨b0, hb0, bz0, bz1, bz2⟩ := info_parts infoBx
  have BI := Lib.hid hb0; have BZ0 := Lib.hid bz0; have BZ1 := Lib.hid bz1; have BZ2 := Lib.hid bz2
  clear he0 ez0 ez1 ez2 hb0 bz0 bz1 bz2
  have hA := ba (Below.refl w.heap.size w) (.cells #[.int .i64 x.kind, .string ⟨x.box.toArray⟩, .int .i64 x.uid, .int .i64 x.flags, .string ⟨x.to.toArray⟩, .string ⟨x.text.toArray⟩] 44)
  have HX := Lib.hid (Has.alloc w [.int .i64 x.kind, .string ⟨x.box.toArray⟩, .int .i64 x.uid, .int .i64 x.flags, .string ⟨x.to.toArray⟩, .string ⟨x.text.toArray⟩] 44)
  have HO := Lib.hid (ho.down hA); have HA := Lib.hid hA
  have hRw := ho.has.2.2
  have hbl := hg.boxes; have hsl := hg.spool
  have hF : Hid (∀ w', Below w.heap.size w w' → Calls Tryd.prog 18 #[.slice Gb s.boxes.length cb, .string ⟨x.box.toArray⟩] w' fun e w'' => e = .returned (.int .i64 (idx (findB s.boxes x.box))) ∧ Below w'.heap.size w' w'') :=
    fun w' hb => find_any _ s.boxes _ x.box w' (ho.sat.down hb) (by omega)
  have hlow := ho.low
  clear hA ho hg hx h
  go_enter Tryd.func15, Tryd.ntmps15
  go_wp2_with fail
  obtain ⟨N, hN⟩ : ∃ N, N = w.heap.size := ⟨_, rfl⟩
  obtain ⟨W0, hW0⟩ : ∃ W0, W0 = w.alloc (.cells #[.int .i64 x.kind, .string ⟨x.box.toArray⟩, .int .i64 x.uid, .int .i64 x.flags, .string ⟨x.to.toArray⟩, .string ⟨x.text.toArray⟩] 44) := ⟨_, rfl⟩
  rw [← hW0] at HX HO HA ⊢
  rw [← hN] at HX hRw hbs ⊢
  clear hW0 hN
  obtain ⟨r0, r1, -, -⟩ := HO.out.has.two
  have x1 := HX.out.1 1 _ rfl
  have hdr := Below.drew (Below.refl W0.heap.size W0)
  go_still_tail 6, (by kernel_rfl)
  change wpList _ _ _ _ _ W0.drew
  go_wp2_with fail
  refine (hF.out _ (bt HA.out hdr)).mono ?_
  rintro e w2 ⟨rfl, hb2⟩
  replace HX := Lib.hid ((HX.out.down hdr).down hb2); replace HO := Lib.hid ((HO.out.down hdr).down hb2); replace HA := Lib.hid (bt (bt HA.out hdr) hb2)
  clear r0 r1 x1 hdr hb2 hF
  obtain ⟨r0, r1, rf0, rf1⟩ := HO.out.has.two
  obtain ⟨x0, x1, x2, x3, x4, x5⟩ := HX.out.six
  have hNz := HX.out.2.2
  by_cases c6 : x.kind = 6
  · have q6 : ((x.kind : Int) == 6) = true := by simp; omega
    by_cases c20 : s.spool.length = 20
    · have q20 : ((s.spool.length : Int) == 20) = true := by simp; omega
      have hres : Hid (applyS s x = (s, 5)) := by unfold Hid applyS; rw [if_pos c6, if_pos c20]
      clear c6 c20
      go_wp2_with fail
      go_ret
      unfold AppS; rw [hres.out]
      exact ⟨rfl, HO.out.own, HA.out.mono HBS.out⟩
    · have q20 : ((s.spool.length : Int) == 20) = false := by simp; omega
      have hres : Hid (applyS s x = (⟨s.boxes, s.spool ++ [x]⟩, 0)) := by unfold Hid applyS; rw [if_pos c6, if_neg c20]
      clear c6 c20
      have hrow : (rowS (.slice Gs s.spool.length cS) s.spool).At w2 base := HO.out.rows.1 _ (List.mem_cons_of_mem _ (List.mem_cons_self ..))
      have hRs : some R ≠ (Value.slice Gs s.spool.length cS).ownBlock := fun e => HO.out.off _ (List.mem_cons_of_mem _ (List.mem_cons_self ..)) e.symm
      have hda := ba (Below.drew (Below.refl w2.heap.size w2)) (.cells #[.int .i64 x.kind, .string ⟨x.box.toArray⟩, .int .i64 x.uid, .int .i64 x.flags, .string ⟨x.to.toArray⟩, .string ⟨x.text.toArray⟩] 44)
      have HRW : Hid (World.ownsRow (w2.drew.alloc (.cells #[.int .i64 x.kind, .string ⟨x.box.toArray⟩, .int .i64 x.uid, .int .i64 x.flags, .string ⟨x.to.toArray⟩, .string ⟨x.text.toArray⟩] 44)) base 44 6 (.slice Gs s.spool.length cS) s.spool.length (s.spool.flatMap entC)) := row_down hrow hda
      have HO2 := Lib.hid (HO.out.down hda)
      have n1 := moved r1 (ba (Below.refl w2.heap.size w2) (.cells #[.int .i64 x.kind, .string ⟨x.box.toArray⟩, .int .i64 x.uid, .int .i64 x.flags, .string ⟨x.to.toArray⟩, .string ⟨x.text.toArray⟩] 44)) (Nat.le_refl _)
      have HB2 := Lib.hid (bt HA.out hda)
      have hw2 := HA.out.size
      have hRz : R < w2.heap.size := by omega
      clear hrow hda
      go_wp2_with fail
      go_region_law (first
        | (refine step_append_lies _ (by rfl) _ _ _ (by rfl) base 44 e0 _ 6 72 Tryd.underlying27 EI.out EZ0.out EZ1.out EZ2.out rfl (by omega) (.slice Gs s.spool.length cS) s.spool.length (s.spool.flatMap entC) (by rfl) HRW.out
            ⟨w2.heap.size, 0, none⟩ 1 1 [.int .i64 x.kind, .string ⟨x.box.toArray⟩, .int .i64 x.uid, .int .i64 x.flags, .string ⟨x.to.toArray⟩, .string ⟨x.text.toArray⟩] (by rfl) (by rfl) (World.news_of_block (cs := #[.int .i64 x.kind, .string ⟨x.box.toArray⟩, .int .i64 x.uid, .int .i64 x.flags, .string ⟨x.to.toArray⟩, .string ⟨x.text.toArray⟩]) (t := 44) (fr := (0, 0)) (heap_alloc_new w2 _)) (by simp [Value.oneCell'])
            (by omega) (by unfold maxLen; omega) (by omega) (by simp; omega) (w2.heap.size + 1) (by simp) ?_
           intro g5 cap5 w5 hown5 hgrow5 hat5 hlt5
           have z1 := (hgrow5.cell_far ⟨R, 1, none⟩ (by simp; omega) hRs).trans (HO2.out.has.two.2.1)
           have zf1 := (hgrow5.frozen_far ⟨R, 1, none⟩ (by simp; omega) hRs).trans (HO2.out.has.two.2.2.2)))
      all_goals
        have HO5 := Lib.hid hown5; have HG5 := Lib.hid hgrow5; have HAT := Lib.hid hat5
        clear hown5 hgrow5 hat5
        go_wp2_with fail
        go_ret
        unfold AppS; rw [hres.out]
        refine ⟨rfl, own_spool HO2.out HG5.out HO5.out (by
          rcases HAT.out with e | e
          · exact .inl e
          · exact .inr (by rw [e]; simp)), ?_⟩
        exact (below_row (HB2.out.mono HBS.out) HBS.out HRW.out (Nat.le_refl _) HG5.out).setCell (p := ⟨R, 1, none⟩) hlow _
  · have q6 : ((x.kind : Int) == 6) = false := by simp; omega
    rcases idx_dec (findB s.boxes x.box) with ⟨hfn, hfi⟩ | ⟨i, hfn, hfi⟩
    · rw [hfi]
      have HFN := Lib.hid hfn
      clear hfn hfi
      by_cases c1 : x.kind = 1
      · have q1 : ((x.kind : Int) == 1) = true := by simp; omega
        by_cases c5 : s.boxes.length = 5
        · have q5 : ((s.boxes.length : Int) == 5) = true := by simp; omega
          have hres : Hid (applyS s x = (s, 5)) := by unfold Hid applyS; rw [if_neg c6, HFN.out]; simp only; rw [if_pos c1, if_pos c5]
          clear c1 c5 c6
          go_wp2_with fail
          go_ret
          unfold AppS; rw [hres.out]
          exact ⟨rfl, HO.out.own, HA.out.mono HBS.out⟩
        · have q5 : ((s.boxes.length : Int) == 5) = false := by simp; omega
          have hres : Hid (applyS s x = (⟨s.boxes ++ [⟨x.box, 1, []⟩], s.spool⟩, 0)) := by unfold Hid applyS; rw [if_neg c6, HFN.out]; simp only; rw [if_pos c1, if_neg c5]
          clear c1 c5 c6
          have hrow : (rowB (.slice Gb s.boxes.length cb) qs).At w2 base := HO.out.rows.1 _ (List.mem_cons_self ..)
          have hrow2 : w2.ownsRow base 52 3 (.slice Gb s.boxes.length cb) s.boxes.length (bxcells qs) := by
            have e : s.boxes.length = qs.length := by rw [HO.out.boxes, List.length_map]
            rw [e] at hrow ⊢; exact hrow
          have hRs : some R ≠ (Value.slice Gb s.boxes.length cb).ownBlock := fun e => HO.out.off _ (List.mem_cons_self ..) e.symm
          have hda := ba (Below.drew (Below.refl w2.heap.size w2)) (.cells #[.string ⟨x.box.toArray⟩, .int .i64 1, .slice none 0 0] 52)
          have HRW : Hid (World.ownsRow (w2.drew.alloc (.cells #[.string ⟨x.box.toArray⟩, .int .i64 1, .slice none 0 0] 52)) base 52 3 (.slice Gb s.boxes.length cb) s.boxes.length (bxcells qs)) := row_down hrow2 hda
          have HO2 := Lib.hid (HO.out.down hda)
          have n0 := moved r0 (ba (Below.refl w2.heap.size w2) (.cells #[.string ⟨x.box.toArray⟩, .int .i64 1, .slice none 0 0] 52)) (Nat.le_refl _)
          have HB2 := Lib.hid (bt HA.out hda)
          have hw2 := HA.out.size
          have hRz : R < w2.heap.size := by omega
          clear hrow hrow2 hda
          go_wp2_with fail
          go_region_law (first
            | (refine step_append_lies _ (by rfl) _ _ _ (by rfl) base 52 b0 _ 3 48 Tryd.underlying26 BI.out BZ0.out BZ1.out BZ2.out rfl (by omega) (.slice Gb s.boxes.length cb) s.boxes.length (bxcells qs) (by rfl) HRW.out
                ⟨w2.heap.size, 0, none⟩ 1 1 [.string ⟨x.box.toArray⟩, .int .i64 1, .slice none 0 0] (by rfl) (by rfl) (World.news_of_block (cs := #[.string ⟨x.box.toArray⟩, .int .i64 1, .slice none 0 0]) (t := 52) (fr := (0, 0)) (heap_alloc_new w2 _)) (by simp [Value.oneCell'])
                (by omega) (by unfold maxLen; omega) (by omega) (by simp; omega) (w2.heap.size + 1) (by simp) ?_
               intro g5 cap5 w5 hown5 hgrow5 hat5 hlt5
               have z1 := (hgrow5.cell_far ⟨R, 0, none⟩ (by simp; omega) hRs).trans (HO2.out.has.two.1)
               have zf1 := (hgrow5.frozen_far ⟨R, 0, none⟩ (by simp; omega) hRs).trans (HO2.out.has.two.2.2.1)))
          all_goals
            have HO5 := Lib.hid hown5; have HG5 := Lib.hid hgrow5; have HAT := Lib.hid hat5
            clear hown5 hgrow5 hat5
            go_wp2_with fail
            go_ret
            unfold AppS; rw [hres.out]
            refine ⟨rfl, own_create2 HO2.out HG5.out HO5.out (by
              rcases HAT.out with e | e
              · exact .inl e
              · exact .inr (by rw [e]; simp)), ?_⟩
            exact (below_row (HB2.out.mono HBS.out) HBS.out HRW.out (Nat.le_refl _) HG5.out).setCell (p := ⟨R, 0, none⟩) hlow _
      · have q1 : ((x.kind : Int) == 1) = false := by simp; omega
        have hres : Hid (applyS s x = (s, 7)) := by unfold Hid applyS; rw [if_neg c6, HFN.out]; simp only; rw [if_neg c1]
        clear c1 c6
        go_wp2_with fail
        go_ret
        unfold AppS; rw [hres.out]
        exact ⟨rfl, HO.out.own, HA.out.mono HBS.out⟩
    · rw [hfi]
      obtain ⟨hi, hnm⟩ := findB_some hfn
      have hi1000 : i ≤ 5 := by omega
      have HFN := Lib.hid hfn
      clear hnm hfn hfi
      by_cases c1 : x.kind = 1
      · have q1 : ((x.kind : Int) == 1) = true := by simp; omega
        have hres : Hid (applyS s x = (s, 10)) := by unfold Hid applyS; rw [if_neg c6, HFN.out]; simp only; rw [if_pos c1]
        clear c1 c6
        go_wp2_with fail
        go_ret
        unfold AppS; rw [hres.out]
        exact ⟨rfl, HO.out.own, HA.out.mono HBS.out⟩
      have q1 : ((x.kind : Int) == 1) = false := by simp; omega
      by_cases c2 : x.kind = 2
      · have q2 : ((x.kind : Int) == 2) = true := by simp; omega
        have hadd := Lib.hid (add_any s i x.flags x.text base R w2 HO.out.own HG.out hi hfl htx)
        have hres : Hid (applyS s x = (match addS s i x.flags x.text with | some t => (t, 0) | none => (s, 5))) := by unfold Hid applyS; rw [if_neg c6, HFN.out]; simp only; rw [if_neg c1, if_pos c2]; rfl
        clear c1 c2 c6
        go_wp2_with fail
        refine hadd.out.mono ?_
        rintro e w3 ⟨hm, hb3⟩
        have HB3 : Hid (Below base w w3) := (HA.out.mono HBS.out).trans hb3
        cases hs : addS s i x.flags x.text with
        | none =>
          rw [hs] at hm
          obtain ⟨rfl, ho3⟩ := hm
          have HO3 := Lib.hid ho3; have HS := Lib.hid hs
          clear hs ho3 hb3 r0 r1 rf0 rf1 x0 x1 x2 x3 x4 x5
          go_wp2_with fail
          go_ret
          unfold AppS; rw [hres.out, HS.out]
          exact ⟨rfl, HO3.out, HB3.out⟩
        | some t =>
          rw [hs] at hm
          obtain ⟨rfl, ho3⟩ := hm
          have HO3 := Lib.hid ho3; have HS := Lib.hid hs
          clear hs ho3 hb3 r0 r1 rf0 rf1 x0 x1 x2 x3 x4 x5
          go_wp2_with fail
          go_ret
          unfold AppS; rw [hres.out, HS.out]
          exact ⟨rfl, HO3.out, HB3.out⟩
      have q2 : ((x.kind : Int) == 2) = false := by simp; omega
      obtain ⟨b, hb⟩ : ∃ b, s.boxes[i]? = some b := ⟨_, List.getElem?_eq_getElem hi⟩
      obtain ⟨g, cap, G, c, hvB, hgb, hgw, _, hq, hrow, hga, hRa, hRg, hrowB, y0, y1, y2, yf2⟩ := HO.out.box hb
      cases hvB
      have HB := Lib.hid hb; have HQ := Lib.hid hq; have HROW := Lib.hid hrow
      have hml : b.mails.length ≤ 30 := (HG.out.ok b (List.mem_of_getElem? hb)).2.2.2.1
      clear hb hq hrow hrowB
      have hRz : R < w2.heap.size := by have := HA.out.size; omega
      have hib : i < s.boxes.length := hi
      by_cases c4 : x.kind = 4
      · have q4 : ((x.kind : Int) == 4) = true := by simp; omega
        have hres : Hid (applyS s x = (⟨s.boxes.set i ⟨b.name, b.next, b.mails.filter keep⟩, s.spool⟩, 0)) := by
          unfold Hid applyS; rw [if_neg c6, HFN.out]; simp only; rw [if_neg c1, if_neg c2, HB.out]; simp only; rw [if_pos c4, keep_eq]
        have hfm : ∀ m ∈ b.mails, m.flags ≤ 31 := by
          intro m hm
          obtain ⟨k, hk, rfl⟩ := List.getElem_of_mem hm
          exact (mails_at b.next b.mails 0 (HG.out.ok b (List.mem_of_getElem? HB.out)).2.2.2.2 k hk).2.2.1
        have hdl := Lib.hid (delete_any (.slice G b.mails.length c) b.mails base w2.drew (row_down HROW.out (Below.drew (Below.refl w2.heap.size w2))) (by omega) hfm)
        have HOd := Lib.hid (HO.out.down (Below.drew (Below.refl w2.heap.size w2)))
        have HAd := Lib.hid (Below.drew (HA.out.mono HBS.out))
        clear c1 c2 c4 c6 hfm
        go_wp2_with fail
        go_region_with (go_at_call 25; refine hdl.out.mono ?_; rintro e w3 ⟨⟨G3, c3, rfl, hown3, hbl3⟩, hgr3⟩; have z0 := (hgr3.cell_far ⟨R, 0, none⟩ (by show R < w2.heap.size; omega) hRa).trans r0; have z2 := (hgr3.cell_far ⟨g, i * 3 + 2, none⟩ (by show g < w2.heap.size; omega) hga).trans y2; have zf2 := (hgr3.frozen_far ⟨g, i * 3 + 2, none⟩ (by show g < w2.heap.size; omega) hga).trans yf2)
        all_goals
          have HO3 := Lib.hid hown3; have HG3 := Lib.hid hgr3; have HBL := Lib.hid hbl3
          clear hown3 hgr3 hbl3
          go_wp2_with fail
          go_ret
          unfold AppS; rw [hres.out]
          exact ⟨rfl, own_mails HOd.out HQ.out HG3.out HO3.out HBL.out hRa hRg, (below_row HAd.out HBS.out (row_down HROW.out (Below.drew (Below.refl w2.heap.size w2))) (Nat.le_refl _) HG3.out).setCell (p := ⟨g, i * 3 + 2, none⟩) hgb _⟩
      have q4 : ((x.kind : Int) == 4) = false := by simp; omega
      have hU := Lib.hid (indexU_any (.slice G b.mails.length c) b.mails (fun b => base ≤ b) N x.uid w2 (SAt.of_row HROW.out (fun b h => h)) (by omega) x2)
      have hsat := HO.out.sat
      rcases idx_dec (b.mails.findIdx? (uidB x.uid)) with ⟨hkn, hki⟩ | ⟨k, hkn, hki⟩
      · rw [hki] at hU
        have hres : Hid (applyS s x = (s, 7)) := by
          unfold Hid applyS; rw [if_neg c6, HFN.out]; simp only; rw [if_neg c1, if_neg c2, HB.out]; simp only; rw [if_neg c4, show (b.mails.findIdx? fun m => m.uid == x.uid) = none from hkn]
        clear c1 c2 c4 c6 hkn hki hsat
        go_wp2_with fail
        refine hU.out.mono ?_
        rintro e w3 ⟨rfl, hb3⟩
        have HO3 := Lib.hid (HO.out.own.down hb3); have HA3 := Lib.hid (bt HA.out hb3)
        clear hb3 r0 r1 rf0 rf1 x0 x1 x2 x3 x4 x5 y0 y1 y2 yf2
        go_wp2_with fail
        go_ret
        unfold AppS; rw [hres.out]
        exact ⟨rfl, HO3.out, HA3.out.mono HBS.out⟩
      · rw [hki] at hU
        obtain ⟨hk, _⟩ := List.findIdx?_eq_some_iff_getElem.1 hkn
        obtain ⟨m, hm⟩ : ∃ m, b.mails[k]? = some m := ⟨_, List.getElem?_eq_getElem hk⟩
        have HM := Lib.hid hm; have HK := Lib.hid hkn
        obtain ⟨gm, cm, hG, hgm1, hgm2⟩ := World.ownsRow.form HROW.out (show 0 < (rowM (b, .slice G b.mails.length c)).n by show 0 < b.mails.length; omega)
        cases hG
        have hk30 : k ≤ 30 := by omega
        clear hm hkn hki
        by_cases c3 : x.kind = 3
        · have q3 : ((x.kind : Int) == 3) = true := by simp; omega
          have hres : Hid (applyS s x = (⟨s.boxes.set i ⟨b.name, b.next, b.mails.set k ⟨m.uid, x.flags, m.text⟩⟩, s.spool⟩, 0)) := by
            unfold Hid applyS; rw [if_neg c6, HFN.out]; simp only; rw [if_neg c1, if_neg c2, HB.out]; simp only; rw [if_neg c4, show (b.mails.findIdx? fun m => m.uid == x.uid) = some k from HK.out]; simp only; rw [HM.out]; simp only; rw [if_pos c3]
          clear c1 c2 c3 c4 c6 hsat
          go_wp2_with fail
          refine hU.out.mono ?_
          rintro e w3 ⟨rfl, hb3⟩
          have HO3 := Lib.hid (HO.out.down hb3); have HA3 := Lib.hid (bt HA.out hb3)
          have hrow3 := row_down HROW.out hb3
          obtain ⟨m0, m1, m2⟩ := mail_own hrow3 k m HM.out hk
          have mf := World.ownsRow.frozenAt hrow3 (k * 3 + 1)
          obtain ⟨X0, X1, X2, X3, X4, X5⟩ := (HX.out.down hb3).six
          obtain ⟨R0, -, -, -⟩ := HO3.out.has.two
          have Y2 := moved y2 hb3 (Nat.le_refl _)
          have hgm3 : gm < w3.heap.size := Nat.lt_of_lt_of_le hgm2 hb3.size
          have hgr3 : g < w3.heap.size := Nat.lt_of_lt_of_le hgw hb3.size
          clear hb3 hrow3 r0 r1 rf0 rf1 x0 x1 x2 x3 x4 x5 y0 y1 y2 yf2
          go_wp2_with fail
          go_still_tail 13, (by kernel_rfl)
          change wpList _ _ _ _ _ w3.drew
          go_wp2_with fail
          go_ret
          unfold AppS; rw [hres.out]
          exact ⟨rfl, (own_flag HO3.out HQ.out HM.out (fun e => hRa (by rw [e]; rfl))).down (Below.drew (Below.refl _ _)), Below.drew ((HA3.out.mono HBS.out).setCell (p := ⟨gm, k * 3 + 1, none⟩) hgm1 _)⟩
        have q3 : ((x.kind : Int) == 3) = false := by simp; omega
        have hF2 : Hid (∀ w', Below w2.heap.size w2 w' → Calls Tryd.prog 18 #[.slice (some ⟨g, 0, none⟩) s.boxes.length cb, .string ⟨x.to.toArray⟩] w' fun e w'' => e = .returned (.int .i64 (idx (findB s.boxes x.to))) ∧ Below w'.heap.size w' w'') :=
          fun w' hb => find_any _ s.boxes _ x.to w' (hsat.down hb) (by omega)
        have hmo := mails_at b.next b.mails 0 (HG.out.ok b (List.mem_of_getElem? HB.out)).2.2.2.2 k hk
        have hmk : b.mails[k] = m := by have := HM.out; rw [List.getElem?_eq_getElem hk] at this; exact Option.some.inj this
        rw [hmk] at hmo
        obtain ⟨_, _, hmf, hmt⟩ := hmo
        rcases idx_dec (findB s.boxes x.to) with ⟨hjn, hji⟩ | ⟨j, hjn, hji⟩
        · rw [hji] at hF2
          have hres : Hid (applyS s x = (s, 7)) := by
            unfold Hid applyS; rw [if_neg c6, HFN.out]; simp only; rw [if_neg c1, if_neg c2, HB.out]; simp only; rw [if_neg c4, show (b.mails.findIdx? fun m => m.uid == x.uid) = some k from HK.out]; simp only; rw [HM.out]; simp only; rw [if_neg c3, hjn]
          clear c1 c2 c3 c4 c6 hsat hmk hjn hji
          go_wp2_with fail
          refine hU.out.mono ?_
          rintro e w3 ⟨rfl, hb3⟩
          have HO3 := Lib.hid (HO.out.down hb3); have HA3 := Lib.hid (bt HA.out hb3)
          obtain ⟨X0, X1, X2, X3, X4, X5⟩ := (HX.out.down hb3).six
          obtain ⟨R0, -, -, -⟩ := HO3.out.has.two
          have HD3 := Lib.hid hb3
          clear hb3 r0 r1 rf0 rf1 x0 x1 x2 x3 x4 x5 y0 y1 y2 yf2
          go_wp2_with fail
          go_still_tail 6, (by kernel_rfl)
          change wpList _ _ _ _ _ w3.drew
          have hdr := Below.drew (Below.refl w3.heap.size w3)
          go_wp2_with fail
          refine (hF2.out _ (bt HD3.out hdr)).mono ?_
          rintro e w4 ⟨rfl, hb4⟩
          have HO4 := Lib.hid (HO3.out.own.down (bt hdr hb4)); have HA4 := Lib.hid (bt HA3.out (bt hdr hb4))
          clear hb4 hdr R0 X0 X1 X2 X3 X4 X5
          go_wp2_with fail
          go_ret
          unfold AppS; rw [hres.out]
          exact ⟨rfl, HO4.out, HA4.out.mono HBS.out⟩
        · rw [hji] at hF2
          obtain ⟨hjl, _⟩ := findB_some hjn
          have hres : Hid (applyS s x = (match addS s j m.flags m.text with | some t => (t, 0) | none => (s, 5))) := by
            unfold Hid applyS; rw [if_neg c6, HFN.out]; simp only; rw [if_neg c1, if_neg c2, HB.out]; simp only; rw [if_neg c4, show (b.mails.findIdx? fun m => m.uid == x.uid) = some k from HK.out]; simp only; rw [HM.out]; simp only; rw [if_neg c3, hjn]; rfl
          have hadd : Hid (∀ w', OwnS w' base R s → Calls Tryd.prog 24 #[.pointer (some ⟨R, 0, none⟩), .int .i64 j, .int .i64 m.flags, .string ⟨m.text.toArray⟩] w' (AddPost s j m.flags m.text base R w')) := fun w' h => add_any s j m.flags m.text base R w' h HG.out hjl hmf hmt
          clear c1 c2 c3 c4 c6 hsat hmk hjn hji
          go_wp2_with fail
          refine hU.out.mono ?_
          rintro e w3 ⟨rfl, hb3⟩
          have HO3 := Lib.hid (HO.out.down hb3); have HA3 := Lib.hid (bt HA.out hb3)
          obtain ⟨X0, X1, X2, X3, X4, X5⟩ := (HX.out.down hb3).six
          obtain ⟨R0, -, -, -⟩ := HO3.out.has.two
          have HD3 := Lib.hid hb3
          clear hb3 r0 r1 rf0 rf1 x0 x1 x2 x3 x4 x5
          go_wp2_with fail
          go_still_tail 6, (by kernel_rfl)
          change wpList _ _ _ _ _ w3.drew
          have hdr := Below.drew (Below.refl w3.heap.size w3)
          go_wp2_with fail
          refine (hF2.out _ (bt HD3.out hdr)).mono ?_
          rintro e w4 ⟨rfl, hb4⟩
          have hb24 := bt HD3.out (bt hdr hb4)
          have HO4 := Lib.hid (HO3.out.down (bt hdr hb4)); have HA4 := Lib.hid (bt HA3.out (bt hdr hb4))
          have hrow4 := row_down HROW.out hb24
          obtain ⟨m0, m1, m2⟩ := mail_own hrow4 k m HM.out hk
          obtain ⟨S0, -, -, -⟩ := HO4.out.has.two
          have Y2 := moved y2 hb24 (Nat.le_refl _)
          have hgm4 : gm < w4.heap.size := Nat.lt_of_lt_of_le hgm2 hb24.size
          have hgr4 : g < w4.heap.size := Nat.lt_of_lt_of_le hgw hb24.size
          clear hb4 hdr R0 X0 X1 X2 X3 X4 X5 hb24 hrow4 y0 y1 y2 yf2
          go_wp2_with fail
          have hA5 := ba (Below.refl w4.heap.size w4) (.cells #[.int .i64 m.uid, .int .i64 m.flags, .string ⟨m.text.toArray⟩] 54)
          refine (hadd.out _ (HO4.out.own.down hA5)).mono ?_
          rintro e w5 ⟨hmm, hb5⟩
          have HB5 : Hid (Below base w w5) := ((bt HA4.out hA5).mono HBS.out).trans hb5
          cases hs : addS s j m.flags m.text with
          | none =>
            rw [hs] at hmm
            obtain ⟨rfl, ho5⟩ := hmm
            have HO5 := Lib.hid ho5; have HS := Lib.hid hs
            clear hs ho5 hb5 hA5 m0 m1 m2 S0 Y2
            go_wp2_with fail
            go_ret
            unfold AppS; rw [hres.out, HS.out]
            exact ⟨rfl, HO5.out, HB5.out⟩
          | some t =>
            rw [hs] at hmm
            obtain ⟨rfl, ho5⟩ := hmm
            have HO5 := Lib.hid ho5; have HS := Lib.hid hs
            clear hs ho5 hb5 hA5 m0 m1 m2 S0 Y2
            go_wp2_with fail
            go_ret
            unfold AppS; rw [hres.out, HS.out]
            exact ⟨rfl, HO5.out, HB5.out⟩
end Go.Proofs.YtaeejmggmgejcaaDoor
