/-
  DERIVED. AllParts: the walk.
-/
import Derived.Test.YthllhakgcnfmcaaDoorBoxHead
namespace Go.Proofs.YthllhakgcnfmcaaDoor
open Go.RowKit

theorem allS_cons (s : St) (x : Ent) (l : List Ent) (hx : formV x = 0) : allS s (x :: l) = if (allS s [x]).2 = 0 then allS (allS s [x]).1 l else (s, (allS s [x]).2) := by
  have h : allS s (x :: l) = if (applyS s x).2 ≠ 0 then (s, (applyS s x).2) else allS (applyS s x).1 l := by
    show (if formV x ≠ 0 then _ else if (applyS s x).2 ≠ 0 then _ else _) = _
    rw [if_neg (by rw [hx]; decide)]
  rw [h, one_eq s x hx]
  by_cases h0 : (applyS s x).2 = 0
  · simp [h0]
  · simp [h0]

set_option maxHeartbeats 4000000 in
set_option maxRecDepth 20000 in
theorem all_long (s : St) (vB vS : Value) (G : Option Addr) (n c : Nat) (F : Dom) (m : Int) (w : World) (hB : SAt cBox w F vB s.boxes) (hS : SAt cEnt w F vS s.spool) (hg : GoodS s) (hn : 10 < n) (hn2 : n ≤ 1000)
    (hm : w.cell? ⟨0, 0, none⟩ = some (.int .i64 m)) : Calls Tryd.prog 18 #[.agg #[vB, vS], .slice G n c] w (AllPost (s, 1) w) := by
  obtain ⟨Gb, cb, rfl, hcb⟩ := hB.form
  obtain ⟨Gs, cS, rfl, hcs⟩ := hS.form
  have hA := ba (ba (Below.refl w.heap.size w) (.cells #[.slice Gb s.boxes.length cb, .slice Gs s.spool.length cS] 28)) (.cells #[.slice none 0 0, .slice none 0 0] 28)
  have h1 := (Has.alloc w [.slice Gb s.boxes.length cb, .slice Gs s.spool.length cS] 28).down (ba (Below.refl _ _) (.cells #[.slice none 0 0, .slice none 0 0] 28))
  have h2 := Has.alloc (w.alloc (.cells #[.slice Gb s.boxes.length cb, .slice Gs s.spool.length cS] 28)) [.slice none 0 0, .slice none 0 0] 28
  simp only [World.size_alloc] at h2
  have HA := Lib.hid hA; have H1 := Lib.hid h1; have H2 := Lib.hid h2; have HB := Lib.hid (hB.down hA); have HS := Lib.hid (hS.down hA); have HG := Lib.hid hg; have HM := Lib.hid (moved hm hA (Nat.le_refl _))
  clear hA h1 h2 hB hS hg hm
  go_enter Tryd.func18, Tryd.ntmps18
  obtain ⟨n0, n1, -, -⟩ := H1.out.two
  go_wp2_with fail
  refine (checkS_any s _ _ F m _ HB.out HS.out HG.out HM.out).mono ?_
  rintro e w1 ⟨rfl, hb1⟩
  have HA1 := Lib.hid (bt HA.out hb1); have HR1 := Lib.hid (H2.out.down hb1)
  obtain ⟨d0, d1, g0, g1⟩ := HR1.out.two
  have d : decide ((10 : Int) < n) = true := decide_eq_true (by omega)
  have hz := HR1.out.2.2
  clear hb1 n0 n1
  go_wp2_with fail
  exact all_end0 (R := w.heap.size + 1) rfl rfl rfl (by show (1 : Int) ≠ 0; decide) ((HR1.out.set' (i := 0) _ (by simp)).set' (i := 1) _ (by simp)) ((HA1.out.setCell (p := ⟨w.heap.size + 1, 0, none⟩) (by show w.heap.size ≤ w.heap.size + 1; omega) _).setCell (p := ⟨w.heap.size + 1, 1, none⟩) (by show w.heap.size ≤ w.heap.size + 1; omega) _)
/-- a batch that is too long -/
def eleven : Array Value := (List.replicate 11 [.int .i64 0, .string ⟨#[]⟩, .int .i64 0, .int .i64 0, .string ⟨#[]⟩, .string ⟨#[]⟩]).flatten.toArray
theorem eleven_made (w : World) : (Instr.makeSlice 26 (.int .i64 11) (.int .i64 11)).run Tryd.prog w = .ok (.slice (some ⟨w.heap.size, 0, none⟩) 11 11) (w.alloc (.cells eleven 31)) := by kernel_rfl
/-- All, with its answer known -/
theorem all_err {s t : St} {l : List Ent} {k : Int} (hr : allS s l = (t, k)) (hk : k ≠ 0) (vB vS v : Value) (F : Dom) (m : Int) (w : World) (hB : SAt cBox w F vB s.boxes) (hS : SAt cEnt w F vS s.spool) (hg : GoodS s) (hL : SAt cEnt w F v l) (hl : l.length ≤ 10) (hsm : ∀ x ∈ l, Small x)
    (hm : w.cell? ⟨0, 0, none⟩ = some (.int .i64 m)) : Calls Tryd.prog 18 #[.agg #[vB, vS], v] w (fun e w' => e = .returned (.tuple #[.agg #[.slice none 0 0, .slice none 0 0], .int .i64 k]) ∧ Below w.heap.size w w') := by
  have := all_any s l vB vS v F m w hB hS hg hL hl hsm hm
  rw [hr] at this
  refine this.mono fun e w' h => ?_
  unfold AllPost at h
  rwa [if_neg (by exact hk)] at h
theorem all_ok {s t : St} {l : List Ent} (hr : allS s l = (t, 0)) (vB vS v : Value) (F : Dom) (m : Int) (w : World) (hB : SAt cBox w F vB s.boxes) (hS : SAt cEnt w F vS s.spool) (hg : GoodS s) (hL : SAt cEnt w F v l) (hl : l.length ≤ 10) (hsm : ∀ x ∈ l, Small x)
    (hm : w.cell? ⟨0, 0, none⟩ = some (.int .i64 m)) : Calls Tryd.prog 18 #[.agg #[vB, vS], v] w (fun e w' => (∃ G1 c1 G2 c2, e = .returned (.tuple #[.agg #[.slice G1 t.boxes.length c1, .slice G2 t.spool.length c2], .int .i64 0]) ∧ OwnV w' w.heap.size (.slice G1 t.boxes.length c1) (.slice G2 t.spool.length c2) t) ∧ Below w.heap.size w w') := by
  have := all_any s l vB vS v F m w hB hS hg hL hl hsm hm
  rw [hr] at this
  refine this.mono fun e w' h => ?_
  unfold AllPost at h
  rwa [if_pos rfl] at h
/-- what the loop keeps: the state that the entries so far made -/
def APRel (s : St) (xs : List Ent) (U : Nat) (w4 : World) (i : Value) (wr : World) : Prop := ∃ (j : Nat) (t : St) (G1 : Option Addr) (c1 : Nat) (G2 : Option Addr) (c2 : Nat), j ≤ xs.length ∧ i = .int .i64 j ∧ allS s xs = allS t (xs.drop j) ∧ GoodS t ∧ VarS wr U (.slice G1 t.boxes.length c1) (.slice G2 t.spool.length c2) t ∧ Below U w4 wr ∧ w4.heap.size ≤ wr.heap.size

set_option maxHeartbeats 8000000 in
set_option maxRecDepth 20000 in
theorem allParts_walk (a : Option Addr) (cap : Nat) (cs : List Raw) (a2 : Option Addr) (cap2 : Nat) (ds : List Raw) (m : Int) (w : World) (h : RawsAt w a cs) (hlen : cs.length ≤ 9223372036854775807) (h' : RawsAt w a2 ds) (hlen' : ds.length ≤ 9223372036854775807) (hm : w.cell? ⟨0, 0, none⟩ = some (.int .i64 m)) :
    Calls Tryd.prog 6 #[.slice a cs.length cap, .slice a2 ds.length cap2] w fun e w' => e = .returned (.bool true) ∧ Below w.heap.size w w' := by
  have HS := Lib.hid (state_any a cap cs m w h hlen hm)
  have hg := stOf_good cs
  obtain ⟨s, hs⟩ : ∃ s, s = stOf cs := ⟨_, rfl⟩
  rw [← hs] at HS hg
  have HG := Lib.hid hg; have HM := Lib.hid hm; have HD := Lib.hid h'; have hsl := hg.spool; have hbl := hg.boxes
  obtain ⟨xs, hxs⟩ : ∃ xs, xs = entsOf (ds.take 10) := ⟨_, rfl⟩
  have hxl : xs.length = min ds.length 10 := by rw [hxs]; unfold entsOf; rw [List.length_map, List.length_take]; omega
  have HXF : Hid (∀ x ∈ xs, formV x = 0) := by
    unfold Hid; rw [hxs]; intro x hx
    obtain ⟨c, _, rfl⟩ := List.mem_map.1 hx
    exact entOf_form c
  have HEN : Hid (∀ w', Below w.heap.size w w' → Calls Tryd.prog 17 #[.slice a2 ds.length cap2, .int .i64 10] w' fun e w'' => (∃ G c, e = .returned (.slice G xs.length c) ∧ SAt cEnt w'' (fun _ => True) (.slice G xs.length c) xs) ∧ Below w'.heap.size w' w'') := by
    intro w' hb
    refine (entriesOf_any a2 cap2 ds 10 w' (HD.out.down hb) hlen' (by omega)).mono ?_
    rintro e w'' ⟨⟨v, rfl, hv⟩, hb2⟩
    rw [← hxs, ← hxl] at hv
    have hs2 : SAt cEnt w'' (fun _ => True) v xs := SAt.of_row (f := entC) hv (fun _ _ => trivial)
    obtain ⟨G, c, rfl, _⟩ := hs2.form
    exact ⟨⟨G, c, rfl, hs2⟩, hb2⟩
  have hxl10 : xs.length ≤ 10 := by omega
  clear h hm hg hs h' hxs hxl
  go_enter Tryd.func6, Tryd.ntmps6
  go_wp2_with fail
  refine HS.out.mono ?_
  rintro e w1 ⟨⟨G1, c1, G2, c2, rfl, h1, h2⟩, hb1⟩
  have hA1 := bt hb1 (ba (Below.refl w1.heap.size w1) (.cells #[.slice G1 s.boxes.length c1, .slice G2 s.spool.length c2] 28))
  have HV1 := Lib.hid (VarS.new h1 h2 28)
  have HB1 := Lib.hid hA1
  have hz1 : w.heap.size ≤ w1.heap.size := hb1.size
  clear h1 h2 hb1 HS hA1
  go_wp2_with fail
  refine (HEN.out _ HB1.out).mono ?_
  rintro e w2 ⟨⟨Gx, cx, rfl, hx⟩, hb2⟩
  have HV2 := Lib.hid (HV1.out.down hb2); have HB2 := Lib.hid (bt HB1.out hb2); have HX2 := Lib.hid hx
  have hz2 : w1.heap.size < w2.heap.size := by have := hb2.size; simp at this; omega
  clear hb2 HV1 HB1 HEN hx
  obtain ⟨c0, c1', -, -⟩ := HV2.out.1.two
  go_wp2_with fail
  obtain ⟨r, hr⟩ : ∃ r, r = allS s xs := ⟨_, rfl⟩
  have HSM : Hid (∀ x ∈ xs, Small x) := fun x hx => small_of_form (HXF.out x hx)
  by_cases hr0 : r.2 = 0
  · obtain ⟨T, hT⟩ : ∃ T, T = r.1 := ⟨_, rfl⟩
    have HRS : Hid (allS s xs = (T, 0)) := by unfold Hid; rw [← hr, hT, ← hr0]
    clear hr hT hr0
    refine (all_ok HRS.out _ _ _ (fun _ => True) m _ (HV2.out.2.1.mono (fun _ _ => trivial)) (HV2.out.2.2.mono (fun _ _ => trivial)) HG.out HX2.out hxl10 HSM.out (moved HM.out HB2.out (Nat.le_refl _))).mono ?_
    rintro e w3 ⟨⟨E1, e1, E2, e2, rfl, hv⟩, hb3⟩
    have hA3 := bt hb3 (ba (Below.refl w3.heap.size w3) (.cells #[.slice E1 T.boxes.length e1, .slice E2 T.spool.length e2] 28))
    obtain ⟨k1, k2⟩ := hv.sat (F := fun _ => True) (fun _ _ => trivial)
    have HT3 := Lib.hid (VarS.new k1 k2 28)
    have HV3 := Lib.hid (HV2.out.down hA3); have HX3 := Lib.hid (HX2.out.down hA3); have HB3 := Lib.hid (bt HB2.out hA3)
    have HU4 := Lib.hid (VarS.new HV3.out.2.1 HV3.out.2.2 28)
    clear hb3 hA3 hv k1 k2 HV2 HX2 HB2 c0 c1'
    obtain ⟨c0, c1', -, -⟩ := HV3.out.1.two
    go_wp2_with fail
    obtain ⟨W3, hW3⟩ : ∃ W3, W3 = w3.alloc (.cells #[.slice E1 T.boxes.length e1, .slice E2 T.spool.length e2] 28) := ⟨_, rfl⟩
    have hws : w3.heap.size + 1 = W3.heap.size := by rw [hW3]; simp
    rw [← hW3] at HT3 HV3 HX3 HB3 HU4 ⊢
    rw [hws]
    have hz3 : w.heap.size ≤ W3.heap.size := HB3.out.size
    clear hW3 c0 c1'
    go_loopw [10] (fun i wr => ∃ (j : Nat) (t : St) (H1 : Option Addr) (d1 : Nat) (H2 : Option Addr) (d2 : Nat), j ≤ xs.length ∧ i = .int .i64 j ∧ allS s xs = allS t (xs.drop j) ∧ GoodS t ∧ VarS wr W3.heap.size (.slice H1 t.boxes.length d1) (.slice H2 t.spool.length d2) t ∧ Below W3.heap.size W3 wr) (fun i _ => xs.length - (intOf i).toNat)
    case atStart => exact ⟨0, s, _, _, _, _, Nat.zero_le _, rfl, rfl, HG.out, HU4.out, ba (Below.refl _ _) _⟩
    case round =>
      obtain ⟨j, t, H1, d1, H2, d2, hj, rfl, hal, hgt, hvu, hb⟩ := hrel
      have hUz : W3.heap.size < wr.heap.size := hvu.1.2.2
      by_cases hlt : j < xs.length
      · have hdj : xs.drop j = xs[j] :: xs.drop (j + 1) := List.drop_eq_getElem_cons hlt
        rw [hdj, allS_cons t xs[j] _ (HXF.out _ (List.getElem_mem _))] at hal
        have hxf := HXF.out xs[j] (List.getElem_mem _)
        obtain ⟨g, off, rfl, -, hg, m0, m1, m2, m3, m4, m5⟩ := ent_get HX3.out hb j hlt
        generalize xs[j] = x at m0 m1 m2 m3 m4 m5 hal hxf
        obtain ⟨r1, hr1⟩ : ∃ r1, r1 = allS t [x] := ⟨_, rfl⟩
        rw [← hr1] at hal
        have hgr := one_good hgt hxf
        rw [← hr1] at hgr
        have HGT := Lib.hid hgt; have HXf := Lib.hid hxf; have HVU := Lib.hid hvu; have HBU := Lib.hid hb; have HGR := Lib.hid hgr; have HAL := Lib.hid hal; have HR1 := Lib.hid hr1
        have HMR := Lib.hid (moved HM.out (bt HB3.out hb) (Nat.le_refl _))
        obtain ⟨o0, o1, -, -⟩ := hvu.1.two
        clear hdj hgt hxf hvu hb hgr hal hr1
        by_cases hr0 : r1.2 = 0
        · have HAP : Hid (∀ w', Below wr.heap.size wr w' → Calls Tryd.prog 14 #[.agg #[.slice H1 t.boxes.length d1, .slice H2 t.spool.length d2], .agg #[.int .i64 x.kind, .string ⟨x.box.toArray⟩, .int .i64 x.uid, .int .i64 x.flags, .string ⟨x.to.toArray⟩, .string ⟨x.text.toArray⟩]] w' fun e w'' => (∃ G1 c1 G2 c2, e = .returned (.tuple #[.agg #[.slice G1 r1.1.boxes.length c1, .slice G2 r1.1.spool.length c2], .int .i64 0]) ∧ OwnV w'' w'.heap.size (.slice G1 r1.1.boxes.length c1) (.slice G2 r1.1.spool.length c2) r1.1) ∧ Below w'.heap.size w' w'') := by
            intro w' hb'
            exact apply_ok (show allS t [x] = (r1.1, 0) by rw [← HR1.out, ← hr0]) _ _ _ m w' (HVU.out.2.1.down hb') (HVU.out.2.2.down hb') HGT.out HXf.out (moved HMR.out hb' (Nat.le_refl _))
          have HR0 := Lib.hid hr0
          clear hr0
          have hdr := Below.drew (Below.refl wr.heap.size wr)
          have hda := ba (Below.refl wr.heap.size wr) (.cells #[.slice none 0 0, .slice none 0 0] 28)
          have o0a := moved o0 hda (Nat.le_refl _); have o1a := moved o1 hda (Nat.le_refl _)
          have m0a := moved m0 hda (Nat.le_refl _); have m1a := moved m1 hda (Nat.le_refl _); have m2a := moved m2 hda (Nat.le_refl _); have m3a := moved m3 hda (Nat.le_refl _); have m4a := moved m4 hda (Nat.le_refl _); have m5a := moved m5 hda (Nat.le_refl _)
          have hH : Hid (∀ w' : World, Has (w'.alloc (.cells #[.slice none 0 0, .slice none 0 0] 28)) w'.heap.size [.slice none 0 0, .slice none 0 0]) := fun w' => Has.alloc w' [.slice none 0 0, .slice none 0 0] 28
          have HELD : ∀ w', Below wr.heap.size wr w' → w'.cell? ⟨W3.heap.size, 0, none⟩ = some (.slice H1 t.boxes.length d1) ∧ w'.cell? ⟨W3.heap.size, 1, none⟩ = some (.slice H2 t.spool.length d2) ∧ w'.cell? ⟨g, off + j * 6, none⟩ = some (.int .i64 x.kind) ∧ w'.cell? ⟨g, off + j * 6 + 1, none⟩ = some (.string ⟨x.box.toArray⟩) ∧ w'.cell? ⟨g, off + j * 6 + 2, none⟩ = some (.int .i64 x.uid) ∧ w'.cell? ⟨g, off + j * 6 + 3, none⟩ = some (.int .i64 x.flags) ∧ w'.cell? ⟨g, off + j * 6 + 4, none⟩ = some (.string ⟨x.to.toArray⟩) ∧ w'.cell? ⟨g, off + j * 6 + 5, none⟩ = some (.string ⟨x.text.toArray⟩) := fun w' h => ⟨moved o0 h (Nat.le_refl _), moved o1 h (Nat.le_refl _), moved m0 h (Nat.le_refl _), moved m1 h (Nat.le_refl _), moved m2 h (Nat.le_refl _), moved m3 h (Nat.le_refl _), moved m4 h (Nat.le_refl _), moved m5 h (Nat.le_refl _)⟩
          have HELD := Lib.hid HELD
          clear hda
          go_upto_region 8 with fail
          go_cut [11, 12] (ApNew r1 wr)
          case first =>
            go_region_held3 (fun w' => w'.cell? ⟨W3.heap.size, 0, none⟩ = some (.slice H1 t.boxes.length d1) ∧ w'.cell? ⟨W3.heap.size, 1, none⟩ = some (.slice H2 t.spool.length d2) ∧ w'.cell? ⟨g, off + j * 6, none⟩ = some (.int .i64 x.kind) ∧ w'.cell? ⟨g, off + j * 6 + 1, none⟩ = some (.string ⟨x.box.toArray⟩) ∧ w'.cell? ⟨g, off + j * 6 + 2, none⟩ = some (.int .i64 x.uid) ∧ w'.cell? ⟨g, off + j * 6 + 3, none⟩ = some (.int .i64 x.flags) ∧ w'.cell? ⟨g, off + j * 6 + 4, none⟩ = some (.string ⟨x.to.toArray⟩) ∧ w'.cell? ⟨g, off + j * 6 + 5, none⟩ = some (.string ⟨x.text.toArray⟩)) (first | exact ⟨o0, o1, m0, m1, m2, m3, m4, m5⟩ | exact ⟨o0a, o1a, m0a, m1a, m2a, m3a, m4a, m5a⟩ | exact HELD.out w4 (bt hdr hb4) | exact HELD.out w4 (bt (ba hdr _) hb4) | exact HELD.out _ (ba hdr _) | exact HELD.out _ (ba (bt hdr hb4) _) | exact HELD.out _ (Below.setCell (Below.setCell (by first | exact bt hdr hb4 | exact bt (ba hdr _) hb4) (by first | exact Nat.le_refl _ | exact hdr.size) _) (by first | exact Nat.le_refl _ | exact hdr.size) _)) ((go_at_call 14; refine (HAP.out _ (by first | exact hdr | exact ba hdr _)).mono ?_; rintro e w4 ⟨⟨E1, e1, E2, e2, rfl, hv4⟩, hb4⟩; first | (have kk : Has w4 wr.heap.size [.slice none 0 0, .slice none 0 0] := (hH.out wr.drew).down hb4; obtain ⟨k0, k1, k2, k3⟩ := kk.two) | (have kk := trivial)))
            all_goals
              go_wp2_with fail
              go_meet
              case rel =>
                try rw [show (Value.int .i64 0) = .int .i64 r1.2 by rw [HR0.out]]
                first
                  | exact ap_new (bt hdr hb4) hdr.size (fun _ => ⟨_, _, _, _, rfl, rfl, hv4⟩)
                  | exact ap_at (bt (ba hdr _) hb4) (Nat.le_refl _) (by simp) kk (fun _ => ⟨_, _, _, _, rfl, rfl, hv4⟩)
          case rest =>
            obtain ⟨R, B, rfl, rfl, hR9, hB9, hb9, hRz9, hh9⟩ := hcut
            obtain ⟨E1, e1, E2, e2, hx9, hv9⟩ := hh9 HR0.out
            obtain ⟨x0, x1, -, -⟩ := hx9.two
            have ho9 := HVU.out.1.down hb9
            obtain ⟨y0, y1, yf0, yf1⟩ := ho9.two
            have hz9 := ho9.2.2
            have q : (r1.2 == 0) = true := by have := HR0.out; simpa using this
            have q2 : (r1.2 != 0) = false := by have := HR0.out; simpa using this
            have HO9 := Lib.hid ho9; have HV9 := Lib.hid hv9; have HB9 := Lib.hid (bt HBU.out hb9)
            have hn : Hid (allS s xs = allS r1.1 (xs.drop (j + 1))) := by unfold Hid; rw [HAL.out, if_pos HR0.out]
            have hzz := hb9.size
            clear hx9 ho9 hv9 hb9 hh9 o0 o1 o0a o1a m0 m1 m2 m3 m4 m5 m0a m1a m2a m3a m4a m5a hdr HAP HELD
            go_wp2_with fail
            go_roundw
            case rel =>
              have hs := ((HV9.out.else' (R := W3.heap.size) (i := 0) (u := .slice E1 r1.1.boxes.length e1) (by omega)).else' (R := W3.heap.size) (i := 1) (u := .slice E2 r1.1.spool.length e2) (by omega)).sat (F := fun b => b ≠ W3.heap.size) (fun b hb => by omega)
              exact ⟨j + 1, r1.1, E1, e1, E2, e2, hlt, by go_num, hn.out, HGR.out, ⟨(HO9.out.set' (i := 0) _ (by simp)).set' (i := 1) _ (by simp), hs.1, hs.2⟩, (HB9.out.setCell (p := ⟨W3.heap.size, 0, none⟩) (Nat.le_refl _) _).setCell (p := ⟨W3.heap.size, 1, none⟩) (Nat.le_refl _) _⟩
            case measure => simp [intOf]; omega
        · exfalso
          have := HAL.out
          rw [if_neg hr0, HRS.out] at this
          exact hr0 (congrArg Prod.snd this).symm
      · obtain rfl : j = xs.length := by omega
        rw [List.drop_length] at hal
        have hal2 : allS s xs = (t, 0) := hal
        rw [HRS.out] at hal2
        obtain rfl : T = t := congrArg Prod.fst hal2
        have HB5 := Lib.hid (bt HB3.out hb); have HT5 := Lib.hid (HT3.out.down hb); have HV5 := Lib.hid (HV3.out.down hb); have HU5 := Lib.hid hvu
        have HGT := Lib.hid hgt
        have htb := hgt.boxes; have hts := hgt.spool
        clear hal hal2 hb hvu hgt HX3
        obtain ⟨c0, c1', -, -⟩ := HV5.out.1.two
        have HLG : Hid (∀ G c w', Below wr.heap.size wr w' → Calls Tryd.prog 18 #[.agg #[.slice G1 s.boxes.length c1, .slice G2 s.spool.length c2], .slice G 11 c] w' fun e w'' => e = .returned (.tuple #[.agg #[.slice none 0 0, .slice none 0 0], .int .i64 1]) ∧ Below w'.heap.size w' w'') := by
          intro G c w' hb'
          refine (all_long s _ _ G 11 c _ m w' (HV5.out.2.1.down hb') (HV5.out.2.2.down hb') HG.out (by omega) (by omega) (moved HM.out (bt HB5.out hb') (Nat.le_refl _))).mono fun e w'' h => ?_
          unfold AllPost at h
          rwa [if_neg (by show ¬ (1 : Int) = 0; decide)] at h
        have hdr := Below.drew (Below.refl wr.heap.size wr)
        have hda := ba (Below.refl wr.heap.size wr) (.cells #[.slice none 0 0, .slice none 0 0] 28)
        have hde := ba (Below.refl wr.heap.size wr) (.cells eleven 31)
        have c0a := moved c0 hda (Nat.le_refl _); have c1a := moved c1' hda (Nat.le_refl _)
        have c0e := moved c0 hde (Nat.le_refl _); have c1e := moved c1' hde (Nat.le_refl _)
        have c0f := moved c0 (ba hda (.cells eleven 31)) (Nat.le_refl _); have c1f := moved c1' (ba hda (.cells eleven 31)) (Nat.le_refl _)
        have c0g := moved c0 (ba hde (.cells #[.slice none 0 0, .slice none 0 0] 28)) (Nat.le_refl _); have c1g := moved c1' (ba hde (.cells #[.slice none 0 0, .slice none 0 0] 28)) (Nat.le_refl _)
        clear hda hde
        have hmk := fun w => eleven_made w
        go_upto_region 12 with fail
        go_cut [14] (fun g wx => g = .int .i64 1 ∧ Below wr.heap.size wr wx)
        case first =>
          have hH : Hid (∀ w' : World, Has (w'.alloc (.cells #[.slice none 0 0, .slice none 0 0] 28)) w'.heap.size [.slice none 0 0, .slice none 0 0]) := fun w' => Has.alloc w' [.slice none 0 0, .slice none 0 0] 28
          have hE : Hid (∀ w' : World, Below w'.heap.size w' (w'.alloc (.cells eleven 31))) := fun w' => ba (Below.refl _ _) _
          go_region_with ((go_at_call 18; refine (HLG.out _ _ _ (by first | exact ba hdr _ | exact ba (ba hdr _) _)).mono ?_; rintro e w4 ⟨rfl, hb4⟩; first
            | (have kk : Has w4 wr.heap.size [.slice none 0 0, .slice none 0 0] := ((hH.out wr.drew).down (hE.out _)).down hb4; obtain ⟨k0, k1, k2, k3⟩ := kk.two)
            | (have kk : Has w4 (wr.heap.size + 1) [.slice none 0 0, .slice none 0 0] := by (have := (hH.out (wr.drew.alloc (.cells eleven 31))).down hb4; simpa using this)
               obtain ⟨k0, k1, k2, k3⟩ := kk.two)
            | (have kk := trivial)))
          all_goals
            go_wp2_with fail
            go_meet
            case rel => first
              | exact ⟨rfl, bt (ba hdr _) hb4⟩
              | exact ⟨rfl, ba (bt (ba hdr _) hb4) _⟩
              | exact ⟨rfl, bt (ba (ba hdr _) _) hb4⟩
              | exact ⟨rfl, Below.setCell (Below.setCell (bt (ba (ba hdr _) _) hb4) (by first | exact Nat.le_refl _ | exact Nat.le_succ _) _) (by first | exact Nat.le_refl _ | exact Nat.le_succ _) _⟩
        case rest =>
          obtain ⟨rfl, hb9⟩ := hcut
          have HB9 := Lib.hid (bt HB5.out hb9); have HT9 := Lib.hid (HT5.out.down hb9); have HU9 := Lib.hid (HU5.out.down hb9)
          clear hb9 HLG hdr hmk c0a c1a c0e c1e c0f c1f c0g c1g c0 c1' HT5 HU5 HV5 HB5
          obtain ⟨c0, c1', -, -⟩ := HT9.out.1.two
          obtain ⟨d0, d1', -, -⟩ := HU9.out.1.two
          go_wp2_with fail
          refine (same_any T _ _ _ _ _ _ _ HT9.out.2.1 HT9.out.2.2 HU9.out.2.1 HU9.out.2.2 (by omega) (by omega) (good_mails HGT.out)).mono ?_
          rintro e wz ⟨rfl, hbz⟩
          have HBZ := Lib.hid (bt HB9.out hbz)
          clear hbz c0 c1' d0 d1'
          go_wp2_with fail
          go_ret
          exact ⟨rfl, HBZ.out⟩
  · obtain ⟨k, hk⟩ : ∃ k, k = r.2 := ⟨_, rfl⟩
    have HRS : Hid (allS s xs = (r.1, k)) := by unfold Hid; rw [← hr, hk]
    have HK0 : Hid (k ≠ 0) := by unfold Hid; rw [hk]; exact hr0
    clear hr hk hr0
    refine (all_err HRS.out HK0.out _ _ _ (fun _ => True) m _ (HV2.out.2.1.mono (fun _ _ => trivial)) (HV2.out.2.2.mono (fun _ _ => trivial)) HG.out HX2.out hxl10 HSM.out (moved HM.out HB2.out (Nat.le_refl _))).mono ?_
    rintro e w3 ⟨rfl, hb3⟩
    have hA3 := bt hb3 (ba (Below.refl w3.heap.size w3) (.cells #[.slice none 0 0, .slice none 0 0] 28))
    have HT3 := Lib.hid (Has.alloc w3 [.slice none 0 0, .slice none 0 0] 28)
    have HV3 := Lib.hid (HV2.out.down hA3); have HX3 := Lib.hid (HX2.out.down hA3); have HB3 := Lib.hid (bt HB2.out hA3)
    have HU4 := Lib.hid (VarS.new HV3.out.2.1 HV3.out.2.2 28)
    clear hb3 hA3 HV2 HX2 HB2 c0 c1'
    obtain ⟨c0, c1', -, -⟩ := HV3.out.1.two
    go_wp2_with fail
    obtain ⟨W3, hW3⟩ : ∃ W3, W3 = w3.alloc (.cells #[.slice none 0 0, .slice none 0 0] 28) := ⟨_, rfl⟩
    have hws : w3.heap.size + 1 = W3.heap.size := by rw [hW3]; simp
    rw [← hW3] at HT3 HV3 HX3 HB3 HU4 ⊢
    rw [hws]
    have hz3 : w.heap.size ≤ W3.heap.size := HB3.out.size
    clear hW3 c0 c1'
    go_loopw [10] (fun i wr => ∃ (j : Nat) (t : St) (H1 : Option Addr) (d1 : Nat) (H2 : Option Addr) (d2 : Nat), j ≤ xs.length ∧ i = .int .i64 j ∧ allS s xs = allS t (xs.drop j) ∧ GoodS t ∧ VarS wr W3.heap.size (.slice H1 t.boxes.length d1) (.slice H2 t.spool.length d2) t ∧ Below W3.heap.size W3 wr) (fun i _ => xs.length - (intOf i).toNat)
    case atStart => exact ⟨0, s, _, _, _, _, Nat.zero_le _, rfl, rfl, HG.out, HU4.out, ba (Below.refl _ _) _⟩
    case round =>
      obtain ⟨j, t, H1, d1, H2, d2, hj, rfl, hal, hgt, hvu, hb⟩ := hrel
      have hUz : W3.heap.size < wr.heap.size := hvu.1.2.2
      by_cases hlt : j < xs.length
      · have hdj : xs.drop j = xs[j] :: xs.drop (j + 1) := List.drop_eq_getElem_cons hlt
        rw [hdj, allS_cons t xs[j] _ (HXF.out _ (List.getElem_mem _))] at hal
        have hxf := HXF.out xs[j] (List.getElem_mem _)
        obtain ⟨g, off, rfl, -, hg, m0, m1, m2, m3, m4, m5⟩ := ent_get HX3.out hb j hlt
        generalize xs[j] = x at m0 m1 m2 m3 m4 m5 hal hxf
        obtain ⟨r1, hr1⟩ : ∃ r1, r1 = allS t [x] := ⟨_, rfl⟩
        rw [← hr1] at hal
        have hgr := one_good hgt hxf
        rw [← hr1] at hgr
        have HGT := Lib.hid hgt; have HXf := Lib.hid hxf; have HVU := Lib.hid hvu; have HBU := Lib.hid hb; have HGR := Lib.hid hgr; have HAL := Lib.hid hal; have HR1 := Lib.hid hr1
        have HMR := Lib.hid (moved HM.out (bt HB3.out hb) (Nat.le_refl _))
        obtain ⟨o0, o1, -, -⟩ := hvu.1.two
        clear hdj hgt hxf hvu hb hgr hal hr1
        by_cases hr0 : r1.2 = 0
        · have HAP : Hid (∀ w', Below wr.heap.size wr w' → Calls Tryd.prog 14 #[.agg #[.slice H1 t.boxes.length d1, .slice H2 t.spool.length d2], .agg #[.int .i64 x.kind, .string ⟨x.box.toArray⟩, .int .i64 x.uid, .int .i64 x.flags, .string ⟨x.to.toArray⟩, .string ⟨x.text.toArray⟩]] w' fun e w'' => (∃ G1 c1 G2 c2, e = .returned (.tuple #[.agg #[.slice G1 r1.1.boxes.length c1, .slice G2 r1.1.spool.length c2], .int .i64 0]) ∧ OwnV w'' w'.heap.size (.slice G1 r1.1.boxes.length c1) (.slice G2 r1.1.spool.length c2) r1.1) ∧ Below w'.heap.size w' w'') := by
            intro w' hb'
            exact apply_ok (show allS t [x] = (r1.1, 0) by rw [← HR1.out, ← hr0]) _ _ _ m w' (HVU.out.2.1.down hb') (HVU.out.2.2.down hb') HGT.out HXf.out (moved HMR.out hb' (Nat.le_refl _))
          have HR0 := Lib.hid hr0
          clear hr0
          have hdr := Below.drew (Below.refl wr.heap.size wr)
          have hda := ba (Below.refl wr.heap.size wr) (.cells #[.slice none 0 0, .slice none 0 0] 28)
          have o0a := moved o0 hda (Nat.le_refl _); have o1a := moved o1 hda (Nat.le_refl _)
          have m0a := moved m0 hda (Nat.le_refl _); have m1a := moved m1 hda (Nat.le_refl _); have m2a := moved m2 hda (Nat.le_refl _); have m3a := moved m3 hda (Nat.le_refl _); have m4a := moved m4 hda (Nat.le_refl _); have m5a := moved m5 hda (Nat.le_refl _)
          have hH : Hid (∀ w' : World, Has (w'.alloc (.cells #[.slice none 0 0, .slice none 0 0] 28)) w'.heap.size [.slice none 0 0, .slice none 0 0]) := fun w' => Has.alloc w' [.slice none 0 0, .slice none 0 0] 28
          have HELD : ∀ w', Below wr.heap.size wr w' → w'.cell? ⟨W3.heap.size, 0, none⟩ = some (.slice H1 t.boxes.length d1) ∧ w'.cell? ⟨W3.heap.size, 1, none⟩ = some (.slice H2 t.spool.length d2) ∧ w'.cell? ⟨g, off + j * 6, none⟩ = some (.int .i64 x.kind) ∧ w'.cell? ⟨g, off + j * 6 + 1, none⟩ = some (.string ⟨x.box.toArray⟩) ∧ w'.cell? ⟨g, off + j * 6 + 2, none⟩ = some (.int .i64 x.uid) ∧ w'.cell? ⟨g, off + j * 6 + 3, none⟩ = some (.int .i64 x.flags) ∧ w'.cell? ⟨g, off + j * 6 + 4, none⟩ = some (.string ⟨x.to.toArray⟩) ∧ w'.cell? ⟨g, off + j * 6 + 5, none⟩ = some (.string ⟨x.text.toArray⟩) := fun w' h => ⟨moved o0 h (Nat.le_refl _), moved o1 h (Nat.le_refl _), moved m0 h (Nat.le_refl _), moved m1 h (Nat.le_refl _), moved m2 h (Nat.le_refl _), moved m3 h (Nat.le_refl _), moved m4 h (Nat.le_refl _), moved m5 h (Nat.le_refl _)⟩
          have HELD := Lib.hid HELD
          clear hda
          go_upto_region 8 with fail
          go_cut [11, 12] (ApNew r1 wr)
          case first =>
            go_region_held3 (fun w' => w'.cell? ⟨W3.heap.size, 0, none⟩ = some (.slice H1 t.boxes.length d1) ∧ w'.cell? ⟨W3.heap.size, 1, none⟩ = some (.slice H2 t.spool.length d2) ∧ w'.cell? ⟨g, off + j * 6, none⟩ = some (.int .i64 x.kind) ∧ w'.cell? ⟨g, off + j * 6 + 1, none⟩ = some (.string ⟨x.box.toArray⟩) ∧ w'.cell? ⟨g, off + j * 6 + 2, none⟩ = some (.int .i64 x.uid) ∧ w'.cell? ⟨g, off + j * 6 + 3, none⟩ = some (.int .i64 x.flags) ∧ w'.cell? ⟨g, off + j * 6 + 4, none⟩ = some (.string ⟨x.to.toArray⟩) ∧ w'.cell? ⟨g, off + j * 6 + 5, none⟩ = some (.string ⟨x.text.toArray⟩)) (first | exact ⟨o0, o1, m0, m1, m2, m3, m4, m5⟩ | exact ⟨o0a, o1a, m0a, m1a, m2a, m3a, m4a, m5a⟩ | exact HELD.out w4 (bt hdr hb4) | exact HELD.out w4 (bt (ba hdr _) hb4) | exact HELD.out _ (ba hdr _) | exact HELD.out _ (ba (bt hdr hb4) _) | exact HELD.out _ (Below.setCell (Below.setCell (by first | exact bt hdr hb4 | exact bt (ba hdr _) hb4) (by first | exact Nat.le_refl _ | exact hdr.size) _) (by first | exact Nat.le_refl _ | exact hdr.size) _)) ((go_at_call 14; refine (HAP.out _ (by first | exact hdr | exact ba hdr _)).mono ?_; rintro e w4 ⟨⟨E1, e1, E2, e2, rfl, hv4⟩, hb4⟩; first | (have kk : Has w4 wr.heap.size [.slice none 0 0, .slice none 0 0] := (hH.out wr.drew).down hb4; obtain ⟨k0, k1, k2, k3⟩ := kk.two) | (have kk := trivial)))
            all_goals
              go_wp2_with fail
              go_meet
              case rel =>
                try rw [show (Value.int .i64 0) = .int .i64 r1.2 by rw [HR0.out]]
                first
                  | exact ap_new (bt hdr hb4) hdr.size (fun _ => ⟨_, _, _, _, rfl, rfl, hv4⟩)
                  | exact ap_at (bt (ba hdr _) hb4) (Nat.le_refl _) (by simp) kk (fun _ => ⟨_, _, _, _, rfl, rfl, hv4⟩)
          case rest =>
            obtain ⟨R, B, rfl, rfl, hR9, hB9, hb9, hRz9, hh9⟩ := hcut
            obtain ⟨E1, e1, E2, e2, hx9, hv9⟩ := hh9 HR0.out
            obtain ⟨x0, x1, -, -⟩ := hx9.two
            have ho9 := HVU.out.1.down hb9
            obtain ⟨y0, y1, yf0, yf1⟩ := ho9.two
            have hz9 := ho9.2.2
            have q : (r1.2 == 0) = true := by have := HR0.out; simpa using this
            have q2 : (r1.2 != 0) = false := by have := HR0.out; simpa using this
            have HO9 := Lib.hid ho9; have HV9 := Lib.hid hv9; have HB9 := Lib.hid (bt HBU.out hb9)
            have hn : Hid (allS s xs = allS r1.1 (xs.drop (j + 1))) := by unfold Hid; rw [HAL.out, if_pos HR0.out]
            have hzz := hb9.size
            clear hx9 ho9 hv9 hb9 hh9 o0 o1 o0a o1a m0 m1 m2 m3 m4 m5 m0a m1a m2a m3a m4a m5a hdr HAP HELD
            go_wp2_with fail
            go_roundw
            case rel =>
              have hs := ((HV9.out.else' (R := W3.heap.size) (i := 0) (u := .slice E1 r1.1.boxes.length e1) (by omega)).else' (R := W3.heap.size) (i := 1) (u := .slice E2 r1.1.spool.length e2) (by omega)).sat (F := fun b => b ≠ W3.heap.size) (fun b hb => by omega)
              exact ⟨j + 1, r1.1, E1, e1, E2, e2, hlt, by go_num, hn.out, HGR.out, ⟨(HO9.out.set' (i := 0) _ (by simp)).set' (i := 1) _ (by simp), hs.1, hs.2⟩, (HB9.out.setCell (p := ⟨W3.heap.size, 0, none⟩) (Nat.le_refl _) _).setCell (p := ⟨W3.heap.size, 1, none⟩) (Nat.le_refl _) _⟩
            case measure => simp [intOf]; omega
        · have HAP : Hid (∀ w', Below wr.heap.size wr w' → Calls Tryd.prog 14 #[.agg #[.slice H1 t.boxes.length d1, .slice H2 t.spool.length d2], .agg #[.int .i64 x.kind, .string ⟨x.box.toArray⟩, .int .i64 x.uid, .int .i64 x.flags, .string ⟨x.to.toArray⟩, .string ⟨x.text.toArray⟩]] w' fun e w'' => e = .returned (.tuple #[.agg #[.slice none 0 0, .slice none 0 0], .int .i64 r1.2]) ∧ Below w'.heap.size w' w'') := by
            intro w' hb'
            exact apply_err (show allS t [x] = (r1.1, r1.2) from HR1.out.symm) hr0 _ _ _ m w' (HVU.out.2.1.down hb') (HVU.out.2.2.down hb') HGT.out HXf.out (moved HMR.out hb' (Nat.le_refl _))
          have hk : r1.2 = k := by
            have := HAL.out
            rw [if_neg hr0, HRS.out] at this
            exact (congrArg Prod.snd this).symm
          subst hk
          have HR0 := Lib.hid hr0
          clear hr0
          have hdr := Below.drew (Below.refl wr.heap.size wr)
          have hda := ba (Below.refl wr.heap.size wr) (.cells #[.slice none 0 0, .slice none 0 0] 28)
          have o0a := moved o0 hda (Nat.le_refl _); have o1a := moved o1 hda (Nat.le_refl _)
          have m0a := moved m0 hda (Nat.le_refl _); have m1a := moved m1 hda (Nat.le_refl _); have m2a := moved m2 hda (Nat.le_refl _); have m3a := moved m3 hda (Nat.le_refl _); have m4a := moved m4 hda (Nat.le_refl _); have m5a := moved m5 hda (Nat.le_refl _)
          have hH : Hid (∀ w' : World, Has (w'.alloc (.cells #[.slice none 0 0, .slice none 0 0] 28)) w'.heap.size [.slice none 0 0, .slice none 0 0]) := fun w' => Has.alloc w' [.slice none 0 0, .slice none 0 0] 28
          have HELD : ∀ w', Below wr.heap.size wr w' → w'.cell? ⟨W3.heap.size, 0, none⟩ = some (.slice H1 t.boxes.length d1) ∧ w'.cell? ⟨W3.heap.size, 1, none⟩ = some (.slice H2 t.spool.length d2) ∧ w'.cell? ⟨g, off + j * 6, none⟩ = some (.int .i64 x.kind) ∧ w'.cell? ⟨g, off + j * 6 + 1, none⟩ = some (.string ⟨x.box.toArray⟩) ∧ w'.cell? ⟨g, off + j * 6 + 2, none⟩ = some (.int .i64 x.uid) ∧ w'.cell? ⟨g, off + j * 6 + 3, none⟩ = some (.int .i64 x.flags) ∧ w'.cell? ⟨g, off + j * 6 + 4, none⟩ = some (.string ⟨x.to.toArray⟩) ∧ w'.cell? ⟨g, off + j * 6 + 5, none⟩ = some (.string ⟨x.text.toArray⟩) := fun w' h => ⟨moved o0 h (Nat.le_refl _), moved o1 h (Nat.le_refl _), moved m0 h (Nat.le_refl _), moved m1 h (Nat.le_refl _), moved m2 h (Nat.le_refl _), moved m3 h (Nat.le_refl _), moved m4 h (Nat.le_refl _), moved m5 h (Nat.le_refl _)⟩
          have HELD := Lib.hid HELD
          clear hda
          go_upto_region 8 with fail
          go_cut [11, 12] (ApNew r1 wr)
          case first =>
            go_region_held3 (fun w' => w'.cell? ⟨W3.heap.size, 0, none⟩ = some (.slice H1 t.boxes.length d1) ∧ w'.cell? ⟨W3.heap.size, 1, none⟩ = some (.slice H2 t.spool.length d2) ∧ w'.cell? ⟨g, off + j * 6, none⟩ = some (.int .i64 x.kind) ∧ w'.cell? ⟨g, off + j * 6 + 1, none⟩ = some (.string ⟨x.box.toArray⟩) ∧ w'.cell? ⟨g, off + j * 6 + 2, none⟩ = some (.int .i64 x.uid) ∧ w'.cell? ⟨g, off + j * 6 + 3, none⟩ = some (.int .i64 x.flags) ∧ w'.cell? ⟨g, off + j * 6 + 4, none⟩ = some (.string ⟨x.to.toArray⟩) ∧ w'.cell? ⟨g, off + j * 6 + 5, none⟩ = some (.string ⟨x.text.toArray⟩)) (first | exact ⟨o0, o1, m0, m1, m2, m3, m4, m5⟩ | exact ⟨o0a, o1a, m0a, m1a, m2a, m3a, m4a, m5a⟩ | exact HELD.out w4 (bt hdr hb4) | exact HELD.out w4 (bt (ba hdr _) hb4) | exact HELD.out _ (ba hdr _) | exact HELD.out _ (ba (bt hdr hb4) _) | exact HELD.out _ (Below.setCell (Below.setCell (by first | exact bt hdr hb4 | exact bt (ba hdr _) hb4) (by first | exact Nat.le_refl _ | exact hdr.size) _) (by first | exact Nat.le_refl _ | exact hdr.size) _)) ((go_at_call 14; refine (HAP.out _ (by first | exact hdr | exact ba hdr _)).mono ?_; rintro e w4 ⟨rfl, hb4⟩; first | (have kk : Has w4 wr.heap.size [.slice none 0 0, .slice none 0 0] := (hH.out wr.drew).down hb4; obtain ⟨k0, k1, k2, k3⟩ := kk.two) | (have kk := trivial)))
            all_goals
              go_wp2_with fail
              go_meet
              case rel =>
                first
                  | exact ap_new (B := wr.heap.size) (bt hdr hb4) (Nat.le_refl _) (fun h => absurd h HR0.out)
                  | exact ap_at (B := wr.heap.size + 1) (bt (ba hdr _) hb4) (Nat.le_refl _) (by omega) kk (fun h => absurd h HR0.out)
          case rest =>
            obtain ⟨R, B, rfl, rfl, hR9, hB9, hb9, hRz9, hh9⟩ := hcut
            have q : (r1.2 == 0) = false := by have := HR0.out; simpa using this
            have q2 : (r1.2 != 0) = true := by have := HR0.out; simpa using this
            have HB9 := Lib.hid (bt HB3.out (bt HBU.out hb9))
            obtain ⟨t0, t1, -, -⟩ := ((HT3.out.down HBU.out).down hb9).two
            clear hb9 hh9 o0 o1 o0a o1a m0 m1 m2 m3 m4 m5 m0a m1a m2a m3a m4a m5a hdr HAP HELD
            go_wp2_with fail
            go_ret
            exact ⟨rfl, HB9.out⟩
      · obtain rfl : j = xs.length := by omega
        rw [List.drop_length] at hal
        have hal2 : allS s xs = (t, 0) := hal
        rw [HRS.out] at hal2
        exact absurd (congrArg Prod.snd hal2) HK0.out
end Go.Proofs.YthllhakgcnfmcaaDoor
