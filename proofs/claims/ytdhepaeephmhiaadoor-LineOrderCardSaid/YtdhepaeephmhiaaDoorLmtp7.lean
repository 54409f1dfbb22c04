/-
  DERIVED. 'Check' of lmtp, of sessions that may be: the walk.
-/
import Derived.Test.YtdhepaeephmhiaaDoorLmtp6
import Derived.Deep.RegionHeld3
namespace Go.Proofs.YtdhepaeephmhiaaDoor
open Go.RowKit

theorem take_not (l : List Ad) (h : l.Pairwise (· ≠ ·)) (j : Nat) (hj : j < l.length) : (l.take j).contains l[j] = false := by
  rw [Bool.eq_false_iff]
  intro hc
  obtain ⟨i, hi, he⟩ := List.getElem_of_mem (List.contains_iff_mem.1 hc)
  rw [List.length_take] at hi
  rw [List.getElem_take] at he
  exact List.pairwise_iff_getElem.1 h i j (by omega) hj (by omega) he

theorem ad_lower {w : World} {F : Dom} {v : Value} {xs : List Ad} (h : SAt cAd w F v xs) : SAt cAd w (fun b => b < w.heap.size) v xs := by
  obtain ⟨G, cap, hv, hcp, hf⟩ := h
  refine ⟨G, cap, hv, hcp, fun i x hi => ?_⟩
  obtain ⟨g, off, hG, hF, hg, vs, h1, h2⟩ := hf i x hi
  exact ⟨g, off, hG, hg, hg, vs, h1, h2⟩

set_option maxHeartbeats 8000000 in
set_option maxRecDepth 20000 in
theorem lcheck_any (s : Ses) (v : Value) (F : Dom) (m : Int) (w : World) (h : SAt cAd w F v s.rcp) (hg : GoodSes s) (hm : w.cell? ⟨0, 0, none⟩ = some (.int .i64 m)) :
    Calls Tryd.prog 23 #[.agg #[.int .i64 s.step, .string ⟨s.frm.1.toArray⟩, .string ⟨s.frm.2.toArray⟩, v, .string ⟨s.text.toArray⟩, .bool s.large]] w fun e w' => e = .returned (.int .i64 0) ∧ Below w.heap.size w w' := by
  obtain ⟨k, ⟨f1, f2⟩, rcp, text, large⟩ := s
  obtain ⟨g1, g2, g3, g4, g5, g6, g7, g8⟩ := hg
  simp only at h g1 g2 g3 g4 g5 g6 g7 g8 ⊢
  obtain ⟨Gv, cv, rfl, hcv⟩ := h.form
  have hA := ba (Below.refl w.heap.size w) (.cells #[.int .i64 k, .string ⟨f1.toArray⟩, .string ⟨f2.toArray⟩, .slice Gv rcp.length cv, .string ⟨text.toArray⟩, .bool large] 49)
  have HX := Lib.hid (Has.alloc w [.int .i64 k, .string ⟨f1.toArray⟩, .string ⟨f2.toArray⟩, .slice Gv rcp.length cv, .string ⟨text.toArray⟩, .bool large] 49)
  have H := Lib.hid ((ad_lower h).down hA); have HM := Lib.hid (moved hm hA (Nat.le_refl _)); have HA := Lib.hid hA
  have HMW : Hid (0 < w.heap.size) := World.block_lt_of_cell? w ⟨0, 0, none⟩ hm
  clear h hm hA
  have hk : k = 0 ∨ k = 1 ∨ k = 5 ∨ k = 2 ∨ k = 3 ∨ k = 4 := by omega
  rcases hk with rfl | rfl | rfl | rfl | rfl | rfl
  iterate 3
    · rw [if_neg (by omega)] at g4 g5
      obtain ⟨rfl, rfl⟩ := g8 (by omega)
      subst g5
      obtain ⟨rfl, rfl⟩ : f1 = [] ∧ f2 = [] := ⟨congrArg Prod.fst g4, congrArg Prod.snd g4⟩
      clear g1 g2 g3 g4 g6 g7 g8
      obtain ⟨c0, c1, c2, c3, c4, c5⟩ := HX.out.six
      go_enter Tryd.func23, Tryd.ntmps23
      go_wp2_with fail
      clear c0 c1 c2 c3 c4 c5
      go_ret
      exact ⟨rfl, ba HA.out _⟩
  · rw [if_pos (by omega)] at g4
    rw [if_neg (by omega)] at g5
    obtain ⟨rfl, rfl⟩ := g8 (by omega)
    subst g5
    clear g1 g2 g3 g6 g7 g8
    obtain ⟨c0, c1, c2, c3, c4, c5⟩ := HX.out.six
    have hl := chk_len g4
    have HC : Hid (∀ w', w'.cell? ⟨0, 0, none⟩ = some (.int .i64 m) → Calls Tryd.prog 43 #[.agg #[.string ⟨f1.toArray⟩, .string ⟨f2.toArray⟩]] w' fun e w'' => e = .returned (.int .i64 0) ∧ Below w'.heap.size w' w'') := by
      intro w' hm
      have := check_any ⟨f1.toArray⟩ ⟨f2.toArray⟩ m w' (by show f1.toArray.size ≤ _; simp; omega) (by show f2.toArray.size ≤ _; simp; omega) hm
      rwa [show chk (⟨f1.toArray⟩ : ByteArray).data.toList (⟨f2.toArray⟩ : ByteArray).data.toList = 0 from g4] at this
    have hZ := ba (Below.refl (w.alloc (.cells #[.int .i64 2, .string ⟨f1.toArray⟩, .string ⟨f2.toArray⟩, .slice Gv 0 cv, .string ⟨#[]⟩, .bool false] 49)).heap.size (w.alloc (.cells #[.int .i64 2, .string ⟨f1.toArray⟩, .string ⟨f2.toArray⟩, .slice Gv 0 cv, .string ⟨#[]⟩, .bool false] 49))) (.cells #[.int .i64 2, .string ⟨#[]⟩, .string ⟨#[]⟩, .slice none 0 0, .string ⟨#[]⟩, .bool false] 49)
    have HXA := Lib.hid (HX.out.down hZ)
    have hzz := Has.alloc (w.alloc (.cells #[.int .i64 2, .string ⟨f1.toArray⟩, .string ⟨f2.toArray⟩, .slice Gv 0 cv, .string ⟨#[]⟩, .bool false] 49)) [.int .i64 2, .string ⟨#[]⟩, .string ⟨#[]⟩, .slice none 0 0, .string ⟨#[]⟩, .bool false] 49
    simp only [World.size_alloc] at hzz
    have HXZ := Lib.hid hzz
    have HA1 := Lib.hid (bt HA.out hZ); have H1 := Lib.hid (H.out.down hZ); have HM1 := Lib.hid (moved HM.out hZ (Nat.le_refl _))
    clear hzz hZ HX HA H HM
    go_enter Tryd.func23, Tryd.ntmps23
    obtain ⟨e0, e1, e2, e3, e4, e5⟩ := HXA.out.six
    go_wp2_with fail
    refine (HC.out _ HM1.out).mono ?_
    rintro e w2 ⟨rfl, hb2⟩
    have HXA2 := Lib.hid (HXA.out.down hb2); have HXZ2 := Lib.hid (HXZ.out.down hb2); have HA2 := Lib.hid (bt HA1.out hb2); have H2 := Lib.hid (H1.out.down hb2); have HM2 := Lib.hid (moved HM1.out hb2 (Nat.le_refl _))
    clear hb2 HXA HXZ HA1 H1 HM1 c0 c1 c2 c3 c4 c5 e0 e1 e2 e3 e4 e5 HC
    obtain ⟨W3, hW3⟩ : ∃ W3, W3 = (w2.setCell ⟨w.heap.size + 1, 1, none⟩ (.string ⟨f1.toArray⟩)).setCell ⟨w.heap.size + 1, 2, none⟩ (.string ⟨f2.toArray⟩) := ⟨_, rfl⟩
    have HXA3 : Hid (Has W3 w.heap.size [.int .i64 2, .string ⟨f1.toArray⟩, .string ⟨f2.toArray⟩, .slice Gv 0 cv, .string ⟨#[]⟩, .bool false]) := by unfold Hid; rw [hW3]; exact (HXA2.out.else' (by omega) _).else' (by omega) _
    have HXZ3 : Hid (Has W3 (w.heap.size + 1) [.int .i64 2, .string ⟨f1.toArray⟩, .string ⟨f2.toArray⟩, .slice none 0 0, .string ⟨#[]⟩, .bool false]) := by unfold Hid; rw [hW3]; exact (HXZ2.out.set' (i := 1) _ (by simp)).set' (i := 2) _ (by simp)
    have hg3 : w2.grownBy W3 (some (w.heap.size + 1)) := by rw [hW3]; exact Go.Lib.grownBy_setB (Go.Lib.grownBy_setB (World.grownBy.refl w2 (some (w.heap.size + 1))) 1 _) 2 _
    have HA3 : Hid (Below w.heap.size w W3) := by unfold Hid; rw [hW3]; exact (HA2.out.setCell (p := ⟨w.heap.size + 1, 1, none⟩) (by show w.heap.size ≤ w.heap.size + 1; omega) _).setCell (p := ⟨w.heap.size + 1, 2, none⟩) (by show w.heap.size ≤ w.heap.size + 1; omega) _
    obtain ⟨c0, c1, c2, c3, c4, c5⟩ := HXA2.out.six
    obtain ⟨-, -, -, -, -, -⟩ := HXZ2.out.six
    obtain ⟨-, z1, z2, -, -, -⟩ := HXZ2.out.six
    obtain ⟨f0', f1', f2', f3', f4', f5'⟩ := HXZ2.out.six_free
    obtain ⟨d0, d1, d2, d3, d4, d5⟩ := HXA3.out.six
    obtain ⟨y0, y1, y2, y3, y4, y5⟩ := HXZ3.out.six
    rw [hW3] at d0 d1 d2 d3 d4 d5 y0 y1 y2 y3 y4 y5
    go_wp2_with fail
    go_ret
    exact ⟨rfl, by rw [← hW3]; exact HA3.out⟩
  · rw [if_pos (by omega)] at g4
    rw [if_pos (by omega)] at g5
    obtain ⟨rfl, rfl⟩ := g8 (by omega)
    have G5 := Lib.hid g5; have G6 := Lib.hid g6; have G7 := Lib.hid g7
    clear g1 g3 g5 g6 g7 g8
    obtain ⟨c0, c1, c2, c3, c4, c5⟩ := HX.out.six
    have hl := chk_len g4
    have HC : Hid (∀ w', w'.cell? ⟨0, 0, none⟩ = some (.int .i64 m) → Calls Tryd.prog 43 #[.agg #[.string ⟨f1.toArray⟩, .string ⟨f2.toArray⟩]] w' fun e w'' => e = .returned (.int .i64 0) ∧ Below w'.heap.size w' w'') := by
      intro w' hm
      have := check_any ⟨f1.toArray⟩ ⟨f2.toArray⟩ m w' (by show f1.toArray.size ≤ _; simp; omega) (by show f2.toArray.size ≤ _; simp; omega) hm
      rwa [show chk (⟨f1.toArray⟩ : ByteArray).data.toList (⟨f2.toArray⟩ : ByteArray).data.toList = 0 from g4] at this
    have hZ := ba (Below.refl (w.alloc (.cells #[.int .i64 3, .string ⟨f1.toArray⟩, .string ⟨f2.toArray⟩, .slice Gv rcp.length cv, .string ⟨#[]⟩, .bool false] 49)).heap.size (w.alloc (.cells #[.int .i64 3, .string ⟨f1.toArray⟩, .string ⟨f2.toArray⟩, .slice Gv rcp.length cv, .string ⟨#[]⟩, .bool false] 49))) (.cells #[.int .i64 3, .string ⟨#[]⟩, .string ⟨#[]⟩, .slice none 0 0, .string ⟨#[]⟩, .bool false] 49)
    have HXA := Lib.hid (HX.out.down hZ)
    have hzz := Has.alloc (w.alloc (.cells #[.int .i64 3, .string ⟨f1.toArray⟩, .string ⟨f2.toArray⟩, .slice Gv rcp.length cv, .string ⟨#[]⟩, .bool false] 49)) [.int .i64 3, .string ⟨#[]⟩, .string ⟨#[]⟩, .slice none 0 0, .string ⟨#[]⟩, .bool false] 49
    simp only [World.size_alloc] at hzz
    have HXZ := Lib.hid hzz
    have HA1 := Lib.hid (bt HA.out hZ); have H1 := Lib.hid (H.out.down hZ); have HM1 := Lib.hid (moved HM.out hZ (Nat.le_refl _))
    clear hzz hZ HX HA H HM
    go_enter Tryd.func23, Tryd.ntmps23
    obtain ⟨e0, e1, e2, e3, e4, e5⟩ := HXA.out.six
    go_wp2_with fail
    refine (HC.out _ HM1.out).mono ?_
    rintro e w2 ⟨rfl, hb2⟩
    have HXA2 := Lib.hid (HXA.out.down hb2); have HXZ2 := Lib.hid (HXZ.out.down hb2); have HA2 := Lib.hid (bt HA1.out hb2); have H2 := Lib.hid (H1.out.down hb2); have HM2 := Lib.hid (moved HM1.out hb2 (Nat.le_refl _))
    clear hb2 HXA HXZ HA1 H1 HM1 c0 c1 c2 c3 c4 c5 e0 e1 e2 e3 e4 e5 HC
    obtain ⟨W3, hW3⟩ : ∃ W3, W3 = (w2.setCell ⟨w.heap.size + 1, 1, none⟩ (.string ⟨f1.toArray⟩)).setCell ⟨w.heap.size + 1, 2, none⟩ (.string ⟨f2.toArray⟩) := ⟨_, rfl⟩
    have HXA3 : Hid (Has W3 w.heap.size [.int .i64 3, .string ⟨f1.toArray⟩, .string ⟨f2.toArray⟩, .slice Gv rcp.length cv, .string ⟨#[]⟩, .bool false]) := by unfold Hid; rw [hW3]; exact (HXA2.out.else' (by omega) _).else' (by omega) _
    have HXZ3 : Hid (Has W3 (w.heap.size + 1) [.int .i64 3, .string ⟨f1.toArray⟩, .string ⟨f2.toArray⟩, .slice none 0 0, .string ⟨#[]⟩, .bool false]) := by unfold Hid; rw [hW3]; exact (HXZ2.out.set' (i := 1) _ (by simp)).set' (i := 2) _ (by simp)
    have hg3 : w2.grownBy W3 (some (w.heap.size + 1)) := by rw [hW3]; exact Go.Lib.grownBy_setB (Go.Lib.grownBy_setB (World.grownBy.refl w2 (some (w.heap.size + 1))) 1 _) 2 _
    have HA3 : Hid (Below w.heap.size w W3) := by unfold Hid; rw [hW3]; exact (HA2.out.setCell (p := ⟨w.heap.size + 1, 1, none⟩) (by show w.heap.size ≤ w.heap.size + 1; omega) _).setCell (p := ⟨w.heap.size + 1, 2, none⟩) (by show w.heap.size ≤ w.heap.size + 1; omega) _
    obtain ⟨c0, c1, c2, c3, c4, c5⟩ := HXA2.out.six
    obtain ⟨-, -, -, -, -, -⟩ := HXZ2.out.six
    obtain ⟨-, z1, z2, -, -, -⟩ := HXZ2.out.six
    obtain ⟨f0', f1', f2', f3', f4', f5'⟩ := HXZ2.out.six_free
    obtain ⟨d0, d1, d2, d3, d4, d5⟩ := HXA3.out.six
    obtain ⟨y0, y1, y2, y3, y4, y5⟩ := HXZ3.out.six
    rw [hW3] at d0 d1 d2 d3 d4 d5 y0 y1 y2 y3 y4 y5
    have H3 : Hid (SAt cAd W3 (fun b => b < w.heap.size) (.slice Gv rcp.length cv) rcp) := H2.out.stable (Same.of_grown hg3 (fun b e hh => by have := Option.some.inj e; omega)) hg3.size
    have HM3 : Hid (W3.cell? ⟨0, 0, none⟩ = some (.int .i64 m)) := by
      unfold Hid
      have hlt := World.block_lt_of_cell? w2 ⟨0, 0, none⟩ HM2.out
      have hne : some (0 : Nat) ≠ some (w.heap.size + 1) := by
        intro e; have := Option.some.inj e; have := HMW.out; omega
      exact (World.cell?_of_block (w := w2) (a := ⟨0, 0, none⟩) (hg3.block _ hlt hne)).trans HM2.out
    go_wp2_with fail
    rw [← hW3]
    clear hg3 c0 c1 c2 c3 c4 c5 z1 z2 f0' f1' f2' f3' f4' f5' d0 d1 d2 d3 d4 d5 y0 y1 y2 y3 y4 y5 HXA2 HXZ2 HA2 H2 HM2 hW3
    go_loopw [55] (fun i wr => ∃ j : Nat, j ≤ rcp.length ∧ i = .int .i64 j ∧ Below W3.heap.size W3 wr) (fun i _ => rcp.length - (intOf i).toNat)
    case atStart => exact ⟨0, Nat.zero_le _, rfl, Below.refl _ _⟩
    case round =>
      obtain ⟨j, hj, rfl, hb⟩ := hrel
      by_cases hlt : j < rcp.length
      · obtain ⟨g, off, rfl, -, hg, q0, q1⟩ := ad_get H3.out hb j hlt
        have hak := G6.out rcp[j] (List.getElem_mem _)
        have hnt := take_not rcp G7.out j hlt
        have hal := chk_len hak
        have hjc : j ≤ cv := by omega
        have HCk : Hid (∀ w', Below W3.heap.size W3 w' → Calls Tryd.prog 43 #[.agg #[.string ⟨rcp[j].1.toArray⟩, .string ⟨rcp[j].2.toArray⟩]] w' fun e w'' => e = .returned (.int .i64 0) ∧ Below w'.heap.size w' w'') := by
          intro w' hb'
          have := check_any ⟨rcp[j].1.toArray⟩ ⟨rcp[j].2.toArray⟩ m w' (by show rcp[j].1.toArray.size ≤ _; simp; omega) (by show rcp[j].2.toArray.size ≤ _; simp; omega) (moved HM3.out hb' (Nat.le_refl _))
          rwa [show chk (⟨rcp[j].1.toArray⟩ : ByteArray).data.toList (⟨rcp[j].2.toArray⟩ : ByteArray).data.toList = 0 from hak] at this
        have HCt : Hid (∀ w', Below W3.heap.size W3 w' → Calls Tryd.prog 44 #[.slice (some ⟨g, off, none⟩) j cv, .agg #[.string ⟨rcp[j].1.toArray⟩, .string ⟨rcp[j].2.toArray⟩]] w' fun e w'' => e = .returned (.bool false) ∧ Below w'.heap.size w' w'') := by
          intro w' hb'
          have := containsA_any (.slice (some ⟨g, off, none⟩) j cv) (rcp.take j) _ rcp[j] w' ((H3.out.down hb').take j cv (by omega) hjc) (by rw [List.length_take]; omega)
          rwa [hnt] at this
        clear hak hnt hal
        generalize rcp[j] = a at q0 q1 HCk HCt
        have HBR := Lib.hid hb
        have hA1 := ba (Below.refl wr.heap.size wr) (.cells #[.string ⟨a.1.toArray⟩, .string ⟨a.2.toArray⟩] 44)
        obtain ⟨r0, r1, -, -⟩ := (Has.alloc wr [.string ⟨a.1.toArray⟩, .string ⟨a.2.toArray⟩] 44).two
        have x3 := moved ((HXA3.out.down hb).six.2.2.2.1) hA1 (Nat.le_refl _)
        have HA1 := Lib.hid hA1
        clear hb hA1
        go_upto_region 12 with fail
        obtain ⟨W5, hW5⟩ : ∃ W5, W5 = wr.alloc (.cells #[.string ⟨a.1.toArray⟩, .string ⟨a.2.toArray⟩] 44) := ⟨_, rfl⟩
        obtain ⟨R, hR⟩ : ∃ R, R = wr.heap.size := ⟨_, rfl⟩
        rw [← hW5] at r0 r1 x3 HA1 ⊢
        rw [← hR] at r0 r1 ⊢
        have hdr := Below.drew (Below.refl W5.heap.size W5)
        clear hW5 hR q0 q1
        go_region_held3 (fun w' => w'.cell? ⟨R, 0, none⟩ = some (.string ⟨a.1.toArray⟩) ∧ w'.cell? ⟨R, 1, none⟩ = some (.string ⟨a.2.toArray⟩) ∧ w'.cell? ⟨w.heap.size, 3, none⟩ = some (.slice (some ⟨g, off, none⟩) rcp.length cv)) (first | exact ⟨r0, r1, x3⟩ | exact ⟨r0', r1', x3'⟩ | exact ⟨r0'', r1'', x3''⟩) (first
          | (go_at_call 43; refine (HCk.out _ (bt (bt HBR.out HA1.out) hdr)).mono ?_; rintro e w6 ⟨rfl, hb6⟩; have r0' := moved (w := W5.drew) r0 hb6 (Nat.le_refl _); have r1' := moved (w := W5.drew) r1 hb6 (Nat.le_refl _); have x3' := moved (w := W5.drew) x3 hb6 (Nat.le_refl _))
          | (go_at_call 44; refine (HCt.out _ (bt (bt (bt HBR.out HA1.out) hdr) hb6)).mono ?_; rintro e w7 ⟨rfl, hb7⟩; have r0'' := moved r0' hb7 (Nat.le_refl _); have r1'' := moved r1' hb7 (Nat.le_refl _); have x3'' := moved x3' hb7 (Nat.le_refl _)))
        all_goals
          have HB7 := Lib.hid (bt (bt (bt (bt HBR.out HA1.out) hdr) hb6) hb7)
          clear r0 r1 x3 r0' r1' x3' r0'' r1'' x3'' hb6 hb7 hdr
          go_wp2_with fail
          go_roundw
          case rel => exact ⟨j + 1, hlt, by go_num, HB7.out⟩
          case measure => simp [intOf]; omega
      · obtain rfl : j = rcp.length := by omega
        have q : ((rcp.length : Int) == 0) = false := by simp; intro e; exact G5.out e
        have HAE := Lib.hid (bt HA3.out hb); have HXA5 := Lib.hid (HXA3.out.down hb); have HXZ5 := Lib.hid (HXZ3.out.down hb)
        clear hb
        obtain ⟨c0, c1, c2, c3, c4, c5⟩ := HXA5.out.six
        obtain ⟨y0, y1, y2, y3, y4, y5⟩ := HXZ5.out.six
        go_wp2_with fail
        go_ret
        exact ⟨rfl, HAE.out⟩
  · rw [if_pos (by omega)] at g4
    rw [if_pos (by omega)] at g5
    have dd1 : decide ((5 : Int) < rcp.length) = false := decide_eq_false (by omega)
    have dd2 : decide ((2000 : Int) < text.length) = false := decide_eq_false (by omega)
    have G5 := Lib.hid g5; have G6 := Lib.hid g6; have G7 := Lib.hid g7
    clear g1 g3 g5 g6 g7 g8
    obtain ⟨c0, c1, c2, c3, c4, c5⟩ := HX.out.six
    have hl := chk_len g4
    have HC : Hid (∀ w', w'.cell? ⟨0, 0, none⟩ = some (.int .i64 m) → Calls Tryd.prog 43 #[.agg #[.string ⟨f1.toArray⟩, .string ⟨f2.toArray⟩]] w' fun e w'' => e = .returned (.int .i64 0) ∧ Below w'.heap.size w' w'') := by
      intro w' hm
      have := check_any ⟨f1.toArray⟩ ⟨f2.toArray⟩ m w' (by show f1.toArray.size ≤ _; simp; omega) (by show f2.toArray.size ≤ _; simp; omega) hm
      rwa [show chk (⟨f1.toArray⟩ : ByteArray).data.toList (⟨f2.toArray⟩ : ByteArray).data.toList = 0 from g4] at this
    have hZ := ba (Below.refl (w.alloc (.cells #[.int .i64 4, .string ⟨f1.toArray⟩, .string ⟨f2.toArray⟩, .slice Gv rcp.length cv, .string ⟨text.toArray⟩, .bool large] 49)).heap.size (w.alloc (.cells #[.int .i64 4, .string ⟨f1.toArray⟩, .string ⟨f2.toArray⟩, .slice Gv rcp.length cv, .string ⟨text.toArray⟩, .bool large] 49))) (.cells #[.int .i64 4, .string ⟨#[]⟩, .string ⟨#[]⟩, .slice none 0 0, .string ⟨#[]⟩, .bool false] 49)
    have HXA := Lib.hid (HX.out.down hZ)
    have hzz := Has.alloc (w.alloc (.cells #[.int .i64 4, .string ⟨f1.toArray⟩, .string ⟨f2.toArray⟩, .slice Gv rcp.length cv, .string ⟨text.toArray⟩, .bool large] 49)) [.int .i64 4, .string ⟨#[]⟩, .string ⟨#[]⟩, .slice none 0 0, .string ⟨#[]⟩, .bool false] 49
    simp only [World.size_alloc] at hzz
    have HXZ := Lib.hid hzz
    have HA1 := Lib.hid (bt HA.out hZ); have H1 := Lib.hid (H.out.down hZ); have HM1 := Lib.hid (moved HM.out hZ (Nat.le_refl _))
    clear hzz hZ HX HA H HM
    go_enter Tryd.func23, Tryd.ntmps23
    obtain ⟨e0, e1, e2, e3, e4, e5⟩ := HXA.out.six
    go_wp2_with fail
    refine (HC.out _ HM1.out).mono ?_
    rintro e w2 ⟨rfl, hb2⟩
    have HXA2 := Lib.hid (HXA.out.down hb2); have HXZ2 := Lib.hid (HXZ.out.down hb2); have HA2 := Lib.hid (bt HA1.out hb2); have H2 := Lib.hid (H1.out.down hb2); have HM2 := Lib.hid (moved HM1.out hb2 (Nat.le_refl _))
    clear hb2 HXA HXZ HA1 H1 HM1 c0 c1 c2 c3 c4 c5 e0 e1 e2 e3 e4 e5 HC
    obtain ⟨W3, hW3⟩ : ∃ W3, W3 = (w2.setCell ⟨w.heap.size + 1, 1, none⟩ (.string ⟨f1.toArray⟩)).setCell ⟨w.heap.size + 1, 2, none⟩ (.string ⟨f2.toArray⟩) := ⟨_, rfl⟩
    have HXA3 : Hid (Has W3 w.heap.size [.int .i64 4, .string ⟨f1.toArray⟩, .string ⟨f2.toArray⟩, .slice Gv rcp.length cv, .string ⟨text.toArray⟩, .bool large]) := by unfold Hid; rw [hW3]; exact (HXA2.out.else' (by omega) _).else' (by omega) _
    have HXZ3 : Hid (Has W3 (w.heap.size + 1) [.int .i64 4, .string ⟨f1.toArray⟩, .string ⟨f2.toArray⟩, .slice none 0 0, .string ⟨#[]⟩, .bool false]) := by unfold Hid; rw [hW3]; exact (HXZ2.out.set' (i := 1) _ (by simp)).set' (i := 2) _ (by simp)
    have hg3 : w2.grownBy W3 (some (w.heap.size + 1)) := by rw [hW3]; exact Go.Lib.grownBy_setB (Go.Lib.grownBy_setB (World.grownBy.refl w2 (some (w.heap.size + 1))) 1 _) 2 _
    have HA3 : Hid (Below w.heap.size w W3) := by unfold Hid; rw [hW3]; exact (HA2.out.setCell (p := ⟨w.heap.size + 1, 1, none⟩) (by show w.heap.size ≤ w.heap.size + 1; omega) _).setCell (p := ⟨w.heap.size + 1, 2, none⟩) (by show w.heap.size ≤ w.heap.size + 1; omega) _
    obtain ⟨c0, c1, c2, c3, c4, c5⟩ := HXA2.out.six
    obtain ⟨-, -, -, -, -, -⟩ := HXZ2.out.six
    obtain ⟨-, z1, z2, -, -, -⟩ := HXZ2.out.six
    obtain ⟨f0', f1', f2', f3', f4', f5'⟩ := HXZ2.out.six_free
    obtain ⟨d0, d1, d2, d3, d4, d5⟩ := HXA3.out.six
    obtain ⟨y0, y1, y2, y3, y4, y5⟩ := HXZ3.out.six
    rw [hW3] at d0 d1 d2 d3 d4 d5 y0 y1 y2 y3 y4 y5
    have H3 : Hid (SAt cAd W3 (fun b => b < w.heap.size) (.slice Gv rcp.length cv) rcp) := H2.out.stable (Same.of_grown hg3 (fun b e hh => by have := Option.some.inj e; omega)) hg3.size
    have HM3 : Hid (W3.cell? ⟨0, 0, none⟩ = some (.int .i64 m)) := by
      unfold Hid
      have hlt := World.block_lt_of_cell? w2 ⟨0, 0, none⟩ HM2.out
      have hne : some (0 : Nat) ≠ some (w.heap.size + 1) := by
        intro e; have := Option.some.inj e; have := HMW.out; omega
      exact (World.cell?_of_block (w := w2) (a := ⟨0, 0, none⟩) (hg3.block _ hlt hne)).trans HM2.out
    go_wp2_with fail
    rw [← hW3]
    clear hg3 c0 c1 c2 c3 c4 c5 z1 z2 f0' f1' f2' f3' f4' f5' d0 d1 d2 d3 d4 d5 y0 y1 y2 y3 y4 y5 HXA2 HXZ2 HA2 H2 HM2 hW3
    go_loopw [55] (fun i wr => ∃ j : Nat, j ≤ rcp.length ∧ i = .int .i64 j ∧ Below W3.heap.size W3 wr) (fun i _ => rcp.length - (intOf i).toNat)
    case atStart => exact ⟨0, Nat.zero_le _, rfl, Below.refl _ _⟩
    case round =>
      obtain ⟨j, hj, rfl, hb⟩ := hrel
      by_cases hlt : j < rcp.length
      · obtain ⟨g, off, rfl, -, hg, q0, q1⟩ := ad_get H3.out hb j hlt
        have hak := G6.out rcp[j] (List.getElem_mem _)
        have hnt := take_not rcp G7.out j hlt
        have hal := chk_len hak
        have hjc : j ≤ cv := by omega
        have HCk : Hid (∀ w', Below W3.heap.size W3 w' → Calls Tryd.prog 43 #[.agg #[.string ⟨rcp[j].1.toArray⟩, .string ⟨rcp[j].2.toArray⟩]] w' fun e w'' => e = .returned (.int .i64 0) ∧ Below w'.heap.size w' w'') := by
          intro w' hb'
          have := check_any ⟨rcp[j].1.toArray⟩ ⟨rcp[j].2.toArray⟩ m w' (by show rcp[j].1.toArray.size ≤ _; simp; omega) (by show rcp[j].2.toArray.size ≤ _; simp; omega) (moved HM3.out hb' (Nat.le_refl _))
          rwa [show chk (⟨rcp[j].1.toArray⟩ : ByteArray).data.toList (⟨rcp[j].2.toArray⟩ : ByteArray).data.toList = 0 from hak] at this
        have HCt : Hid (∀ w', Below W3.heap.size W3 w' → Calls Tryd.prog 44 #[.slice (some ⟨g, off, none⟩) j cv, .agg #[.string ⟨rcp[j].1.toArray⟩, .string ⟨rcp[j].2.toArray⟩]] w' fun e w'' => e = .returned (.bool false) ∧ Below w'.heap.size w' w'') := by
          intro w' hb'
          have := containsA_any (.slice (some ⟨g, off, none⟩) j cv) (rcp.take j) _ rcp[j] w' ((H3.out.down hb').take j cv (by omega) hjc) (by rw [List.length_take]; omega)
          rwa [hnt] at this
        clear hak hnt hal
        generalize rcp[j] = a at q0 q1 HCk HCt
        have HBR := Lib.hid hb
        have hA1 := ba (Below.refl wr.heap.size wr) (.cells #[.string ⟨a.1.toArray⟩, .string ⟨a.2.toArray⟩] 44)
        obtain ⟨r0, r1, -, -⟩ := (Has.alloc wr [.string ⟨a.1.toArray⟩, .string ⟨a.2.toArray⟩] 44).two
        have x3 := moved ((HXA3.out.down hb).six.2.2.2.1) hA1 (Nat.le_refl _)
        have HA1 := Lib.hid hA1
        clear hb hA1
        go_upto_region 12 with fail
        obtain ⟨W5, hW5⟩ : ∃ W5, W5 = wr.alloc (.cells #[.string ⟨a.1.toArray⟩, .string ⟨a.2.toArray⟩] 44) := ⟨_, rfl⟩
        obtain ⟨R, hR⟩ : ∃ R, R = wr.heap.size := ⟨_, rfl⟩
        rw [← hW5] at r0 r1 x3 HA1 ⊢
        rw [← hR] at r0 r1 ⊢
        have hdr := Below.drew (Below.refl W5.heap.size W5)
        clear hW5 hR q0 q1
        go_region_held3 (fun w' => w'.cell? ⟨R, 0, none⟩ = some (.string ⟨a.1.toArray⟩) ∧ w'.cell? ⟨R, 1, none⟩ = some (.string ⟨a.2.toArray⟩) ∧ w'.cell? ⟨w.heap.size, 3, none⟩ = some (.slice (some ⟨g, off, none⟩) rcp.length cv)) (first | exact ⟨r0, r1, x3⟩ | exact ⟨r0', r1', x3'⟩ | exact ⟨r0'', r1'', x3''⟩) (first
          | (go_at_call 43; refine (HCk.out _ (bt (bt HBR.out HA1.out) hdr)).mono ?_; rintro e w6 ⟨rfl, hb6⟩; have r0' := moved (w := W5.drew) r0 hb6 (Nat.le_refl _); have r1' := moved (w := W5.drew) r1 hb6 (Nat.le_refl _); have x3' := moved (w := W5.drew) x3 hb6 (Nat.le_refl _))
          | (go_at_call 44; refine (HCt.out _ (bt (bt (bt HBR.out HA1.out) hdr) hb6)).mono ?_; rintro e w7 ⟨rfl, hb7⟩; have r0'' := moved r0' hb7 (Nat.le_refl _); have r1'' := moved r1' hb7 (Nat.le_refl _); have x3'' := moved x3' hb7 (Nat.le_refl _)))
        all_goals
          have HB7 := Lib.hid (bt (bt (bt (bt HBR.out HA1.out) hdr) hb6) hb7)
          clear r0 r1 x3 r0' r1' x3' r0'' r1'' x3'' hb6 hb7 hdr
          go_wp2_with fail
          go_roundw
          case rel => exact ⟨j + 1, hlt, by go_num, HB7.out⟩
          case measure => simp [intOf]; omega
      · obtain rfl : j = rcp.length := by omega
        have q : ((rcp.length : Int) == 0) = false := by simp; intro e; exact G5.out e
        have HAE := Lib.hid (bt HA3.out hb); have HXA5 := Lib.hid (HXA3.out.down hb); have HXZ5 := Lib.hid (HXZ3.out.down hb)
        clear hb
        obtain ⟨c0, c1, c2, c3, c4, c5⟩ := HXA5.out.six
        obtain ⟨y0, y1, y2, y3, y4, y5⟩ := HXZ5.out.six
        obtain ⟨-, -, -, -, fz4, fz5⟩ := HXZ5.out.six_free
        go_upto_region 20 with fail
        go_region
        obtain ⟨W6, hW6⟩ : ∃ W6, W6 = ((wr.setCell ⟨w.heap.size + 1, 4, none⟩ (.string ⟨text.toArray⟩)).setCell ⟨w.heap.size + 1, 5, none⟩ (.bool large)).drew := ⟨_, rfl⟩
        have hdw := Below.drew (Below.refl ((wr.setCell ⟨w.heap.size + 1, 4, none⟩ (.string ⟨text.toArray⟩)).setCell ⟨w.heap.size + 1, 5, none⟩ (.bool large)).heap.size ((wr.setCell ⟨w.heap.size + 1, 4, none⟩ (.string ⟨text.toArray⟩)).setCell ⟨w.heap.size + 1, 5, none⟩ (.bool large)))
        have HXA6 : Has W6 w.heap.size [.int .i64 4, .string ⟨f1.toArray⟩, .string ⟨f2.toArray⟩, .slice Gv rcp.length cv, .string ⟨text.toArray⟩, .bool large] := by rw [hW6]; exact ((HXA5.out.else' (by omega) _).else' (by omega) _).down hdw
        have HXZ6 : Has W6 (w.heap.size + 1) [.int .i64 4, .string ⟨f1.toArray⟩, .string ⟨f2.toArray⟩, .slice none 0 0, .string ⟨text.toArray⟩, .bool large] := by rw [hW6]; exact ((HXZ5.out.set' (i := 4) _ (by simp)).set' (i := 5) _ (by simp)).down hdw
        have HAF : Hid (Below w.heap.size w W6) := by
          unfold Hid; rw [hW6]
          exact bt ((HAE.out.setCell (p := ⟨w.heap.size + 1, 4, none⟩) (by show w.heap.size ≤ w.heap.size + 1; omega) _).setCell (p := ⟨w.heap.size + 1, 5, none⟩) (by show w.heap.size ≤ w.heap.size + 1; omega) _) hdw
        rw [← hW6]
        clear c0 c1 c2 c3 c4 c5 y0 y1 y2 y3 y4 y5 fz4 fz5 hdw hW6
        obtain ⟨c0, c1, c2, c3, c4, c5⟩ := HXA6.six
        obtain ⟨y0, y1, y2, y3, y4, y5⟩ := HXZ6.six
        clear HXA6 HXZ6
        go_wp2_with fail
        go_ret
        exact ⟨rfl, HAF.out⟩
end Go.Proofs.YtdhepaeephmhiaaDoor
