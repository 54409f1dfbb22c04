/-
  DERIVED. SpoolLast: the walk.
-/
import Derived.Test.YthllhakgcnfmcaaDoorBoxHead
namespace Go.Proofs.YthllhakgcnfmcaaDoor
open Go.RowKit

set_option maxHeartbeats 8000000 in
set_option maxRecDepth 20000 in
theorem spoolLast_walk (a : Option Addr) (cap : Nat) (cs : List Raw) (text : ByteArray) (m : Int) (w : World) (h : RawsAt w a cs) (hlen : cs.length ≤ 9223372036854775807) (htx : text.size ≤ maxLen) (hm : w.cell? ⟨0, 0, none⟩ = some (.int .i64 m)) :
    Calls Tryd.prog 7 #[.slice a cs.length cap, .string text] w fun e w' => e = .returned (.bool true) ∧ Below w.heap.size w w' := by
  have HS := Lib.hid (state_any a cap cs m w h hlen hm)
  have hg := stOf_good cs
  obtain ⟨s, hs⟩ : ∃ s, s = stOf cs := ⟨_, rfl⟩
  rw [← hs] at HS hg
  obtain ⟨x, hx⟩ : ∃ x, x = entOf ⟨5, 0, 0, 0, 0, text⟩ := ⟨_, rfl⟩
  have HE : Hid (∀ w', Calls Tryd.prog 13 #[.agg #[.int .i64 5, .int .i64 0, .int .i64 0, .int .i64 0, .int .i64 0, .string text]] w' (EntPost x w')) := by
    rw [hx]; exact fun w' => entry_c ⟨5, 0, 0, 0, 0, text⟩ w' (raw_ok (i64k 5 (by decide)) i64z i64z i64z i64z htx)
  have hxf : formV x = 0 := by rw [hx]; exact entOf_form _
  have hxk : x.kind = 6 := by rw [hx]; rfl
  have HF := Lib.hid hxf
  have HG := Lib.hid hg; have HM := Lib.hid hm; have hsl := hg.spool; have hbl := hg.boxes
  have HC : Hid ((s.spool.length = 20 ∧ allS s [x] = (s, 5)) ∨ (s.spool.length ≠ 20 ∧ allS s [x] = (⟨s.boxes, s.spool ++ [x]⟩, 0))) := by
    by_cases hf : s.spool.length = 20
    · exact .inl ⟨hf, spool_full hxk hxf hf⟩
    · exact .inr ⟨hf, spool_ok hxk hxf hf⟩
  clear h hm hg hs hx hxf hxk
  go_enter Tryd.func7, Tryd.ntmps7
  go_wp2_with fail
  refine HS.out.mono ?_
  rintro e w1 ⟨⟨G1, c1, G2, c2, rfl, h1, h2⟩, hb1⟩
  have hA1 := ba (Below.refl w1.heap.size w1) (.cells #[.slice G1 s.boxes.length c1, .slice G2 s.spool.length c2] 28)
  have HX1 := Lib.hid (Has.alloc w1 [.slice G1 s.boxes.length c1, .slice G2 s.spool.length c2] 28)
  have H11 := Lib.hid (h1.down hA1); have H21 := Lib.hid (h2.down hA1); have HB1 := Lib.hid (bt hb1 hA1)
  clear h1 h2 hb1 hA1 HS
  go_wp2_with fail
  refine (HE.out _).mono ?_
  rintro e w2 ⟨rfl, hb2⟩
  have hz1 : w1.heap.size + 1 ≤ w2.heap.size := by have := hb2.size; simpa using this
  have hA2 := bt hb2 (ba (Below.refl w2.heap.size w2) (.cells #[.int .i64 x.kind, .string ⟨x.box.toArray⟩, .int .i64 x.uid, .int .i64 x.flags, .string ⟨x.to.toArray⟩, .string ⟨x.text.toArray⟩] 31))
  have HX2 := Lib.hid (HX1.out.down hA2); have H12 := Lib.hid (H11.out.down hA2); have H22 := Lib.hid (H21.out.down hA2); have HB2 := Lib.hid (bt HB1.out hA2)
  have HY2 := Lib.hid (Has.alloc w2 [.int .i64 x.kind, .string ⟨x.box.toArray⟩, .int .i64 x.uid, .int .i64 x.flags, .string ⟨x.to.toArray⟩, .string ⟨x.text.toArray⟩] 31)
  obtain ⟨c0, c1', -, -⟩ := HX2.out.two
  obtain ⟨y0, y1, y2, y3, y4, y5⟩ := HY2.out.six
  clear hA2 hb2 HX1 H11 H21 HB1 HE
  go_wp2_with fail
  rcases HC.out with ⟨hf, hr⟩ | ⟨hf, hr⟩
  · have HR := Lib.hid hr
    have q : ((s.spool.length : Int) == 20) = true := by rw [hf]; rfl
    clear hr hf HC
    refine (apply_err HR.out (by decide) _ _ _ m _ H12.out H22.out HG.out HF.out (moved HM.out HB2.out (Nat.le_refl _))).mono ?_
    rintro e w3 ⟨rfl, hb3⟩
    clear c0 c1' y0 y1 y2 y3 y4 y5
    have hA3 := bt hb3 (ba (Below.refl w3.heap.size w3) (.cells #[.slice none 0 0, .slice none 0 0] 28))
    obtain ⟨c0, c1', -, -⟩ := (HX2.out.down hA3).two
    have HB3 := Lib.hid (bt HB2.out hA3)
    clear hb3 hA3
    go_wp2_with fail
    go_ret
    exact ⟨rfl, HB3.out⟩
  · have HR := Lib.hid hr
    have q : ((s.spool.length : Int) == 20) = false := by simp; omega
    clear hr hf HC
    refine (apply_ok HR.out _ _ _ m _ H12.out H22.out HG.out HF.out (moved HM.out HB2.out (Nat.le_refl _))).mono ?_
    rintro e w3 ⟨⟨E1, e1, E2, e2, rfl, hv⟩, hb3⟩
    have hlen1 : (s.spool ++ [x]).length = s.spool.length + 1 := by simp
    simp only [hlen1] at hv ⊢
    clear hlen1 c0 c1' y0 y1 y2 y3 y4 y5
    have hz3 : w2.heap.size + 1 ≤ w3.heap.size := by have := hb3.size; simpa using this
    obtain ⟨qs, hO⟩ := OwnS.into hv (by simp; omega) 28
    have hA3 := bt hb3 (ba (Below.refl w3.heap.size w3) (.cells #[.slice E1 s.boxes.length e1, .slice E2 (s.spool.length + 1) e2] 28))
    have HX3 := Lib.hid (HX2.out.down hA3); have H13 := Lib.hid (((box_lower (H12.out.down hb3)).down (ba (Below.refl w3.heap.size w3) (.cells #[.slice E1 s.boxes.length e1, .slice E2 (s.spool.length + 1) e2] 28))).mono (F' := fun b => b ≠ w3.heap.size) (fun b hb => by have := hb.2; omega)); have H23 := Lib.hid (((flat_lower (H22.out.down hb3)).down (ba (Below.refl w3.heap.size w3) (.cells #[.slice E1 s.boxes.length e1, .slice E2 (s.spool.length + 1) e2] 28))).mono (F' := fun b => b ≠ w3.heap.size) (fun b hb => by have := hb.2; omega)); have hz0 : w.heap.size ≤ w3.heap.size := by have := HB2.out.size; simp at this; omega
    have HB3 := Lib.hid (bt HB2.out hA3); have HY3 := Lib.hid (HY2.out.down hA3)
    have HO := Lib.hid hO
    clear hb3 hA3 hv
    obtain ⟨c0, c1', -, -⟩ := HX3.out.two
    go_wp2_with fail
    obtain ⟨W3, hW3⟩ : ∃ W3, W3 = w3.alloc (.cells #[.slice E1 s.boxes.length e1, .slice E2 (s.spool.length + 1) e2] 28) := ⟨_, rfl⟩
    rw [← hW3] at HX3 H13 H23 HB3 HY3 HO hO c0 c1' ⊢
    have hz4 : w3.heap.size < W3.heap.size := by rw [hW3]; simp
    clear hW3 HX2 HY2 H12 H22 HB2
    obtain ⟨y0, y1, y2, y3, y4, y5⟩ := HY3.out.six
    obtain ⟨d0, d1, f0, f1⟩ := hO.has.two
    have hcap : s.spool.length + 1 ≤ e2 := by obtain ⟨G, cap, h1, h2⟩ := (hO.rows.spool (F := fun _ => True) (fun _ _ => trivial)).form; simp at h1 h2; omega
    obtain ⟨g, off, rfl, -, hgl, m0, m1, m2, m3, m4, m5⟩ := ent_get (hO.rows.spool (F := fun _ => True) (fun _ _ => trivial)) (Below.refl _ _) s.spool.length (by simp)
    simp only [List.getElem_concat_length] at m0 m1 m2 m3 m4 m5
    clear hO
    go_quiet (fail)
    have hdn := below_drewN W3 nq
    have HX4 := Lib.hid (HX3.out.down hdn); have H14 := Lib.hid (H13.out.down hdn); have H24 := Lib.hid (H23.out.down hdn); have HB4 := Lib.hid (bt HB3.out hdn); have HO4 := Lib.hid (HO.out.down hdn)
    clear c0 c1' y0 y1 y2 y3 y4 y5 d0 d1 f0 f1 m0 m1 m2 m3 m4 m5 HX3 H13 H23 HB3 HO HY3 hdn
    obtain ⟨d0, d1, f0, f1⟩ := HO4.out.has.two
    have hG4 := Go.Lib.grownBy_setB (World.grownBy.refl (W3.drewN nq) (some w3.heap.size)) 1 (.slice (some ⟨g, off, none⟩) s.spool.length e2)
    have hO5 := HO4.out.rows.else' hG4 HO4.out.off
    have hX5 := HX4.out.else' (c := w3.heap.size) (i := 1) (by omega) (.slice (some ⟨g, off, none⟩) s.spool.length e2)
    have hT5 := HO4.out.has.set' (i := 1) (.slice (some ⟨g, off, none⟩) s.spool.length e2) (by simp)
    obtain ⟨c0, c1', -, -⟩ := hX5.two
    obtain ⟨d0b, d1b, -, -⟩ := (show Has _ w3.heap.size [.slice E1 s.boxes.length e1, .slice (some ⟨g, off, none⟩) s.spool.length e2] from hT5).two
    have hk1 := hO5.boxes (F := fun _ => True) (fun _ _ => trivial)
    rw [← HO4.out.boxes] at hk1
    have hk2 := (hO5.spool (F := fun _ => True) (fun _ _ => trivial)).take s.spool.length e2 (by simp) (by omega)
    rw [List.take_left] at hk2
    have HS := Lib.hid (same_any s _ _ _ _ (fun b => b ≠ w3.heap.size) _ _ ((H14.out.stable (Same.of_grown hG4 (fun b e hh => hh (Option.some.inj e).symm)) hG4.size)) (H24.out.stable (Same.of_grown hG4 (fun b e hh => hh (Option.some.inj e).symm)) hG4.size) hk1 hk2 (by omega) (by omega) (good_mails HG.out))
    have HB5 := Lib.hid (HB4.out.setCell (p := ⟨w3.heap.size, 1, none⟩) (by show w.heap.size ≤ w3.heap.size; omega) (.slice (some ⟨g, off, none⟩) s.spool.length e2))
    clear hO5 hX5 hT5 hk1 hk2 hG4
    go_wp2_with fail
    refine HS.out.mono ?_
    rintro e w5 ⟨rfl, hb5⟩
    have HB6 := Lib.hid (bt HB5.out hb5)
    clear c0 c1' d0 d1 d0b d1b f0 f1
    go_wp2_with fail
    go_ret
    exact ⟨rfl, HB6.out⟩
end Go.Proofs.YthllhakgcnfmcaaDoor
