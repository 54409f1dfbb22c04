/-
  DERIVED. BookSynced: the walk.
-/
import Derived.Test.YtdobigkhilimlaaDoorBooks
namespace Go.Proofs.YtdobigkhilimlaaDoor
open Go.RowKit

set_option maxHeartbeats 8000000 in
set_option maxRecDepth 20000 in
theorem bookSynced_walk (a : Option Addr) (cap : Nat) (cs : List Raw) (keep : Int) (m : Int) (w : World) (h : RawsAt w a cs) (hlen : cs.length ≤ 9223372036854775807) (hcap : cs.length ≤ cap) (hu : Int64 keep) (hm : w.cell? ⟨0, 0, none⟩ = some (.int .i64 m)) :
    Calls Tryd.prog 9 #[.slice a cs.length cap, .int .i64 keep] w fun e w' => e = .returned (.bool true) ∧ Below w.heap.size w w' := by
  have hB := Lib.hid (batchesOf_any a cap cs w h hlen hcap)
  have hpk := pick_lt keep 1000 (by omega)
  have hP : Hid (∀ w, Calls Tryd.prog 15 #[.int .i64 keep, .int .i64 1000] w fun e w' => e = .returned (.int .i64 (pick keep (1000 : Nat))) ∧ w = w') := fun w => picked_any keep 1000 w hu.1 hu.2 (by omega) (by omega)
  obtain ⟨p, hp⟩ : ∃ p, p = pick keep (1000 : Nat) := ⟨_, rfl⟩
  rw [← hp] at hP hpk
  have HM := Lib.hid hm
  clear hm h hp
  go_enter Tryd.func9, Tryd.ntmps9
  go_wp2_with fail
  refine hB.out.mono ?_
  rintro e w1 ⟨⟨vb, bs, rfl, hbs, hbl, hok⟩, hb1⟩
  obtain ⟨hgood, hDl, hg2⟩ := bats_known hok hbl
  have HG := Lib.hid hgood; have HG2 := Lib.hid hg2
  have hrec : Hid (Rec (tapeL bs) bs []) := Rec.whole hgood
  obtain ⟨D, hD⟩ : ∃ D, D = tapeL bs := ⟨_, rfl⟩
  have hT : Hid (∀ v w', BatsAt w' v bs → w'.cell? ⟨0, 0, none⟩ = some (.int .i64 m) → Calls Tryd.prog 17 #[v] w' fun e w'' => (∃ a c, e = .returned (.tuple #[.agg #[.slice a D.length c, .int .i64 0], .bool true]) ∧ Bytes w'' (.slice a D.length c) D) ∧ Below w'.heap.size w' w'') := by
    intro v w' h hm
    refine (taped_any v bs m w' h hgood (by omega) (by omega) hm).mono ?_
    rintro e w'' ⟨⟨v, rfl, u, rfl, hu⟩, hb⟩
    rw [← hD] at hu
    obtain ⟨a, c, rfl, _⟩ := id hu
    exact ⟨⟨a, c, rfl, hu⟩, hb⟩
  rw [← hD] at hDl hrec
  have HD := Lib.hid hD
  clear hok hgood hg2 hD
  obtain ⟨Gb, cb, rfl, hcb, _⟩ := id hbs
  have HBS1 := Lib.hid hbs; have HB1 := Lib.hid hb1
  clear hbs hb1
  go_wp2_with fail
  refine (hT.out _ _ HBS1.out (moved HM.out HB1.out (Nat.le_refl _))).mono ?_
  rintro e w2 ⟨⟨a2, c2, rfl, hu2⟩, hb2⟩
  have hA2 := ba (Below.refl w2.heap.size w2) (.cells #[.slice a2 D.length c2, .int .i64 0] 42)
  have hb2' := bt hb2 hA2
  have HX2 := Lib.hid (Has.alloc w2 [.slice a2 D.length c2, .int .i64 0] 42)
  have HU2 := Lib.hid (hu2.down hA2)
  have HBS2 := Lib.hid (HBS1.out.down hb2'); have HB2 := Lib.hid (bt HB1.out hb2')
  clear hA2 hb2 hb2' hu2 HBS1 HB1
  go_wp2_with fail
  refine (sync_any _ D 0 _ ⟨_, rfl, HU2.out⟩ ⟨by omega, by omega, by omega⟩).mono ?_
  rintro e w3 ⟨⟨u3, rfl, hu3, -⟩, hb3⟩
  obtain ⟨a3, c3, rfl, _⟩ := id hu3
  have hA3 := ba (Below.refl w3.heap.size w3) (.cells #[.slice a3 D.length c3, .int .i64 D.length] 42)
  have hb3' := bt hb3 hA3
  have HX3 := Lib.hid (Has.alloc w3 [.slice a3 D.length c3, .int .i64 D.length] 42)
  have HY3 := Lib.hid (HX2.out.down hb3'); have HV3 := Lib.hid (HU2.out.down hb3')
  have HU3 := Lib.hid (hu3.down hA3)
  have HBS3 := Lib.hid (HBS2.out.down hb3'); have HB3 := Lib.hid (bt HB2.out hb3')
  have hr3 : w2.heap.size < w3.heap.size := by have := hb3.size; simp at this; omega
  clear hA3 hb3 hb3' hu3 HX2 HU2 HBS2 HB2
  go_upto_region 4 with fail
  obtain ⟨W3, hW3⟩ : ∃ W3, W3 = w3.alloc (.cells #[.slice a3 D.length c3, .int .i64 D.length] 42) := ⟨_, rfl⟩
  rw [← hW3] at HX3 HY3 HV3 HU3 HBS3 HB3 ⊢
  have hz3 : w3.heap.size < W3.heap.size := by rw [hW3]; simp
  clear hW3
  have hC : Hid (∀ w', Below W3.heap.size W3 w' → Calls Tryd.prog 20 #[.agg #[.slice a3 D.length c3, .int .i64 D.length], .int .i64 p] w' (AppPost w' D D.length)) := by
    intro w' hb
    have := crash_any (.agg #[.slice a3 D.length c3, .int .i64 D.length]) D D.length p w' ⟨_, rfl, HU3.out.down hb⟩ ⟨by omega, by omega, by omega⟩ (by omega)
    rwa [show D.length + min p (D.length - D.length) = D.length by omega, List.take_length] at this
  obtain ⟨c0, c1, f0, f1⟩ := HX3.out.two
  have hdr := Below.drew (Below.refl W3.heap.size W3)
  have hda := ba (Below.refl W3.heap.size W3) (.cells #[.slice none 0 0, .int .i64 0] 42)
  have c0a := moved c0 hda (Nat.le_refl _); have c1a := moved c1 hda (Nat.le_refl _)
  have hH : Hid (∀ w' : World, Has (w'.alloc (.cells #[.slice none 0 0, .int .i64 0] 42)) w'.heap.size [.slice none 0 0, .int .i64 0]) := fun w' => Has.alloc w' [.slice none 0 0, .int .i64 0] 42
  clear hda
  go_cut [10, 11] (TapeNew D D.length W3)
  case first =>
    go_region_with (first
      | (go_at_call 15; refine (hP.out _).mono ?_; rintro e w4 ⟨rfl, rfl⟩)
      | (go_at_call 20; refine (hC.out _ (by first | exact hdr | exact ba hdr _)).mono ?_; rintro e w4 ⟨⟨u4, rfl, hu4, hf4⟩, hb4⟩; have hu5 := hu4; obtain ⟨ua4, uc4, rfl, _⟩ := hu5; first | (have kk : Has w4 W3.heap.size [.slice none 0 0, .int .i64 0] := (hH.out W3.drew).down hb4; obtain ⟨k0, k1, k2, k3⟩ := kk.two) | (have kk := trivial)))
    all_goals
      go_wp2_with fail
      go_meet
      case rel => first
        | exact tape_new hu4 (hdr.trans hb4)
        | exact tape_at (Nat.le_refl _) kk hu4 (fun k e => by have h9 : W3.heap.size + 1 ≤ k := by simpa using hf4 k e
                                                              omega) (bt (ba hdr _) hb4)
  case rest =>
    obtain ⟨R4, a4, c4, rfl, rfl, hR4, hx4, hu4, hb4⟩ := hcut
    have HY4 := Lib.hid (HY3.out.down hb4); have HV4 := Lib.hid (HV3.out.down hb4); have HX4 := Lib.hid hx4; have HU4 := Lib.hid hu4
    have HBS4 := Lib.hid (HBS3.out.down hb4); have HB4 := Lib.hid (bt HB3.out hb4)
    obtain ⟨d0, d1, _, _⟩ := hx4.two
    clear c0 c1 f0 f1 c0a c1a hdr hx4 hu4 hb4 HX3 HY3 HV3 HU3 HBS3 HB3 hC
    go_wp2_with fail
    refine (recover_any _ D D.length m _ ⟨_, rfl, HU4.out⟩ ⟨by omega, by omega, by omega⟩ (moved HM.out HB4.out (Nat.le_refl _))).mono ?_
    rintro e w5 ⟨⟨bs5, rest5, v5, tv5, rfl, hr5, hbs5, ⟨u5, rfl, hu5⟩⟩, hb5⟩
    obtain ⟨rfl, rfl⟩ := Rec.unique hr5 hrec.out
    have hDD := HD.out
    rw [← hDD] at hu5 ⊢
    rw [show min (D.length : Int) (D.length : Int) = D.length by omega]
    obtain ⟨a5, c5, rfl, _⟩ := id hu5
    have hA5 := ba (Below.refl w5.heap.size w5) (.cells #[.slice a5 D.length c5, .int .i64 D.length] 42)
    have hb5' := bt hb5 hA5
    have HY5 := Lib.hid (HY4.out.down hb5'); have HV5 := Lib.hid (HV4.out.down hb5')
    have HX5 := Lib.hid (Has.alloc w5 [.slice a5 D.length c5, .int .i64 D.length] 42); have HU5 := Lib.hid (hu5.down hA5); have HGT5 := Lib.hid (hbs5.down hA5)
    have HBS5 := Lib.hid (HBS4.out.down hb5'); have HB5 := Lib.hid (bt HB4.out hb5')
    obtain ⟨G5, cg5, rfl, _⟩ := id hbs5
    clear hA5 hb5 hb5' hu5 hbs5 hr5 d0 d1 HX4 HU4 HY4 HV4 HBS4 HB4 hDD
    obtain ⟨c0, c1, _, _⟩ := HY5.out.two
    go_wp2_with fail
    refine (crash_neg _ D 0 _ ⟨_, rfl, HV5.out⟩ ⟨by omega, by omega, by omega⟩).mono ?_
    rintro e w6 ⟨rfl, hb6⟩
    have hA6 := ba (Below.refl w6.heap.size w6) (.cells #[.slice none 0 0, .int .i64 0] 42)
    have hb6' := bt hb6 hA6
    have HY6 := Lib.hid (HY5.out.down hb6'); have HV6 := Lib.hid (HV5.out.down hb6'); have HX6 := Lib.hid (HX5.out.down hb6'); have HU6 := Lib.hid (HU5.out.down hb6')
    have HGT6 := Lib.hid (HGT5.out.down hb6'); have HBS6 := Lib.hid (HBS5.out.down hb6'); have HB6 := Lib.hid (bt HB5.out hb6')
    clear hA6 hb6 hb6' c0 c1 HY5 HV5 HX5 HU5 HGT5 HBS5 HB5
    go_wp2_with fail
    refine (begins_any _ _ bs5 bs5 _ HGT6.out HBS6.out (List.prefix_refl _) HG2.out (by omega)).mono ?_
    rintro e w7 ⟨rfl, hb7⟩
    obtain ⟨c0, c1, _, _⟩ := (HY6.out.down hb7).two
    obtain ⟨d0, d1, _, _⟩ := (HX6.out.down hb7).two
    obtain ⟨a', c', h1, _, hat1, _⟩ := HV6.out.down hb7
    obtain ⟨a'', c'', h2, _, hat2, _⟩ := HU6.out.down hb7
    cases h1; cases h2
    have cv1 := conv_at (cap := c2) hat1
    have cv2 := conv_at (cap := c5) hat2
    have HB7 := Lib.hid (bt HB6.out hb7)
    clear hat1 hat2 hb7
    go_wp2_with fail
    go_ret
    exact ⟨rfl, HB7.out⟩
end Go.Proofs.YtdobigkhilimlaaDoor
