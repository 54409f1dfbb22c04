/-
  DERIVED. The law LineMany: its walk.
-/
import Derived.Test.YtpekkebmdhpbeaaDoorLineKit
import Derived.Test.YtpekkebmdhpbeaaDoorRows2
namespace Go.Proofs.YtpekkebmdhpbeaaDoor
open Go.RowKit

theorem one_byte_str (W : World) (c : UInt8) : (convert 40 9 (.slice (some ⟨W.heap.size, 0, none⟩) 1 1)).run Tryd.prog (W.alloc (.cells #[.int .u8 (c.toNat : Int)] 5)) = .ok (.string ⟨#[c]⟩) (W.alloc (.cells #[.int .u8 (c.toNat : Int)] 5)) := by
  have h : OwnB (W.alloc (.cells #[.int .u8 (c.toNat : Int)] 5)) W.heap.size 5 (.slice (some ⟨W.heap.size, 0, none⟩) 1 1) [c] :=
    World.ownsRow_lit W #[.int .u8 (c.toNat : Int)] 1 (Nat.le_refl _) (by decide) rfl
  exact run_str_own h Tryd.underlying40 Tryd.underlying5 Tryd.underlying9
theorem mn_bytes (i : Nat) : (⟨#[82, 67, 80, 84, 32, 84, 79, 58, 60, 117, 64, 100]⟩ : ByteArray) ++ ⟨#[UInt8.ofNat (97 + i)]⟩ ++ ⟨#[62]⟩ = ⟨(mnL i).toArray⟩ := by
  rw [← Lib.mk_data ((⟨#[82, 67, 80, 84, 32, 84, 79, 58, 60, 117, 64, 100]⟩ : ByteArray) ++ ⟨#[UInt8.ofNat (97 + i)]⟩ ++ ⟨#[62]⟩)]
  congr 2
theorem mn_len (a : Ad) (i : Nat) : (mnS a i).rcp.length = i := by unfold mnS; simp
theorem mn_min (a : Ad) (j : Nat) (hj : j < 10) : lineS (mnS a (min j 5)) [[117]] (mnL j) = (mnS a (min (j + 1) 5), if 5 ≤ j then 452 else 250, []) := by
  by_cases h : 5 ≤ j
  · rw [if_pos h, Nat.min_eq_right h, Nat.min_eq_right (by omega)]; exact mn_full a j hj h
  · rw [if_neg h, Nat.min_eq_left (by omega), Nat.min_eq_left (by omega)]; exact mn_line a j (by omega)

set_option maxHeartbeats 8000000 in
set_option maxRecDepth 20000 in
theorem lineMany_walk (a0 a1 a2 b0 b1 b2 : ByteArray) (G : Option Addr) (n c : Nat) (x : Nat → Nat → ByteArray) (bo : ByteArray) (z : Int) (m : Int) (w : World) (h0 : a0.size ≤ maxLen) (h1 : a1.size ≤ maxLen) (_h2 : a2.size ≤ maxLen) (_k0 : b0.size ≤ maxLen) (_k1 : b1.size ≤ maxLen) (_k2 : b2.size ≤ maxLen) (_hx : StrRows w G n 2 x ∧ n ≤ maxLen) (_hbo : bo.size ≤ maxLen) (hz : -9223372036854775808 ≤ z ∧ z ≤ 9223372036854775807) (hm : w.cell? ⟨0, 0, none⟩ = some (.int .i64 m)) :
    Calls Tryd.prog 6 #[.agg #[.string a0, .string a1, .string a2, .string b0, .string b1, .string b2, .slice G n c, .string bo], .int .i64 z] w fun e w' => e = .returned (.bool true) ∧ Below w.heap.size w w' := by
  unfold maxLen at h0 h1
  obtain ⟨hz1, hz2⟩ := hz
  clear _hx
  have hA := ba (Below.refl w.heap.size w) (.cells #[.string a0, .string a1, .string a2, .string b0, .string b1, .string b2, .slice G n c, .string bo] 26)
  have HAD := Lib.hid (fun w => address_any a0 a1 a2 w (by omega) (by omega))
  have HPK : Hid (∀ w, Calls Tryd.prog 11 #[.int .i64 z, .int .i64 10] w fun e w' => e = .returned (.int .i64 (pick z (10 : Nat))) ∧ w = w') := fun w => picked_any z 10 w hz1 hz2 (by omega) (by omega)
  have hk10 := pick_lt z 10 (by omega)
  obtain ⟨k, hk⟩ : ∃ k, k = pick z (10 : Nat) := ⟨_, rfl⟩
  rw [← hk] at HPK hk10
  have HA := Lib.hid hA; have HM := Lib.hid hm
  obtain ⟨a, ha⟩ : ∃ a, a = zAd a0.data.toList a1.data.toList := ⟨_, rfl⟩
  have HX : Hid (addrL a0.data.toList = ⟨a.1.toArray⟩) := by unfold Hid; rw [ha]; rfl
  have HY : Hid (addrD a1.data.toList = ⟨a.2.toArray⟩) := by unfold Hid; rw [ha]; exact (arr_addrD _).symm
  have HCK : Hid (chk a.1 a.2 = 0) := by unfold Hid; rw [ha]; exact zAd_chk _ _
  rw [HX.out, HY.out] at HAD
  clear hA hm hk ha HX HY
  go_enter Tryd.func6, Tryd.ntmps6
  go_wp2_with fail
  refine (HAD.out _).mono ?_
  rintro e w1 ⟨rfl, hb1⟩
  have HB1 := Lib.hid (bt HA.out hb1); have HM1 := Lib.hid (moved HM.out (bt HA.out hb1) (Nat.le_refl _))
  clear hb1 HA HM HAD
  go_wp2_with fail
  refine (HPK.out _).mono ?_
  rintro e w2 ⟨rfl, rfl⟩
  clear HPK
  go_wp2_with fail
  have hs3 : SesAt 0 ((w1.alloc (.cells #[.string ⟨a.1.toArray⟩, .string ⟨a.2.toArray⟩] 28)).alloc (.cells #[.int .i64 2, .string ⟨a.1.toArray⟩, .string ⟨a.2.toArray⟩, .slice none 0 0, .string ⟨#[]⟩, .bool false] 33)) (w1.heap.size + 1) (.slice none 0 0) (mnS a 0) := by
    have hh := Has.alloc (w1.alloc (.cells #[.string ⟨a.1.toArray⟩, .string ⟨a.2.toArray⟩] 28)) [.int .i64 2, .string ⟨a.1.toArray⟩, .string ⟨a.2.toArray⟩, .slice none 0 0, .string ⟨#[]⟩, .bool false] 33
    rw [World.size_alloc] at hh
    exact ⟨hh, SAt.nil _ _ _⟩
  have hb3 := ba (ba (Below.refl w1.heap.size w1) (.cells #[.string ⟨a.1.toArray⟩, .string ⟨a.2.toArray⟩] 28)) (.cells #[.int .i64 2, .string ⟨a.1.toArray⟩, .string ⟨a.2.toArray⟩, .slice none 0 0, .string ⟨#[]⟩, .bool false] 33)
  have hmw : 0 < w1.heap.size := World.block_lt_of_cell? w1 ⟨0, 0, none⟩ HM1.out
  have hww : w.heap.size ≤ w1.heap.size := HB1.out.size
  have HS3 := Lib.hid hs3; have HB3 := Lib.hid (bt HB1.out hb3); have HM3 := Lib.hid (moved HM1.out hb3 (Nat.le_refl _))
  have o2 : w1.heap.size + 1 < ((w1.alloc (.cells #[.string ⟨a.1.toArray⟩, .string ⟨a.2.toArray⟩] 28)).alloc (.cells #[.int .i64 2, .string ⟨a.1.toArray⟩, .string ⟨a.2.toArray⟩, .slice none 0 0, .string ⟨#[]⟩, .bool false] 33)).heap.size := by simp
  clear hs3 hb3
  obtain ⟨W3, hW3⟩ : ∃ W3, W3 = (w1.alloc (.cells #[.string ⟨a.1.toArray⟩, .string ⟨a.2.toArray⟩] 28)).alloc (.cells #[.int .i64 2, .string ⟨a.1.toArray⟩, .string ⟨a.2.toArray⟩, .slice none 0 0, .string ⟨#[]⟩, .bool false] 33) := ⟨_, rfl⟩
  rw [← hW3] at HS3 HB3 HM3 o2 ⊢
  obtain ⟨S, hS⟩ : ∃ S, S = w1.heap.size + 1 := ⟨_, rfl⟩
  rw [← hS] at HS3 o2 ⊢
  have o3 : w.heap.size ≤ S := by omega
  have o4 : 0 < S := by omega
  clear hW3 hww hmw hS HB1 HM1
  go_loopw [8] (fun i wr => ∃ j : Nat, j ≤ k ∧ i = .int .i64 j ∧ SesPost 0 S (mnS a (min j 5)) W3 wr) (fun i _ => k - (intOf i).toNat)
  case atStart => exact ⟨0, Nat.zero_le _, rfl, SesPost.of HS3.out (World.grownBy.refl _ _)⟩
  case round =>
    obtain ⟨j, hj, rfl, ⟨v, hs⟩, hg⟩ := hrel
    obtain ⟨Gv, cv, rfl, -⟩ := hs.rcp.form
    have HM := Lib.hid (cell_else hg HM3.out (by omega))
    have HS := Lib.hid hs; have HG := Lib.hid hg
    have hg2 := mn_good HCK.out (min j 5) (Nat.min_le_right _ _)
    have hsz : W3.heap.size ≤ wr.heap.size := hg.size
    have hSw : S < wr.heap.size := hs.has.2.2
    have hLN : Hid (∀ (x : List UInt8) (w' : World) (b : Nat), x.length ≤ 300 → Below wr.heap.size wr w' → SAt cStr w' (fun _ => True) (.slice (some ⟨b, 0, none⟩) 1 1) [[117]] → Calls Tryd.prog 10 #[.agg #[.int .i64 (mnS a (min j 5)).step, .string ⟨(mnS a (min j 5)).frm.1.toArray⟩, .string ⟨(mnS a (min j 5)).frm.2.toArray⟩, .slice Gv (mnS a (min j 5)).rcp.length cv, .string ⟨(mnS a (min j 5)).text.toArray⟩, .bool (mnS a (min j 5)).large], .slice (some ⟨b, 0, none⟩) 1 1, .string ⟨x.toArray⟩] w' (LinePost (lineS (mnS a (min j 5)) [[117]] x) w')) :=
      fun x w' b hx hb hk => line_any (mnS a (min j 5)) _ _ _ [[117]] _ x m w' (HS.out.rcp.down hb) hg2 hk (by show 1 ≤ 1000; omega) (by omega) (moved HM.out hb (Nat.le_refl _))
    have HK : Hid (∀ w' : World, SAt cStr (w'.alloc (.cells #[.string ⟨#[117]⟩] 9)) (fun _ => True) (.slice (some ⟨w'.heap.size, 0, none⟩) 1 1) [[117]]) := fun w' => str_one w' [117] (fun _ => True) trivial 9
    clear hg2 hs hg
    obtain ⟨c0, c1, c2, c3, c4, c5⟩ := HS.out.six.six
    by_cases hlt : j < k
    · have hq := mn_min a j (by omega)
      have hlq := mn_len a (min (j + 1) 5)
      have hlc := hLN.out (mnL j) ((wr.alloc (.cells #[.string ⟨#[117]⟩] 9)).alloc (.cells #[.int .u8 ((UInt8.ofNat (97 + j)).toNat : Int)] 5)) wr.heap.size (by show 14 ≤ 300; omega) (ba (ba (Below.refl _ _) _) _) ((HK.out wr).down (ba (Below.refl _ _) _))
      have HLC := Lib.hid hlc
      rw [hq] at HLC
      have HBY := Lib.hid (mn_bytes j)
      have hcu : IntKind.u8.wrap (97 + (j : Int)) = ((UInt8.ofNat (97 + j)).toNat : Int) := by
        rw [UInt8.toNat_ofNat', IntWalk.u8_in _ (by omega)]
        omega
      have hcv := one_byte_str (wr.alloc (.cells #[.string ⟨#[117]⟩] 9)) (UInt8.ofNat (97 + j))
      rw [World.size_alloc] at hcv
      obtain ⟨q', hq'⟩ : ∃ q', q' = mnS a (min (j + 1) 5) := ⟨_, rfl⟩
      rw [← hq'] at hlq HLC
      obtain ⟨q, hq2⟩ : ∃ q, q = mnS a (min j 5) := ⟨_, rfl⟩
      rw [← hq2] at HLC HS c0 c1 c2 c3 c4 c5
      obtain ⟨by1, hby1⟩ : ∃ b, b = UInt8.ofNat (97 + j) := ⟨_, rfl⟩
      rw [← hby1] at HLC hcu hcv HBY
      have HQ' := Lib.hid hq'; have HLQ := Lib.hid hlq
      have hj1 : IntKind.i64.wrap ((j : Int) + 1) = (j : Int) + 1 := IntWalk.i64_in _ (by omega)
      clear hlc hq hq' hq2 hby1 hlq hLN
      by_cases h5 : 5 ≤ j
      · rw [if_pos h5] at HLC
        have q1 : ((q'.rcp.length : Int) == min ((j : Int) + 1) 5) = true := by rw [HLQ.out]; simp; omega
        have q2 : ((q'.rcp.length : Int) != min ((j : Int) + 1) 5) = false := by simp [bne, q1]
        have dj : decide ((5 : Int) ≤ j) = true := decide_eq_true (by omega)
        clear hj1
        go_wp2_with fail
        rw [HBY.out]
        refine HLC.out.mono ?_
        intro e w4 hp
        obtain ⟨G4, c4', Gl, cl, rfl, hv4, hb4⟩ := hp.form3
        obtain ⟨h4, hp4⟩ := ses_fresh 33 HG.out HS.out (ba (ba (Below.refl _ _) _) _) hv4 hb4 o2
        have HP4 := Lib.hid hp4
        obtain ⟨e0, e1, e2, e3, e4, e5⟩ := h4.six
        obtain ⟨f0, f1, f2, f3, f4, f5⟩ := h4.six_free
        clear hcu hcv HBY HLC hp hv4 hb4 hp4 h4 c0 c1 c2 c3 c4 c5
        go_wp2_with fail
        go_roundw
        case rel => exact ⟨j + 1, by omega, by go_num, by rw [← HQ'.out]; exact HP4.out⟩
        case measure => simp [intOf]; omega
      · rw [if_neg h5] at HLC
        have q1 : ((q'.rcp.length : Int) == min ((j : Int) + 1) 5) = true := by rw [HLQ.out]; simp; omega
        have q2 : ((q'.rcp.length : Int) != min ((j : Int) + 1) 5) = false := by simp [bne, q1]
        have dj : decide ((5 : Int) ≤ j) = false := decide_eq_false (by omega)
        clear hj1
        go_wp2_with fail
        rw [HBY.out]
        refine HLC.out.mono ?_
        intro e w4 hp
        obtain ⟨G4, c4', Gl, cl, rfl, hv4, hb4⟩ := hp.form3
        obtain ⟨h4, hp4⟩ := ses_fresh 33 HG.out HS.out (ba (ba (Below.refl _ _) _) _) hv4 hb4 o2
        have HP4 := Lib.hid hp4
        obtain ⟨e0, e1, e2, e3, e4, e5⟩ := h4.six
        obtain ⟨f0, f1, f2, f3, f4, f5⟩ := h4.six_free
        clear hcu hcv HBY HLC hp hv4 hb4 hp4 h4 c0 c1 c2 c3 c4 c5
        go_wp2_with fail
        go_roundw
        case rel => exact ⟨j + 1, by omega, by go_num, by rw [← HQ'.out]; exact HP4.out⟩
        case measure => simp [intOf]; omega
    · obtain rfl : j = k := by omega
      have hq := mn_again a (min j 5) (Nat.min_le_right _ _)
      have hqb := mn_bad a (min j 5) (Nat.min_le_right _ _)
      have hlq := mn_len a (max 1 (min j 5))
      have HL1 : Hid (∀ (w' : World) (b : Nat), Below wr.heap.size wr w' → SAt cStr w' (fun _ => True) (.slice (some ⟨b, 0, none⟩) 1 1) [[117]] → Calls Tryd.prog 10 #[.agg #[.int .i64 (mnS a (min j 5)).step, .string ⟨(mnS a (min j 5)).frm.1.toArray⟩, .string ⟨(mnS a (min j 5)).frm.2.toArray⟩, .slice Gv (mnS a (min j 5)).rcp.length cv, .string ⟨(mnS a (min j 5)).text.toArray⟩, .bool (mnS a (min j 5)).large], .slice (some ⟨b, 0, none⟩) 1 1, .string ⟨#[82, 67, 80, 84, 32, 84, 79, 58, 60, 117, 64, 100, 97, 62]⟩] w' (LinePost (mnS a (max 1 (min j 5)), 250, []) w')) := by
        intro w' b hb hk
        rw [← hq]; exact hLN.out (mnL 0) w' b (by show 14 ≤ 300; omega) hb hk
      have HL2 : Hid (∀ (w' : World) (b : Nat), Below wr.heap.size wr w' → SAt cStr w' (fun _ => True) (.slice (some ⟨b, 0, none⟩) 1 1) [[117]] → Calls Tryd.prog 10 #[.agg #[.int .i64 (mnS a (min j 5)).step, .string ⟨(mnS a (min j 5)).frm.1.toArray⟩, .string ⟨(mnS a (min j 5)).frm.2.toArray⟩, .slice Gv (mnS a (min j 5)).rcp.length cv, .string ⟨(mnS a (min j 5)).text.toArray⟩, .bool (mnS a (min j 5)).large], .slice (some ⟨b, 0, none⟩) 1 1, .string ⟨#[82, 67, 80, 84, 32, 84, 79, 58, 60, 118, 64, 100, 97, 62]⟩] w' (LinePost (mnS a (min j 5), 550, []) w')) := by
        intro w' b hb hk
        rw [← hqb]; exact hLN.out mnBad w' b (by show 14 ≤ 300; omega) hb hk
      obtain ⟨q', hq'⟩ : ∃ q', q' = mnS a (max 1 (min j 5)) := ⟨_, rfl⟩
      rw [← hq'] at hlq HL1
      obtain ⟨q, hq2⟩ : ∃ q, q = mnS a (min j 5) := ⟨_, rfl⟩
      rw [← hq2] at HL1 HL2 HS c0 c1 c2 c3 c4 c5
      have hend : ((q'.rcp.length : Int) == max 1 (min (j : Int) 5)) = true := by rw [hlq]; simp; omega
      clear hq hqb hLN hq' hq2 hlq
      go_wp2_with fail
      have hl1 := HL1.out (wr.alloc (.cells #[.string ⟨#[117]⟩] 9)) wr.heap.size (ba (Below.refl _ _) _) (HK.out wr)
      refine hl1.mono ?_
      clear hl1
      intro e w4 hp
      obtain ⟨G4, c4', Gl, cl, rfl, hv4, hb4⟩ := hp.form3
      have hbb := bt (ba (Below.refl wr.heap.size wr) (.cells #[.string ⟨#[117]⟩] 9)) hb4
      have hbc := bt hbb (ba (Below.refl w4.heap.size w4) (.cells #[.int .i64 q'.step, .string ⟨q'.frm.1.toArray⟩, .string ⟨q'.frm.2.toArray⟩, .slice G4 q'.rcp.length c4', .string ⟨q'.text.toArray⟩, .bool q'.large] 33))
      obtain ⟨d0, d1, d2, d3, d4, d5⟩ := (HS.out.down hbc).six.six
      have hN := Has.alloc w4 [.int .i64 q'.step, .string ⟨q'.frm.1.toArray⟩, .string ⟨q'.frm.2.toArray⟩, .slice G4 q'.rcp.length c4', .string ⟨q'.text.toArray⟩, .bool q'.large] 33
      have HN := Lib.hid hN; have HBC := Lib.hid hbc
      clear hp hv4 hb4 hbb hbc hN HL1 c0 c1 c2 c3 c4 c5
      go_wp2_with fail
      obtain ⟨W5, hW5⟩ : ∃ W5, W5 = w4.alloc (.cells #[.int .i64 q'.step, .string ⟨q'.frm.1.toArray⟩, .string ⟨q'.frm.2.toArray⟩, .slice G4 q'.rcp.length c4', .string ⟨q'.text.toArray⟩, .bool q'.large] 33) := ⟨_, rfl⟩
      have hl2 := HL2.out (W5.alloc (.cells #[.string ⟨#[117]⟩] 9)) W5.heap.size (by rw [hW5]; exact ba HBC.out _) (HK.out W5)
      rw [hW5, World.size_alloc] at hl2
      refine hl2.mono ?_
      clear hl2 hW5
      intro e w5 hp
      obtain ⟨G5, c5', Gl5, cl5, rfl, hv5, hb5⟩ := hp.form3
      have hA5 := ba (Below.refl w5.heap.size w5) (.cells #[.int .i64 q.step, .string ⟨q.frm.1.toArray⟩, .string ⟨q.frm.2.toArray⟩, .slice G5 q.rcp.length c5', .string ⟨q.text.toArray⟩, .bool q.large] 33)
      obtain ⟨-, -, -, k3, -, -⟩ := (((HN.out.down (ba (Below.refl _ _) (.cells #[.string ⟨#[117]⟩] 9))).down hb5).down hA5).six
      have HE : Hid (Below w.heap.size w (w5.alloc (.cells #[.int .i64 q.step, .string ⟨q.frm.1.toArray⟩, .string ⟨q.frm.2.toArray⟩, .slice G5 q.rcp.length c5', .string ⟨q.text.toArray⟩, .bool q.large] 33))) := bt (bt (bt (below_grown HB3.out HG.out o3) HBC.out) (bt (ba (Below.refl _ _) (.cells #[.string ⟨#[117]⟩] 9)) hb5)) hA5
      clear hp hv5 hb5 hA5 HL2 d0 d1 d2 d3 d4 d5
      go_wp2_with fail
      go_ret
      exact ⟨rfl, HE.out⟩
end Go.Proofs.YtpekkebmdhpbeaaDoor
