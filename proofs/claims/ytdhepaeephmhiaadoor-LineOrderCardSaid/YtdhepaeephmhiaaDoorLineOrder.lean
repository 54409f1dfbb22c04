/-
  DERIVED. The law LineOrder: its walk.
-/
import Derived.Test.YtdhepaeephmhiaaDoorLineKit
import Derived.Test.YtdhepaeephmhiaaDoorRows2
import Derived.Deep.RegionHeld3
namespace Go.Proofs.YtdhepaeephmhiaaDoor
open Go.RowKit
theorem heldStrong {P : Program} {md : Region.Mode} {ops : Array Oper} {Q : Exit → Act → World → Prop} {S S' : World → Prop} (hSS : ∀ w, S' w → S w) : ∀ (fuel : Nat) (listed : Array Bool) (a : Act) (w : World), wpAnyH P md ops Q S' fuel listed a w → wpAnyH P md ops Q S fuel listed a w
  | 0, _, _, _, h => h
  | fuel + 1, _, _, _, h => ⟨h.1, fun i hi => wpOp_mono (fun a' w' h' => ⟨hSS _ h'.1, heldStrong hSS fuel _ a' w' h'.2⟩) (h.2 i hi)⟩
/-- go on from whatever world R holds of, with S' held from here on -/
theorem heldTo {P : Program} {md : Region.Mode} {ops : Array Oper} {Q : Exit → Act → World → Prop} {S : World → Prop} {fuel : Nat} {listed : Array Bool} {a : Act} {w : World} (R S' : World → Prop) (hR : R w) (hS : ∀ V, R V → S' V) (hSS : ∀ w, S' w → S w) (h : ∀ V, R V → S' V → wpAnyH P md ops Q S' fuel listed a V) : wpAnyH P md ops Q S fuel listed a w :=
  heldStrong hSS fuel listed a w (h w hR (hS w hR))

/-- the blocks that LineOrder makes: its first word, the lines, the session -/
theorem order_start (w1 : World) (l d : List UInt8) (Y : ByteArray) (W3 : World) (h : W3 = (((w1.alloc (.cells #[.string ⟨(wordL l).toArray⟩, .string Y] 44)).alloc (.cells #[.string ⟨(wordL l).toArray⟩] 9)).alloc (.cells #[.string ⟨(ordL (zAd l d) 0).toArray⟩, .string ⟨(ordL (zAd l d) 1).toArray⟩, .string ⟨#[68, 65, 84, 65]⟩] 9)).alloc (.cells #[.int .i64 0, .string ⟨#[]⟩, .string ⟨#[]⟩, .slice none 0 0, .string ⟨#[]⟩, .bool false] 49)) :
    SAt cStr W3 (fun b => b < w1.heap.size + 3) (.slice (some ⟨w1.heap.size + 1, 0, none⟩) 1 1) [wordL l] ∧ Has W3 (w1.heap.size + 2) [.string ⟨(ordL (zAd l d) 0).toArray⟩, .string ⟨(ordL (zAd l d) 1).toArray⟩, .string ⟨(ordL (zAd l d) 2).toArray⟩] ∧ SesAt 0 W3 (w1.heap.size + 3) (.slice none 0 0) (ordS (zAd l d) 0) ∧ Below w1.heap.size w1 W3 ∧ W3.heap.size = w1.heap.size + 4 := by
  have h1 := str_one (w1.alloc (.cells #[.string ⟨(wordL l).toArray⟩, .string Y] 44)) (wordL l) (fun b => b < w1.heap.size + 3) (by simp) 9
  have h2 := Has.alloc ((w1.alloc (.cells #[.string ⟨(wordL l).toArray⟩, .string Y] 44)).alloc (.cells #[.string ⟨(wordL l).toArray⟩] 9)) [.string ⟨(ordL (zAd l d) 0).toArray⟩, .string ⟨(ordL (zAd l d) 1).toArray⟩, .string ⟨#[68, 65, 84, 65]⟩] 9
  have h3 := Has.alloc (((w1.alloc (.cells #[.string ⟨(wordL l).toArray⟩, .string Y] 44)).alloc (.cells #[.string ⟨(wordL l).toArray⟩] 9)).alloc (.cells #[.string ⟨(ordL (zAd l d) 0).toArray⟩, .string ⟨(ordL (zAd l d) 1).toArray⟩, .string ⟨#[68, 65, 84, 65]⟩] 9)) zeroS.toList 49
  simp only [World.size_alloc] at h1 h2 h3
  subst h
  exact ⟨(h1.down (ba (Below.refl _ _) _)).down (ba (Below.refl _ _) _), h2.down (ba (Below.refl _ _) _), ⟨h3, SAt.nil _ _ _⟩, ba (ba (ba (ba (Below.refl _ _) _) _) _) _, by simp⟩
theorem Has.three {w : World} {b : Nat} {a0 a1 a2 : Value} (h : Has w b [a0, a1, a2]) : w.cell? ⟨b, 0, none⟩ = some a0 ∧ w.cell? ⟨b, 1, none⟩ = some a1 ∧ w.cell? ⟨b, 2, none⟩ = some a2 := ⟨h.1 0 _ rfl, h.1 1 _ rfl, h.1 2 _ rfl⟩

set_option maxHeartbeats 8000000 in
set_option maxRecDepth 20000 in
theorem lineOrder_walk (a0 a1 a2 b0 b1 b2 : ByteArray) (G : Option Addr) (n c : Nat) (bo : ByteArray) (what : Int) (m : Int) (w : World) (h0 : a0.size ≤ maxLen) (h1 : a1.size ≤ maxLen) (hw1 : -9223372036854775808 ≤ what) (hw2 : what ≤ 9223372036854775807) (hm : w.cell? ⟨0, 0, none⟩ = some (.int .i64 m)) :
    Calls Tryd.prog 4 #[.agg #[.string a0, .string a1, .string a2, .string b0, .string b1, .string b2, .slice G n c, .string bo], .int .i64 what] w fun e w' => e = .returned (.bool true) ∧ Below w.heap.size w w' := by
  unfold maxLen at h0 h1
  have hA := ba (Below.refl w.heap.size w) (.cells #[.string a0, .string a1, .string a2, .string b0, .string b1, .string b2, .slice G n c, .string bo] 42)
  have HAD := Lib.hid (fun w => address_any a0 a1 a2 w (by omega) (by omega))
  have HA := Lib.hid hA; have HM := Lib.hid hm
  obtain ⟨l, hl⟩ : ∃ l, l = a0.data.toList := ⟨_, rfl⟩
  obtain ⟨d, hd⟩ : ∃ d, d = a1.data.toList := ⟨_, rfl⟩
  rw [← hl, ← hd] at HAD
  have zx := addrL_size l
  have zy := (addrD_size d).1
  obtain ⟨X, hX⟩ : ∃ X, X = addrL l := ⟨_, rfl⟩
  obtain ⟨Y, hY⟩ : ∃ Y, Y = addrD d := ⟨_, rfl⟩
  rw [← hX] at zx; rw [← hY] at zy; rw [← hX, ← hY] at HAD
  have hT : (⟨#[60]⟩ : ByteArray) ++ X ++ ⟨#[64]⟩ ++ Y ++ ⟨#[62]⟩ = ⟨(angL (zAd l d)).toArray⟩ := by rw [hX, hY]; exact ang_bytes l d
  have hXw : X = ⟨(wordL l).toArray⟩ := hX
  have HT := Lib.hid hT; have HXW := Lib.hid hXw
  clear hA hm hl hd hX hY hT hXw
  go_enter Tryd.func4, Tryd.ntmps4
  go_wp2_with fail
  refine (HAD.out _).mono ?_
  rintro e w1 ⟨rfl, hb1⟩
  have HB1 := Lib.hid (bt HA.out hb1); have HM1 := Lib.hid (moved HM.out (bt HA.out hb1) (Nat.le_refl _))
  clear hb1 HA HM HAD
  go_upto_region 4 with fail
  rw [HT.out]
  have hal := angL_len l d
  obtain ⟨T, hT⟩ : ∃ T : ByteArray, T = ⟨(angL (zAd l d)).toArray⟩ := ⟨_, rfl⟩
  rw [← hT]
  have zt : T.size ≤ 23 := by rw [hT]; show (angL (zAd l d)).toArray.size ≤ 23; simpa using hal
  have HP1 : Hid ((⟨#[77, 65, 73, 76, 32, 70, 82, 79, 77, 58]⟩ : ByteArray) ++ T = ⟨(ordL (zAd l d) 0).toArray⟩) := by unfold Hid; rw [hT, pre_bytes]; rfl
  have HP2 : Hid ((⟨#[82, 67, 80, 84, 32, 84, 79, 58]⟩ : ByteArray) ++ T = ⟨(ordL (zAd l d) 1).toArray⟩) := by unfold Hid; rw [hT, pre_bytes]; rfl
  clear hT hal HT
  go_upto_region 5 with fail
  rw [HP1.out, HP2.out, HXW.out]
  clear HP1 HP2 HXW zt zx zy
  go_wp2_with fail
  obtain ⟨W3, hW3⟩ : ∃ W3, W3 = (((w1.alloc (.cells #[.string ⟨(wordL l).toArray⟩, .string Y] 44)).alloc (.cells #[.string ⟨(wordL l).toArray⟩] 9)).alloc (.cells #[.string ⟨(ordL (zAd l d) 0).toArray⟩, .string ⟨(ordL (zAd l d) 1).toArray⟩, .string ⟨#[68, 65, 84, 65]⟩] 9)).alloc (.cells #[.int .i64 0, .string ⟨#[]⟩, .string ⟨#[]⟩, .slice none 0 0, .string ⟨#[]⟩, .bool false] 49) := ⟨_, rfl⟩
  rw [← hW3]
  obtain ⟨hk3, hl3, hs3, hb3, hz3⟩ := order_start w1 l d Y W3 hW3
  have HK3 := Lib.hid hk3; have HL3 := Lib.hid hl3; have HS3 := Lib.hid hs3; have HB3 := Lib.hid (bt HB1.out hb3); have HM3 := Lib.hid (moved HM1.out hb3 (Nat.le_refl _))
  have hmw : 0 < w1.heap.size := World.block_lt_of_cell? w1 ⟨0, 0, none⟩ HM1.out
  have hzz : w1.heap.size + 4 ≤ W3.heap.size := by omega
  have hww : w.heap.size ≤ w1.heap.size := HB1.out.size
  obtain ⟨S, hS⟩ : ∃ S, S = w1.heap.size + 3 := ⟨_, rfl⟩
  obtain ⟨L, hL⟩ : ∃ L, L = w1.heap.size + 2 := ⟨_, rfl⟩
  obtain ⟨K, hK⟩ : ∃ K, K = w1.heap.size + 1 := ⟨_, rfl⟩
  rw [← hS, ← hL, ← hK]
  rw [← hS] at HS3; rw [← hL] at HL3; rw [← hK, ← hS] at HK3
  have o1 : L < S := by omega
  have o2 : S < W3.heap.size := by omega
  have o3 : w.heap.size ≤ S := by omega
  have o4 : 0 < S := by omega
  clear hW3 hk3 hl3 hs3 hb3 hz3 hzz hww hmw hS hL hK HB1 HM1
  go_loopw [10] (fun i wr => ∃ j : Nat, j ≤ 4 ∧ i = .int .i64 j ∧ SesPost 0 S (ordS (zAd l d) j) W3 wr) (fun i _ => 4 - (intOf i).toNat)
  case atStart => exact ⟨0, Nat.zero_le _, rfl, SesPost.of HS3.out (World.grownBy.refl _ _)⟩
  case round =>
    obtain ⟨j, hj, rfl, ⟨v, hs⟩, hg⟩ := hrel
    obtain ⟨Gv, cv, rfl, -⟩ := hs.rcp.form
    have HK := Lib.hid (HK3.out.stable (Same.of_grown hg (fun b e (hh : b < S) => by have := Option.some.inj e; omega)) hg.size)
    have HL := Lib.hid (HL3.out.kept hg (fun e => by have := Option.some.inj e; omega))
    have HM := Lib.hid (cell_else hg HM3.out (by omega))
    have HS := Lib.hid hs; have HG := Lib.hid hg
    have hg2 := ord_good l d j
    have hsz : W3.heap.size ≤ wr.heap.size := hg.size
    clear hs hg
    by_cases hlt : j < 4
    ·
      obtain ⟨Wo, rfl⟩ : ∃ Wo : World, Wo = wr := ⟨_, rfl⟩
      have hLN : Hid (∀ (x : List UInt8) (w' : World), x.length ≤ 300 → Below Wo.heap.size Wo w' → Calls Tryd.prog 12 #[.agg #[.int .i64 (ordS (zAd l d) j).step, .string ⟨(ordS (zAd l d) j).frm.1.toArray⟩, .string ⟨(ordS (zAd l d) j).frm.2.toArray⟩, .slice Gv (ordS (zAd l d) j).rcp.length cv, .string ⟨(ordS (zAd l d) j).text.toArray⟩, .bool (ordS (zAd l d) j).large], .slice (some ⟨K, 0, none⟩) 1 1, .string ⟨x.toArray⟩] w' (LinePost (lineS (ordS (zAd l d) j) [wordL l] x) w')) :=
        fun x w' hx hb => line_any (ordS (zAd l d) j) _ _ _ [wordL l] _ x m w' (HS.out.rcp.down hb) hg2 (HK.out.down hb) (by show 1 ≤ 1000; omega) (by omega) (moved HM.out hb (Nat.le_refl _))
      have dj : decide ((j : Int) < 4) = true := decide_eq_true (by omega)
      clear hg2
      go_wp2_with fail
      clear dj
      go_loopw [11] (fun i wr => ∃ k : Nat, k ≤ 3 ∧ i = .int .i64 k ∧ Below Wo.heap.size Wo wr) (fun i _ => 3 - (intOf i).toNat)
      case atStart => exact ⟨0, Nat.zero_le _, rfl, Below.refl _ _⟩
      case round =>
        obtain ⟨k, hk, rfl, hb⟩ := hrel
        by_cases hk3 : k < 3
        · have hx3 : ∀ k < 3, (ordL (zAd l d) k).length ≤ 300 := by
            intro k hk
            have := angL_len l d
            match k, hk with
            | 0, _ => show (wMAIL ++ angL (zAd l d)).length ≤ 300; rw [List.length_append]; show 10 + _ ≤ 300; omega
            | 1, _ => show (wRCPT ++ angL (zAd l d)).length ≤ 300; rw [List.length_append]; show 8 + _ ≤ 300; omega
            | 2, _ => show 4 ≤ 300; omega
          have hLN2 : Hid (∀ w', Below Wo.heap.size Wo w' → Calls Tryd.prog 12 #[.agg #[.int .i64 (ordS (zAd l d) j).step, .string ⟨(ordS (zAd l d) j).frm.1.toArray⟩, .string ⟨(ordS (zAd l d) j).frm.2.toArray⟩, .slice Gv (ordS (zAd l d) j).rcp.length cv, .string ⟨(ordS (zAd l d) j).text.toArray⟩, .bool (ordS (zAd l d) j).large], .slice (some ⟨K, 0, none⟩) 1 1, .string ⟨(ordL (zAd l d) k).toArray⟩] w' (LinePost (lineS (ordS (zAd l d) j) [wordL l] (ordL (zAd l d) k)) w')) := fun w' hb' => hLN.out _ w' (hx3 k hk3) hb'
          have HQ := Lib.hid (ord_code l d j k hlt hk3)
          have hlk : wr.cell? ⟨L, k, none⟩ = some (.string ⟨(ordL (zAd l d) k).toArray⟩) := by
            have := (HL.out.down hb)
            match k, hk3 with
            | 0, _ => exact this.1 0 _ rfl
            | 1, _ => exact this.1 1 _ rfl
            | 2, _ => exact this.1 2 _ rfl
          obtain ⟨c0, c1, c2, c3, c4, c5⟩ := (HS.out.down hb).six.six
          have hLW : L < wr.heap.size := by have := hb.size; omega
          have HB := Lib.hid hb
          have hSW : S < wr.heap.size := by have := hb.size; omega
          obtain ⟨r, hr⟩ : ∃ r, r = lineS (ordS (zAd l d) j) [wordL l] (ordL (zAd l d) k) := ⟨_, rfl⟩
          rw [← hr] at hLN2 HQ
          obtain ⟨q, hq⟩ : ∃ q, q = ordS (zAd l d) j := ⟨_, rfl⟩
          rw [← hq] at hLN2 c0 c1 c2 c3 c4 c5
          obtain ⟨x, hx⟩ : ∃ x, x = ordL (zAd l d) k := ⟨_, rfl⟩
          rw [← hx] at hLN2 hlk
          have HX := Lib.hid hx
          have dk : decide ((k : Int) < 3) = true := decide_eq_true (by omega)
          clear hr hb hq hx3 hx
          go_upto_region 12 with fail
          clear dk
          have i1 : (0 : Int) ≤ k := by omega
          have i2 : (k : Int) < 3 := by omega
          have HW0 : Hid (Below wr.heap.size wr wr.drew) := Below.drew (Below.refl _ _)
          have HZ1 : Hid (Has (wr.alloc (.cells #[.int .i64 0, .string ⟨#[]⟩, .string ⟨#[]⟩, .slice none 0 0, .string ⟨#[]⟩, .bool false] 49)).drew (wr.heap.size) [.int .i64 0, .string ⟨#[]⟩, .string ⟨#[]⟩, .slice none 0 0, .string ⟨#[]⟩, .bool false]) := by
            have hh := Has.alloc wr [.int .i64 0, .string ⟨#[]⟩, .string ⟨#[]⟩, .slice none 0 0, .string ⟨#[]⟩, .bool false] 49
            exact hh.down (Below.drew (Below.refl _ _))
          have HW1 : Hid (Below wr.heap.size wr (wr.alloc (.cells #[.int .i64 0, .string ⟨#[]⟩, .string ⟨#[]⟩, .slice none 0 0, .string ⟨#[]⟩, .bool false] 49)).drew) := Below.drew (ba (Below.refl _ _) _)
          have nn1 : wr.heap.size ≠ S := World.new_ne wr ⟨S, 0, none⟩ c0
          have nn2 : wr.heap.size ≠ L := World.new_ne wr ⟨L, k, none⟩ hlk
          skip
          go_cut [12, 13, 14, 15] (LineNew r wr)
          case first =>
            go_region_held3 (fun w' => w'.cell? ⟨S, 0, none⟩ = some (.int .i64 q.step) ∧ w'.cell? ⟨S, 1, none⟩ = some (.string ⟨q.frm.1.toArray⟩) ∧ w'.cell? ⟨S, 2, none⟩ = some (.string ⟨q.frm.2.toArray⟩) ∧ w'.cell? ⟨S, 3, none⟩ = some (.slice Gv q.rcp.length cv) ∧ w'.cell? ⟨S, 4, none⟩ = some (.string ⟨q.text.toArray⟩) ∧ w'.cell? ⟨S, 5, none⟩ = some (.bool q.large) ∧ w'.cell? ⟨L, k, none⟩ = some (.string ⟨x.toArray⟩)) (first | with_reducible exact ⟨c0, c1, c2, c3, c4, c5, hlk⟩ | with_reducible exact ⟨e_0, e_1, e_2, e_3, e_4, e_5, e_6⟩ | go_keep) (first
              | (go_at_call 12; refine (hLN2.out _ (by first | exact bt HB.out HW0.out | exact bt HB.out HW1.out)).mono ?_; intro e w4 hp; obtain ⟨G4, c4', Gl, cl, rfl, hv4, hl4, hb4⟩ := hp.form; first | ((with_reducible have hb0 : Below wr.drew.heap.size wr.drew w4 := hb4); have e_0 := moved_drew c0 hb4 (Nat.le_refl _); have e_1 := moved_drew c1 hb4 (Nat.le_refl _); have e_2 := moved_drew c2 hb4 (Nat.le_refl _); have e_3 := moved_drew c3 hb4 (Nat.le_refl _); have e_4 := moved_drew c4 hb4 (Nat.le_refl _); have e_5 := moved_drew c5 hb4 (Nat.le_refl _); have e_6 := moved_drew hlk hb4 (Nat.le_refl _); have np1 : w4.heap.size ≠ S := World.new_ne w4 ⟨S, 0, none⟩ e_0; have np2 : w4.heap.size ≠ L := World.new_ne w4 ⟨L, k, none⟩ e_6) | ((with_reducible have hb1 : Below (wr.alloc (.cells #[.int .i64 0, .string ⟨#[]⟩, .string ⟨#[]⟩, .slice none 0 0, .string ⟨#[]⟩, .bool false] 49)).drew.heap.size (wr.alloc (.cells #[.int .i64 0, .string ⟨#[]⟩, .string ⟨#[]⟩, .slice none 0 0, .string ⟨#[]⟩, .bool false] 49)).drew w4 := hb4); have e_0 := moved_drew (cell_alloc _ c0) hb4 (Nat.le_refl _); have e_1 := moved_drew (cell_alloc _ c1) hb4 (Nat.le_refl _); have e_2 := moved_drew (cell_alloc _ c2) hb4 (Nat.le_refl _); have e_3 := moved_drew (cell_alloc _ c3) hb4 (Nat.le_refl _); have e_4 := moved_drew (cell_alloc _ c4) hb4 (Nat.le_refl _); have e_5 := moved_drew (cell_alloc _ c5) hb4 (Nat.le_refl _); have e_6 := moved_drew (cell_alloc _ hlk) hb4 (Nat.le_refl _); have np1 : w4.heap.size ≠ S := World.new_ne w4 ⟨S, 0, none⟩ e_0; have np2 : w4.heap.size ≠ L := World.new_ne w4 ⟨L, k, none⟩ e_6; have kk := HZ1.out.down hb4; obtain ⟨k0, k1, k2, k3, k4, k5⟩ := kk.six; obtain ⟨f0, f1, f2, f3, f4, f5⟩ := kk.six_free)))
            all_goals
              go_wp2_with fail
              go_meet
              case rel => first
                | (have _t := hb0; exact line_new HW0.out.size hv4 hl4 (bt HW0.out hb4))
                | (have _t := hb1; exact line_at (R := wr.heap.size) (by omega) (by first | (simp; done) | (simp; omega)) kk hv4 hl4 (bt HW1.out hb4))
          case rest =>
            obtain ⟨R, G4, c4', Gl, cl, rfl, rfl, rfl, rfl, hR, -, -, hb4⟩ := hcut
            have HB4 := Lib.hid (bt HB.out hb4)
            clear c0 c1 c2 c3 c4 c5 hlk hb4 hLN hLN2 HX HB
            have hj4 : j = 0 ∨ j = 1 ∨ j = 2 ∨ j = 3 := by omega
            have hk4 : k = 0 ∨ k = 1 ∨ k = 2 := by omega
            rcases hj4 with rfl | rfl | rfl | rfl <;> rcases hk4 with rfl | rfl | rfl
            all_goals
              first
                | (have q : ((r.2.1 : Int) == 503) = true := HQ.out
                   clear HQ
                   go_wp2_with fail
                   go_roundw
                   case rel => first | exact ⟨1, by omega, rfl, HB4.out⟩ | exact ⟨2, by omega, rfl, HB4.out⟩ | exact ⟨3, by omega, rfl, HB4.out⟩
                   case measure => simp [intOf])
                | (have q : ((r.2.1 : Int) == 503) = false := HQ.out
                   clear HQ
                   go_wp2_with fail
                   go_roundw
                   case rel => first | exact ⟨1, by omega, rfl, HB4.out⟩ | exact ⟨2, by omega, rfl, HB4.out⟩ | exact ⟨3, by omega, rfl, HB4.out⟩
                   case measure => simp [intOf])
        · obtain rfl : k = 3 := by omega
          have hxN : (ordN (zAd l d) j).length ≤ 300 := by
            have := angL_len l d
            match j, hlt with
            | 0, _ => show 6 ≤ 300; omega
            | 1, _ => show (wMAIL ++ angL (zAd l d)).length ≤ 300; rw [List.length_append]; show 10 + _ ≤ 300; omega
            | 2, _ => show (wRCPT ++ angL (zAd l d)).length ≤ 300; rw [List.length_append]; show 8 + _ ≤ 300; omega
            | 3, _ => show 4 ≤ 300; omega
          have hLN2 : Hid (∀ w', Below Wo.heap.size Wo w' → Calls Tryd.prog 12 #[.agg #[.int .i64 (ordS (zAd l d) j).step, .string ⟨(ordS (zAd l d) j).frm.1.toArray⟩, .string ⟨(ordS (zAd l d) j).frm.2.toArray⟩, .slice Gv (ordS (zAd l d) j).rcp.length cv, .string ⟨(ordS (zAd l d) j).text.toArray⟩, .bool (ordS (zAd l d) j).large], .slice (some ⟨K, 0, none⟩) 1 1, .string ⟨(ordN (zAd l d) j).toArray⟩] w' (LinePost (lineS (ordS (zAd l d) j) [wordL l] (ordN (zAd l d) j)) w')) := fun w' hb' => hLN.out _ w' hxN hb'
          have HQ := Lib.hid (ord_next l d j hlt)
          obtain ⟨hl0, hl1, -⟩ := (HL.out.down hb).three
          obtain ⟨c0, c1, c2, c3, c4, c5⟩ := (HS.out.down hb).six.six
          have gA : ∀ w' : World, (w'.alloc (.cells #[.string ⟨#[108, 104, 108, 111, 32, 97]⟩, .string ⟨(ordL (zAd l d) 0).toArray⟩, .string ⟨(ordL (zAd l d) 1).toArray⟩, .string ⟨#[78, 79, 79, 80]⟩] 9)).cell? ⟨w'.heap.size, j, none⟩ = some (.string ⟨(ordN (zAd l d) j).toArray⟩) := by
            intro w'
            have hh := Has.alloc w' [.string ⟨#[108, 104, 108, 111, 32, 97]⟩, .string ⟨(ordL (zAd l d) 0).toArray⟩, .string ⟨(ordL (zAd l d) 1).toArray⟩, .string ⟨#[78, 79, 79, 80]⟩] 9
            match j, hlt with
            | 0, _ => exact hh.1 0 _ rfl
            | 1, _ => exact hh.1 1 _ rfl
            | 2, _ => exact hh.1 2 _ rfl
            | 3, _ => exact hh.1 3 _ rfl
          have HGA : ∀ (wx : World) (N : Nat), Has wx N [.string ⟨#[108, 104, 108, 111, 32, 97]⟩, .string ⟨(ordL (zAd l d) 0).toArray⟩, .string ⟨(ordL (zAd l d) 1).toArray⟩, .string ⟨#[78, 79, 79, 80]⟩] → wx.cell? ⟨N, j, none⟩ = some (.string ⟨(ordN (zAd l d) j).toArray⟩) := by
            intro wx N hh
            match j, hlt with
            | 0, _ => exact hh.1 0 _ rfl
            | 1, _ => exact hh.1 1 _ rfl
            | 2, _ => exact hh.1 2 _ rfl
            | 3, _ => exact hh.1 3 _ rfl
          have HSS := (HS.out.down hb).six
          have HLY := HL.out.down hb
          obtain ⟨y2, hy2⟩ : ∃ y2 : Value, y2 = .string ⟨(ordL (zAd l d) 2).toArray⟩ := ⟨_, rfl⟩
          rw [← hy2] at HLY
          clear hy2
          have HB := Lib.hid hb
          obtain ⟨r, hr⟩ : ∃ r, r = lineS (ordS (zAd l d) j) [wordL l] (ordN (zAd l d) j) := ⟨_, rfl⟩
          rw [← hr] at hLN2 HQ
          obtain ⟨q, hq⟩ : ∃ q, q = ordS (zAd l d) j := ⟨_, rfl⟩
          rw [← hq] at hLN2 c0 c1 c2 c3 c4 c5 HSS
          obtain ⟨x, hx⟩ : ∃ x, x = ordN (zAd l d) j := ⟨_, rfl⟩
          rw [← hx] at hLN2 gA HGA
          obtain ⟨y0, hy0⟩ : ∃ y0, y0 = ordL (zAd l d) 0 := ⟨_, rfl⟩
          obtain ⟨y1, hy1⟩ : ∃ y1, y1 = ordL (zAd l d) 1 := ⟨_, rfl⟩
          rw [← hy0] at hl0 gA HGA HLY; rw [← hy1] at hl1 gA HGA HLY
          have HGA := Lib.hid HGA; have HSS := Lib.hid HSS; have HLY := Lib.hid HLY
          have HX := Lib.hid hx
          clear hr hb hq hx hxN hy0 hy1
          go_upto_region 16 with fail
          have i1 : (0 : Int) ≤ j := by omega
          have i2 : (j : Int) < 4 := by omega
          have HW0 : Hid (Below wr.heap.size wr (wr.alloc (.cells #[.string ⟨#[108, 104, 108, 111, 32, 97]⟩, .string ⟨y0.toArray⟩, .string ⟨y1.toArray⟩, .string ⟨#[78, 79, 79, 80]⟩] 9)).drew) := Below.drew (ba (Below.refl _ _) _)
          have g0 : (wr.alloc (.cells #[.string ⟨#[108, 104, 108, 111, 32, 97]⟩, .string ⟨y0.toArray⟩, .string ⟨y1.toArray⟩, .string ⟨#[78, 79, 79, 80]⟩] 9)).cell? ⟨wr.heap.size, j, none⟩ = some (.string ⟨x.toArray⟩) := by
            have hh := gA wr
            exact hh
          have HZ1 : Hid (Has ((wr.alloc (.cells #[.string ⟨#[108, 104, 108, 111, 32, 97]⟩, .string ⟨y0.toArray⟩, .string ⟨y1.toArray⟩, .string ⟨#[78, 79, 79, 80]⟩] 9)).alloc (.cells #[.int .i64 0, .string ⟨#[]⟩, .string ⟨#[]⟩, .slice none 0 0, .string ⟨#[]⟩, .bool false] 49)).drew (wr.heap.size + 1) [.int .i64 0, .string ⟨#[]⟩, .string ⟨#[]⟩, .slice none 0 0, .string ⟨#[]⟩, .bool false]) := by
            have hh := Has.alloc (wr.alloc (.cells #[.string ⟨#[108, 104, 108, 111, 32, 97]⟩, .string ⟨y0.toArray⟩, .string ⟨y1.toArray⟩, .string ⟨#[78, 79, 79, 80]⟩] 9)) [.int .i64 0, .string ⟨#[]⟩, .string ⟨#[]⟩, .slice none 0 0, .string ⟨#[]⟩, .bool false] 49
            rw [World.size_alloc] at hh
            exact hh.down (Below.drew (Below.refl _ _))
          have HW1 : Hid (Below wr.heap.size wr ((wr.alloc (.cells #[.string ⟨#[108, 104, 108, 111, 32, 97]⟩, .string ⟨y0.toArray⟩, .string ⟨y1.toArray⟩, .string ⟨#[78, 79, 79, 80]⟩] 9)).alloc (.cells #[.int .i64 0, .string ⟨#[]⟩, .string ⟨#[]⟩, .slice none 0 0, .string ⟨#[]⟩, .bool false] 49)).drew) := Below.drew (ba (ba (Below.refl _ _) _) _)
          have g1 : ((wr.alloc (.cells #[.string ⟨#[108, 104, 108, 111, 32, 97]⟩, .string ⟨y0.toArray⟩, .string ⟨y1.toArray⟩, .string ⟨#[78, 79, 79, 80]⟩] 9)).alloc (.cells #[.int .i64 0, .string ⟨#[]⟩, .string ⟨#[]⟩, .slice none 0 0, .string ⟨#[]⟩, .bool false] 49)).cell? ⟨wr.heap.size, j, none⟩ = some (.string ⟨x.toArray⟩) := by
            have hh := gA wr
            exact cell_alloc _ hh
          have HZ2 : Hid (Has ((wr.alloc (.cells #[.int .i64 0, .string ⟨#[]⟩, .string ⟨#[]⟩, .slice none 0 0, .string ⟨#[]⟩, .bool false] 49)).alloc (.cells #[.string ⟨#[108, 104, 108, 111, 32, 97]⟩, .string ⟨y0.toArray⟩, .string ⟨y1.toArray⟩, .string ⟨#[78, 79, 79, 80]⟩] 9)).drew (wr.heap.size) [.int .i64 0, .string ⟨#[]⟩, .string ⟨#[]⟩, .slice none 0 0, .string ⟨#[]⟩, .bool false]) := by
            have hh := Has.alloc wr [.int .i64 0, .string ⟨#[]⟩, .string ⟨#[]⟩, .slice none 0 0, .string ⟨#[]⟩, .bool false] 49
            exact hh.down (Below.drew (ba (Below.refl _ _) _))
          have HW2 : Hid (Below wr.heap.size wr ((wr.alloc (.cells #[.int .i64 0, .string ⟨#[]⟩, .string ⟨#[]⟩, .slice none 0 0, .string ⟨#[]⟩, .bool false] 49)).alloc (.cells #[.string ⟨#[108, 104, 108, 111, 32, 97]⟩, .string ⟨y0.toArray⟩, .string ⟨y1.toArray⟩, .string ⟨#[78, 79, 79, 80]⟩] 9)).drew) := Below.drew (ba (ba (Below.refl _ _) _) _)
          have g2 : ((wr.alloc (.cells #[.int .i64 0, .string ⟨#[]⟩, .string ⟨#[]⟩, .slice none 0 0, .string ⟨#[]⟩, .bool false] 49)).alloc (.cells #[.string ⟨#[108, 104, 108, 111, 32, 97]⟩, .string ⟨y0.toArray⟩, .string ⟨y1.toArray⟩, .string ⟨#[78, 79, 79, 80]⟩] 9)).cell? ⟨wr.heap.size + 1, j, none⟩ = some (.string ⟨x.toArray⟩) := by
            have hh := gA (wr.alloc (.cells #[.int .i64 0, .string ⟨#[]⟩, .string ⟨#[]⟩, .slice none 0 0, .string ⟨#[]⟩, .bool false] 49))
            rw [World.size_alloc] at hh
            exact hh
          have nn1 : wr.heap.size ≠ S := World.new_ne wr ⟨S, 0, none⟩ c0
          have nm1 : wr.heap.size + 1 ≠ S := by have hh : S < wr.heap.size := World.block_lt_of_cell? wr ⟨S, 0, none⟩ c0; omega
          have nn2 : wr.heap.size ≠ L := World.new_ne wr ⟨L, 0, none⟩ hl0
          have nm2 : wr.heap.size + 1 ≠ L := by have hh : L < wr.heap.size := World.block_lt_of_cell? wr ⟨L, 0, none⟩ hl0; omega
          clear gA
          go_cut [17, 18, 19, 20] (LineNew r wr)
          case first =>
            have hSS : Has wr S [.int .i64 q.step, .string ⟨q.frm.1.toArray⟩, .string ⟨q.frm.2.toArray⟩, .slice Gv q.rcp.length cv, .string ⟨q.text.toArray⟩, .bool q.large] := HSS.out
            have hLL : Has wr L [.string ⟨y0.toArray⟩, .string ⟨y1.toArray⟩, y2] := HLY.out
            have oS : S < wr.heap.size := hSS.2.2
            have oL : L < wr.heap.size := hLL.2.2
            refine wp_region_noPanic ?_
            refine wp_region_held_drew (S := (fun wx => Has wx S [.int .i64 q.step, .string ⟨q.frm.1.toArray⟩, .string ⟨q.frm.2.toArray⟩, .slice Gv q.rcp.length cv, .string ⟨q.text.toArray⟩, .bool q.large] ∧ Has wx L [.string ⟨y0.toArray⟩, .string ⟨y1.toArray⟩, y2])) (by kernel_rfl) (⟨hSS.down (Below.drew (Below.refl _ _)), hLL.down (Below.drew (Below.refl _ _))⟩) (fun hHeld => ?_)
            refine heldTo (fun X => Below wr.heap.size wr X) (fun wx => Has wx S [.int .i64 q.step, .string ⟨q.frm.1.toArray⟩, .string ⟨q.frm.2.toArray⟩, .slice Gv q.rcp.length cv, .string ⟨q.text.toArray⟩, .bool q.large] ∧ Has wx L [.string ⟨y0.toArray⟩, .string ⟨y1.toArray⟩, y2]) (Below.drew (Below.refl _ _)) (fun X h => ⟨hSS.down h, hLL.down h⟩) (fun _ h => h) (fun V0 hB hHeld => ?_)
            refine wpAnyH_take (i := 0) (v := ?_) (by (simp only [List.getElem?_toArray, List.getElem?_cons_succ, List.getElem?_cons_zero]; rfl)) (by kernel_rfl) (by kernel_rfl) (by kernel_rfl) (fun _ _ _ h => h) (Or.inl ⟨by rfl, ?_⟩) (by assumption) ?_
            rotate_left 1
            · intro w' hSw; obtain ⟨c0, c1, c2, c3, c4, c5⟩ := (hSw.1).six; obtain ⟨l0, l1, -⟩ := (hSw.2).three; (go_simp) <;> with_reducible rfl
            try simp only [Act.put, List.setIfInBounds_toArray, List.set_cons_zero, List.set_cons_succ]
            refine wpAnyH_take (i := 1) (v := ?_) (by (simp only [List.getElem?_toArray, List.getElem?_cons_succ, List.getElem?_cons_zero]; rfl)) (by kernel_rfl) (by kernel_rfl) (by kernel_rfl) (fun _ _ _ h => h) (Or.inl ⟨by rfl, ?_⟩) (by assumption) ?_
            rotate_left 1
            · intro w' hSw; (go_simp) <;> with_reducible rfl
            try simp only [Act.put, List.setIfInBounds_toArray, List.set_cons_zero, List.set_cons_succ]
            refine wpAnyH_take (i := 2) (v := ?_) (by (simp only [List.getElem?_toArray, List.getElem?_cons_succ, List.getElem?_cons_zero]; rfl)) (by kernel_rfl) (by kernel_rfl) (by kernel_rfl) (fun _ _ _ h => h) (Or.inl ⟨by rfl, ?_⟩) (by assumption) ?_
            rotate_left 1
            · intro w' hSw; (go_simp) <;> with_reducible rfl
            try simp only [Act.put, List.setIfInBounds_toArray, List.set_cons_zero, List.set_cons_succ]
            refine wpAnyH_take (i := 3) (v := ?_) (by (simp only [List.getElem?_toArray, List.getElem?_cons_succ, List.getElem?_cons_zero]; rfl)) (by kernel_rfl) (by kernel_rfl) (by kernel_rfl) (fun _ _ _ h => h) (Or.inl ⟨by rfl, ?_⟩) (by assumption) ?_
            rotate_left 1
            · intro w' hSw; (go_simp) <;> with_reducible rfl
            try simp only [Act.put, List.setIfInBounds_toArray, List.set_cons_zero, List.set_cons_succ]
            refine wpAnyH_take (i := 4) (v := ?_) (by (simp only [List.getElem?_toArray, List.getElem?_cons_succ, List.getElem?_cons_zero]; rfl)) (by kernel_rfl) (by kernel_rfl) (by kernel_rfl) (fun _ _ _ h => h) (Or.inl ⟨by rfl, ?_⟩) (by assumption) ?_
            rotate_left 1
            · intro w' hSw; obtain ⟨c0, c1, c2, c3, c4, c5⟩ := (hSw.1).six; obtain ⟨l0, l1, -⟩ := (hSw.2).three; (go_simp) <;> with_reducible rfl
            try simp only [Act.put, List.setIfInBounds_toArray, List.set_cons_zero, List.set_cons_succ]
            refine wpAnyH_take (i := 5) (v := ?_) (by (simp only [List.getElem?_toArray, List.getElem?_cons_succ, List.getElem?_cons_zero]; rfl)) (by kernel_rfl) (by kernel_rfl) (by kernel_rfl) (fun _ _ _ h => h) (Or.inl ⟨by rfl, ?_⟩) (by assumption) ?_
            rotate_left 1
            · intro w' hSw; (go_simp) <;> with_reducible rfl
            try simp only [Act.put, List.setIfInBounds_toArray, List.set_cons_zero, List.set_cons_succ]
            refine wpAnyH_take (i := 6) (v := ?_) (by (simp only [List.getElem?_toArray, List.getElem?_cons_succ, List.getElem?_cons_zero]; rfl)) (by kernel_rfl) (by kernel_rfl) (by kernel_rfl) (fun _ _ _ h => h) (Or.inl ⟨by rfl, ?_⟩) (by assumption) ?_
            rotate_left 1
            · intro w' hSw; (go_simp) <;> with_reducible rfl
            try simp only [Act.put, List.setIfInBounds_toArray, List.set_cons_zero, List.set_cons_succ]
            refine wpAnyH_take (i := 7) (v := ?_) (by (simp only [List.getElem?_toArray, List.getElem?_cons_succ, List.getElem?_cons_zero]; rfl)) (by kernel_rfl) (by kernel_rfl) (by kernel_rfl) (fun _ _ _ h => h) (Or.inl ⟨by rfl, ?_⟩) (by assumption) ?_
            rotate_left 1
            · intro w' hSw; obtain ⟨c0, c1, c2, c3, c4, c5⟩ := (hSw.1).six; obtain ⟨l0, l1, -⟩ := (hSw.2).three; (go_simp) <;> with_reducible rfl
            try simp only [Act.put, List.setIfInBounds_toArray, List.set_cons_zero, List.set_cons_succ]
            refine wpAnyH_take (i := 9) (v := ?_) (by (simp only [List.getElem?_toArray, List.getElem?_cons_succ, List.getElem?_cons_zero]; rfl)) (by kernel_rfl) (by kernel_rfl) (by kernel_rfl) (fun _ _ _ h => h) (Or.inl ⟨by rfl, ?_⟩) (by assumption) ?_
            rotate_left 1
            · intro w' hSw; (go_simp) <;> with_reducible rfl
            try simp only [Act.put, List.setIfInBounds_toArray, List.set_cons_zero, List.set_cons_succ]
            refine wpAnyH_ready (rs := [8, 18]) (by kernel_rfl) (by simp) ?_
            refine AllReadyH.cons (by (simp only [List.getElem?_toArray, List.getElem?_cons_succ, List.getElem?_cons_zero]; rfl)) (fun K hK => ?_) ?_
            · go_simp
              refine hK.out _ _ ?_ (fun hHeld => ?_)
              · exact ⟨hHeld.1.down (ba (Below.refl _ _) _), hHeld.2.down (ba (Below.refl _ _) _)⟩
              clear hK K
              try simp only [Act.put, List.setIfInBounds_toArray, List.set_cons_zero, List.set_cons_succ]
              refine heldTo (fun V1 => (Has V1 S [.int .i64 q.step, .string ⟨q.frm.1.toArray⟩, .string ⟨q.frm.2.toArray⟩, .slice Gv q.rcp.length cv, .string ⟨q.text.toArray⟩, .bool q.large] ∧ Has V1 L [.string ⟨y0.toArray⟩, .string ⟨y1.toArray⟩, y2]) ∧ Below wr.heap.size wr V1 ∧ Has V1 V0.heap.size [.string ⟨#[108, 104, 108, 111, 32, 97]⟩, .string ⟨y0.toArray⟩, .string ⟨y1.toArray⟩, .string ⟨#[78, 79, 79, 80]⟩]) (fun wx => Has wx S [.int .i64 q.step, .string ⟨q.frm.1.toArray⟩, .string ⟨q.frm.2.toArray⟩, .slice Gv q.rcp.length cv, .string ⟨q.text.toArray⟩, .bool q.large] ∧ Has wx L [.string ⟨y0.toArray⟩, .string ⟨y1.toArray⟩, y2] ∧ Has wx V0.heap.size [.string ⟨#[108, 104, 108, 111, 32, 97]⟩, .string ⟨y0.toArray⟩, .string ⟨y1.toArray⟩, .string ⟨#[78, 79, 79, 80]⟩]) ⟨hHeld, ba hB _, Has.alloc V0 [.string ⟨#[108, 104, 108, 111, 32, 97]⟩, .string ⟨y0.toArray⟩, .string ⟨y1.toArray⟩, .string ⟨#[78, 79, 79, 80]⟩] _⟩ (fun V1 h => ⟨h.1.1, h.1.2, h.2.2⟩) (fun _ h => ⟨h.1, h.2.1⟩) (fun V1 hR hHeld => ?_)
              have hN0 : wr.heap.size ≤ V0.heap.size := hB.size
              obtain ⟨-, hB, -⟩ := hR
              generalize V0.heap.size = N at hN0 hHeld ⊢
              refine wpAnyH_take (i := 10) (v := ?_) (by (simp only [List.getElem?_toArray, List.getElem?_cons_succ, List.getElem?_cons_zero]; rfl)) (by kernel_rfl) (by kernel_rfl) (by kernel_rfl) (fun _ _ _ h => h) (Or.inl ⟨by rfl, ?_⟩) (by assumption) ?_
              rotate_left 1
              · intro w' hSw; (go_simp) <;> with_reducible rfl
              try simp only [Act.put, List.setIfInBounds_toArray, List.set_cons_zero, List.set_cons_succ]
              refine wpAnyH_take (i := 11) (v := ?_) (by (simp only [List.getElem?_toArray, List.getElem?_cons_succ, List.getElem?_cons_zero]; rfl)) (by kernel_rfl) (by kernel_rfl) (by kernel_rfl) (fun _ _ _ h => h) (Or.inl ⟨by rfl, ?_⟩) (by assumption) ?_
              rotate_left 1
              · intro w' hSw; have g := HGA.out _ _ hSw.2.2; (go_simp) <;> with_reducible rfl
              try simp only [Act.put, List.setIfInBounds_toArray, List.set_cons_zero, List.set_cons_succ]
              refine wpAnyH_ready (rs := [12, 18]) (by kernel_rfl) (by simp) ?_
              refine AllReadyH.cons (by (simp only [List.getElem?_toArray, List.getElem?_cons_succ, List.getElem?_cons_zero]; rfl)) (fun K hK => ?_) ?_
              · go_simp
                go_at_call 12
                refine (hLN2.out _ (bt HB.out hB)).mono ?_
                intro e w4 hp
                obtain ⟨G4, c4', Gl, cl, rfl, hv4, hl4, hb4⟩ := hp.form
                have hS4 : Has w4 S [.int .i64 q.step, .string ⟨q.frm.1.toArray⟩, .string ⟨q.frm.2.toArray⟩, .slice Gv q.rcp.length cv, .string ⟨q.text.toArray⟩, .bool q.large] ∧ Has w4 L [.string ⟨y0.toArray⟩, .string ⟨y1.toArray⟩, y2] ∧ Has w4 N [.string ⟨#[108, 104, 108, 111, 32, 97]⟩, .string ⟨y0.toArray⟩, .string ⟨y1.toArray⟩, .string ⟨#[78, 79, 79, 80]⟩] := ⟨hHeld.1.down hb4, hHeld.2.1.down hb4, hHeld.2.2.down hb4⟩
                clear hp
                try (go_wp2_with fail)
                refine hK.out _ _ ?_ (fun hHeld => ?_)
                · exact hS4
                clear hK K
                try simp only [Act.put, List.setIfInBounds_toArray, List.set_cons_zero, List.set_cons_succ]
                refine wpAnyH_take (i := 13) (v := ?_) (by (simp only [List.getElem?_toArray, List.getElem?_cons_succ, List.getElem?_cons_zero]; rfl)) (by kernel_rfl) (by kernel_rfl) (by kernel_rfl) (fun _ _ _ h => h) (Or.inl ⟨by rfl, ?_⟩) (by assumption) ?_
                rotate_left 1
                · intro w' hSw; (go_simp) <;> with_reducible rfl
                try simp only [Act.put, List.setIfInBounds_toArray, List.set_cons_zero, List.set_cons_succ]
                refine wpAnyH_take (i := 14) (v := ?_) (by (simp only [List.getElem?_toArray, List.getElem?_cons_succ, List.getElem?_cons_zero]; rfl)) (by kernel_rfl) (by kernel_rfl) (by kernel_rfl) (fun _ _ _ h => h) (Or.inl ⟨by rfl, ?_⟩) (by assumption) ?_
                rotate_left 1
                · intro w' hSw; (go_simp) <;> with_reducible rfl
                try simp only [Act.put, List.setIfInBounds_toArray, List.set_cons_zero, List.set_cons_succ]
                refine wpAnyH_take (i := 15) (v := ?_) (by (simp only [List.getElem?_toArray, List.getElem?_cons_succ, List.getElem?_cons_zero]; rfl)) (by kernel_rfl) (by kernel_rfl) (by kernel_rfl) (fun _ _ _ h => h) (Or.inl ⟨by rfl, ?_⟩) (by assumption) ?_
                rotate_left 1
                · intro w' hSw; (go_simp) <;> with_reducible rfl
                try simp only [Act.put, List.setIfInBounds_toArray, List.set_cons_zero, List.set_cons_succ]
                refine wpAnyH_take (i := 16) (v := ?_) (by (simp only [List.getElem?_toArray, List.getElem?_cons_succ, List.getElem?_cons_zero]; rfl)) (by kernel_rfl) (by kernel_rfl) (by kernel_rfl) (fun _ _ _ h => h) (Or.inl ⟨by rfl, ?_⟩) (by assumption) ?_
                rotate_left 1
                · intro w' hSw; (go_simp) <;> with_reducible rfl
                try simp only [Act.put, List.setIfInBounds_toArray, List.set_cons_zero, List.set_cons_succ]
                refine wpAnyH_take (i := 17) (v := ?_) (by (simp only [List.getElem?_toArray, List.getElem?_cons_succ, List.getElem?_cons_zero]; rfl)) (by kernel_rfl) (by kernel_rfl) (by kernel_rfl) (fun _ _ _ h => h) (Or.inl ⟨by rfl, ?_⟩) (by assumption) ?_
                rotate_left 1
                · intro w' hSw; (go_simp) <;> with_reducible rfl
                try simp only [Act.put, List.setIfInBounds_toArray, List.set_cons_zero, List.set_cons_succ]
                refine wpAnyH_ready (rs := [18]) (by kernel_rfl) (by simp) ?_
                refine AllReadyH.cons (by (simp only [List.getElem?_toArray, List.getElem?_cons_succ, List.getElem?_cons_zero]; rfl)) (fun K hK => ?_) ?_
                · go_simp
                  refine hK.out _ _ ?_ (fun hHeld => ?_)
                  · exact ⟨hHeld.1.down (ba (Below.refl _ _) _), hHeld.2.1.down (ba (Below.refl _ _) _), hHeld.2.2.down (ba (Below.refl _ _) _)⟩
                  clear hK K
                  try simp only [Act.put, List.setIfInBounds_toArray, List.set_cons_zero, List.set_cons_succ]
                  refine wpAnyH_ready (rs := [19]) (by kernel_rfl) (by simp) ?_
                  refine AllReadyH.cons (by (simp only [List.getElem?_toArray, List.getElem?_cons_succ, List.getElem?_cons_zero]; rfl)) (fun K hK => ?_) ?_
                  · go_simp
                    refine hK.out _ _ ?_ (fun hHeld => ?_)
                    · exact ⟨hS4.1.down (ba (Below.refl _ _) _), hS4.2.1.down (ba (Below.refl _ _) _), hS4.2.2.down (ba (Below.refl _ _) _)⟩
                    clear hK K
                    try simp only [Act.put, List.setIfInBounds_toArray, List.set_cons_zero, List.set_cons_succ]
                    refine wpAnyH_ready (rs := [20]) (by kernel_rfl) (by simp) ?_
                    refine AllReadyH.cons (by (simp only [List.getElem?_toArray, List.getElem?_cons_succ, List.getElem?_cons_zero]; rfl)) (fun K hK => ?_) ?_
                    · go_simp
                      refine hK.out _ _ ?_ (fun hHeld => ?_)
                      · exact hHeld
                      clear hK K
                      try simp only [Act.put, List.setIfInBounds_toArray, List.set_cons_zero, List.set_cons_succ]
                      refine wpAnyH_ready (rs := [21]) (by kernel_rfl) (by simp) ?_
                      refine AllReadyH.cons (by (simp only [List.getElem?_toArray, List.getElem?_cons_succ, List.getElem?_cons_zero]; rfl)) (fun K hK => ?_) ?_
                      · go_simp
                        refine hK.out _ _ ?_ (fun hHeld => ?_)
                        · exact hHeld
                        clear hK K
                        try simp only [Act.put, List.setIfInBounds_toArray, List.set_cons_zero, List.set_cons_succ]
                        refine wpAnyH_ready (rs := [22]) (by kernel_rfl) (by simp) ?_
                        refine AllReadyH.cons (by (simp only [List.getElem?_toArray, List.getElem?_cons_succ, List.getElem?_cons_zero]; rfl)) (fun K hK => ?_) ?_
                        · go_simp
                          refine hK.out _ _ ?_ (fun hHeld => ?_)
                          · exact hHeld
                          clear hK K
                          try simp only [Act.put, List.setIfInBounds_toArray, List.set_cons_zero, List.set_cons_succ]
                          refine wpAnyH_done (by kernel_rfl) ?_ _
                          refine NoPanic.normal ?_
                          go_wp2_with fail
                          go_meet
                          case rel => exact line_new hB.size hv4 hl4 (bt hB hb4)
                        exact AllReadyH.nil
                      exact AllReadyH.nil
                    exact AllReadyH.nil
                  exact AllReadyH.nil
                exact AllReadyH.nil
              refine AllReadyH.cons (by (simp only [List.getElem?_toArray, List.getElem?_cons_succ, List.getElem?_cons_zero]; rfl)) (fun K hK => ?_) ?_
              · have hNV := hHeld.2.2.2.2
                go_simp
                refine hK.out _ _ ?_ (fun hHeld => ?_)
                · exact ⟨hHeld.1.down (ba (Below.refl _ _) _), hHeld.2.1.down (ba (Below.refl _ _) _), hHeld.2.2.down (ba (Below.refl _ _) _)⟩
                clear hK K
                try simp only [Act.put, List.setIfInBounds_toArray, List.set_cons_zero, List.set_cons_succ]
                refine heldTo (fun V2 => (Has V2 S [.int .i64 q.step, .string ⟨q.frm.1.toArray⟩, .string ⟨q.frm.2.toArray⟩, .slice Gv q.rcp.length cv, .string ⟨q.text.toArray⟩, .bool q.large] ∧ Has V2 L [.string ⟨y0.toArray⟩, .string ⟨y1.toArray⟩, y2] ∧ Has V2 N [.string ⟨#[108, 104, 108, 111, 32, 97]⟩, .string ⟨y0.toArray⟩, .string ⟨y1.toArray⟩, .string ⟨#[78, 79, 79, 80]⟩]) ∧ Below wr.heap.size wr V2 ∧ Has V2 V1.heap.size [.int .i64 0, .string ⟨#[]⟩, .string ⟨#[]⟩, .slice none 0 0, .string ⟨#[]⟩, .bool false]) (fun wx => Has wx S [.int .i64 q.step, .string ⟨q.frm.1.toArray⟩, .string ⟨q.frm.2.toArray⟩, .slice Gv q.rcp.length cv, .string ⟨q.text.toArray⟩, .bool q.large] ∧ Has wx L [.string ⟨y0.toArray⟩, .string ⟨y1.toArray⟩, y2] ∧ Has wx N [.string ⟨#[108, 104, 108, 111, 32, 97]⟩, .string ⟨y0.toArray⟩, .string ⟨y1.toArray⟩, .string ⟨#[78, 79, 79, 80]⟩]) ⟨hHeld, ba hB _, Has.alloc V1 [.int .i64 0, .string ⟨#[]⟩, .string ⟨#[]⟩, .slice none 0 0, .string ⟨#[]⟩, .bool false] _⟩ (fun V2 h => h.1) (fun _ h => h) (fun V2 hR hHeld => ?_)
                have hZ0 : wr.heap.size ≤ V1.heap.size := hB.size
                have hNZ : N ≠ V1.heap.size := by omega
                obtain ⟨-, hB, hZ⟩ := hR
                generalize V1.heap.size = Z at hZ0 hZ hNZ ⊢
                refine wpAnyH_ready (rs := [12]) (by kernel_rfl) (by simp) ?_
                refine AllReadyH.cons (by (simp only [List.getElem?_toArray, List.getElem?_cons_succ, List.getElem?_cons_zero]; rfl)) (fun K hK => ?_) ?_
                · go_simp
                  go_at_call 12
                  refine (hLN2.out _ (bt HB.out hB)).mono ?_
                  intro e w4 hp
                  obtain ⟨G4, c4', Gl, cl, rfl, hv4, hl4, hb4⟩ := hp.form
                  have hS4 : Has w4 S [.int .i64 q.step, .string ⟨q.frm.1.toArray⟩, .string ⟨q.frm.2.toArray⟩, .slice Gv q.rcp.length cv, .string ⟨q.text.toArray⟩, .bool q.large] ∧ Has w4 L [.string ⟨y0.toArray⟩, .string ⟨y1.toArray⟩, y2] ∧ Has w4 N [.string ⟨#[108, 104, 108, 111, 32, 97]⟩, .string ⟨y0.toArray⟩, .string ⟨y1.toArray⟩, .string ⟨#[78, 79, 79, 80]⟩] := ⟨hHeld.1.down hb4, hHeld.2.1.down hb4, hHeld.2.2.down hb4⟩
                  have kk := hZ.down hb4
                  clear hp
                  try (go_wp2_with fail)
                  refine hK.out _ _ ?_ (fun hHeld => ?_)
                  · exact hS4
                  clear hK K
                  try simp only [Act.put, List.setIfInBounds_toArray, List.set_cons_zero, List.set_cons_succ]
                  refine wpAnyH_take (i := 13) (v := ?_) (by (simp only [List.getElem?_toArray, List.getElem?_cons_succ, List.getElem?_cons_zero]; rfl)) (by kernel_rfl) (by kernel_rfl) (by kernel_rfl) (fun _ _ _ h => h) (Or.inl ⟨by rfl, ?_⟩) (by assumption) ?_
                  rotate_left 1
                  · intro w' hSw; (go_simp) <;> with_reducible rfl
                  try simp only [Act.put, List.setIfInBounds_toArray, List.set_cons_zero, List.set_cons_succ]
                  refine wpAnyH_take (i := 14) (v := ?_) (by (simp only [List.getElem?_toArray, List.getElem?_cons_succ, List.getElem?_cons_zero]; rfl)) (by kernel_rfl) (by kernel_rfl) (by kernel_rfl) (fun _ _ _ h => h) (Or.inl ⟨by rfl, ?_⟩) (by assumption) ?_
                  rotate_left 1
                  · intro w' hSw; (go_simp) <;> with_reducible rfl
                  try simp only [Act.put, List.setIfInBounds_toArray, List.set_cons_zero, List.set_cons_succ]
                  refine wpAnyH_take (i := 15) (v := ?_) (by (simp only [List.getElem?_toArray, List.getElem?_cons_succ, List.getElem?_cons_zero]; rfl)) (by kernel_rfl) (by kernel_rfl) (by kernel_rfl) (fun _ _ _ h => h) (Or.inl ⟨by rfl, ?_⟩) (by assumption) ?_
                  rotate_left 1
                  · intro w' hSw; (go_simp) <;> with_reducible rfl
                  try simp only [Act.put, List.setIfInBounds_toArray, List.set_cons_zero, List.set_cons_succ]
                  refine wpAnyH_take (i := 16) (v := ?_) (by (simp only [List.getElem?_toArray, List.getElem?_cons_succ, List.getElem?_cons_zero]; rfl)) (by kernel_rfl) (by kernel_rfl) (by kernel_rfl) (fun _ _ _ h => h) (Or.inl ⟨by rfl, ?_⟩) (by assumption) ?_
                  rotate_left 1
                  · intro w' hSw; (go_simp) <;> with_reducible rfl
                  try simp only [Act.put, List.setIfInBounds_toArray, List.set_cons_zero, List.set_cons_succ]
                  refine wpAnyH_take (i := 17) (v := ?_) (by (simp only [List.getElem?_toArray, List.getElem?_cons_succ, List.getElem?_cons_zero]; rfl)) (by kernel_rfl) (by kernel_rfl) (by kernel_rfl) (fun _ _ _ h => h) (Or.inl ⟨by rfl, ?_⟩) (by assumption) ?_
                  rotate_left 1
                  · intro w' hSw; (go_simp) <;> with_reducible rfl
                  try simp only [Act.put, List.setIfInBounds_toArray, List.set_cons_zero, List.set_cons_succ]
                  refine wpAnyH_ready (rs := [19]) (by kernel_rfl) (by simp) ?_
                  refine AllReadyH.cons (by (simp only [List.getElem?_toArray, List.getElem?_cons_succ, List.getElem?_cons_zero]; rfl)) (fun K hK => ?_) ?_
                  · obtain ⟨z0, z1, z2, z3, z4, z5⟩ := kk.six
                    obtain ⟨f0, f1, f2, f3, f4, f5⟩ := kk.six_free
                    go_simp
                    refine hK.out _ _ ?_ (fun hHeld => ?_)
                    · exact ⟨((((((hHeld.1.else' (by omega) _).else' (by omega) _).else' (by omega) _).else' (by omega) _).else' (by omega) _).else' (by omega) _), ((((((hHeld.2.1.else' (by omega) _).else' (by omega) _).else' (by omega) _).else' (by omega) _).else' (by omega) _).else' (by omega) _), ((((((hHeld.2.2.else' (by omega) _).else' (by omega) _).else' (by omega) _).else' (by omega) _).else' (by omega) _).else' (by omega) _)⟩
                    clear hK K
                    try simp only [Act.put, List.setIfInBounds_toArray, List.set_cons_zero, List.set_cons_succ]
                    refine wpAnyH_ready (rs := [20]) (by kernel_rfl) (by simp) ?_
                    refine AllReadyH.cons (by (simp only [List.getElem?_toArray, List.getElem?_cons_succ, List.getElem?_cons_zero]; rfl)) (fun K hK => ?_) ?_
                    · go_simp
                      refine hK.out _ _ ?_ (fun hHeld => ?_)
                      · exact hHeld
                      clear hK K
                      try simp only [Act.put, List.setIfInBounds_toArray, List.set_cons_zero, List.set_cons_succ]
                      refine wpAnyH_ready (rs := [21]) (by kernel_rfl) (by simp) ?_
                      refine AllReadyH.cons (by (simp only [List.getElem?_toArray, List.getElem?_cons_succ, List.getElem?_cons_zero]; rfl)) (fun K hK => ?_) ?_
                      · go_simp
                        refine hK.out _ _ ?_ (fun hHeld => ?_)
                        · exact hHeld
                        clear hK K
                        try simp only [Act.put, List.setIfInBounds_toArray, List.set_cons_zero, List.set_cons_succ]
                        refine wpAnyH_ready (rs := [22]) (by kernel_rfl) (by simp) ?_
                        refine AllReadyH.cons (by (simp only [List.getElem?_toArray, List.getElem?_cons_succ, List.getElem?_cons_zero]; rfl)) (fun K hK => ?_) ?_
                        · go_simp
                          refine hK.out _ _ ?_ (fun hHeld => ?_)
                          · exact hHeld
                          clear hK K
                          try simp only [Act.put, List.setIfInBounds_toArray, List.set_cons_zero, List.set_cons_succ]
                          refine wpAnyH_done (by kernel_rfl) ?_ _
                          refine NoPanic.normal ?_
                          go_wp2_with fail
                          go_meet
                          case rel => exact line_at (R := Z) hZ0 hZ.2.2 kk hv4 hl4 (bt hB hb4)
                        exact AllReadyH.nil
                      exact AllReadyH.nil
                    exact AllReadyH.nil
                  exact AllReadyH.nil
                exact AllReadyH.nil
              exact AllReadyH.nil
            refine AllReadyH.cons (by (simp only [List.getElem?_toArray, List.getElem?_cons_succ, List.getElem?_cons_zero]; rfl)) (fun K hK => ?_) ?_
            · go_simp
              refine hK.out _ _ ?_ (fun hHeld => ?_)
              · exact ⟨hHeld.1.down (ba (Below.refl _ _) _), hHeld.2.down (ba (Below.refl _ _) _)⟩
              clear hK K
              try simp only [Act.put, List.setIfInBounds_toArray, List.set_cons_zero, List.set_cons_succ]
              refine heldTo (fun V1 => (Has V1 S [.int .i64 q.step, .string ⟨q.frm.1.toArray⟩, .string ⟨q.frm.2.toArray⟩, .slice Gv q.rcp.length cv, .string ⟨q.text.toArray⟩, .bool q.large] ∧ Has V1 L [.string ⟨y0.toArray⟩, .string ⟨y1.toArray⟩, y2]) ∧ Below wr.heap.size wr V1 ∧ Has V1 V0.heap.size [.int .i64 0, .string ⟨#[]⟩, .string ⟨#[]⟩, .slice none 0 0, .string ⟨#[]⟩, .bool false]) (fun wx => Has wx S [.int .i64 q.step, .string ⟨q.frm.1.toArray⟩, .string ⟨q.frm.2.toArray⟩, .slice Gv q.rcp.length cv, .string ⟨q.text.toArray⟩, .bool q.large] ∧ Has wx L [.string ⟨y0.toArray⟩, .string ⟨y1.toArray⟩, y2]) ⟨hHeld, ba hB _, Has.alloc V0 [.int .i64 0, .string ⟨#[]⟩, .string ⟨#[]⟩, .slice none 0 0, .string ⟨#[]⟩, .bool false] _⟩ (fun V1 h => h.1) (fun _ h => h) (fun V1 hR hHeld => ?_)
              have hZ0 : wr.heap.size ≤ V0.heap.size := hB.size
              obtain ⟨-, hB, hZ⟩ := hR
              generalize V0.heap.size = Z at hZ0 hZ ⊢
              refine wpAnyH_ready (rs := [8]) (by kernel_rfl) (by simp) ?_
              refine AllReadyH.cons (by (simp only [List.getElem?_toArray, List.getElem?_cons_succ, List.getElem?_cons_zero]; rfl)) (fun K hK => ?_) ?_
              · go_simp
                refine hK.out _ _ ?_ (fun hHeld => ?_)
                · exact ⟨hHeld.1.down (ba (Below.refl _ _) _), hHeld.2.down (ba (Below.refl _ _) _)⟩
                clear hK K
                try simp only [Act.put, List.setIfInBounds_toArray, List.set_cons_zero, List.set_cons_succ]
                refine heldTo (fun V2 => (Has V2 S [.int .i64 q.step, .string ⟨q.frm.1.toArray⟩, .string ⟨q.frm.2.toArray⟩, .slice Gv q.rcp.length cv, .string ⟨q.text.toArray⟩, .bool q.large] ∧ Has V2 L [.string ⟨y0.toArray⟩, .string ⟨y1.toArray⟩, y2]) ∧ Below wr.heap.size wr V2 ∧ Has V2 V1.heap.size [.string ⟨#[108, 104, 108, 111, 32, 97]⟩, .string ⟨y0.toArray⟩, .string ⟨y1.toArray⟩, .string ⟨#[78, 79, 79, 80]⟩] ∧ Has V2 Z [.int .i64 0, .string ⟨#[]⟩, .string ⟨#[]⟩, .slice none 0 0, .string ⟨#[]⟩, .bool false]) (fun wx => Has wx S [.int .i64 q.step, .string ⟨q.frm.1.toArray⟩, .string ⟨q.frm.2.toArray⟩, .slice Gv q.rcp.length cv, .string ⟨q.text.toArray⟩, .bool q.large] ∧ Has wx L [.string ⟨y0.toArray⟩, .string ⟨y1.toArray⟩, y2] ∧ Has wx V1.heap.size [.string ⟨#[108, 104, 108, 111, 32, 97]⟩, .string ⟨y0.toArray⟩, .string ⟨y1.toArray⟩, .string ⟨#[78, 79, 79, 80]⟩]) ⟨hHeld, ba hB _, Has.alloc V1 [.string ⟨#[108, 104, 108, 111, 32, 97]⟩, .string ⟨y0.toArray⟩, .string ⟨y1.toArray⟩, .string ⟨#[78, 79, 79, 80]⟩] _, hZ.down (ba (Below.refl _ _) _)⟩ (fun V2 h => ⟨h.1.1, h.1.2, h.2.2.1⟩) (fun _ h => ⟨h.1, h.2.1⟩) (fun V2 hR hHeld => ?_)
                have hN0 : wr.heap.size ≤ V1.heap.size := hB.size
                have hNZ : V1.heap.size ≠ Z := by have := hZ.2.2; omega
                obtain ⟨-, hB, -, hZ⟩ := hR
                generalize V1.heap.size = N at hN0 hHeld hNZ ⊢
                refine wpAnyH_take (i := 10) (v := ?_) (by (simp only [List.getElem?_toArray, List.getElem?_cons_succ, List.getElem?_cons_zero]; rfl)) (by kernel_rfl) (by kernel_rfl) (by kernel_rfl) (fun _ _ _ h => h) (Or.inl ⟨by rfl, ?_⟩) (by assumption) ?_
                rotate_left 1
                · intro w' hSw; (go_simp) <;> with_reducible rfl
                try simp only [Act.put, List.setIfInBounds_toArray, List.set_cons_zero, List.set_cons_succ]
                refine wpAnyH_take (i := 11) (v := ?_) (by (simp only [List.getElem?_toArray, List.getElem?_cons_succ, List.getElem?_cons_zero]; rfl)) (by kernel_rfl) (by kernel_rfl) (by kernel_rfl) (fun _ _ _ h => h) (Or.inl ⟨by rfl, ?_⟩) (by assumption) ?_
                rotate_left 1
                · intro w' hSw; have g := HGA.out _ _ hSw.2.2; (go_simp) <;> with_reducible rfl
                try simp only [Act.put, List.setIfInBounds_toArray, List.set_cons_zero, List.set_cons_succ]
                refine wpAnyH_ready (rs := [12]) (by kernel_rfl) (by simp) ?_
                refine AllReadyH.cons (by (simp only [List.getElem?_toArray, List.getElem?_cons_succ, List.getElem?_cons_zero]; rfl)) (fun K hK => ?_) ?_
                · go_simp
                  go_at_call 12
                  refine (hLN2.out _ (bt HB.out hB)).mono ?_
                  intro e w4 hp
                  obtain ⟨G4, c4', Gl, cl, rfl, hv4, hl4, hb4⟩ := hp.form
                  have hS4 : Has w4 S [.int .i64 q.step, .string ⟨q.frm.1.toArray⟩, .string ⟨q.frm.2.toArray⟩, .slice Gv q.rcp.length cv, .string ⟨q.text.toArray⟩, .bool q.large] ∧ Has w4 L [.string ⟨y0.toArray⟩, .string ⟨y1.toArray⟩, y2] ∧ Has w4 N [.string ⟨#[108, 104, 108, 111, 32, 97]⟩, .string ⟨y0.toArray⟩, .string ⟨y1.toArray⟩, .string ⟨#[78, 79, 79, 80]⟩] := ⟨hHeld.1.down hb4, hHeld.2.1.down hb4, hHeld.2.2.down hb4⟩
                  have kk := hZ.down hb4
                  clear hp
                  try (go_wp2_with fail)
                  refine hK.out _ _ ?_ (fun hHeld => ?_)
                  · exact hS4
                  clear hK K
                  try simp only [Act.put, List.setIfInBounds_toArray, List.set_cons_zero, List.set_cons_succ]
                  refine wpAnyH_take (i := 13) (v := ?_) (by (simp only [List.getElem?_toArray, List.getElem?_cons_succ, List.getElem?_cons_zero]; rfl)) (by kernel_rfl) (by kernel_rfl) (by kernel_rfl) (fun _ _ _ h => h) (Or.inl ⟨by rfl, ?_⟩) (by assumption) ?_
                  rotate_left 1
                  · intro w' hSw; (go_simp) <;> with_reducible rfl
                  try simp only [Act.put, List.setIfInBounds_toArray, List.set_cons_zero, List.set_cons_succ]
                  refine wpAnyH_take (i := 14) (v := ?_) (by (simp only [List.getElem?_toArray, List.getElem?_cons_succ, List.getElem?_cons_zero]; rfl)) (by kernel_rfl) (by kernel_rfl) (by kernel_rfl) (fun _ _ _ h => h) (Or.inl ⟨by rfl, ?_⟩) (by assumption) ?_
                  rotate_left 1
                  · intro w' hSw; (go_simp) <;> with_reducible rfl
                  try simp only [Act.put, List.setIfInBounds_toArray, List.set_cons_zero, List.set_cons_succ]
                  refine wpAnyH_take (i := 15) (v := ?_) (by (simp only [List.getElem?_toArray, List.getElem?_cons_succ, List.getElem?_cons_zero]; rfl)) (by kernel_rfl) (by kernel_rfl) (by kernel_rfl) (fun _ _ _ h => h) (Or.inl ⟨by rfl, ?_⟩) (by assumption) ?_
                  rotate_left 1
                  · intro w' hSw; (go_simp) <;> with_reducible rfl
                  try simp only [Act.put, List.setIfInBounds_toArray, List.set_cons_zero, List.set_cons_succ]
                  refine wpAnyH_take (i := 16) (v := ?_) (by (simp only [List.getElem?_toArray, List.getElem?_cons_succ, List.getElem?_cons_zero]; rfl)) (by kernel_rfl) (by kernel_rfl) (by kernel_rfl) (fun _ _ _ h => h) (Or.inl ⟨by rfl, ?_⟩) (by assumption) ?_
                  rotate_left 1
                  · intro w' hSw; (go_simp) <;> with_reducible rfl
                  try simp only [Act.put, List.setIfInBounds_toArray, List.set_cons_zero, List.set_cons_succ]
                  refine wpAnyH_take (i := 17) (v := ?_) (by (simp only [List.getElem?_toArray, List.getElem?_cons_succ, List.getElem?_cons_zero]; rfl)) (by kernel_rfl) (by kernel_rfl) (by kernel_rfl) (fun _ _ _ h => h) (Or.inl ⟨by rfl, ?_⟩) (by assumption) ?_
                  rotate_left 1
                  · intro w' hSw; (go_simp) <;> with_reducible rfl
                  try simp only [Act.put, List.setIfInBounds_toArray, List.set_cons_zero, List.set_cons_succ]
                  refine wpAnyH_ready (rs := [19]) (by kernel_rfl) (by simp) ?_
                  refine AllReadyH.cons (by (simp only [List.getElem?_toArray, List.getElem?_cons_succ, List.getElem?_cons_zero]; rfl)) (fun K hK => ?_) ?_
                  · obtain ⟨z0, z1, z2, z3, z4, z5⟩ := kk.six
                    obtain ⟨f0, f1, f2, f3, f4, f5⟩ := kk.six_free
                    go_simp
                    refine hK.out _ _ ?_ (fun hHeld => ?_)
                    · exact ⟨((((((hHeld.1.else' (by omega) _).else' (by omega) _).else' (by omega) _).else' (by omega) _).else' (by omega) _).else' (by omega) _), ((((((hHeld.2.1.else' (by omega) _).else' (by omega) _).else' (by omega) _).else' (by omega) _).else' (by omega) _).else' (by omega) _), ((((((hHeld.2.2.else' (by omega) _).else' (by omega) _).else' (by omega) _).else' (by omega) _).else' (by omega) _).else' (by omega) _)⟩
                    clear hK K
                    try simp only [Act.put, List.setIfInBounds_toArray, List.set_cons_zero, List.set_cons_succ]
                    refine wpAnyH_ready (rs := [20]) (by kernel_rfl) (by simp) ?_
                    refine AllReadyH.cons (by (simp only [List.getElem?_toArray, List.getElem?_cons_succ, List.getElem?_cons_zero]; rfl)) (fun K hK => ?_) ?_
                    · go_simp
                      refine hK.out _ _ ?_ (fun hHeld => ?_)
                      · exact hHeld
                      clear hK K
                      try simp only [Act.put, List.setIfInBounds_toArray, List.set_cons_zero, List.set_cons_succ]
                      refine wpAnyH_ready (rs := [21]) (by kernel_rfl) (by simp) ?_
                      refine AllReadyH.cons (by (simp only [List.getElem?_toArray, List.getElem?_cons_succ, List.getElem?_cons_zero]; rfl)) (fun K hK => ?_) ?_
                      · go_simp
                        refine hK.out _ _ ?_ (fun hHeld => ?_)
                        · exact hHeld
                        clear hK K
                        try simp only [Act.put, List.setIfInBounds_toArray, List.set_cons_zero, List.set_cons_succ]
                        refine wpAnyH_ready (rs := [22]) (by kernel_rfl) (by simp) ?_
                        refine AllReadyH.cons (by (simp only [List.getElem?_toArray, List.getElem?_cons_succ, List.getElem?_cons_zero]; rfl)) (fun K hK => ?_) ?_
                        · go_simp
                          refine hK.out _ _ ?_ (fun hHeld => ?_)
                          · exact hHeld
                          clear hK K
                          try simp only [Act.put, List.setIfInBounds_toArray, List.set_cons_zero, List.set_cons_succ]
                          refine wpAnyH_done (by kernel_rfl) ?_ _
                          refine NoPanic.normal ?_
                          go_wp2_with fail
                          go_meet
                          case rel => exact line_at (R := Z) hZ0 hZ.2.2 kk hv4 hl4 (bt hB hb4)
                        exact AllReadyH.nil
                      exact AllReadyH.nil
                    exact AllReadyH.nil
                  exact AllReadyH.nil
                exact AllReadyH.nil
              exact AllReadyH.nil
            exact AllReadyH.nil
          case rest =>
            obtain ⟨R, G4, c4', Gl, cl, rfl, rfl, rfl, rfl, hR, hs4, -, hb4⟩ := hcut
            have hr := HQ.out
            have hr1 : r.1 = ordS (zAd l d) (j + 1) := by rw [hr]
            have q1 : ((r.2.1 : Int) != 250) = false := by rw [hr]; simp
            have HR1 := Lib.hid hr1
            have hbw := bt HB.out hb4
            have hsw : W3.heap.size ≤ wr.heap.size := Nat.le_trans hsz HB.out.size
            have hS4 := (HS.out.down hbw).six
            have hp4 := ses_assign (LB := 0) o2 (hs4.mono hsw) (Go.Lib.grownBy_below HG.out hbw) hS4 rfl (Nat.zero_le _)
            have HP4 := Lib.hid hp4
            obtain ⟨d0, d1, d2, d3, d4, d5⟩ := hs4.six.six
            obtain ⟨e0, e1, e2, e3, e4, e5⟩ := hS4.six
            obtain ⟨f0, f1, f2, f3, f4, f5⟩ := hS4.six_free
            clear hr hr1 hs4 hb4 hbw hS4 hp4 c0 c1 c2 c3 c4 c5 hLN2 hLN HQ hl0 hl1 g0 g1 g2 HX
            go_wp2_with fail
            go_roundw
            case rel => exact ⟨j + 1, by omega, by go_num, by rw [← HR1.out]; exact HP4.out⟩
            case measure => simp [intOf]; omega
    · obtain rfl : j = 4 := by omega
      obtain ⟨k, hk⟩ : ∃ k, k = pick what (2 : Nat) := ⟨_, rfl⟩
      have hk2 : k < 2 := by rw [hk]; exact pick_lt what 2 (by omega)
      have HPK : Hid (∀ w, Calls Tryd.prog 7 #[.int .i64 what, .int .i64 2] w fun e w' => e = .returned (.int .i64 k) ∧ w = w') := by
        intro w; rw [hk]; exact picked_any what 2 w hw1 hw2 (by omega) (by omega)
      have hLN2 : Hid (∀ w', Below wr.heap.size wr w' → Calls Tryd.prog 12 #[.agg #[.int .i64 (ordS (zAd l d) 4).step, .string ⟨(ordS (zAd l d) 4).frm.1.toArray⟩, .string ⟨(ordS (zAd l d) 4).frm.2.toArray⟩, .slice Gv (ordS (zAd l d) 4).rcp.length cv, .string ⟨(ordS (zAd l d) 4).text.toArray⟩, .bool (ordS (zAd l d) 4).large], .slice (some ⟨K, 0, none⟩) 1 1, .string ⟨(lastL k).toArray⟩] w' (LinePost (lineS (ordS (zAd l d) 4) [wordL l] (lastL k)) w')) :=
        fun w' hb => line_any (ordS (zAd l d) 4) _ _ _ [wordL l] _ (lastL k) m w' (HS.out.rcp.down hb) hg2 (HK.out.down hb) (by show 1 ≤ 1000; omega) (by unfold lastL; split <;> decide) (moved HM.out hb (Nat.le_refl _))
      have HQ := Lib.hid (ord_last (zAd l d) [wordL l] k)
      obtain ⟨c0, c1, c2, c3, c4, c5⟩ := HS.out.six.six
      have gA : ∀ w' : World, (w'.alloc (.cells #[.string ⟨#[82, 83, 69, 84]⟩, .string ⟨#[81, 85, 73, 84]⟩] 9)).cell? ⟨w'.heap.size, k, none⟩ = some (.string ⟨(lastL k).toArray⟩) := by
        intro w'
        have hh := Has.alloc w' [.string ⟨#[82, 83, 69, 84]⟩, .string ⟨#[81, 85, 73, 84]⟩] 9
        match k, hk2 with
        | 0, _ => exact hh.1 0 _ rfl
        | 1, _ => exact hh.1 1 _ rfl
      have HGA : ∀ (wx : World) (N : Nat), Has wx N [.string ⟨#[82, 83, 69, 84]⟩, .string ⟨#[81, 85, 73, 84]⟩] → wx.cell? ⟨N, k, none⟩ = some (.string ⟨(lastL k).toArray⟩) := by
        intro wx N hh
        match k, hk2 with
        | 0, _ => exact hh.1 0 _ rfl
        | 1, _ => exact hh.1 1 _ rfl
      have HSS := HS.out.six
      have HE := Lib.hid (below_grown HB3.out HG.out o3)
      have HB := Lib.hid (Below.refl wr.heap.size wr)
      obtain ⟨r, hr⟩ : ∃ r, r = lineS (ordS (zAd l d) 4) [wordL l] (lastL k) := ⟨_, rfl⟩
      rw [← hr] at hLN2 HQ
      obtain ⟨q, hq⟩ : ∃ q, q = ordS (zAd l d) 4 := ⟨_, rfl⟩
      rw [← hq] at hLN2 c0 c1 c2 c3 c4 c5 HSS
      obtain ⟨x, hx⟩ : ∃ x, x = lastL k := ⟨_, rfl⟩
      rw [← hx] at hLN2 gA HGA
      have HGA := Lib.hid HGA; have HSS := Lib.hid HSS
      clear hr hq hx hk hg2
      go_upto_region 20 with fail
      have i1 : (0 : Int) ≤ k := by omega
      have i2 : (k : Int) < 2 := by omega
      have HW0 : Hid (Below wr.heap.size wr (wr.alloc (.cells #[.string ⟨#[82, 83, 69, 84]⟩, .string ⟨#[81, 85, 73, 84]⟩] 9)).drew) := Below.drew (ba (Below.refl _ _) _)
      have g0 : (wr.alloc (.cells #[.string ⟨#[82, 83, 69, 84]⟩, .string ⟨#[81, 85, 73, 84]⟩] 9)).cell? ⟨wr.heap.size, k, none⟩ = some (.string ⟨x.toArray⟩) := by
        have hh := gA wr
        exact hh
      have HZ1 : Hid (Has ((wr.alloc (.cells #[.string ⟨#[82, 83, 69, 84]⟩, .string ⟨#[81, 85, 73, 84]⟩] 9)).alloc (.cells #[.int .i64 0, .string ⟨#[]⟩, .string ⟨#[]⟩, .slice none 0 0, .string ⟨#[]⟩, .bool false] 49)).drew (wr.heap.size + 1) [.int .i64 0, .string ⟨#[]⟩, .string ⟨#[]⟩, .slice none 0 0, .string ⟨#[]⟩, .bool false]) := by
        have hh := Has.alloc (wr.alloc (.cells #[.string ⟨#[82, 83, 69, 84]⟩, .string ⟨#[81, 85, 73, 84]⟩] 9)) [.int .i64 0, .string ⟨#[]⟩, .string ⟨#[]⟩, .slice none 0 0, .string ⟨#[]⟩, .bool false] 49
        rw [World.size_alloc] at hh
        exact hh.down (Below.drew (Below.refl _ _))
      have HW1 : Hid (Below wr.heap.size wr ((wr.alloc (.cells #[.string ⟨#[82, 83, 69, 84]⟩, .string ⟨#[81, 85, 73, 84]⟩] 9)).alloc (.cells #[.int .i64 0, .string ⟨#[]⟩, .string ⟨#[]⟩, .slice none 0 0, .string ⟨#[]⟩, .bool false] 49)).drew) := Below.drew (ba (ba (Below.refl _ _) _) _)
      have g1 : ((wr.alloc (.cells #[.string ⟨#[82, 83, 69, 84]⟩, .string ⟨#[81, 85, 73, 84]⟩] 9)).alloc (.cells #[.int .i64 0, .string ⟨#[]⟩, .string ⟨#[]⟩, .slice none 0 0, .string ⟨#[]⟩, .bool false] 49)).cell? ⟨wr.heap.size, k, none⟩ = some (.string ⟨x.toArray⟩) := by
        have hh := gA wr
        exact cell_alloc _ hh
      have HZ2 : Hid (Has ((wr.alloc (.cells #[.int .i64 0, .string ⟨#[]⟩, .string ⟨#[]⟩, .slice none 0 0, .string ⟨#[]⟩, .bool false] 49)).alloc (.cells #[.string ⟨#[82, 83, 69, 84]⟩, .string ⟨#[81, 85, 73, 84]⟩] 9)).drew (wr.heap.size) [.int .i64 0, .string ⟨#[]⟩, .string ⟨#[]⟩, .slice none 0 0, .string ⟨#[]⟩, .bool false]) := by
        have hh := Has.alloc wr [.int .i64 0, .string ⟨#[]⟩, .string ⟨#[]⟩, .slice none 0 0, .string ⟨#[]⟩, .bool false] 49
        exact hh.down (Below.drew (ba (Below.refl _ _) _))
      have HW2 : Hid (Below wr.heap.size wr ((wr.alloc (.cells #[.int .i64 0, .string ⟨#[]⟩, .string ⟨#[]⟩, .slice none 0 0, .string ⟨#[]⟩, .bool false] 49)).alloc (.cells #[.string ⟨#[82, 83, 69, 84]⟩, .string ⟨#[81, 85, 73, 84]⟩] 9)).drew) := Below.drew (ba (ba (Below.refl _ _) _) _)
      have g2 : ((wr.alloc (.cells #[.int .i64 0, .string ⟨#[]⟩, .string ⟨#[]⟩, .slice none 0 0, .string ⟨#[]⟩, .bool false] 49)).alloc (.cells #[.string ⟨#[82, 83, 69, 84]⟩, .string ⟨#[81, 85, 73, 84]⟩] 9)).cell? ⟨wr.heap.size + 1, k, none⟩ = some (.string ⟨x.toArray⟩) := by
        have hh := gA (wr.alloc (.cells #[.int .i64 0, .string ⟨#[]⟩, .string ⟨#[]⟩, .slice none 0 0, .string ⟨#[]⟩, .bool false] 49))
        rw [World.size_alloc] at hh
        exact hh
      have nn1 : wr.heap.size ≠ S := World.new_ne wr ⟨S, 0, none⟩ c0
      have nm1 : wr.heap.size + 1 ≠ S := by have hh : S < wr.heap.size := World.block_lt_of_cell? wr ⟨S, 0, none⟩ c0; omega
      clear gA
      go_cut [21, 22, 23, 24] (LineNew r wr)
      case first =>
        have hSS : Has wr S [.int .i64 q.step, .string ⟨q.frm.1.toArray⟩, .string ⟨q.frm.2.toArray⟩, .slice Gv q.rcp.length cv, .string ⟨q.text.toArray⟩, .bool q.large] := HSS.out
        have oS : S < wr.heap.size := hSS.2.2
        refine wp_region_noPanic ?_
        refine wp_region_held_drew (S := (fun wx => Has wx S [.int .i64 q.step, .string ⟨q.frm.1.toArray⟩, .string ⟨q.frm.2.toArray⟩, .slice Gv q.rcp.length cv, .string ⟨q.text.toArray⟩, .bool q.large])) (by kernel_rfl) (hSS.down (Below.drew (Below.refl _ _))) (fun hHeld => ?_)
        refine heldTo (fun X => Below wr.heap.size wr X) (fun wx => Has wx S [.int .i64 q.step, .string ⟨q.frm.1.toArray⟩, .string ⟨q.frm.2.toArray⟩, .slice Gv q.rcp.length cv, .string ⟨q.text.toArray⟩, .bool q.large]) (Below.drew (Below.refl _ _)) (fun X h => hSS.down h) (fun _ h => h) (fun V0 hB hHeld => ?_)
        refine wpAnyH_take (i := 0) (v := ?_) (by (simp only [List.getElem?_toArray, List.getElem?_cons_succ, List.getElem?_cons_zero]; rfl)) (by kernel_rfl) (by kernel_rfl) (by kernel_rfl) (fun _ _ _ h => h) (Or.inl ⟨by rfl, ?_⟩) (by assumption) ?_
        rotate_left 1
        · intro w' hSw; obtain ⟨c0, c1, c2, c3, c4, c5⟩ := (hSw).six; (go_simp) <;> with_reducible rfl
        try simp only [Act.put, List.setIfInBounds_toArray, List.set_cons_zero, List.set_cons_succ]
        refine wpAnyH_take (i := 1) (v := ?_) (by (simp only [List.getElem?_toArray, List.getElem?_cons_succ, List.getElem?_cons_zero]; rfl)) (by kernel_rfl) (by kernel_rfl) (by kernel_rfl) (fun _ _ _ h => h) (Or.inl ⟨by rfl, ?_⟩) (by assumption) ?_
        rotate_left 1
        · intro w' hSw; (go_simp) <;> with_reducible rfl
        try simp only [Act.put, List.setIfInBounds_toArray, List.set_cons_zero, List.set_cons_succ]
        refine wpAnyH_take (i := 3) (v := ?_) (by (simp only [List.getElem?_toArray, List.getElem?_cons_succ, List.getElem?_cons_zero]; rfl)) (by kernel_rfl) (by kernel_rfl) (by kernel_rfl) (fun _ _ _ h => h) (Or.inl ⟨by rfl, ?_⟩) (by assumption) ?_
        rotate_left 1
        · intro w' hSw; (go_simp) <;> with_reducible rfl
        try simp only [Act.put, List.setIfInBounds_toArray, List.set_cons_zero, List.set_cons_succ]
        refine wpAnyH_ready (rs := [2, 4, 13]) (by kernel_rfl) (by simp) ?_
        refine AllReadyH.cons (by (simp only [List.getElem?_toArray, List.getElem?_cons_succ, List.getElem?_cons_zero]; rfl)) (fun K hK => ?_) ?_
        · go_simp
          refine hK.out _ _ ?_ (fun hHeld => ?_)
          · exact hHeld.down (ba (Below.refl _ _) _)
          clear hK K
          try simp only [Act.put, List.setIfInBounds_toArray, List.set_cons_zero, List.set_cons_succ]
          refine heldTo (fun V1 => (Has V1 S [.int .i64 q.step, .string ⟨q.frm.1.toArray⟩, .string ⟨q.frm.2.toArray⟩, .slice Gv q.rcp.length cv, .string ⟨q.text.toArray⟩, .bool q.large]) ∧ Below wr.heap.size wr V1 ∧ Has V1 V0.heap.size [.string ⟨#[82, 83, 69, 84]⟩, .string ⟨#[81, 85, 73, 84]⟩]) (fun wx => Has wx S [.int .i64 q.step, .string ⟨q.frm.1.toArray⟩, .string ⟨q.frm.2.toArray⟩, .slice Gv q.rcp.length cv, .string ⟨q.text.toArray⟩, .bool q.large] ∧ Has wx V0.heap.size [.string ⟨#[82, 83, 69, 84]⟩, .string ⟨#[81, 85, 73, 84]⟩]) ⟨hHeld, ba hB _, Has.alloc V0 [.string ⟨#[82, 83, 69, 84]⟩, .string ⟨#[81, 85, 73, 84]⟩] _⟩ (fun V1 h => ⟨h.1, h.2.2⟩) (fun _ h => h.1) (fun V1 hR hHeld => ?_)
          have hN0 : wr.heap.size ≤ V0.heap.size := hB.size
          obtain ⟨-, hB, -⟩ := hR
          generalize V0.heap.size = N at hN0 hHeld ⊢
          refine wpAnyH_ready (rs := [4, 13]) (by kernel_rfl) (by simp) ?_
          refine AllReadyH.cons (by (simp only [List.getElem?_toArray, List.getElem?_cons_succ, List.getElem?_cons_zero]; rfl)) (fun K hK => ?_) ?_
          · go_simp
            go_at_call 7
            refine (HPK.out _).mono ?_
            rintro e w' ⟨rfl, rfl⟩
            try (go_wp2_with fail)
            refine hK.out _ _ ?_ (fun hHeld => ?_)
            · exact hHeld
            clear hK K
            try simp only [Act.put, List.setIfInBounds_toArray, List.set_cons_zero, List.set_cons_succ]
            refine wpAnyH_take (i := 5) (v := ?_) (by (simp only [List.getElem?_toArray, List.getElem?_cons_succ, List.getElem?_cons_zero]; rfl)) (by kernel_rfl) (by kernel_rfl) (by kernel_rfl) (fun _ _ _ h => h) (Or.inl ⟨by rfl, ?_⟩) (by assumption) ?_
            rotate_left 1
            · intro w' hSw; (go_simp) <;> with_reducible rfl
            try simp only [Act.put, List.setIfInBounds_toArray, List.set_cons_zero, List.set_cons_succ]
            refine wpAnyH_take (i := 6) (v := ?_) (by (simp only [List.getElem?_toArray, List.getElem?_cons_succ, List.getElem?_cons_zero]; rfl)) (by kernel_rfl) (by kernel_rfl) (by kernel_rfl) (fun _ _ _ h => h) (Or.inl ⟨by rfl, ?_⟩) (by assumption) ?_
            rotate_left 1
            · intro w' hSw; have g := HGA.out _ _ hSw.2; (go_simp) <;> with_reducible rfl
            try simp only [Act.put, List.setIfInBounds_toArray, List.set_cons_zero, List.set_cons_succ]
            refine wpAnyH_ready (rs := [7, 13]) (by kernel_rfl) (by simp) ?_
            refine AllReadyH.cons (by (simp only [List.getElem?_toArray, List.getElem?_cons_succ, List.getElem?_cons_zero]; rfl)) (fun K hK => ?_) ?_
            · go_simp
              go_at_call 12
              refine (hLN2.out _ (bt HB.out hB)).mono ?_
              intro e w4 hp
              obtain ⟨G4, c4', Gl, cl, rfl, hv4, hl4, hb4⟩ := hp.form
              have hS4 : Has w4 S [.int .i64 q.step, .string ⟨q.frm.1.toArray⟩, .string ⟨q.frm.2.toArray⟩, .slice Gv q.rcp.length cv, .string ⟨q.text.toArray⟩, .bool q.large] ∧ Has w4 N [.string ⟨#[82, 83, 69, 84]⟩, .string ⟨#[81, 85, 73, 84]⟩] := ⟨hHeld.1.down hb4, hHeld.2.down hb4⟩
              clear hp
              try (go_wp2_with fail)
              refine hK.out _ _ ?_ (fun hHeld => ?_)
              · exact hS4
              clear hK K
              try simp only [Act.put, List.setIfInBounds_toArray, List.set_cons_zero, List.set_cons_succ]
              refine wpAnyH_take (i := 8) (v := ?_) (by (simp only [List.getElem?_toArray, List.getElem?_cons_succ, List.getElem?_cons_zero]; rfl)) (by kernel_rfl) (by kernel_rfl) (by kernel_rfl) (fun _ _ _ h => h) (Or.inl ⟨by rfl, ?_⟩) (by assumption) ?_
              rotate_left 1
              · intro w' hSw; (go_simp) <;> with_reducible rfl
              try simp only [Act.put, List.setIfInBounds_toArray, List.set_cons_zero, List.set_cons_succ]
              refine wpAnyH_take (i := 9) (v := ?_) (by (simp only [List.getElem?_toArray, List.getElem?_cons_succ, List.getElem?_cons_zero]; rfl)) (by kernel_rfl) (by kernel_rfl) (by kernel_rfl) (fun _ _ _ h => h) (Or.inl ⟨by rfl, ?_⟩) (by assumption) ?_
              rotate_left 1
              · intro w' hSw; (go_simp) <;> with_reducible rfl
              try simp only [Act.put, List.setIfInBounds_toArray, List.set_cons_zero, List.set_cons_succ]
              refine wpAnyH_take (i := 10) (v := ?_) (by (simp only [List.getElem?_toArray, List.getElem?_cons_succ, List.getElem?_cons_zero]; rfl)) (by kernel_rfl) (by kernel_rfl) (by kernel_rfl) (fun _ _ _ h => h) (Or.inl ⟨by rfl, ?_⟩) (by assumption) ?_
              rotate_left 1
              · intro w' hSw; (go_simp) <;> with_reducible rfl
              try simp only [Act.put, List.setIfInBounds_toArray, List.set_cons_zero, List.set_cons_succ]
              refine wpAnyH_take (i := 11) (v := ?_) (by (simp only [List.getElem?_toArray, List.getElem?_cons_succ, List.getElem?_cons_zero]; rfl)) (by kernel_rfl) (by kernel_rfl) (by kernel_rfl) (fun _ _ _ h => h) (Or.inl ⟨by rfl, ?_⟩) (by assumption) ?_
              rotate_left 1
              · intro w' hSw; (go_simp) <;> with_reducible rfl
              try simp only [Act.put, List.setIfInBounds_toArray, List.set_cons_zero, List.set_cons_succ]
              refine wpAnyH_take (i := 12) (v := ?_) (by (simp only [List.getElem?_toArray, List.getElem?_cons_succ, List.getElem?_cons_zero]; rfl)) (by kernel_rfl) (by kernel_rfl) (by kernel_rfl) (fun _ _ _ h => h) (Or.inl ⟨by rfl, ?_⟩) (by assumption) ?_
              rotate_left 1
              · intro w' hSw; (go_simp) <;> with_reducible rfl
              try simp only [Act.put, List.setIfInBounds_toArray, List.set_cons_zero, List.set_cons_succ]
              refine wpAnyH_ready (rs := [13]) (by kernel_rfl) (by simp) ?_
              refine AllReadyH.cons (by (simp only [List.getElem?_toArray, List.getElem?_cons_succ, List.getElem?_cons_zero]; rfl)) (fun K hK => ?_) ?_
              · go_simp
                refine hK.out _ _ ?_ (fun hHeld => ?_)
                · exact ⟨hHeld.1.down (ba (Below.refl _ _) _), hHeld.2.down (ba (Below.refl _ _) _)⟩
                clear hK K
                try simp only [Act.put, List.setIfInBounds_toArray, List.set_cons_zero, List.set_cons_succ]
                refine wpAnyH_ready (rs := [14]) (by kernel_rfl) (by simp) ?_
                refine AllReadyH.cons (by (simp only [List.getElem?_toArray, List.getElem?_cons_succ, List.getElem?_cons_zero]; rfl)) (fun K hK => ?_) ?_
                · go_simp
                  refine hK.out _ _ ?_ (fun hHeld => ?_)
                  · exact ⟨hS4.1.down (ba (Below.refl _ _) _), hS4.2.down (ba (Below.refl _ _) _)⟩
                  clear hK K
                  try simp only [Act.put, List.setIfInBounds_toArray, List.set_cons_zero, List.set_cons_succ]
                  refine wpAnyH_ready (rs := [15]) (by kernel_rfl) (by simp) ?_
                  refine AllReadyH.cons (by (simp only [List.getElem?_toArray, List.getElem?_cons_succ, List.getElem?_cons_zero]; rfl)) (fun K hK => ?_) ?_
                  · go_simp
                    refine hK.out _ _ ?_ (fun hHeld => ?_)
                    · exact hHeld
                    clear hK K
                    try simp only [Act.put, List.setIfInBounds_toArray, List.set_cons_zero, List.set_cons_succ]
                    refine wpAnyH_ready (rs := [16]) (by kernel_rfl) (by simp) ?_
                    refine AllReadyH.cons (by (simp only [List.getElem?_toArray, List.getElem?_cons_succ, List.getElem?_cons_zero]; rfl)) (fun K hK => ?_) ?_
                    · go_simp
                      refine hK.out _ _ ?_ (fun hHeld => ?_)
                      · exact hHeld
                      clear hK K
                      try simp only [Act.put, List.setIfInBounds_toArray, List.set_cons_zero, List.set_cons_succ]
                      refine wpAnyH_ready (rs := [17]) (by kernel_rfl) (by simp) ?_
                      refine AllReadyH.cons (by (simp only [List.getElem?_toArray, List.getElem?_cons_succ, List.getElem?_cons_zero]; rfl)) (fun K hK => ?_) ?_
                      · go_simp
                        refine hK.out _ _ ?_ (fun hHeld => ?_)
                        · exact hHeld
                        clear hK K
                        try simp only [Act.put, List.setIfInBounds_toArray, List.set_cons_zero, List.set_cons_succ]
                        refine wpAnyH_done (by kernel_rfl) ?_ _
                        refine NoPanic.normal ?_
                        go_wp2_with fail
                        go_meet
                        case rel => exact line_new hB.size hv4 hl4 (bt hB hb4)
                      exact AllReadyH.nil
                    exact AllReadyH.nil
                  exact AllReadyH.nil
                exact AllReadyH.nil
              exact AllReadyH.nil
            refine AllReadyH.cons (by (simp only [List.getElem?_toArray, List.getElem?_cons_succ, List.getElem?_cons_zero]; rfl)) (fun K hK => ?_) ?_
            · have hNV := hHeld.2.2.2
              go_simp
              refine hK.out _ _ ?_ (fun hHeld => ?_)
              · exact ⟨hHeld.1.down (ba (Below.refl _ _) _), hHeld.2.down (ba (Below.refl _ _) _)⟩
              clear hK K
              try simp only [Act.put, List.setIfInBounds_toArray, List.set_cons_zero, List.set_cons_succ]
              refine heldTo (fun V2 => (Has V2 S [.int .i64 q.step, .string ⟨q.frm.1.toArray⟩, .string ⟨q.frm.2.toArray⟩, .slice Gv q.rcp.length cv, .string ⟨q.text.toArray⟩, .bool q.large] ∧ Has V2 N [.string ⟨#[82, 83, 69, 84]⟩, .string ⟨#[81, 85, 73, 84]⟩]) ∧ Below wr.heap.size wr V2 ∧ Has V2 V1.heap.size [.int .i64 0, .string ⟨#[]⟩, .string ⟨#[]⟩, .slice none 0 0, .string ⟨#[]⟩, .bool false]) (fun wx => Has wx S [.int .i64 q.step, .string ⟨q.frm.1.toArray⟩, .string ⟨q.frm.2.toArray⟩, .slice Gv q.rcp.length cv, .string ⟨q.text.toArray⟩, .bool q.large] ∧ Has wx N [.string ⟨#[82, 83, 69, 84]⟩, .string ⟨#[81, 85, 73, 84]⟩]) ⟨hHeld, ba hB _, Has.alloc V1 [.int .i64 0, .string ⟨#[]⟩, .string ⟨#[]⟩, .slice none 0 0, .string ⟨#[]⟩, .bool false] _⟩ (fun V2 h => h.1) (fun _ h => h) (fun V2 hR hHeld => ?_)
              have hZ0 : wr.heap.size ≤ V1.heap.size := hB.size
              have hNZ : N ≠ V1.heap.size := by omega
              obtain ⟨-, hB, hZ⟩ := hR
              generalize V1.heap.size = Z at hZ0 hZ hNZ ⊢
              refine wpAnyH_ready (rs := [7]) (by kernel_rfl) (by simp) ?_
              refine AllReadyH.cons (by (simp only [List.getElem?_toArray, List.getElem?_cons_succ, List.getElem?_cons_zero]; rfl)) (fun K hK => ?_) ?_
              · go_simp
                go_at_call 12
                refine (hLN2.out _ (bt HB.out hB)).mono ?_
                intro e w4 hp
                obtain ⟨G4, c4', Gl, cl, rfl, hv4, hl4, hb4⟩ := hp.form
                have hS4 : Has w4 S [.int .i64 q.step, .string ⟨q.frm.1.toArray⟩, .string ⟨q.frm.2.toArray⟩, .slice Gv q.rcp.length cv, .string ⟨q.text.toArray⟩, .bool q.large] ∧ Has w4 N [.string ⟨#[82, 83, 69, 84]⟩, .string ⟨#[81, 85, 73, 84]⟩] := ⟨hHeld.1.down hb4, hHeld.2.down hb4⟩
                have kk := hZ.down hb4
                clear hp
                try (go_wp2_with fail)
                refine hK.out _ _ ?_ (fun hHeld => ?_)
                · exact hS4
                clear hK K
                try simp only [Act.put, List.setIfInBounds_toArray, List.set_cons_zero, List.set_cons_succ]
                refine wpAnyH_take (i := 8) (v := ?_) (by (simp only [List.getElem?_toArray, List.getElem?_cons_succ, List.getElem?_cons_zero]; rfl)) (by kernel_rfl) (by kernel_rfl) (by kernel_rfl) (fun _ _ _ h => h) (Or.inl ⟨by rfl, ?_⟩) (by assumption) ?_
                rotate_left 1
                · intro w' hSw; (go_simp) <;> with_reducible rfl
                try simp only [Act.put, List.setIfInBounds_toArray, List.set_cons_zero, List.set_cons_succ]
                refine wpAnyH_take (i := 9) (v := ?_) (by (simp only [List.getElem?_toArray, List.getElem?_cons_succ, List.getElem?_cons_zero]; rfl)) (by kernel_rfl) (by kernel_rfl) (by kernel_rfl) (fun _ _ _ h => h) (Or.inl ⟨by rfl, ?_⟩) (by assumption) ?_
                rotate_left 1
                · intro w' hSw; (go_simp) <;> with_reducible rfl
                try simp only [Act.put, List.setIfInBounds_toArray, List.set_cons_zero, List.set_cons_succ]
                refine wpAnyH_take (i := 10) (v := ?_) (by (simp only [List.getElem?_toArray, List.getElem?_cons_succ, List.getElem?_cons_zero]; rfl)) (by kernel_rfl) (by kernel_rfl) (by kernel_rfl) (fun _ _ _ h => h) (Or.inl ⟨by rfl, ?_⟩) (by assumption) ?_
                rotate_left 1
                · intro w' hSw; (go_simp) <;> with_reducible rfl
                try simp only [Act.put, List.setIfInBounds_toArray, List.set_cons_zero, List.set_cons_succ]
                refine wpAnyH_take (i := 11) (v := ?_) (by (simp only [List.getElem?_toArray, List.getElem?_cons_succ, List.getElem?_cons_zero]; rfl)) (by kernel_rfl) (by kernel_rfl) (by kernel_rfl) (fun _ _ _ h => h) (Or.inl ⟨by rfl, ?_⟩) (by assumption) ?_
                rotate_left 1
                · intro w' hSw; (go_simp) <;> with_reducible rfl
                try simp only [Act.put, List.setIfInBounds_toArray, List.set_cons_zero, List.set_cons_succ]
                refine wpAnyH_take (i := 12) (v := ?_) (by (simp only [List.getElem?_toArray, List.getElem?_cons_succ, List.getElem?_cons_zero]; rfl)) (by kernel_rfl) (by kernel_rfl) (by kernel_rfl) (fun _ _ _ h => h) (Or.inl ⟨by rfl, ?_⟩) (by assumption) ?_
                rotate_left 1
                · intro w' hSw; (go_simp) <;> with_reducible rfl
                try simp only [Act.put, List.setIfInBounds_toArray, List.set_cons_zero, List.set_cons_succ]
                refine wpAnyH_ready (rs := [14]) (by kernel_rfl) (by simp) ?_
                refine AllReadyH.cons (by (simp only [List.getElem?_toArray, List.getElem?_cons_succ, List.getElem?_cons_zero]; rfl)) (fun K hK => ?_) ?_
                · obtain ⟨z0, z1, z2, z3, z4, z5⟩ := kk.six
                  obtain ⟨f0, f1, f2, f3, f4, f5⟩ := kk.six_free
                  go_simp
                  refine hK.out _ _ ?_ (fun hHeld => ?_)
                  · exact ⟨((((((hHeld.1.else' (by omega) _).else' (by omega) _).else' (by omega) _).else' (by omega) _).else' (by omega) _).else' (by omega) _), ((((((hHeld.2.else' (by omega) _).else' (by omega) _).else' (by omega) _).else' (by omega) _).else' (by omega) _).else' (by omega) _)⟩
                  clear hK K
                  try simp only [Act.put, List.setIfInBounds_toArray, List.set_cons_zero, List.set_cons_succ]
                  refine wpAnyH_ready (rs := [15]) (by kernel_rfl) (by simp) ?_
                  refine AllReadyH.cons (by (simp only [List.getElem?_toArray, List.getElem?_cons_succ, List.getElem?_cons_zero]; rfl)) (fun K hK => ?_) ?_
                  · go_simp
                    refine hK.out _ _ ?_ (fun hHeld => ?_)
                    · exact hHeld
                    clear hK K
                    try simp only [Act.put, List.setIfInBounds_toArray, List.set_cons_zero, List.set_cons_succ]
                    refine wpAnyH_ready (rs := [16]) (by kernel_rfl) (by simp) ?_
                    refine AllReadyH.cons (by (simp only [List.getElem?_toArray, List.getElem?_cons_succ, List.getElem?_cons_zero]; rfl)) (fun K hK => ?_) ?_
                    · go_simp
                      refine hK.out _ _ ?_ (fun hHeld => ?_)
                      · exact hHeld
                      clear hK K
                      try simp only [Act.put, List.setIfInBounds_toArray, List.set_cons_zero, List.set_cons_succ]
                      refine wpAnyH_ready (rs := [17]) (by kernel_rfl) (by simp) ?_
                      refine AllReadyH.cons (by (simp only [List.getElem?_toArray, List.getElem?_cons_succ, List.getElem?_cons_zero]; rfl)) (fun K hK => ?_) ?_
                      · go_simp
                        refine hK.out _ _ ?_ (fun hHeld => ?_)
                        · exact hHeld
                        clear hK K
                        try simp only [Act.put, List.setIfInBounds_toArray, List.set_cons_zero, List.set_cons_succ]
                        refine wpAnyH_done (by kernel_rfl) ?_ _
                        refine NoPanic.normal ?_
                        go_wp2_with fail
                        go_meet
                        case rel => exact line_at (R := Z) hZ0 hZ.2.2 kk hv4 hl4 (bt hB hb4)
                      exact AllReadyH.nil
                    exact AllReadyH.nil
                  exact AllReadyH.nil
                exact AllReadyH.nil
              exact AllReadyH.nil
            exact AllReadyH.nil
          refine AllReadyH.cons (by (simp only [List.getElem?_toArray, List.getElem?_cons_succ, List.getElem?_cons_zero]; rfl)) (fun K hK => ?_) ?_
          · have hNV := hHeld.2.2.2
            go_simp
            refine hK.out _ _ ?_ (fun hHeld => ?_)
            · exact ⟨hHeld.1.down (ba (Below.refl _ _) _), hHeld.2.down (ba (Below.refl _ _) _)⟩
            clear hK K
            try simp only [Act.put, List.setIfInBounds_toArray, List.set_cons_zero, List.set_cons_succ]
            refine heldTo (fun V2 => (Has V2 S [.int .i64 q.step, .string ⟨q.frm.1.toArray⟩, .string ⟨q.frm.2.toArray⟩, .slice Gv q.rcp.length cv, .string ⟨q.text.toArray⟩, .bool q.large] ∧ Has V2 N [.string ⟨#[82, 83, 69, 84]⟩, .string ⟨#[81, 85, 73, 84]⟩]) ∧ Below wr.heap.size wr V2 ∧ Has V2 V1.heap.size [.int .i64 0, .string ⟨#[]⟩, .string ⟨#[]⟩, .slice none 0 0, .string ⟨#[]⟩, .bool false]) (fun wx => Has wx S [.int .i64 q.step, .string ⟨q.frm.1.toArray⟩, .string ⟨q.frm.2.toArray⟩, .slice Gv q.rcp.length cv, .string ⟨q.text.toArray⟩, .bool q.large] ∧ Has wx N [.string ⟨#[82, 83, 69, 84]⟩, .string ⟨#[81, 85, 73, 84]⟩]) ⟨hHeld, ba hB _, Has.alloc V1 [.int .i64 0, .string ⟨#[]⟩, .string ⟨#[]⟩, .slice none 0 0, .string ⟨#[]⟩, .bool false] _⟩ (fun V2 h => h.1) (fun _ h => h) (fun V2 hR hHeld => ?_)
            have hZ0 : wr.heap.size ≤ V1.heap.size := hB.size
            have hNZ : N ≠ V1.heap.size := by omega
            obtain ⟨-, hB, hZ⟩ := hR
            generalize V1.heap.size = Z at hZ0 hZ hNZ ⊢
            refine wpAnyH_ready (rs := [4]) (by kernel_rfl) (by simp) ?_
            refine AllReadyH.cons (by (simp only [List.getElem?_toArray, List.getElem?_cons_succ, List.getElem?_cons_zero]; rfl)) (fun K hK => ?_) ?_
            · go_simp
              go_at_call 7
              refine (HPK.out _).mono ?_
              rintro e w' ⟨rfl, rfl⟩
              try (go_wp2_with fail)
              refine hK.out _ _ ?_ (fun hHeld => ?_)
              · exact hHeld
              clear hK K
              try simp only [Act.put, List.setIfInBounds_toArray, List.set_cons_zero, List.set_cons_succ]
              refine wpAnyH_take (i := 5) (v := ?_) (by (simp only [List.getElem?_toArray, List.getElem?_cons_succ, List.getElem?_cons_zero]; rfl)) (by kernel_rfl) (by kernel_rfl) (by kernel_rfl) (fun _ _ _ h => h) (Or.inl ⟨by rfl, ?_⟩) (by assumption) ?_
              rotate_left 1
              · intro w' hSw; (go_simp) <;> with_reducible rfl
              try simp only [Act.put, List.setIfInBounds_toArray, List.set_cons_zero, List.set_cons_succ]
              refine wpAnyH_take (i := 6) (v := ?_) (by (simp only [List.getElem?_toArray, List.getElem?_cons_succ, List.getElem?_cons_zero]; rfl)) (by kernel_rfl) (by kernel_rfl) (by kernel_rfl) (fun _ _ _ h => h) (Or.inl ⟨by rfl, ?_⟩) (by assumption) ?_
              rotate_left 1
              · intro w' hSw; have g := HGA.out _ _ hSw.2; (go_simp) <;> with_reducible rfl
              try simp only [Act.put, List.setIfInBounds_toArray, List.set_cons_zero, List.set_cons_succ]
              refine wpAnyH_ready (rs := [7]) (by kernel_rfl) (by simp) ?_
              refine AllReadyH.cons (by (simp only [List.getElem?_toArray, List.getElem?_cons_succ, List.getElem?_cons_zero]; rfl)) (fun K hK => ?_) ?_
              · go_simp
                go_at_call 12
                refine (hLN2.out _ (bt HB.out hB)).mono ?_
                intro e w4 hp
                obtain ⟨G4, c4', Gl, cl, rfl, hv4, hl4, hb4⟩ := hp.form
                have hS4 : Has w4 S [.int .i64 q.step, .string ⟨q.frm.1.toArray⟩, .string ⟨q.frm.2.toArray⟩, .slice Gv q.rcp.length cv, .string ⟨q.text.toArray⟩, .bool q.large] ∧ Has w4 N [.string ⟨#[82, 83, 69, 84]⟩, .string ⟨#[81, 85, 73, 84]⟩] := ⟨hHeld.1.down hb4, hHeld.2.down hb4⟩
                have kk := hZ.down hb4
                clear hp
                try (go_wp2_with fail)
                refine hK.out _ _ ?_ (fun hHeld => ?_)
                · exact hS4
                clear hK K
                try simp only [Act.put, List.setIfInBounds_toArray, List.set_cons_zero, List.set_cons_succ]
                refine wpAnyH_take (i := 8) (v := ?_) (by (simp only [List.getElem?_toArray, List.getElem?_cons_succ, List.getElem?_cons_zero]; rfl)) (by kernel_rfl) (by kernel_rfl) (by kernel_rfl) (fun _ _ _ h => h) (Or.inl ⟨by rfl, ?_⟩) (by assumption) ?_
                rotate_left 1
                · intro w' hSw; (go_simp) <;> with_reducible rfl
                try simp only [Act.put, List.setIfInBounds_toArray, List.set_cons_zero, List.set_cons_succ]
                refine wpAnyH_take (i := 9) (v := ?_) (by (simp only [List.getElem?_toArray, List.getElem?_cons_succ, List.getElem?_cons_zero]; rfl)) (by kernel_rfl) (by kernel_rfl) (by kernel_rfl) (fun _ _ _ h => h) (Or.inl ⟨by rfl, ?_⟩) (by assumption) ?_
                rotate_left 1
                · intro w' hSw; (go_simp) <;> with_reducible rfl
                try simp only [Act.put, List.setIfInBounds_toArray, List.set_cons_zero, List.set_cons_succ]
                refine wpAnyH_take (i := 10) (v := ?_) (by (simp only [List.getElem?_toArray, List.getElem?_cons_succ, List.getElem?_cons_zero]; rfl)) (by kernel_rfl) (by kernel_rfl) (by kernel_rfl) (fun _ _ _ h => h) (Or.inl ⟨by rfl, ?_⟩) (by assumption) ?_
                rotate_left 1
                · intro w' hSw; (go_simp) <;> with_reducible rfl
                try simp only [Act.put, List.setIfInBounds_toArray, List.set_cons_zero, List.set_cons_succ]
                refine wpAnyH_take (i := 11) (v := ?_) (by (simp only [List.getElem?_toArray, List.getElem?_cons_succ, List.getElem?_cons_zero]; rfl)) (by kernel_rfl) (by kernel_rfl) (by kernel_rfl) (fun _ _ _ h => h) (Or.inl ⟨by rfl, ?_⟩) (by assumption) ?_
                rotate_left 1
                · intro w' hSw; (go_simp) <;> with_reducible rfl
                try simp only [Act.put, List.setIfInBounds_toArray, List.set_cons_zero, List.set_cons_succ]
                refine wpAnyH_take (i := 12) (v := ?_) (by (simp only [List.getElem?_toArray, List.getElem?_cons_succ, List.getElem?_cons_zero]; rfl)) (by kernel_rfl) (by kernel_rfl) (by kernel_rfl) (fun _ _ _ h => h) (Or.inl ⟨by rfl, ?_⟩) (by assumption) ?_
                rotate_left 1
                · intro w' hSw; (go_simp) <;> with_reducible rfl
                try simp only [Act.put, List.setIfInBounds_toArray, List.set_cons_zero, List.set_cons_succ]
                refine wpAnyH_ready (rs := [14]) (by kernel_rfl) (by simp) ?_
                refine AllReadyH.cons (by (simp only [List.getElem?_toArray, List.getElem?_cons_succ, List.getElem?_cons_zero]; rfl)) (fun K hK => ?_) ?_
                · obtain ⟨z0, z1, z2, z3, z4, z5⟩ := kk.six
                  obtain ⟨f0, f1, f2, f3, f4, f5⟩ := kk.six_free
                  go_simp
                  refine hK.out _ _ ?_ (fun hHeld => ?_)
                  · exact ⟨((((((hHeld.1.else' (by omega) _).else' (by omega) _).else' (by omega) _).else' (by omega) _).else' (by omega) _).else' (by omega) _), ((((((hHeld.2.else' (by omega) _).else' (by omega) _).else' (by omega) _).else' (by omega) _).else' (by omega) _).else' (by omega) _)⟩
                  clear hK K
                  try simp only [Act.put, List.setIfInBounds_toArray, List.set_cons_zero, List.set_cons_succ]
                  refine wpAnyH_ready (rs := [15]) (by kernel_rfl) (by simp) ?_
                  refine AllReadyH.cons (by (simp only [List.getElem?_toArray, List.getElem?_cons_succ, List.getElem?_cons_zero]; rfl)) (fun K hK => ?_) ?_
                  · go_simp
                    refine hK.out _ _ ?_ (fun hHeld => ?_)
                    · exact hHeld
                    clear hK K
                    try simp only [Act.put, List.setIfInBounds_toArray, List.set_cons_zero, List.set_cons_succ]
                    refine wpAnyH_ready (rs := [16]) (by kernel_rfl) (by simp) ?_
                    refine AllReadyH.cons (by (simp only [List.getElem?_toArray, List.getElem?_cons_succ, List.getElem?_cons_zero]; rfl)) (fun K hK => ?_) ?_
                    · go_simp
                      refine hK.out _ _ ?_ (fun hHeld => ?_)
                      · exact hHeld
                      clear hK K
                      try simp only [Act.put, List.setIfInBounds_toArray, List.set_cons_zero, List.set_cons_succ]
                      refine wpAnyH_ready (rs := [17]) (by kernel_rfl) (by simp) ?_
                      refine AllReadyH.cons (by (simp only [List.getElem?_toArray, List.getElem?_cons_succ, List.getElem?_cons_zero]; rfl)) (fun K hK => ?_) ?_
                      · go_simp
                        refine hK.out _ _ ?_ (fun hHeld => ?_)
                        · exact hHeld
                        clear hK K
                        try simp only [Act.put, List.setIfInBounds_toArray, List.set_cons_zero, List.set_cons_succ]
                        refine wpAnyH_done (by kernel_rfl) ?_ _
                        refine NoPanic.normal ?_
                        go_wp2_with fail
                        go_meet
                        case rel => exact line_at (R := Z) hZ0 hZ.2.2 kk hv4 hl4 (bt hB hb4)
                      exact AllReadyH.nil
                    exact AllReadyH.nil
                  exact AllReadyH.nil
                exact AllReadyH.nil
              exact AllReadyH.nil
            exact AllReadyH.nil
          exact AllReadyH.nil
        refine AllReadyH.cons (by (simp only [List.getElem?_toArray, List.getElem?_cons_succ, List.getElem?_cons_zero]; rfl)) (fun K hK => ?_) ?_
        · go_simp
          go_at_call 7
          refine (HPK.out _).mono ?_
          rintro e w' ⟨rfl, rfl⟩
          try (go_wp2_with fail)
          refine hK.out _ _ ?_ (fun hHeld => ?_)
          · exact hHeld
          clear hK K
          try simp only [Act.put, List.setIfInBounds_toArray, List.set_cons_zero, List.set_cons_succ]
          refine wpAnyH_ready (rs := [2, 13]) (by kernel_rfl) (by simp) ?_
          refine AllReadyH.cons (by (simp only [List.getElem?_toArray, List.getElem?_cons_succ, List.getElem?_cons_zero]; rfl)) (fun K hK => ?_) ?_
          · go_simp
            refine hK.out _ _ ?_ (fun hHeld => ?_)
            · exact hHeld.down (ba (Below.refl _ _) _)
            clear hK K
            try simp only [Act.put, List.setIfInBounds_toArray, List.set_cons_zero, List.set_cons_succ]
            refine heldTo (fun V1 => (Has V1 S [.int .i64 q.step, .string ⟨q.frm.1.toArray⟩, .string ⟨q.frm.2.toArray⟩, .slice Gv q.rcp.length cv, .string ⟨q.text.toArray⟩, .bool q.large]) ∧ Below wr.heap.size wr V1 ∧ Has V1 V0.heap.size [.string ⟨#[82, 83, 69, 84]⟩, .string ⟨#[81, 85, 73, 84]⟩]) (fun wx => Has wx S [.int .i64 q.step, .string ⟨q.frm.1.toArray⟩, .string ⟨q.frm.2.toArray⟩, .slice Gv q.rcp.length cv, .string ⟨q.text.toArray⟩, .bool q.large] ∧ Has wx V0.heap.size [.string ⟨#[82, 83, 69, 84]⟩, .string ⟨#[81, 85, 73, 84]⟩]) ⟨hHeld, ba hB _, Has.alloc V0 [.string ⟨#[82, 83, 69, 84]⟩, .string ⟨#[81, 85, 73, 84]⟩] _⟩ (fun V1 h => ⟨h.1, h.2.2⟩) (fun _ h => h.1) (fun V1 hR hHeld => ?_)
            have hN0 : wr.heap.size ≤ V0.heap.size := hB.size
            obtain ⟨-, hB, -⟩ := hR
            generalize V0.heap.size = N at hN0 hHeld ⊢
            refine wpAnyH_take (i := 5) (v := ?_) (by (simp only [List.getElem?_toArray, List.getElem?_cons_succ, List.getElem?_cons_zero]; rfl)) (by kernel_rfl) (by kernel_rfl) (by kernel_rfl) (fun _ _ _ h => h) (Or.inl ⟨by rfl, ?_⟩) (by assumption) ?_
            rotate_left 1
            · intro w' hSw; (go_simp) <;> with_reducible rfl
            try simp only [Act.put, List.setIfInBounds_toArray, List.set_cons_zero, List.set_cons_succ]
            refine wpAnyH_take (i := 6) (v := ?_) (by (simp only [List.getElem?_toArray, List.getElem?_cons_succ, List.getElem?_cons_zero]; rfl)) (by kernel_rfl) (by kernel_rfl) (by kernel_rfl) (fun _ _ _ h => h) (Or.inl ⟨by rfl, ?_⟩) (by assumption) ?_
            rotate_left 1
            · intro w' hSw; have g := HGA.out _ _ hSw.2; (go_simp) <;> with_reducible rfl
            try simp only [Act.put, List.setIfInBounds_toArray, List.set_cons_zero, List.set_cons_succ]
            refine wpAnyH_ready (rs := [7, 13]) (by kernel_rfl) (by simp) ?_
            refine AllReadyH.cons (by (simp only [List.getElem?_toArray, List.getElem?_cons_succ, List.getElem?_cons_zero]; rfl)) (fun K hK => ?_) ?_
            · go_simp
              go_at_call 12
              refine (hLN2.out _ (bt HB.out hB)).mono ?_
              intro e w4 hp
              obtain ⟨G4, c4', Gl, cl, rfl, hv4, hl4, hb4⟩ := hp.form
              have hS4 : Has w4 S [.int .i64 q.step, .string ⟨q.frm.1.toArray⟩, .string ⟨q.frm.2.toArray⟩, .slice Gv q.rcp.length cv, .string ⟨q.text.toArray⟩, .bool q.large] ∧ Has w4 N [.string ⟨#[82, 83, 69, 84]⟩, .string ⟨#[81, 85, 73, 84]⟩] := ⟨hHeld.1.down hb4, hHeld.2.down hb4⟩
              clear hp
              try (go_wp2_with fail)
              refine hK.out _ _ ?_ (fun hHeld => ?_)
              · exact hS4
              clear hK K
              try simp only [Act.put, List.setIfInBounds_toArray, List.set_cons_zero, List.set_cons_succ]
              refine wpAnyH_take (i := 8) (v := ?_) (by (simp only [List.getElem?_toArray, List.getElem?_cons_succ, List.getElem?_cons_zero]; rfl)) (by kernel_rfl) (by kernel_rfl) (by kernel_rfl) (fun _ _ _ h => h) (Or.inl ⟨by rfl, ?_⟩) (by assumption) ?_
              rotate_left 1
              · intro w' hSw; (go_simp) <;> with_reducible rfl
              try simp only [Act.put, List.setIfInBounds_toArray, List.set_cons_zero, List.set_cons_succ]
              refine wpAnyH_take (i := 9) (v := ?_) (by (simp only [List.getElem?_toArray, List.getElem?_cons_succ, List.getElem?_cons_zero]; rfl)) (by kernel_rfl) (by kernel_rfl) (by kernel_rfl) (fun _ _ _ h => h) (Or.inl ⟨by rfl, ?_⟩) (by assumption) ?_
              rotate_left 1
              · intro w' hSw; (go_simp) <;> with_reducible rfl
              try simp only [Act.put, List.setIfInBounds_toArray, List.set_cons_zero, List.set_cons_succ]
              refine wpAnyH_take (i := 10) (v := ?_) (by (simp only [List.getElem?_toArray, List.getElem?_cons_succ, List.getElem?_cons_zero]; rfl)) (by kernel_rfl) (by kernel_rfl) (by kernel_rfl) (fun _ _ _ h => h) (Or.inl ⟨by rfl, ?_⟩) (by assumption) ?_
              rotate_left 1
              · intro w' hSw; (go_simp) <;> with_reducible rfl
              try simp only [Act.put, List.setIfInBounds_toArray, List.set_cons_zero, List.set_cons_succ]
              refine wpAnyH_take (i := 11) (v := ?_) (by (simp only [List.getElem?_toArray, List.getElem?_cons_succ, List.getElem?_cons_zero]; rfl)) (by kernel_rfl) (by kernel_rfl) (by kernel_rfl) (fun _ _ _ h => h) (Or.inl ⟨by rfl, ?_⟩) (by assumption) ?_
              rotate_left 1
              · intro w' hSw; (go_simp) <;> with_reducible rfl
              try simp only [Act.put, List.setIfInBounds_toArray, List.set_cons_zero, List.set_cons_succ]
              refine wpAnyH_take (i := 12) (v := ?_) (by (simp only [List.getElem?_toArray, List.getElem?_cons_succ, List.getElem?_cons_zero]; rfl)) (by kernel_rfl) (by kernel_rfl) (by kernel_rfl) (fun _ _ _ h => h) (Or.inl ⟨by rfl, ?_⟩) (by assumption) ?_
              rotate_left 1
              · intro w' hSw; (go_simp) <;> with_reducible rfl
              try simp only [Act.put, List.setIfInBounds_toArray, List.set_cons_zero, List.set_cons_succ]
              refine wpAnyH_ready (rs := [13]) (by kernel_rfl) (by simp) ?_
              refine AllReadyH.cons (by (simp only [List.getElem?_toArray, List.getElem?_cons_succ, List.getElem?_cons_zero]; rfl)) (fun K hK => ?_) ?_
              · go_simp
                refine hK.out _ _ ?_ (fun hHeld => ?_)
                · exact ⟨hHeld.1.down (ba (Below.refl _ _) _), hHeld.2.down (ba (Below.refl _ _) _)⟩
                clear hK K
                try simp only [Act.put, List.setIfInBounds_toArray, List.set_cons_zero, List.set_cons_succ]
                refine wpAnyH_ready (rs := [14]) (by kernel_rfl) (by simp) ?_
                refine AllReadyH.cons (by (simp only [List.getElem?_toArray, List.getElem?_cons_succ, List.getElem?_cons_zero]; rfl)) (fun K hK => ?_) ?_
                · go_simp
                  refine hK.out _ _ ?_ (fun hHeld => ?_)
                  · exact ⟨hS4.1.down (ba (Below.refl _ _) _), hS4.2.down (ba (Below.refl _ _) _)⟩
                  clear hK K
                  try simp only [Act.put, List.setIfInBounds_toArray, List.set_cons_zero, List.set_cons_succ]
                  refine wpAnyH_ready (rs := [15]) (by kernel_rfl) (by simp) ?_
                  refine AllReadyH.cons (by (simp only [List.getElem?_toArray, List.getElem?_cons_succ, List.getElem?_cons_zero]; rfl)) (fun K hK => ?_) ?_
                  · go_simp
                    refine hK.out _ _ ?_ (fun hHeld => ?_)
                    · exact hHeld
                    clear hK K
                    try simp only [Act.put, List.setIfInBounds_toArray, List.set_cons_zero, List.set_cons_succ]
                    refine wpAnyH_ready (rs := [16]) (by kernel_rfl) (by simp) ?_
                    refine AllReadyH.cons (by (simp only [List.getElem?_toArray, List.getElem?_cons_succ, List.getElem?_cons_zero]; rfl)) (fun K hK => ?_) ?_
                    · go_simp
                      refine hK.out _ _ ?_ (fun hHeld => ?_)
                      · exact hHeld
                      clear hK K
                      try simp only [Act.put, List.setIfInBounds_toArray, List.set_cons_zero, List.set_cons_succ]
                      refine wpAnyH_ready (rs := [17]) (by kernel_rfl) (by simp) ?_
                      refine AllReadyH.cons (by (simp only [List.getElem?_toArray, List.getElem?_cons_succ, List.getElem?_cons_zero]; rfl)) (fun K hK => ?_) ?_
                      · go_simp
                        refine hK.out _ _ ?_ (fun hHeld => ?_)
                        · exact hHeld
                        clear hK K
                        try simp only [Act.put, List.setIfInBounds_toArray, List.set_cons_zero, List.set_cons_succ]
                        refine wpAnyH_done (by kernel_rfl) ?_ _
                        refine NoPanic.normal ?_
                        go_wp2_with fail
                        go_meet
                        case rel => exact line_new hB.size hv4 hl4 (bt hB hb4)
                      exact AllReadyH.nil
                    exact AllReadyH.nil
                  exact AllReadyH.nil
                exact AllReadyH.nil
              exact AllReadyH.nil
            refine AllReadyH.cons (by (simp only [List.getElem?_toArray, List.getElem?_cons_succ, List.getElem?_cons_zero]; rfl)) (fun K hK => ?_) ?_
            · have hNV := hHeld.2.2.2
              go_simp
              refine hK.out _ _ ?_ (fun hHeld => ?_)
              · exact ⟨hHeld.1.down (ba (Below.refl _ _) _), hHeld.2.down (ba (Below.refl _ _) _)⟩
              clear hK K
              try simp only [Act.put, List.setIfInBounds_toArray, List.set_cons_zero, List.set_cons_succ]
              refine heldTo (fun V2 => (Has V2 S [.int .i64 q.step, .string ⟨q.frm.1.toArray⟩, .string ⟨q.frm.2.toArray⟩, .slice Gv q.rcp.length cv, .string ⟨q.text.toArray⟩, .bool q.large] ∧ Has V2 N [.string ⟨#[82, 83, 69, 84]⟩, .string ⟨#[81, 85, 73, 84]⟩]) ∧ Below wr.heap.size wr V2 ∧ Has V2 V1.heap.size [.int .i64 0, .string ⟨#[]⟩, .string ⟨#[]⟩, .slice none 0 0, .string ⟨#[]⟩, .bool false]) (fun wx => Has wx S [.int .i64 q.step, .string ⟨q.frm.1.toArray⟩, .string ⟨q.frm.2.toArray⟩, .slice Gv q.rcp.length cv, .string ⟨q.text.toArray⟩, .bool q.large] ∧ Has wx N [.string ⟨#[82, 83, 69, 84]⟩, .string ⟨#[81, 85, 73, 84]⟩]) ⟨hHeld, ba hB _, Has.alloc V1 [.int .i64 0, .string ⟨#[]⟩, .string ⟨#[]⟩, .slice none 0 0, .string ⟨#[]⟩, .bool false] _⟩ (fun V2 h => h.1) (fun _ h => h) (fun V2 hR hHeld => ?_)
              have hZ0 : wr.heap.size ≤ V1.heap.size := hB.size
              have hNZ : N ≠ V1.heap.size := by omega
              obtain ⟨-, hB, hZ⟩ := hR
              generalize V1.heap.size = Z at hZ0 hZ hNZ ⊢
              refine wpAnyH_ready (rs := [7]) (by kernel_rfl) (by simp) ?_
              refine AllReadyH.cons (by (simp only [List.getElem?_toArray, List.getElem?_cons_succ, List.getElem?_cons_zero]; rfl)) (fun K hK => ?_) ?_
              · go_simp
                go_at_call 12
                refine (hLN2.out _ (bt HB.out hB)).mono ?_
                intro e w4 hp
                obtain ⟨G4, c4', Gl, cl, rfl, hv4, hl4, hb4⟩ := hp.form
                have hS4 : Has w4 S [.int .i64 q.step, .string ⟨q.frm.1.toArray⟩, .string ⟨q.frm.2.toArray⟩, .slice Gv q.rcp.length cv, .string ⟨q.text.toArray⟩, .bool q.large] ∧ Has w4 N [.string ⟨#[82, 83, 69, 84]⟩, .string ⟨#[81, 85, 73, 84]⟩] := ⟨hHeld.1.down hb4, hHeld.2.down hb4⟩
                have kk := hZ.down hb4
                clear hp
                try (go_wp2_with fail)
                refine hK.out _ _ ?_ (fun hHeld => ?_)
                · exact hS4
                clear hK K
                try simp only [Act.put, List.setIfInBounds_toArray, List.set_cons_zero, List.set_cons_succ]
                refine wpAnyH_take (i := 8) (v := ?_) (by (simp only [List.getElem?_toArray, List.getElem?_cons_succ, List.getElem?_cons_zero]; rfl)) (by kernel_rfl) (by kernel_rfl) (by kernel_rfl) (fun _ _ _ h => h) (Or.inl ⟨by rfl, ?_⟩) (by assumption) ?_
                rotate_left 1
                · intro w' hSw; (go_simp) <;> with_reducible rfl
                try simp only [Act.put, List.setIfInBounds_toArray, List.set_cons_zero, List.set_cons_succ]
                refine wpAnyH_take (i := 9) (v := ?_) (by (simp only [List.getElem?_toArray, List.getElem?_cons_succ, List.getElem?_cons_zero]; rfl)) (by kernel_rfl) (by kernel_rfl) (by kernel_rfl) (fun _ _ _ h => h) (Or.inl ⟨by rfl, ?_⟩) (by assumption) ?_
                rotate_left 1
                · intro w' hSw; (go_simp) <;> with_reducible rfl
                try simp only [Act.put, List.setIfInBounds_toArray, List.set_cons_zero, List.set_cons_succ]
                refine wpAnyH_take (i := 10) (v := ?_) (by (simp only [List.getElem?_toArray, List.getElem?_cons_succ, List.getElem?_cons_zero]; rfl)) (by kernel_rfl) (by kernel_rfl) (by kernel_rfl) (fun _ _ _ h => h) (Or.inl ⟨by rfl, ?_⟩) (by assumption) ?_
                rotate_left 1
                · intro w' hSw; (go_simp) <;> with_reducible rfl
                try simp only [Act.put, List.setIfInBounds_toArray, List.set_cons_zero, List.set_cons_succ]
                refine wpAnyH_take (i := 11) (v := ?_) (by (simp only [List.getElem?_toArray, List.getElem?_cons_succ, List.getElem?_cons_zero]; rfl)) (by kernel_rfl) (by kernel_rfl) (by kernel_rfl) (fun _ _ _ h => h) (Or.inl ⟨by rfl, ?_⟩) (by assumption) ?_
                rotate_left 1
                · intro w' hSw; (go_simp) <;> with_reducible rfl
                try simp only [Act.put, List.setIfInBounds_toArray, List.set_cons_zero, List.set_cons_succ]
                refine wpAnyH_take (i := 12) (v := ?_) (by (simp only [List.getElem?_toArray, List.getElem?_cons_succ, List.getElem?_cons_zero]; rfl)) (by kernel_rfl) (by kernel_rfl) (by kernel_rfl) (fun _ _ _ h => h) (Or.inl ⟨by rfl, ?_⟩) (by assumption) ?_
                rotate_left 1
                · intro w' hSw; (go_simp) <;> with_reducible rfl
                try simp only [Act.put, List.setIfInBounds_toArray, List.set_cons_zero, List.set_cons_succ]
                refine wpAnyH_ready (rs := [14]) (by kernel_rfl) (by simp) ?_
                refine AllReadyH.cons (by (simp only [List.getElem?_toArray, List.getElem?_cons_succ, List.getElem?_cons_zero]; rfl)) (fun K hK => ?_) ?_
                · obtain ⟨z0, z1, z2, z3, z4, z5⟩ := kk.six
                  obtain ⟨f0, f1, f2, f3, f4, f5⟩ := kk.six_free
                  go_simp
                  refine hK.out _ _ ?_ (fun hHeld => ?_)
                  · exact ⟨((((((hHeld.1.else' (by omega) _).else' (by omega) _).else' (by omega) _).else' (by omega) _).else' (by omega) _).else' (by omega) _), ((((((hHeld.2.else' (by omega) _).else' (by omega) _).else' (by omega) _).else' (by omega) _).else' (by omega) _).else' (by omega) _)⟩
                  clear hK K
                  try simp only [Act.put, List.setIfInBounds_toArray, List.set_cons_zero, List.set_cons_succ]
                  refine wpAnyH_ready (rs := [15]) (by kernel_rfl) (by simp) ?_
                  refine AllReadyH.cons (by (simp only [List.getElem?_toArray, List.getElem?_cons_succ, List.getElem?_cons_zero]; rfl)) (fun K hK => ?_) ?_
                  · go_simp
                    refine hK.out _ _ ?_ (fun hHeld => ?_)
                    · exact hHeld
                    clear hK K
                    try simp only [Act.put, List.setIfInBounds_toArray, List.set_cons_zero, List.set_cons_succ]
                    refine wpAnyH_ready (rs := [16]) (by kernel_rfl) (by simp) ?_
                    refine AllReadyH.cons (by (simp only [List.getElem?_toArray, List.getElem?_cons_succ, List.getElem?_cons_zero]; rfl)) (fun K hK => ?_) ?_
                    · go_simp
                      refine hK.out _ _ ?_ (fun hHeld => ?_)
                      · exact hHeld
                      clear hK K
                      try simp only [Act.put, List.setIfInBounds_toArray, List.set_cons_zero, List.set_cons_succ]
                      refine wpAnyH_ready (rs := [17]) (by kernel_rfl) (by simp) ?_
                      refine AllReadyH.cons (by (simp only [List.getElem?_toArray, List.getElem?_cons_succ, List.getElem?_cons_zero]; rfl)) (fun K hK => ?_) ?_
                      · go_simp
                        refine hK.out _ _ ?_ (fun hHeld => ?_)
                        · exact hHeld
                        clear hK K
                        try simp only [Act.put, List.setIfInBounds_toArray, List.set_cons_zero, List.set_cons_succ]
                        refine wpAnyH_done (by kernel_rfl) ?_ _
                        refine NoPanic.normal ?_
                        go_wp2_with fail
                        go_meet
                        case rel => exact line_at (R := Z) hZ0 hZ.2.2 kk hv4 hl4 (bt hB hb4)
                      exact AllReadyH.nil
                    exact AllReadyH.nil
                  exact AllReadyH.nil
                exact AllReadyH.nil
              exact AllReadyH.nil
            exact AllReadyH.nil
          refine AllReadyH.cons (by (simp only [List.getElem?_toArray, List.getElem?_cons_succ, List.getElem?_cons_zero]; rfl)) (fun K hK => ?_) ?_
          · go_simp
            refine hK.out _ _ ?_ (fun hHeld => ?_)
            · exact hHeld.down (ba (Below.refl _ _) _)
            clear hK K
            try simp only [Act.put, List.setIfInBounds_toArray, List.set_cons_zero, List.set_cons_succ]
            refine heldTo (fun V1 => (Has V1 S [.int .i64 q.step, .string ⟨q.frm.1.toArray⟩, .string ⟨q.frm.2.toArray⟩, .slice Gv q.rcp.length cv, .string ⟨q.text.toArray⟩, .bool q.large]) ∧ Below wr.heap.size wr V1 ∧ Has V1 V0.heap.size [.int .i64 0, .string ⟨#[]⟩, .string ⟨#[]⟩, .slice none 0 0, .string ⟨#[]⟩, .bool false]) (fun wx => Has wx S [.int .i64 q.step, .string ⟨q.frm.1.toArray⟩, .string ⟨q.frm.2.toArray⟩, .slice Gv q.rcp.length cv, .string ⟨q.text.toArray⟩, .bool q.large]) ⟨hHeld, ba hB _, Has.alloc V0 [.int .i64 0, .string ⟨#[]⟩, .string ⟨#[]⟩, .slice none 0 0, .string ⟨#[]⟩, .bool false] _⟩ (fun V1 h => h.1) (fun _ h => h) (fun V1 hR hHeld => ?_)
            have hZ0 : wr.heap.size ≤ V0.heap.size := hB.size
            obtain ⟨-, hB, hZ⟩ := hR
            generalize V0.heap.size = Z at hZ0 hZ ⊢
            refine wpAnyH_ready (rs := [2]) (by kernel_rfl) (by simp) ?_
            refine AllReadyH.cons (by (simp only [List.getElem?_toArray, List.getElem?_cons_succ, List.getElem?_cons_zero]; rfl)) (fun K hK => ?_) ?_
            · go_simp
              refine hK.out _ _ ?_ (fun hHeld => ?_)
              · exact hHeld.down (ba (Below.refl _ _) _)
              clear hK K
              try simp only [Act.put, List.setIfInBounds_toArray, List.set_cons_zero, List.set_cons_succ]
              refine heldTo (fun V2 => (Has V2 S [.int .i64 q.step, .string ⟨q.frm.1.toArray⟩, .string ⟨q.frm.2.toArray⟩, .slice Gv q.rcp.length cv, .string ⟨q.text.toArray⟩, .bool q.large]) ∧ Below wr.heap.size wr V2 ∧ Has V2 V1.heap.size [.string ⟨#[82, 83, 69, 84]⟩, .string ⟨#[81, 85, 73, 84]⟩] ∧ Has V2 Z [.int .i64 0, .string ⟨#[]⟩, .string ⟨#[]⟩, .slice none 0 0, .string ⟨#[]⟩, .bool false]) (fun wx => Has wx S [.int .i64 q.step, .string ⟨q.frm.1.toArray⟩, .string ⟨q.frm.2.toArray⟩, .slice Gv q.rcp.length cv, .string ⟨q.text.toArray⟩, .bool q.large] ∧ Has wx V1.heap.size [.string ⟨#[82, 83, 69, 84]⟩, .string ⟨#[81, 85, 73, 84]⟩]) ⟨hHeld, ba hB _, Has.alloc V1 [.string ⟨#[82, 83, 69, 84]⟩, .string ⟨#[81, 85, 73, 84]⟩] _, hZ.down (ba (Below.refl _ _) _)⟩ (fun V2 h => ⟨h.1, h.2.2.1⟩) (fun _ h => h.1) (fun V2 hR hHeld => ?_)
              have hN0 : wr.heap.size ≤ V1.heap.size := hB.size
              have hNZ : V1.heap.size ≠ Z := by have := hZ.2.2; omega
              obtain ⟨-, hB, -, hZ⟩ := hR
              generalize V1.heap.size = N at hN0 hHeld hNZ ⊢
              refine wpAnyH_take (i := 5) (v := ?_) (by (simp only [List.getElem?_toArray, List.getElem?_cons_succ, List.getElem?_cons_zero]; rfl)) (by kernel_rfl) (by kernel_rfl) (by kernel_rfl) (fun _ _ _ h => h) (Or.inl ⟨by rfl, ?_⟩) (by assumption) ?_
              rotate_left 1
              · intro w' hSw; (go_simp) <;> with_reducible rfl
              try simp only [Act.put, List.setIfInBounds_toArray, List.set_cons_zero, List.set_cons_succ]
              refine wpAnyH_take (i := 6) (v := ?_) (by (simp only [List.getElem?_toArray, List.getElem?_cons_succ, List.getElem?_cons_zero]; rfl)) (by kernel_rfl) (by kernel_rfl) (by kernel_rfl) (fun _ _ _ h => h) (Or.inl ⟨by rfl, ?_⟩) (by assumption) ?_
              rotate_left 1
              · intro w' hSw; have g := HGA.out _ _ hSw.2; (go_simp) <;> with_reducible rfl
              try simp only [Act.put, List.setIfInBounds_toArray, List.set_cons_zero, List.set_cons_succ]
              refine wpAnyH_ready (rs := [7]) (by kernel_rfl) (by simp) ?_
              refine AllReadyH.cons (by (simp only [List.getElem?_toArray, List.getElem?_cons_succ, List.getElem?_cons_zero]; rfl)) (fun K hK => ?_) ?_
              · go_simp
                go_at_call 12
                refine (hLN2.out _ (bt HB.out hB)).mono ?_
                intro e w4 hp
                obtain ⟨G4, c4', Gl, cl, rfl, hv4, hl4, hb4⟩ := hp.form
                have hS4 : Has w4 S [.int .i64 q.step, .string ⟨q.frm.1.toArray⟩, .string ⟨q.frm.2.toArray⟩, .slice Gv q.rcp.length cv, .string ⟨q.text.toArray⟩, .bool q.large] ∧ Has w4 N [.string ⟨#[82, 83, 69, 84]⟩, .string ⟨#[81, 85, 73, 84]⟩] := ⟨hHeld.1.down hb4, hHeld.2.down hb4⟩
                have kk := hZ.down hb4
                clear hp
                try (go_wp2_with fail)
                refine hK.out _ _ ?_ (fun hHeld => ?_)
                · exact hS4
                clear hK K
                try simp only [Act.put, List.setIfInBounds_toArray, List.set_cons_zero, List.set_cons_succ]
                refine wpAnyH_take (i := 8) (v := ?_) (by (simp only [List.getElem?_toArray, List.getElem?_cons_succ, List.getElem?_cons_zero]; rfl)) (by kernel_rfl) (by kernel_rfl) (by kernel_rfl) (fun _ _ _ h => h) (Or.inl ⟨by rfl, ?_⟩) (by assumption) ?_
                rotate_left 1
                · intro w' hSw; (go_simp) <;> with_reducible rfl
                try simp only [Act.put, List.setIfInBounds_toArray, List.set_cons_zero, List.set_cons_succ]
                refine wpAnyH_take (i := 9) (v := ?_) (by (simp only [List.getElem?_toArray, List.getElem?_cons_succ, List.getElem?_cons_zero]; rfl)) (by kernel_rfl) (by kernel_rfl) (by kernel_rfl) (fun _ _ _ h => h) (Or.inl ⟨by rfl, ?_⟩) (by assumption) ?_
                rotate_left 1
                · intro w' hSw; (go_simp) <;> with_reducible rfl
                try simp only [Act.put, List.setIfInBounds_toArray, List.set_cons_zero, List.set_cons_succ]
                refine wpAnyH_take (i := 10) (v := ?_) (by (simp only [List.getElem?_toArray, List.getElem?_cons_succ, List.getElem?_cons_zero]; rfl)) (by kernel_rfl) (by kernel_rfl) (by kernel_rfl) (fun _ _ _ h => h) (Or.inl ⟨by rfl, ?_⟩) (by assumption) ?_
                rotate_left 1
                · intro w' hSw; (go_simp) <;> with_reducible rfl
                try simp only [Act.put, List.setIfInBounds_toArray, List.set_cons_zero, List.set_cons_succ]
                refine wpAnyH_take (i := 11) (v := ?_) (by (simp only [List.getElem?_toArray, List.getElem?_cons_succ, List.getElem?_cons_zero]; rfl)) (by kernel_rfl) (by kernel_rfl) (by kernel_rfl) (fun _ _ _ h => h) (Or.inl ⟨by rfl, ?_⟩) (by assumption) ?_
                rotate_left 1
                · intro w' hSw; (go_simp) <;> with_reducible rfl
                try simp only [Act.put, List.setIfInBounds_toArray, List.set_cons_zero, List.set_cons_succ]
                refine wpAnyH_take (i := 12) (v := ?_) (by (simp only [List.getElem?_toArray, List.getElem?_cons_succ, List.getElem?_cons_zero]; rfl)) (by kernel_rfl) (by kernel_rfl) (by kernel_rfl) (fun _ _ _ h => h) (Or.inl ⟨by rfl, ?_⟩) (by assumption) ?_
                rotate_left 1
                · intro w' hSw; (go_simp) <;> with_reducible rfl
                try simp only [Act.put, List.setIfInBounds_toArray, List.set_cons_zero, List.set_cons_succ]
                refine wpAnyH_ready (rs := [14]) (by kernel_rfl) (by simp) ?_
                refine AllReadyH.cons (by (simp only [List.getElem?_toArray, List.getElem?_cons_succ, List.getElem?_cons_zero]; rfl)) (fun K hK => ?_) ?_
                · obtain ⟨z0, z1, z2, z3, z4, z5⟩ := kk.six
                  obtain ⟨f0, f1, f2, f3, f4, f5⟩ := kk.six_free
                  go_simp
                  refine hK.out _ _ ?_ (fun hHeld => ?_)
                  · exact ⟨((((((hHeld.1.else' (by omega) _).else' (by omega) _).else' (by omega) _).else' (by omega) _).else' (by omega) _).else' (by omega) _), ((((((hHeld.2.else' (by omega) _).else' (by omega) _).else' (by omega) _).else' (by omega) _).else' (by omega) _).else' (by omega) _)⟩
                  clear hK K
                  try simp only [Act.put, List.setIfInBounds_toArray, List.set_cons_zero, List.set_cons_succ]
                  refine wpAnyH_ready (rs := [15]) (by kernel_rfl) (by simp) ?_
                  refine AllReadyH.cons (by (simp only [List.getElem?_toArray, List.getElem?_cons_succ, List.getElem?_cons_zero]; rfl)) (fun K hK => ?_) ?_
                  · go_simp
                    refine hK.out _ _ ?_ (fun hHeld => ?_)
                    · exact hHeld
                    clear hK K
                    try simp only [Act.put, List.setIfInBounds_toArray, List.set_cons_zero, List.set_cons_succ]
                    refine wpAnyH_ready (rs := [16]) (by kernel_rfl) (by simp) ?_
                    refine AllReadyH.cons (by (simp only [List.getElem?_toArray, List.getElem?_cons_succ, List.getElem?_cons_zero]; rfl)) (fun K hK => ?_) ?_
                    · go_simp
                      refine hK.out _ _ ?_ (fun hHeld => ?_)
                      · exact hHeld
                      clear hK K
                      try simp only [Act.put, List.setIfInBounds_toArray, List.set_cons_zero, List.set_cons_succ]
                      refine wpAnyH_ready (rs := [17]) (by kernel_rfl) (by simp) ?_
                      refine AllReadyH.cons (by (simp only [List.getElem?_toArray, List.getElem?_cons_succ, List.getElem?_cons_zero]; rfl)) (fun K hK => ?_) ?_
                      · go_simp
                        refine hK.out _ _ ?_ (fun hHeld => ?_)
                        · exact hHeld
                        clear hK K
                        try simp only [Act.put, List.setIfInBounds_toArray, List.set_cons_zero, List.set_cons_succ]
                        refine wpAnyH_done (by kernel_rfl) ?_ _
                        refine NoPanic.normal ?_
                        go_wp2_with fail
                        go_meet
                        case rel => exact line_at (R := Z) hZ0 hZ.2.2 kk hv4 hl4 (bt hB hb4)
                      exact AllReadyH.nil
                    exact AllReadyH.nil
                  exact AllReadyH.nil
                exact AllReadyH.nil
              exact AllReadyH.nil
            exact AllReadyH.nil
          exact AllReadyH.nil
        refine AllReadyH.cons (by (simp only [List.getElem?_toArray, List.getElem?_cons_succ, List.getElem?_cons_zero]; rfl)) (fun K hK => ?_) ?_
        · go_simp
          refine hK.out _ _ ?_ (fun hHeld => ?_)
          · exact hHeld.down (ba (Below.refl _ _) _)
          clear hK K
          try simp only [Act.put, List.setIfInBounds_toArray, List.set_cons_zero, List.set_cons_succ]
          refine heldTo (fun V1 => (Has V1 S [.int .i64 q.step, .string ⟨q.frm.1.toArray⟩, .string ⟨q.frm.2.toArray⟩, .slice Gv q.rcp.length cv, .string ⟨q.text.toArray⟩, .bool q.large]) ∧ Below wr.heap.size wr V1 ∧ Has V1 V0.heap.size [.int .i64 0, .string ⟨#[]⟩, .string ⟨#[]⟩, .slice none 0 0, .string ⟨#[]⟩, .bool false]) (fun wx => Has wx S [.int .i64 q.step, .string ⟨q.frm.1.toArray⟩, .string ⟨q.frm.2.toArray⟩, .slice Gv q.rcp.length cv, .string ⟨q.text.toArray⟩, .bool q.large]) ⟨hHeld, ba hB _, Has.alloc V0 [.int .i64 0, .string ⟨#[]⟩, .string ⟨#[]⟩, .slice none 0 0, .string ⟨#[]⟩, .bool false] _⟩ (fun V1 h => h.1) (fun _ h => h) (fun V1 hR hHeld => ?_)
          have hZ0 : wr.heap.size ≤ V0.heap.size := hB.size
          obtain ⟨-, hB, hZ⟩ := hR
          generalize V0.heap.size = Z at hZ0 hZ ⊢
          refine wpAnyH_ready (rs := [2, 4]) (by kernel_rfl) (by simp) ?_
          refine AllReadyH.cons (by (simp only [List.getElem?_toArray, List.getElem?_cons_succ, List.getElem?_cons_zero]; rfl)) (fun K hK => ?_) ?_
          · go_simp
            refine hK.out _ _ ?_ (fun hHeld => ?_)
            · exact hHeld.down (ba (Below.refl _ _) _)
            clear hK K
            try simp only [Act.put, List.setIfInBounds_toArray, List.set_cons_zero, List.set_cons_succ]
            refine heldTo (fun V2 => (Has V2 S [.int .i64 q.step, .string ⟨q.frm.1.toArray⟩, .string ⟨q.frm.2.toArray⟩, .slice Gv q.rcp.length cv, .string ⟨q.text.toArray⟩, .bool q.large]) ∧ Below wr.heap.size wr V2 ∧ Has V2 V1.heap.size [.string ⟨#[82, 83, 69, 84]⟩, .string ⟨#[81, 85, 73, 84]⟩] ∧ Has V2 Z [.int .i64 0, .string ⟨#[]⟩, .string ⟨#[]⟩, .slice none 0 0, .string ⟨#[]⟩, .bool false]) (fun wx => Has wx S [.int .i64 q.step, .string ⟨q.frm.1.toArray⟩, .string ⟨q.frm.2.toArray⟩, .slice Gv q.rcp.length cv, .string ⟨q.text.toArray⟩, .bool q.large] ∧ Has wx V1.heap.size [.string ⟨#[82, 83, 69, 84]⟩, .string ⟨#[81, 85, 73, 84]⟩]) ⟨hHeld, ba hB _, Has.alloc V1 [.string ⟨#[82, 83, 69, 84]⟩, .string ⟨#[81, 85, 73, 84]⟩] _, hZ.down (ba (Below.refl _ _) _)⟩ (fun V2 h => ⟨h.1, h.2.2.1⟩) (fun _ h => h.1) (fun V2 hR hHeld => ?_)
            have hN0 : wr.heap.size ≤ V1.heap.size := hB.size
            have hNZ : V1.heap.size ≠ Z := by have := hZ.2.2; omega
            obtain ⟨-, hB, -, hZ⟩ := hR
            generalize V1.heap.size = N at hN0 hHeld hNZ ⊢
            refine wpAnyH_ready (rs := [4]) (by kernel_rfl) (by simp) ?_
            refine AllReadyH.cons (by (simp only [List.getElem?_toArray, List.getElem?_cons_succ, List.getElem?_cons_zero]; rfl)) (fun K hK => ?_) ?_
            · go_simp
              go_at_call 7
              refine (HPK.out _).mono ?_
              rintro e w' ⟨rfl, rfl⟩
              try (go_wp2_with fail)
              refine hK.out _ _ ?_ (fun hHeld => ?_)
              · exact hHeld
              clear hK K
              try simp only [Act.put, List.setIfInBounds_toArray, List.set_cons_zero, List.set_cons_succ]
              refine wpAnyH_take (i := 5) (v := ?_) (by (simp only [List.getElem?_toArray, List.getElem?_cons_succ, List.getElem?_cons_zero]; rfl)) (by kernel_rfl) (by kernel_rfl) (by kernel_rfl) (fun _ _ _ h => h) (Or.inl ⟨by rfl, ?_⟩) (by assumption) ?_
              rotate_left 1
              · intro w' hSw; (go_simp) <;> with_reducible rfl
              try simp only [Act.put, List.setIfInBounds_toArray, List.set_cons_zero, List.set_cons_succ]
              refine wpAnyH_take (i := 6) (v := ?_) (by (simp only [List.getElem?_toArray, List.getElem?_cons_succ, List.getElem?_cons_zero]; rfl)) (by kernel_rfl) (by kernel_rfl) (by kernel_rfl) (fun _ _ _ h => h) (Or.inl ⟨by rfl, ?_⟩) (by assumption) ?_
              rotate_left 1
              · intro w' hSw; have g := HGA.out _ _ hSw.2; (go_simp) <;> with_reducible rfl
              try simp only [Act.put, List.setIfInBounds_toArray, List.set_cons_zero, List.set_cons_succ]
              refine wpAnyH_ready (rs := [7]) (by kernel_rfl) (by simp) ?_
              refine AllReadyH.cons (by (simp only [List.getElem?_toArray, List.getElem?_cons_succ, List.getElem?_cons_zero]; rfl)) (fun K hK => ?_) ?_
              · go_simp
                go_at_call 12
                refine (hLN2.out _ (bt HB.out hB)).mono ?_
                intro e w4 hp
                obtain ⟨G4, c4', Gl, cl, rfl, hv4, hl4, hb4⟩ := hp.form
                have hS4 : Has w4 S [.int .i64 q.step, .string ⟨q.frm.1.toArray⟩, .string ⟨q.frm.2.toArray⟩, .slice Gv q.rcp.length cv, .string ⟨q.text.toArray⟩, .bool q.large] ∧ Has w4 N [.string ⟨#[82, 83, 69, 84]⟩, .string ⟨#[81, 85, 73, 84]⟩] := ⟨hHeld.1.down hb4, hHeld.2.down hb4⟩
                have kk := hZ.down hb4
                clear hp
                try (go_wp2_with fail)
                refine hK.out _ _ ?_ (fun hHeld => ?_)
                · exact hS4
                clear hK K
                try simp only [Act.put, List.setIfInBounds_toArray, List.set_cons_zero, List.set_cons_succ]
                refine wpAnyH_take (i := 8) (v := ?_) (by (simp only [List.getElem?_toArray, List.getElem?_cons_succ, List.getElem?_cons_zero]; rfl)) (by kernel_rfl) (by kernel_rfl) (by kernel_rfl) (fun _ _ _ h => h) (Or.inl ⟨by rfl, ?_⟩) (by assumption) ?_
                rotate_left 1
                · intro w' hSw; (go_simp) <;> with_reducible rfl
                try simp only [Act.put, List.setIfInBounds_toArray, List.set_cons_zero, List.set_cons_succ]
                refine wpAnyH_take (i := 9) (v := ?_) (by (simp only [List.getElem?_toArray, List.getElem?_cons_succ, List.getElem?_cons_zero]; rfl)) (by kernel_rfl) (by kernel_rfl) (by kernel_rfl) (fun _ _ _ h => h) (Or.inl ⟨by rfl, ?_⟩) (by assumption) ?_
                rotate_left 1
                · intro w' hSw; (go_simp) <;> with_reducible rfl
                try simp only [Act.put, List.setIfInBounds_toArray, List.set_cons_zero, List.set_cons_succ]
                refine wpAnyH_take (i := 10) (v := ?_) (by (simp only [List.getElem?_toArray, List.getElem?_cons_succ, List.getElem?_cons_zero]; rfl)) (by kernel_rfl) (by kernel_rfl) (by kernel_rfl) (fun _ _ _ h => h) (Or.inl ⟨by rfl, ?_⟩) (by assumption) ?_
                rotate_left 1
                · intro w' hSw; (go_simp) <;> with_reducible rfl
                try simp only [Act.put, List.setIfInBounds_toArray, List.set_cons_zero, List.set_cons_succ]
                refine wpAnyH_take (i := 11) (v := ?_) (by (simp only [List.getElem?_toArray, List.getElem?_cons_succ, List.getElem?_cons_zero]; rfl)) (by kernel_rfl) (by kernel_rfl) (by kernel_rfl) (fun _ _ _ h => h) (Or.inl ⟨by rfl, ?_⟩) (by assumption) ?_
                rotate_left 1
                · intro w' hSw; (go_simp) <;> with_reducible rfl
                try simp only [Act.put, List.setIfInBounds_toArray, List.set_cons_zero, List.set_cons_succ]
                refine wpAnyH_take (i := 12) (v := ?_) (by (simp only [List.getElem?_toArray, List.getElem?_cons_succ, List.getElem?_cons_zero]; rfl)) (by kernel_rfl) (by kernel_rfl) (by kernel_rfl) (fun _ _ _ h => h) (Or.inl ⟨by rfl, ?_⟩) (by assumption) ?_
                rotate_left 1
                · intro w' hSw; (go_simp) <;> with_reducible rfl
                try simp only [Act.put, List.setIfInBounds_toArray, List.set_cons_zero, List.set_cons_succ]
                refine wpAnyH_ready (rs := [14]) (by kernel_rfl) (by simp) ?_
                refine AllReadyH.cons (by (simp only [List.getElem?_toArray, List.getElem?_cons_succ, List.getElem?_cons_zero]; rfl)) (fun K hK => ?_) ?_
                · obtain ⟨z0, z1, z2, z3, z4, z5⟩ := kk.six
                  obtain ⟨f0, f1, f2, f3, f4, f5⟩ := kk.six_free
                  go_simp
                  refine hK.out _ _ ?_ (fun hHeld => ?_)
                  · exact ⟨((((((hHeld.1.else' (by omega) _).else' (by omega) _).else' (by omega) _).else' (by omega) _).else' (by omega) _).else' (by omega) _), ((((((hHeld.2.else' (by omega) _).else' (by omega) _).else' (by omega) _).else' (by omega) _).else' (by omega) _).else' (by omega) _)⟩
                  clear hK K
                  try simp only [Act.put, List.setIfInBounds_toArray, List.set_cons_zero, List.set_cons_succ]
                  refine wpAnyH_ready (rs := [15]) (by kernel_rfl) (by simp) ?_
                  refine AllReadyH.cons (by (simp only [List.getElem?_toArray, List.getElem?_cons_succ, List.getElem?_cons_zero]; rfl)) (fun K hK => ?_) ?_
                  · go_simp
                    refine hK.out _ _ ?_ (fun hHeld => ?_)
                    · exact hHeld
                    clear hK K
                    try simp only [Act.put, List.setIfInBounds_toArray, List.set_cons_zero, List.set_cons_succ]
                    refine wpAnyH_ready (rs := [16]) (by kernel_rfl) (by simp) ?_
                    refine AllReadyH.cons (by (simp only [List.getElem?_toArray, List.getElem?_cons_succ, List.getElem?_cons_zero]; rfl)) (fun K hK => ?_) ?_
                    · go_simp
                      refine hK.out _ _ ?_ (fun hHeld => ?_)
                      · exact hHeld
                      clear hK K
                      try simp only [Act.put, List.setIfInBounds_toArray, List.set_cons_zero, List.set_cons_succ]
                      refine wpAnyH_ready (rs := [17]) (by kernel_rfl) (by simp) ?_
                      refine AllReadyH.cons (by (simp only [List.getElem?_toArray, List.getElem?_cons_succ, List.getElem?_cons_zero]; rfl)) (fun K hK => ?_) ?_
                      · go_simp
                        refine hK.out _ _ ?_ (fun hHeld => ?_)
                        · exact hHeld
                        clear hK K
                        try simp only [Act.put, List.setIfInBounds_toArray, List.set_cons_zero, List.set_cons_succ]
                        refine wpAnyH_done (by kernel_rfl) ?_ _
                        refine NoPanic.normal ?_
                        go_wp2_with fail
                        go_meet
                        case rel => exact line_at (R := Z) hZ0 hZ.2.2 kk hv4 hl4 (bt hB hb4)
                      exact AllReadyH.nil
                    exact AllReadyH.nil
                  exact AllReadyH.nil
                exact AllReadyH.nil
              exact AllReadyH.nil
            exact AllReadyH.nil
          refine AllReadyH.cons (by (simp only [List.getElem?_toArray, List.getElem?_cons_succ, List.getElem?_cons_zero]; rfl)) (fun K hK => ?_) ?_
          · go_simp
            go_at_call 7
            refine (HPK.out _).mono ?_
            rintro e w' ⟨rfl, rfl⟩
            try (go_wp2_with fail)
            refine hK.out _ _ ?_ (fun hHeld => ?_)
            · exact hHeld
            clear hK K
            try simp only [Act.put, List.setIfInBounds_toArray, List.set_cons_zero, List.set_cons_succ]
            refine wpAnyH_ready (rs := [2]) (by kernel_rfl) (by simp) ?_
            refine AllReadyH.cons (by (simp only [List.getElem?_toArray, List.getElem?_cons_succ, List.getElem?_cons_zero]; rfl)) (fun K hK => ?_) ?_
            · go_simp
              refine hK.out _ _ ?_ (fun hHeld => ?_)
              · exact hHeld.down (ba (Below.refl _ _) _)
              clear hK K
              try simp only [Act.put, List.setIfInBounds_toArray, List.set_cons_zero, List.set_cons_succ]
              refine heldTo (fun V2 => (Has V2 S [.int .i64 q.step, .string ⟨q.frm.1.toArray⟩, .string ⟨q.frm.2.toArray⟩, .slice Gv q.rcp.length cv, .string ⟨q.text.toArray⟩, .bool q.large]) ∧ Below wr.heap.size wr V2 ∧ Has V2 V1.heap.size [.string ⟨#[82, 83, 69, 84]⟩, .string ⟨#[81, 85, 73, 84]⟩] ∧ Has V2 Z [.int .i64 0, .string ⟨#[]⟩, .string ⟨#[]⟩, .slice none 0 0, .string ⟨#[]⟩, .bool false]) (fun wx => Has wx S [.int .i64 q.step, .string ⟨q.frm.1.toArray⟩, .string ⟨q.frm.2.toArray⟩, .slice Gv q.rcp.length cv, .string ⟨q.text.toArray⟩, .bool q.large] ∧ Has wx V1.heap.size [.string ⟨#[82, 83, 69, 84]⟩, .string ⟨#[81, 85, 73, 84]⟩]) ⟨hHeld, ba hB _, Has.alloc V1 [.string ⟨#[82, 83, 69, 84]⟩, .string ⟨#[81, 85, 73, 84]⟩] _, hZ.down (ba (Below.refl _ _) _)⟩ (fun V2 h => ⟨h.1, h.2.2.1⟩) (fun _ h => h.1) (fun V2 hR hHeld => ?_)
              have hN0 : wr.heap.size ≤ V1.heap.size := hB.size
              have hNZ : V1.heap.size ≠ Z := by have := hZ.2.2; omega
              obtain ⟨-, hB, -, hZ⟩ := hR
              generalize V1.heap.size = N at hN0 hHeld hNZ ⊢
              refine wpAnyH_take (i := 5) (v := ?_) (by (simp only [List.getElem?_toArray, List.getElem?_cons_succ, List.getElem?_cons_zero]; rfl)) (by kernel_rfl) (by kernel_rfl) (by kernel_rfl) (fun _ _ _ h => h) (Or.inl ⟨by rfl, ?_⟩) (by assumption) ?_
              rotate_left 1
              · intro w' hSw; (go_simp) <;> with_reducible rfl
              try simp only [Act.put, List.setIfInBounds_toArray, List.set_cons_zero, List.set_cons_succ]
              refine wpAnyH_take (i := 6) (v := ?_) (by (simp only [List.getElem?_toArray, List.getElem?_cons_succ, List.getElem?_cons_zero]; rfl)) (by kernel_rfl) (by kernel_rfl) (by kernel_rfl) (fun _ _ _ h => h) (Or.inl ⟨by rfl, ?_⟩) (by assumption) ?_
              rotate_left 1
              · intro w' hSw; have g := HGA.out _ _ hSw.2; (go_simp) <;> with_reducible rfl
              try simp only [Act.put, List.setIfInBounds_toArray, List.set_cons_zero, List.set_cons_succ]
              refine wpAnyH_ready (rs := [7]) (by kernel_rfl) (by simp) ?_
              refine AllReadyH.cons (by (simp only [List.getElem?_toArray, List.getElem?_cons_succ, List.getElem?_cons_zero]; rfl)) (fun K hK => ?_) ?_
              · go_simp
                go_at_call 12
                refine (hLN2.out _ (bt HB.out hB)).mono ?_
                intro e w4 hp
                obtain ⟨G4, c4', Gl, cl, rfl, hv4, hl4, hb4⟩ := hp.form
                have hS4 : Has w4 S [.int .i64 q.step, .string ⟨q.frm.1.toArray⟩, .string ⟨q.frm.2.toArray⟩, .slice Gv q.rcp.length cv, .string ⟨q.text.toArray⟩, .bool q.large] ∧ Has w4 N [.string ⟨#[82, 83, 69, 84]⟩, .string ⟨#[81, 85, 73, 84]⟩] := ⟨hHeld.1.down hb4, hHeld.2.down hb4⟩
                have kk := hZ.down hb4
                clear hp
                try (go_wp2_with fail)
                refine hK.out _ _ ?_ (fun hHeld => ?_)
                · exact hS4
                clear hK K
                try simp only [Act.put, List.setIfInBounds_toArray, List.set_cons_zero, List.set_cons_succ]
                refine wpAnyH_take (i := 8) (v := ?_) (by (simp only [List.getElem?_toArray, List.getElem?_cons_succ, List.getElem?_cons_zero]; rfl)) (by kernel_rfl) (by kernel_rfl) (by kernel_rfl) (fun _ _ _ h => h) (Or.inl ⟨by rfl, ?_⟩) (by assumption) ?_
                rotate_left 1
                · intro w' hSw; (go_simp) <;> with_reducible rfl
                try simp only [Act.put, List.setIfInBounds_toArray, List.set_cons_zero, List.set_cons_succ]
                refine wpAnyH_take (i := 9) (v := ?_) (by (simp only [List.getElem?_toArray, List.getElem?_cons_succ, List.getElem?_cons_zero]; rfl)) (by kernel_rfl) (by kernel_rfl) (by kernel_rfl) (fun _ _ _ h => h) (Or.inl ⟨by rfl, ?_⟩) (by assumption) ?_
                rotate_left 1
                · intro w' hSw; (go_simp) <;> with_reducible rfl
                try simp only [Act.put, List.setIfInBounds_toArray, List.set_cons_zero, List.set_cons_succ]
                refine wpAnyH_take (i := 10) (v := ?_) (by (simp only [List.getElem?_toArray, List.getElem?_cons_succ, List.getElem?_cons_zero]; rfl)) (by kernel_rfl) (by kernel_rfl) (by kernel_rfl) (fun _ _ _ h => h) (Or.inl ⟨by rfl, ?_⟩) (by assumption) ?_
                rotate_left 1
                · intro w' hSw; (go_simp) <;> with_reducible rfl
                try simp only [Act.put, List.setIfInBounds_toArray, List.set_cons_zero, List.set_cons_succ]
                refine wpAnyH_take (i := 11) (v := ?_) (by (simp only [List.getElem?_toArray, List.getElem?_cons_succ, List.getElem?_cons_zero]; rfl)) (by kernel_rfl) (by kernel_rfl) (by kernel_rfl) (fun _ _ _ h => h) (Or.inl ⟨by rfl, ?_⟩) (by assumption) ?_
                rotate_left 1
                · intro w' hSw; (go_simp) <;> with_reducible rfl
                try simp only [Act.put, List.setIfInBounds_toArray, List.set_cons_zero, List.set_cons_succ]
                refine wpAnyH_take (i := 12) (v := ?_) (by (simp only [List.getElem?_toArray, List.getElem?_cons_succ, List.getElem?_cons_zero]; rfl)) (by kernel_rfl) (by kernel_rfl) (by kernel_rfl) (fun _ _ _ h => h) (Or.inl ⟨by rfl, ?_⟩) (by assumption) ?_
                rotate_left 1
                · intro w' hSw; (go_simp) <;> with_reducible rfl
                try simp only [Act.put, List.setIfInBounds_toArray, List.set_cons_zero, List.set_cons_succ]
                refine wpAnyH_ready (rs := [14]) (by kernel_rfl) (by simp) ?_
                refine AllReadyH.cons (by (simp only [List.getElem?_toArray, List.getElem?_cons_succ, List.getElem?_cons_zero]; rfl)) (fun K hK => ?_) ?_
                · obtain ⟨z0, z1, z2, z3, z4, z5⟩ := kk.six
                  obtain ⟨f0, f1, f2, f3, f4, f5⟩ := kk.six_free
                  go_simp
                  refine hK.out _ _ ?_ (fun hHeld => ?_)
                  · exact ⟨((((((hHeld.1.else' (by omega) _).else' (by omega) _).else' (by omega) _).else' (by omega) _).else' (by omega) _).else' (by omega) _), ((((((hHeld.2.else' (by omega) _).else' (by omega) _).else' (by omega) _).else' (by omega) _).else' (by omega) _).else' (by omega) _)⟩
                  clear hK K
                  try simp only [Act.put, List.setIfInBounds_toArray, List.set_cons_zero, List.set_cons_succ]
                  refine wpAnyH_ready (rs := [15]) (by kernel_rfl) (by simp) ?_
                  refine AllReadyH.cons (by (simp only [List.getElem?_toArray, List.getElem?_cons_succ, List.getElem?_cons_zero]; rfl)) (fun K hK => ?_) ?_
                  · go_simp
                    refine hK.out _ _ ?_ (fun hHeld => ?_)
                    · exact hHeld
                    clear hK K
                    try simp only [Act.put, List.setIfInBounds_toArray, List.set_cons_zero, List.set_cons_succ]
                    refine wpAnyH_ready (rs := [16]) (by kernel_rfl) (by simp) ?_
                    refine AllReadyH.cons (by (simp only [List.getElem?_toArray, List.getElem?_cons_succ, List.getElem?_cons_zero]; rfl)) (fun K hK => ?_) ?_
                    · go_simp
                      refine hK.out _ _ ?_ (fun hHeld => ?_)
                      · exact hHeld
                      clear hK K
                      try simp only [Act.put, List.setIfInBounds_toArray, List.set_cons_zero, List.set_cons_succ]
                      refine wpAnyH_ready (rs := [17]) (by kernel_rfl) (by simp) ?_
                      refine AllReadyH.cons (by (simp only [List.getElem?_toArray, List.getElem?_cons_succ, List.getElem?_cons_zero]; rfl)) (fun K hK => ?_) ?_
                      · go_simp
                        refine hK.out _ _ ?_ (fun hHeld => ?_)
                        · exact hHeld
                        clear hK K
                        try simp only [Act.put, List.setIfInBounds_toArray, List.set_cons_zero, List.set_cons_succ]
                        refine wpAnyH_done (by kernel_rfl) ?_ _
                        refine NoPanic.normal ?_
                        go_wp2_with fail
                        go_meet
                        case rel => exact line_at (R := Z) hZ0 hZ.2.2 kk hv4 hl4 (bt hB hb4)
                      exact AllReadyH.nil
                    exact AllReadyH.nil
                  exact AllReadyH.nil
                exact AllReadyH.nil
              exact AllReadyH.nil
            exact AllReadyH.nil
          exact AllReadyH.nil
        exact AllReadyH.nil
      case rest =>
        obtain ⟨R, G4, c4', Gl, cl, rfl, rfl, rfl, rfl, hR, hs4, -, hb4⟩ := hcut
        have HE4 := Lib.hid (bt HE.out hb4)
        obtain ⟨d0, -, -, d3, -, -⟩ := hs4.six.six
        clear hs4 hb4 c0 c1 c2 c3 c4 c5 g0 g1 g2 hLN2 HE
        by_cases hk0 : k = 0
        · have hr := HQ.out
          rw [if_pos hk0] at hr
          have q1 : ((r.2.1 : Int) == 250) = true := by rw [hr]; rfl
          have q2 : ((r.1.step : Int) == 1) = true := by rw [hr]; rfl
          have q3 : ((r.1.rcp.length : Int) == 0) = true := by rw [hr]; rfl
          clear hr HQ hk0
          go_wp2_with fail
          go_ret
          exact ⟨rfl, HE4.out⟩
        · have hr := HQ.out
          rw [if_neg hk0] at hr
          have q1 : ((r.2.1 : Int) == 250) = false := by rw [hr]; rfl
          have q4 : ((r.2.1 : Int) == 221) = true := by rw [hr]; rfl
          have q2 : ((r.1.step : Int) == 5) = true := by rw [hr]; rfl
          have q3 : ((r.1.rcp.length : Int) == 0) = true := by rw [hr]; rfl
          clear hr HQ hk0
          go_wp2_with fail
          go_ret
          exact ⟨rfl, HE4.out⟩
end Go.Proofs.YtdhepaeephmhiaaDoor
