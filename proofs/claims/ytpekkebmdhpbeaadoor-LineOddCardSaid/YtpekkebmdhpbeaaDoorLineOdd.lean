/-
  DERIVED. The law LineOdd: its plain side and its walk.
-/
import Derived.Test.YtpekkebmdhpbeaaDoorLineKit
import Derived.Test.YtpekkebmdhpbeaaDoorRows2
import Derived.Deep.RegionHeld3
namespace Go.Proofs.YtpekkebmdhpbeaaDoor
open Go.RowKit

def odnL (a : Ad) : Nat → List UInt8
  | 0 => [76, 72, 76, 79, 32, 97]
  | 1 => wMAIL ++ angL a
  | _ => wRCPT ++ angL a
theorem odn_next (l d : List UInt8) (i : Nat) (hi : i < 3) : lineS (ordS (zAd l d) i) [wordL l] (odnL (zAd l d) i) = (ordS (zAd l d) (i + 1), 250, []) := by
  match i, hi with
  | 0, _ => rfl
  | 1, _ => exact ord_next l d 1 (by omega)
  | 2, _ => exact ord_next l d 2 (by omega)
theorem odn_len (l d : List UInt8) (i : Nat) : (odnL (zAd l d) i).length ≤ 300 := by
  have := angL_len l d
  match i with
  | 0 => show 6 ≤ 300; omega
  | 1 => show (wMAIL ++ angL (zAd l d)).length ≤ 300; rw [List.length_append]; show 10 + _ ≤ 300; omega
  | i + 2 => show (wRCPT ++ angL (zAd l d)).length ≤ 300; rw [List.length_append]; show 8 + _ ≤ 300; omega
theorem odd_len (l d : List UInt8) (o : List UInt8) (ho : o ∈ oddL (zAd l d)) : o.length ≤ 400 := by
  have hlen := angL_len l d
  simp only [oddL, List.mem_cons, List.not_mem_nil, or_false] at ho
  rcases ho with rfl | rfl | rfl | rfl | rfl | rfl | rfl | rfl | rfl | rfl | rfl | rfl | rfl | rfl
  all_goals first | (rw [List.length_replicate]; omega) | (rw [List.length_append, List.length_cons]; show 10 + _ ≤ 400; omega) | decide
theorem oddstart (w1 : World) (l d : List UInt8) (Y : ByteArray) (W3 : World) (h : W3 = ((w1.alloc (.cells #[.string ⟨(wordL l).toArray⟩, .string Y] 28)).alloc (.cells #[.string ⟨#[76, 72, 76, 79, 32, 97]⟩, .string ⟨(odnL (zAd l d) 1).toArray⟩, .string ⟨(odnL (zAd l d) 2).toArray⟩] 9)).alloc (.cells #[.int .i64 0, .string ⟨#[]⟩, .string ⟨#[]⟩, .slice none 0 0, .string ⟨#[]⟩, .bool false] 33)) :
    Has W3 w1.heap.size [.string ⟨(wordL l).toArray⟩, .string Y] ∧ Has W3 (w1.heap.size + 1) [.string ⟨(odnL (zAd l d) 0).toArray⟩, .string ⟨(odnL (zAd l d) 1).toArray⟩, .string ⟨(odnL (zAd l d) 2).toArray⟩] ∧ SesAt 0 W3 (w1.heap.size + 2) (.slice none 0 0) (ordS (zAd l d) 0) ∧ Below w1.heap.size w1 W3 ∧ W3.heap.size = w1.heap.size + 3 := by
  have h1 := Has.alloc w1 [.string ⟨(wordL l).toArray⟩, .string Y] 28
  have h2 := Has.alloc (w1.alloc (.cells #[.string ⟨(wordL l).toArray⟩, .string Y] 28)) [.string ⟨#[76, 72, 76, 79, 32, 97]⟩, .string ⟨(odnL (zAd l d) 1).toArray⟩, .string ⟨(odnL (zAd l d) 2).toArray⟩] 9
  have h3 := Has.alloc ((w1.alloc (.cells #[.string ⟨(wordL l).toArray⟩, .string Y] 28)).alloc (.cells #[.string ⟨#[76, 72, 76, 79, 32, 97]⟩, .string ⟨(odnL (zAd l d) 1).toArray⟩, .string ⟨(odnL (zAd l d) 2).toArray⟩] 9)) zeroS.toList 33
  simp only [World.size_alloc] at h1 h2 h3
  subst h
  exact ⟨(h1.down (ba (Below.refl _ _) _)).down (ba (Below.refl _ _) _), h2.down (ba (Below.refl _ _) _), ⟨h3, SAt.nil _ _ _⟩, ba (ba (ba (Below.refl _ _) _) _) _, by simp⟩
theorem Has.three' {w : World} {b : Nat} {a0 a1 a2 : Value} (h : Has w b [a0, a1, a2]) : w.cell? ⟨b, 0, none⟩ = some a0 ∧ w.cell? ⟨b, 1, none⟩ = some a1 ∧ w.cell? ⟨b, 2, none⟩ = some a2 := ⟨h.1 0 _ rfl, h.1 1 _ rfl, h.1 2 _ rfl⟩

set_option maxHeartbeats 8000000 in
set_option maxRecDepth 20000 in
theorem lineOdd_walk (a0 a1 a2 b0 b1 b2 : ByteArray) (G : Option Addr) (n c : Nat) (xx : Nat → Nat → ByteArray) (bo : ByteArray) (zo zs : Int) (m : Int) (w : World) (h0 : a0.size ≤ maxLen) (h1 : a1.size ≤ maxLen) (_h2 : a2.size ≤ maxLen) (_k0 : b0.size ≤ maxLen) (_k1 : b1.size ≤ maxLen) (_k2 : b2.size ≤ maxLen) (_hx : StrRows w G n 2 xx ∧ n ≤ maxLen) (_hbo : bo.size ≤ maxLen) (hzo : -9223372036854775808 ≤ zo ∧ zo ≤ 9223372036854775807) (hzs : -9223372036854775808 ≤ zs ∧ zs ≤ 9223372036854775807) (hm : w.cell? ⟨0, 0, none⟩ = some (.int .i64 m)) :
    Calls Tryd.prog 4 #[.agg #[.string a0, .string a1, .string a2, .string b0, .string b1, .string b2, .slice G n c, .string bo], .int .i64 zo, .int .i64 zs] w fun e w' => e = .returned (.bool true) ∧ Below w.heap.size w w' := by
  unfold maxLen at h0 h1
  clear _hx
  have HPS : Hid (∀ w, Calls Tryd.prog 11 #[.int .i64 zs, .int .i64 4] w fun e w' => e = .returned (.int .i64 (pick zs (4 : Nat))) ∧ w = w') := fun w => picked_any zs 4 w hzs.1 hzs.2 (by omega) (by omega)
  have HPO : Hid (∀ w, Calls Tryd.prog 11 #[.int .i64 zo, .int .i64 14] w fun e w' => e = .returned (.int .i64 (pick zo (14 : Nat))) ∧ w = w') := fun w => picked_any zo 14 w hzo.1 hzo.2 (by omega) (by omega)
  have hks4 := pick_lt zs 4 (by omega)
  have hko14 := pick_lt zo 14 (by omega)
  obtain ⟨ks, hks⟩ : ∃ k, k = pick zs (4 : Nat) := ⟨_, rfl⟩
  obtain ⟨ko, hko⟩ : ∃ k, k = pick zo (14 : Nat) := ⟨_, rfl⟩
  rw [← hks] at HPS hks4
  rw [← hko] at HPO hko14
  clear hks hko hzo hzs
  have hA := ba (Below.refl w.heap.size w) (.cells #[.string a0, .string a1, .string a2, .string b0, .string b1, .string b2, .slice G n c, .string bo] 26)
  have HAD := Lib.hid (fun w => address_any a0 a1 a2 w (by omega) (by omega))
  have HA := Lib.hid hA; have HM := Lib.hid hm
  obtain ⟨l, hl⟩ : ∃ l, l = a0.data.toList := ⟨_, rfl⟩
  obtain ⟨d, hd⟩ : ∃ d, d = a1.data.toList := ⟨_, rfl⟩
  rw [← hl, ← hd] at HAD
  have zx := addrL_size l
  have zy := (addrD_size d).1
  obtain ⟨X, hX⟩ : ∃ X, X = addrL l := ⟨_, rfl⟩
  obtain ⟨Y, hY⟩ : ∃ Y, Y = addrD d := ⟨_, rfl⟩
  rw [← hX] at zx; rw [← hY] at zy; rw [← hX, ← hY] at HAD
  have hT : (⟨#[60]⟩ : ByteArray) ++ X ++ ⟨#[64]⟩ ++ Y ++ ⟨#[62]⟩ = ⟨(angL (zAd l d)).toArray⟩ := by rw [hX, hY]; exact ang_bytes l d
  have hXw : X = ⟨(wordL l).toArray⟩ := hX
  have HT := Lib.hid hT; have HXW := Lib.hid hXw
  clear hA hm hl hd hX hY hT hXw
  go_enter Tryd.func4, Tryd.ntmps4
  go_wp2_with fail
  refine (HAD.out _).mono ?_
  rintro e w1 ⟨rfl, hb1⟩
  have HB1 := Lib.hid (bt HA.out hb1); have HM1 := Lib.hid (moved HM.out (bt HA.out hb1) (Nat.le_refl _))
  clear hb1 HA HM HAD
  go_upto_region 3 with fail
  rw [HT.out]
  have hal := angL_len l d
  obtain ⟨T, hT⟩ : ∃ T : ByteArray, T = ⟨(angL (zAd l d)).toArray⟩ := ⟨_, rfl⟩
  rw [← hT]
  have zt : T.size ≤ 23 := by rw [hT]; show (angL (zAd l d)).toArray.size ≤ 23; simpa using hal
  have HP1 : Hid ((⟨#[77, 65, 73, 76, 32, 70, 82, 79, 77, 58]⟩ : ByteArray) ++ T = ⟨(odnL (zAd l d) 1).toArray⟩) := by unfold Hid; rw [hT, pre_bytes]; rfl
  have HP2 : Hid ((⟨#[82, 67, 80, 84, 32, 84, 79, 58]⟩ : ByteArray) ++ T = ⟨(odnL (zAd l d) 2).toArray⟩) := by unfold Hid; rw [hT, pre_bytes]; rfl
  have HP3 : Hid ((⟨#[77, 65, 73, 76, 32, 70, 82, 79, 77, 58, 32]⟩ : ByteArray) ++ T = ⟨(wMAIL ++ 32 :: angL (zAd l d)).toArray⟩) := by unfold Hid; rw [hT, pre_bytes]; rfl
  clear hT hal HT
  go_upto_region 4 with fail
  rw [HP1.out, HP2.out, HXW.out]
  clear HP1 HP2 HXW zx zy
  go_wp2_with fail
  obtain ⟨W3, hW3⟩ : ∃ W3, W3 = ((w1.alloc (.cells #[.string ⟨(wordL l).toArray⟩, .string Y] 28)).alloc (.cells #[.string ⟨#[76, 72, 76, 79, 32, 97]⟩, .string ⟨(odnL (zAd l d) 1).toArray⟩, .string ⟨(odnL (zAd l d) 2).toArray⟩] 9)).alloc (.cells #[.int .i64 0, .string ⟨#[]⟩, .string ⟨#[]⟩, .slice none 0 0, .string ⟨#[]⟩, .bool false] 33) := ⟨_, rfl⟩
  rw [← hW3]
  obtain ⟨hk3, hl3, hs3, hb3, hz3⟩ := oddstart w1 l d Y W3 hW3
  have HK3 := Lib.hid hk3; have HL3 := Lib.hid hl3; have HS3 := Lib.hid hs3; have HB3 := Lib.hid (bt HB1.out hb3); have HM3 := Lib.hid (moved HM1.out hb3 (Nat.le_refl _))
  have hmw : 0 < w1.heap.size := World.block_lt_of_cell? w1 ⟨0, 0, none⟩ HM1.out
  have hzz : w1.heap.size + 3 ≤ W3.heap.size := by omega
  have hww : w.heap.size ≤ w1.heap.size := HB1.out.size
  obtain ⟨S, hS⟩ : ∃ S, S = w1.heap.size + 2 := ⟨_, rfl⟩
  obtain ⟨L, hL⟩ : ∃ L, L = w1.heap.size + 1 := ⟨_, rfl⟩
  obtain ⟨K, hK⟩ : ∃ K, K = w1.heap.size := ⟨_, rfl⟩
  rw [← hS, ← hL, ← hK]
  rw [← hS] at HS3; rw [← hL] at HL3; rw [← hK] at HK3
  have o1 : L < S ∧ K < L := by omega
  have o2 : S < W3.heap.size := by omega
  have o3 : w.heap.size ≤ S := by omega
  have o4 : 0 < S := by omega
  obtain ⟨o1, o5⟩ := o1
  clear hW3 hk3 hl3 hs3 hb3 hz3 hzz hww hmw hS hL hK HB1 HM1
  go_loopw [11] (fun i wr => ∃ j : Nat, j ≤ ks ∧ i = .int .i64 j ∧ SesPost 0 S (ordS (zAd l d) j) W3 wr) (fun i _ => ks - (intOf i).toNat)
  case atStart => exact ⟨0, Nat.zero_le _, rfl, SesPost.of HS3.out (World.grownBy.refl _ _)⟩
  case round =>
    obtain ⟨j, hj, rfl, ⟨v, hs⟩, hg⟩ := hrel
    obtain ⟨Gv, cv, rfl, -⟩ := hs.rcp.form
    have HL := Lib.hid (HL3.out.kept hg (fun e => by have := Option.some.inj e; omega))
    have HK := Lib.hid (HK3.out.kept hg (fun e => by have := Option.some.inj e; omega))
    have HM := Lib.hid (cell_else hg HM3.out (by omega))
    have HS := Lib.hid hs; have HG := Lib.hid hg
    have hg2 := ord_good l d j
    have hsz : W3.heap.size ≤ wr.heap.size := hg.size
    clear hs hg
    have hLN : Hid (∀ (x : List UInt8) (w' : World) (b : Nat), x.length ≤ 400 → Below wr.heap.size wr w' → SAt cStr w' (fun _ => True) (.slice (some ⟨b, 0, none⟩) 1 1) [wordL l] → Calls Tryd.prog 10 #[.agg #[.int .i64 (ordS (zAd l d) j).step, .string ⟨(ordS (zAd l d) j).frm.1.toArray⟩, .string ⟨(ordS (zAd l d) j).frm.2.toArray⟩, .slice Gv (ordS (zAd l d) j).rcp.length cv, .string ⟨(ordS (zAd l d) j).text.toArray⟩, .bool (ordS (zAd l d) j).large], .slice (some ⟨b, 0, none⟩) 1 1, .string ⟨x.toArray⟩] w' (LinePost (lineS (ordS (zAd l d) j) [wordL l] x) w')) :=
      fun x w' b hx hb hk => line_any (ordS (zAd l d) j) _ _ _ [wordL l] _ x m w' (HS.out.rcp.down hb) hg2 hk (by show 1 ≤ 1000; omega) (by omega) (moved HM.out hb (Nat.le_refl _))
    clear hg2
    obtain ⟨k0', -, -, -⟩ := HK.out.two
    obtain ⟨c0, c1, c2, c3, c4, c5⟩ := HS.out.six.six
    have HBR := Lib.hid (Below.refl wr.heap.size wr)
    by_cases hlt : j < ks
    ·
      have hlj : wr.cell? ⟨L, j, none⟩ = some (.string ⟨(odnL (zAd l d) j).toArray⟩) := by
        have hj3 : j < 3 := by omega
        match j, hj3 with
        | 0, _ => exact HL.out.1 0 _ rfl
        | 1, _ => exact HL.out.1 1 _ rfl
        | 2, _ => exact HL.out.1 2 _ rfl
      have hnx := odn_next l d j (by omega)
      have hln2 := hLN.out (odnL (zAd l d) j)
      rw [hnx] at hln2
      have hLN2 : Hid (∀ (w' : World) (b : Nat), Below wr.heap.size wr w' → SAt cStr w' (fun _ => True) (.slice (some ⟨b, 0, none⟩) 1 1) [wordL l] → Calls Tryd.prog 10 #[.agg #[.int .i64 (ordS (zAd l d) j).step, .string ⟨(ordS (zAd l d) j).frm.1.toArray⟩, .string ⟨(ordS (zAd l d) j).frm.2.toArray⟩, .slice Gv (ordS (zAd l d) j).rcp.length cv, .string ⟨(ordS (zAd l d) j).text.toArray⟩, .bool (ordS (zAd l d) j).large], .slice (some ⟨b, 0, none⟩) 1 1, .string ⟨(odnL (zAd l d) j).toArray⟩] w' (LinePost (ordS (zAd l d) (j + 1), 250, []) w')) :=
        fun w' b hb hk => hln2 w' b (Nat.le_trans (odn_len l d j) (by omega)) hb hk
      clear hnx hln2 hLN
      obtain ⟨r, hr⟩ : ∃ r : Ses × Int × List Lt, r = (ordS (zAd l d) (j + 1), 250, []) := ⟨_, rfl⟩
      rw [← hr] at hLN2
      obtain ⟨q, hq⟩ : ∃ q, q = ordS (zAd l d) j := ⟨_, rfl⟩
      rw [← hq] at hLN2 HS c0 c1 c2 c3 c4 c5
      obtain ⟨x, hx⟩ : ∃ x, x = odnL (zAd l d) j := ⟨_, rfl⟩
      rw [← hx] at hLN2 hlj
      obtain ⟨u, hu⟩ : ∃ u, u = wordL l := ⟨_, rfl⟩
      rw [← hu] at hLN2 k0'
      have HR := Lib.hid hr
      have dj : decide ((j : Int) < ks) = true := decide_eq_true (by omega)
      clear hr hq hx hu
      go_wp2_with fail
      refine (HPS.out _).mono ?_
      rintro e w2 ⟨rfl, rfl⟩
      go_upto_region 8 with fail
      clear dj
      have i1 : (0 : Int) ≤ j := by omega
      have i2 : (j : Int) < 3 := by omega
      have HK0 : Hid (SAt cStr (wr.alloc (.cells #[.string ⟨u.toArray⟩] 9)).drew (fun _ => True) (.slice (some ⟨wr.heap.size, 0, none⟩) 1 1) [u]) := by
        have hh := str_one wr (u) (fun _ => True) trivial 9
        exact hh.down (Below.drew (Below.refl _ _))
      have HW0 : Hid (Below wr.heap.size wr (wr.alloc (.cells #[.string ⟨u.toArray⟩] 9)).drew) := Below.drew (ba (Below.refl _ _) _)
      have HZ1 : Hid (Has ((wr.alloc (.cells #[.string ⟨u.toArray⟩] 9)).alloc (.cells #[.int .i64 0, .string ⟨#[]⟩, .string ⟨#[]⟩, .slice none 0 0, .string ⟨#[]⟩, .bool false] 33)).drew (wr.heap.size + 1) [.int .i64 0, .string ⟨#[]⟩, .string ⟨#[]⟩, .slice none 0 0, .string ⟨#[]⟩, .bool false]) := by
        have hh := Has.alloc (wr.alloc (.cells #[.string ⟨u.toArray⟩] 9)) [.int .i64 0, .string ⟨#[]⟩, .string ⟨#[]⟩, .slice none 0 0, .string ⟨#[]⟩, .bool false] 33
        rw [World.size_alloc] at hh
        exact hh.down (Below.drew (Below.refl _ _))
      have HK1 : Hid (SAt cStr ((wr.alloc (.cells #[.string ⟨u.toArray⟩] 9)).alloc (.cells #[.int .i64 0, .string ⟨#[]⟩, .string ⟨#[]⟩, .slice none 0 0, .string ⟨#[]⟩, .bool false] 33)).drew (fun _ => True) (.slice (some ⟨wr.heap.size, 0, none⟩) 1 1) [u]) := by
        have hh := str_one wr (u) (fun _ => True) trivial 9
        exact hh.down (Below.drew (ba (Below.refl _ _) _))
      have HW1 : Hid (Below wr.heap.size wr ((wr.alloc (.cells #[.string ⟨u.toArray⟩] 9)).alloc (.cells #[.int .i64 0, .string ⟨#[]⟩, .string ⟨#[]⟩, .slice none 0 0, .string ⟨#[]⟩, .bool false] 33)).drew) := Below.drew (ba (ba (Below.refl _ _) _) _)
      have HZ2 : Hid (Has ((wr.alloc (.cells #[.int .i64 0, .string ⟨#[]⟩, .string ⟨#[]⟩, .slice none 0 0, .string ⟨#[]⟩, .bool false] 33)).alloc (.cells #[.string ⟨u.toArray⟩] 9)).drew (wr.heap.size) [.int .i64 0, .string ⟨#[]⟩, .string ⟨#[]⟩, .slice none 0 0, .string ⟨#[]⟩, .bool false]) := by
        have hh := Has.alloc wr [.int .i64 0, .string ⟨#[]⟩, .string ⟨#[]⟩, .slice none 0 0, .string ⟨#[]⟩, .bool false] 33
        exact hh.down (Below.drew (ba (Below.refl _ _) _))
      have HK2 : Hid (SAt cStr ((wr.alloc (.cells #[.int .i64 0, .string ⟨#[]⟩, .string ⟨#[]⟩, .slice none 0 0, .string ⟨#[]⟩, .bool false] 33)).alloc (.cells #[.string ⟨u.toArray⟩] 9)).drew (fun _ => True) (.slice (some ⟨wr.heap.size + 1, 0, none⟩) 1 1) [u]) := by
        have hh := str_one (wr.alloc (.cells #[.int .i64 0, .string ⟨#[]⟩, .string ⟨#[]⟩, .slice none 0 0, .string ⟨#[]⟩, .bool false] 33)) (u) (fun _ => True) trivial 9
        rw [World.size_alloc] at hh
        exact hh.down (Below.drew (Below.refl _ _))
      have HW2 : Hid (Below wr.heap.size wr ((wr.alloc (.cells #[.int .i64 0, .string ⟨#[]⟩, .string ⟨#[]⟩, .slice none 0 0, .string ⟨#[]⟩, .bool false] 33)).alloc (.cells #[.string ⟨u.toArray⟩] 9)).drew) := Below.drew (ba (ba (Below.refl _ _) _) _)
      have nn1 : wr.heap.size ≠ S := World.new_ne wr ⟨S, 0, none⟩ c0
      have nm1 : wr.heap.size + 1 ≠ S := by have hh : S < wr.heap.size := World.block_lt_of_cell? wr ⟨S, 0, none⟩ c0; omega
      have nn2 : wr.heap.size ≠ L := World.new_ne wr ⟨L, j, none⟩ hlj
      have nm2 : wr.heap.size + 1 ≠ L := by have hh : L < wr.heap.size := World.block_lt_of_cell? wr ⟨L, j, none⟩ hlj; omega
      have nn3 : wr.heap.size ≠ K := World.new_ne wr ⟨K, 0, none⟩ k0'
      have nm3 : wr.heap.size + 1 ≠ K := by have hh : K < wr.heap.size := World.block_lt_of_cell? wr ⟨K, 0, none⟩ k0'; omega
      skip
      go_cut [12, 13, 14, 15] (LineNew r wr)
      case first =>
        go_region_held3 (fun w' => w'.cell? ⟨S, 0, none⟩ = some (.int .i64 q.step) ∧ w'.cell? ⟨S, 1, none⟩ = some (.string ⟨q.frm.1.toArray⟩) ∧ w'.cell? ⟨S, 2, none⟩ = some (.string ⟨q.frm.2.toArray⟩) ∧ w'.cell? ⟨S, 3, none⟩ = some (.slice Gv q.rcp.length cv) ∧ w'.cell? ⟨S, 4, none⟩ = some (.string ⟨q.text.toArray⟩) ∧ w'.cell? ⟨S, 5, none⟩ = some (.bool q.large) ∧ w'.cell? ⟨L, j, none⟩ = some (.string ⟨x.toArray⟩) ∧ w'.cell? ⟨K, 0, none⟩ = some (.string ⟨u.toArray⟩)) (first | with_reducible exact ⟨c0, c1, c2, c3, c4, c5, hlj, k0'⟩ | with_reducible exact ⟨e_0, e_1, e_2, e_3, e_4, e_5, e_6, e_7⟩ | go_keep) (first
          | (go_at_call 10; refine (hLN2.out _ _ (by first | exact bt HBR.out HW0.out | exact bt HBR.out HW1.out | exact bt HBR.out HW2.out) (by first | exact HK0.out | exact HK1.out | exact HK2.out)).mono ?_; intro e w4 hp; obtain ⟨G4, c4', Gl, cl, rfl, hv4, hl4, hb4⟩ := hp.form; first | ((with_reducible have hb0 : Below (wr.alloc (.cells #[.string ⟨u.toArray⟩] 9)).drew.heap.size (wr.alloc (.cells #[.string ⟨u.toArray⟩] 9)).drew w4 := hb4); have e_0 := moved_drew (cell_alloc _ c0) hb4 (Nat.le_refl _); have e_1 := moved_drew (cell_alloc _ c1) hb4 (Nat.le_refl _); have e_2 := moved_drew (cell_alloc _ c2) hb4 (Nat.le_refl _); have e_3 := moved_drew (cell_alloc _ c3) hb4 (Nat.le_refl _); have e_4 := moved_drew (cell_alloc _ c4) hb4 (Nat.le_refl _); have e_5 := moved_drew (cell_alloc _ c5) hb4 (Nat.le_refl _); have e_6 := moved_drew (cell_alloc _ hlj) hb4 (Nat.le_refl _); have e_7 := moved_drew (cell_alloc _ k0') hb4 (Nat.le_refl _); have np1 : w4.heap.size ≠ S := World.new_ne w4 ⟨S, 0, none⟩ e_0; have np2 : w4.heap.size ≠ L := World.new_ne w4 ⟨L, j, none⟩ e_6; have np3 : w4.heap.size ≠ K := World.new_ne w4 ⟨K, 0, none⟩ e_7) | ((with_reducible have hb1 : Below ((wr.alloc (.cells #[.string ⟨u.toArray⟩] 9)).alloc (.cells #[.int .i64 0, .string ⟨#[]⟩, .string ⟨#[]⟩, .slice none 0 0, .string ⟨#[]⟩, .bool false] 33)).drew.heap.size ((wr.alloc (.cells #[.string ⟨u.toArray⟩] 9)).alloc (.cells #[.int .i64 0, .string ⟨#[]⟩, .string ⟨#[]⟩, .slice none 0 0, .string ⟨#[]⟩, .bool false] 33)).drew w4 := hb4); have e_0 := moved_drew (cell_alloc _ (cell_alloc _ c0)) hb4 (Nat.le_refl _); have e_1 := moved_drew (cell_alloc _ (cell_alloc _ c1)) hb4 (Nat.le_refl _); have e_2 := moved_drew (cell_alloc _ (cell_alloc _ c2)) hb4 (Nat.le_refl _); have e_3 := moved_drew (cell_alloc _ (cell_alloc _ c3)) hb4 (Nat.le_refl _); have e_4 := moved_drew (cell_alloc _ (cell_alloc _ c4)) hb4 (Nat.le_refl _); have e_5 := moved_drew (cell_alloc _ (cell_alloc _ c5)) hb4 (Nat.le_refl _); have e_6 := moved_drew (cell_alloc _ (cell_alloc _ hlj)) hb4 (Nat.le_refl _); have e_7 := moved_drew (cell_alloc _ (cell_alloc _ k0')) hb4 (Nat.le_refl _); have np1 : w4.heap.size ≠ S := World.new_ne w4 ⟨S, 0, none⟩ e_0; have np2 : w4.heap.size ≠ L := World.new_ne w4 ⟨L, j, none⟩ e_6; have np3 : w4.heap.size ≠ K := World.new_ne w4 ⟨K, 0, none⟩ e_7; have kk := HZ1.out.down hb4; obtain ⟨k0, k1, k2, k3, k4, k5⟩ := kk.six; obtain ⟨f0, f1, f2, f3, f4, f5⟩ := kk.six_free) | ((with_reducible have hb2 : Below ((wr.alloc (.cells #[.int .i64 0, .string ⟨#[]⟩, .string ⟨#[]⟩, .slice none 0 0, .string ⟨#[]⟩, .bool false] 33)).alloc (.cells #[.string ⟨u.toArray⟩] 9)).drew.heap.size ((wr.alloc (.cells #[.int .i64 0, .string ⟨#[]⟩, .string ⟨#[]⟩, .slice none 0 0, .string ⟨#[]⟩, .bool false] 33)).alloc (.cells #[.string ⟨u.toArray⟩] 9)).drew w4 := hb4); have e_0 := moved_drew (cell_alloc _ (cell_alloc _ c0)) hb4 (Nat.le_refl _); have e_1 := moved_drew (cell_alloc _ (cell_alloc _ c1)) hb4 (Nat.le_refl _); have e_2 := moved_drew (cell_alloc _ (cell_alloc _ c2)) hb4 (Nat.le_refl _); have e_3 := moved_drew (cell_alloc _ (cell_alloc _ c3)) hb4 (Nat.le_refl _); have e_4 := moved_drew (cell_alloc _ (cell_alloc _ c4)) hb4 (Nat.le_refl _); have e_5 := moved_drew (cell_alloc _ (cell_alloc _ c5)) hb4 (Nat.le_refl _); have e_6 := moved_drew (cell_alloc _ (cell_alloc _ hlj)) hb4 (Nat.le_refl _); have e_7 := moved_drew (cell_alloc _ (cell_alloc _ k0')) hb4 (Nat.le_refl _); have np1 : w4.heap.size ≠ S := World.new_ne w4 ⟨S, 0, none⟩ e_0; have np2 : w4.heap.size ≠ L := World.new_ne w4 ⟨L, j, none⟩ e_6; have np3 : w4.heap.size ≠ K := World.new_ne w4 ⟨K, 0, none⟩ e_7; have kk := HZ2.out.down hb4; obtain ⟨k0, k1, k2, k3, k4, k5⟩ := kk.six; obtain ⟨f0, f1, f2, f3, f4, f5⟩ := kk.six_free)))
        all_goals
          go_wp2_with fail
          go_meet
          case rel => first
            | (have _t := hb0; exact line_new HW0.out.size hv4 hl4 (bt HW0.out hb4))
            | (have _t := hb1; exact line_at (R := wr.heap.size + 1) (by omega) (by first | (simp; done) | (simp; omega)) kk hv4 hl4 (bt HW1.out hb4))
            | (have _t := hb2; exact line_at (R := wr.heap.size) (by omega) (by first | (simp; done) | (simp; omega)) kk hv4 hl4 (bt HW2.out hb4))
      case rest =>
        obtain ⟨R, G4, c4', Gl, cl, rfl, rfl, rfl, rfl, hR, hs4, -, hb4⟩ := hcut
        have hr := HR.out
        have hr1 : r.1 = ordS (zAd l d) (j + 1) := by rw [hr]
        have HR1 := Lib.hid hr1
        have hS4 := (HS.out.down hb4).six
        have hp4 := ses_assign (LB := 0) o2 (hs4.mono hsz) (Go.Lib.grownBy_below HG.out hb4) hS4 rfl (Nat.zero_le _)
        have HP4 := Lib.hid hp4
        obtain ⟨d0, d1, d2, d3, d4, d5⟩ := hs4.six.six
        obtain ⟨e0, e1, e2, e3, e4, e5⟩ := hS4.six
        obtain ⟨f0, f1, f2, f3, f4, f5⟩ := hS4.six_free
        clear hr hr1 hs4 hb4 hS4 hp4 c0 c1 c2 c3 c4 c5 hlj k0' hLN2 HR
        go_wp2_with fail
        go_roundw
        case rel => exact ⟨j + 1, by omega, by go_num, by rw [← HR1.out]; exact HP4.out⟩
        case measure => simp [intOf]; omega
    · obtain rfl : j = ks := by omega
      go_wp2_with fail
      refine (HPS.out _).mono ?_
      rintro e w2 ⟨rfl, rfl⟩
      have dj : decide ((j : Int) < j) = false := decide_eq_false (by omega)
      go_upto_region 12 with fail
      obtain ⟨i0, hi, hz0, hz1, hz2⟩ := info_parts infoU8
      have HI := Lib.hid hi; have HZ0 := Lib.hid hz0; have HZ1 := Lib.hid hz1; have HZ2 := Lib.hid hz2
      clear hi hz0 hz1 hz2 dj
      go_wp2_with (at_make; refine wpList_make_full _ rfl (.const (.int .i64 400)) (.const (.int .i64 400)) 40 rfl wr.heap.size 5 i0 (.int .u8 0) 1 Tryd.underlying40 HI.out HZ0.out HZ1.out .i64 .i64 400 400 400 rfl rfl rfl rfl (by rw [HZ2.out]; omega) (by unfold maxLen; omega) (Nat.le_refl _) ?_; intro w4 hown hgr)
      rw [madeBytes] at hown
      have hown' : OwnB w4 wr.heap.size 5 (.slice (some ⟨wr.heap.size, 0, none⟩) 400 400) (List.replicate 400 0) := by unfold OwnB; rw [List.length_replicate]; exact hown
      have hcv := run_str_own hown' Tryd.underlying40 Tryd.underlying5 Tryd.underlying9
      have hb4 : Below wr.heap.size wr w4 := (Below.refl _ _).grown hgr (Nat.le_refl _) (fun k h => by cases h)
      obtain ⟨N, hN⟩ : ∃ N, N = List.replicate 400 (0 : UInt8) := ⟨_, rfl⟩
      rw [← hN] at hcv
      have HN := Lib.hid hN; have HB4 := Lib.hid hb4
      clear hown hown' hgr hN hb4
      rw [hcv]
      clear hcv
      go_upto_region 13 with fail
      rw [HP3.out]
      obtain ⟨x, hx, hxm⟩ : ∃ x, x ∈ oddL (zAd l d) ∧ ∀ (vs : List Value), vs = [.string ⟨#[]⟩, .string ⟨#[72, 69, 76, 79, 32, 97]⟩, .string ⟨#[76, 72, 76, 79]⟩, .string ⟨#[76, 72, 76, 79, 32]⟩, .string ⟨#[76, 72, 76, 79, 32, 97, 32, 98]⟩, .string ⟨(wMAIL ++ 32 :: angL (zAd l d)).toArray⟩, .string ⟨#[77, 65, 73, 76, 32, 70, 82, 79, 77, 58, 60, 62]⟩, .string ⟨#[82, 67, 80, 84, 32, 84, 79, 58, 60, 97, 64, 98, 62, 32]⟩, .string ⟨#[82, 67, 80, 84, 32, 84, 79, 58, 60, 110, 48, 110, 101, 64, 98, 62]⟩, .string ⟨#[100, 97, 116, 97, 32]⟩, .string ⟨#[78, 79, 79, 80, 32, 120]⟩, .string ⟨#[113, 117, 105, 116, 46]⟩, .string ⟨#[82, 67, 80, 84, 32, 84, 79, 58, 120, 32, 60, 97, 64, 98, 62]⟩, .string ⟨N.toArray⟩] → vs[ko]? = some (.string ⟨x.toArray⟩) := by
        have hll : (oddL (zAd l d)).length = 14 := rfl
        refine ⟨(oddL (zAd l d))[ko]'(by omega), List.getElem_mem _, fun vs hvs => ?_⟩
        have hv2 : vs = (oddL (zAd l d)).map (fun x => Value.string ⟨x.toArray⟩) := by rw [hvs, HN.out]; rfl
        rw [hv2, List.getElem?_map, List.getElem?_eq_getElem (by omega)]; rfl
      obtain ⟨z, hz, hz5⟩ := odd_line l d j x hx
      have hxl := odd_len l d x hx
      have hA5 := Has.alloc w4 [.string ⟨#[]⟩, .string ⟨#[72, 69, 76, 79, 32, 97]⟩, .string ⟨#[76, 72, 76, 79]⟩, .string ⟨#[76, 72, 76, 79, 32]⟩, .string ⟨#[76, 72, 76, 79, 32, 97, 32, 98]⟩, .string ⟨(wMAIL ++ 32 :: angL (zAd l d)).toArray⟩, .string ⟨#[77, 65, 73, 76, 32, 70, 82, 79, 77, 58, 60, 62]⟩, .string ⟨#[82, 67, 80, 84, 32, 84, 79, 58, 60, 97, 64, 98, 62, 32]⟩, .string ⟨#[82, 67, 80, 84, 32, 84, 79, 58, 60, 110, 48, 110, 101, 64, 98, 62]⟩, .string ⟨#[100, 97, 116, 97, 32]⟩, .string ⟨#[78, 79, 79, 80, 32, 120]⟩, .string ⟨#[113, 117, 105, 116, 46]⟩, .string ⟨#[82, 67, 80, 84, 32, 84, 79, 58, 120, 32, 60, 97, 64, 98, 62]⟩, .string ⟨N.toArray⟩] 9
      have ho := hA5.1 ko _ (hxm _ rfl)
      have hb5 := ba HB4.out (.cells #[.string ⟨#[]⟩, .string ⟨#[72, 69, 76, 79, 32, 97]⟩, .string ⟨#[76, 72, 76, 79]⟩, .string ⟨#[76, 72, 76, 79, 32]⟩, .string ⟨#[76, 72, 76, 79, 32, 97, 32, 98]⟩, .string ⟨(wMAIL ++ 32 :: angL (zAd l d)).toArray⟩, .string ⟨#[77, 65, 73, 76, 32, 70, 82, 79, 77, 58, 60, 62]⟩, .string ⟨#[82, 67, 80, 84, 32, 84, 79, 58, 60, 97, 64, 98, 62, 32]⟩, .string ⟨#[82, 67, 80, 84, 32, 84, 79, 58, 60, 110, 48, 110, 101, 64, 98, 62]⟩, .string ⟨#[100, 97, 116, 97, 32]⟩, .string ⟨#[78, 79, 79, 80, 32, 120]⟩, .string ⟨#[113, 117, 105, 116, 46]⟩, .string ⟨#[82, 67, 80, 84, 32, 84, 79, 58, 120, 32, 60, 97, 64, 98, 62]⟩, .string ⟨N.toArray⟩] 9)
      have hsz5 : w4.heap.size < (w4.alloc (.cells #[.string ⟨#[]⟩, .string ⟨#[72, 69, 76, 79, 32, 97]⟩, .string ⟨#[76, 72, 76, 79]⟩, .string ⟨#[76, 72, 76, 79, 32]⟩, .string ⟨#[76, 72, 76, 79, 32, 97, 32, 98]⟩, .string ⟨(wMAIL ++ 32 :: angL (zAd l d)).toArray⟩, .string ⟨#[77, 65, 73, 76, 32, 70, 82, 79, 77, 58, 60, 62]⟩, .string ⟨#[82, 67, 80, 84, 32, 84, 79, 58, 60, 97, 64, 98, 62, 32]⟩, .string ⟨#[82, 67, 80, 84, 32, 84, 79, 58, 60, 110, 48, 110, 101, 64, 98, 62]⟩, .string ⟨#[100, 97, 116, 97, 32]⟩, .string ⟨#[78, 79, 79, 80, 32, 120]⟩, .string ⟨#[113, 117, 105, 116, 46]⟩, .string ⟨#[82, 67, 80, 84, 32, 84, 79, 58, 120, 32, 60, 97, 64, 98, 62]⟩, .string ⟨N.toArray⟩] 9)).heap.size := by simp
      obtain ⟨W5, hW5⟩ : ∃ W5, W5 = w4.alloc (.cells #[.string ⟨#[]⟩, .string ⟨#[72, 69, 76, 79, 32, 97]⟩, .string ⟨#[76, 72, 76, 79]⟩, .string ⟨#[76, 72, 76, 79, 32]⟩, .string ⟨#[76, 72, 76, 79, 32, 97, 32, 98]⟩, .string ⟨(wMAIL ++ 32 :: angL (zAd l d)).toArray⟩, .string ⟨#[77, 65, 73, 76, 32, 70, 82, 79, 77, 58, 60, 62]⟩, .string ⟨#[82, 67, 80, 84, 32, 84, 79, 58, 60, 97, 64, 98, 62, 32]⟩, .string ⟨#[82, 67, 80, 84, 32, 84, 79, 58, 60, 110, 48, 110, 101, 64, 98, 62]⟩, .string ⟨#[100, 97, 116, 97, 32]⟩, .string ⟨#[78, 79, 79, 80, 32, 120]⟩, .string ⟨#[113, 117, 105, 116, 46]⟩, .string ⟨#[82, 67, 80, 84, 32, 84, 79, 58, 120, 32, 60, 97, 64, 98, 62]⟩, .string ⟨N.toArray⟩] 9) := ⟨_, rfl⟩
      obtain ⟨O, hO⟩ : ∃ O, O = w4.heap.size := ⟨_, rfl⟩
      rw [← hW5] at hb5 hsz5 ⊢
      rw [← hO] at hsz5 ⊢
      have ho5 : W5.cell? ⟨O, ko, none⟩ = some (.string ⟨x.toArray⟩) := by rw [hW5, hO]; exact ho
      replace c0 := moved c0 hb5 (Nat.le_refl _); replace c1 := moved c1 hb5 (Nat.le_refl _); replace c2 := moved c2 hb5 (Nat.le_refl _); replace c3 := moved c3 hb5 (Nat.le_refl _); replace c4 := moved c4 hb5 (Nat.le_refl _); replace c5 := moved c5 hb5 (Nat.le_refl _); replace k0' := moved k0' hb5 (Nat.le_refl _)
      have hln2 := hLN.out x
      rw [hz] at hln2
      have hLN2 : Hid (∀ (w' : World) (b : Nat), Below W5.heap.size W5 w' → SAt cStr w' (fun _ => True) (.slice (some ⟨b, 0, none⟩) 1 1) [wordL l] → Calls Tryd.prog 10 #[.agg #[.int .i64 (ordS (zAd l d) j).step, .string ⟨(ordS (zAd l d) j).frm.1.toArray⟩, .string ⟨(ordS (zAd l d) j).frm.2.toArray⟩, .slice Gv (ordS (zAd l d) j).rcp.length cv, .string ⟨(ordS (zAd l d) j).text.toArray⟩, .bool (ordS (zAd l d) j).large], .slice (some ⟨b, 0, none⟩) 1 1, .string ⟨x.toArray⟩] w' (LinePost (ordS (zAd l d) j, z, []) w')) :=
        fun w' b hb hk => hln2 w' b hxl (bt hb5 hb) hk
      have HE := Lib.hid (bt (below_grown HB3.out HG.out o3) hb5)
      have HS5 := Lib.hid (HS.out.down hb5)
      have HBR5 := Lib.hid (Below.refl W5.heap.size W5)
      clear hln2 hLN hz hx hxm hA5 ho hW5 hO hb5 HN HB4 HI HZ0 HZ1 HZ2 HP3
      obtain ⟨r, hr⟩ : ∃ r : Ses × Int × List Lt, r = (ordS (zAd l d) j, z, []) := ⟨_, rfl⟩
      rw [← hr] at hLN2
      obtain ⟨q, hq⟩ : ∃ q, q = ordS (zAd l d) j := ⟨_, rfl⟩
      rw [← hq] at hLN2 hr HS5 c0 c1 c2 c3 c4 c5
      obtain ⟨u, hu⟩ : ∃ u, u = wordL l := ⟨_, rfl⟩
      rw [← hu] at hLN2 k0'
      have HR := Lib.hid hr
      clear hr hq hu
      have i1 : (0 : Int) ≤ ko := by omega
      have i2 : (ko : Int) < 14 := by omega
      have HK0 : Hid (SAt cStr (W5.alloc (.cells #[.string ⟨u.toArray⟩] 9)).drew (fun _ => True) (.slice (some ⟨W5.heap.size, 0, none⟩) 1 1) [u]) := by
        have hh := str_one W5 (u) (fun _ => True) trivial 9
        exact hh.down (Below.drew (Below.refl _ _))
      have HW0 : Hid (Below W5.heap.size W5 (W5.alloc (.cells #[.string ⟨u.toArray⟩] 9)).drew) := Below.drew (ba (Below.refl _ _) _)
      have HZ1 : Hid (Has ((W5.alloc (.cells #[.string ⟨u.toArray⟩] 9)).alloc (.cells #[.int .i64 0, .string ⟨#[]⟩, .string ⟨#[]⟩, .slice none 0 0, .string ⟨#[]⟩, .bool false] 33)).drew (W5.heap.size + 1) [.int .i64 0, .string ⟨#[]⟩, .string ⟨#[]⟩, .slice none 0 0, .string ⟨#[]⟩, .bool false]) := by
        have hh := Has.alloc (W5.alloc (.cells #[.string ⟨u.toArray⟩] 9)) [.int .i64 0, .string ⟨#[]⟩, .string ⟨#[]⟩, .slice none 0 0, .string ⟨#[]⟩, .bool false] 33
        rw [World.size_alloc] at hh
        exact hh.down (Below.drew (Below.refl _ _))
      have HK1 : Hid (SAt cStr ((W5.alloc (.cells #[.string ⟨u.toArray⟩] 9)).alloc (.cells #[.int .i64 0, .string ⟨#[]⟩, .string ⟨#[]⟩, .slice none 0 0, .string ⟨#[]⟩, .bool false] 33)).drew (fun _ => True) (.slice (some ⟨W5.heap.size, 0, none⟩) 1 1) [u]) := by
        have hh := str_one W5 (u) (fun _ => True) trivial 9
        exact hh.down (Below.drew (ba (Below.refl _ _) _))
      have HW1 : Hid (Below W5.heap.size W5 ((W5.alloc (.cells #[.string ⟨u.toArray⟩] 9)).alloc (.cells #[.int .i64 0, .string ⟨#[]⟩, .string ⟨#[]⟩, .slice none 0 0, .string ⟨#[]⟩, .bool false] 33)).drew) := Below.drew (ba (ba (Below.refl _ _) _) _)
      have HZ2 : Hid (Has ((W5.alloc (.cells #[.int .i64 0, .string ⟨#[]⟩, .string ⟨#[]⟩, .slice none 0 0, .string ⟨#[]⟩, .bool false] 33)).alloc (.cells #[.string ⟨u.toArray⟩] 9)).drew (W5.heap.size) [.int .i64 0, .string ⟨#[]⟩, .string ⟨#[]⟩, .slice none 0 0, .string ⟨#[]⟩, .bool false]) := by
        have hh := Has.alloc W5 [.int .i64 0, .string ⟨#[]⟩, .string ⟨#[]⟩, .slice none 0 0, .string ⟨#[]⟩, .bool false] 33
        exact hh.down (Below.drew (ba (Below.refl _ _) _))
      have HK2 : Hid (SAt cStr ((W5.alloc (.cells #[.int .i64 0, .string ⟨#[]⟩, .string ⟨#[]⟩, .slice none 0 0, .string ⟨#[]⟩, .bool false] 33)).alloc (.cells #[.string ⟨u.toArray⟩] 9)).drew (fun _ => True) (.slice (some ⟨W5.heap.size + 1, 0, none⟩) 1 1) [u]) := by
        have hh := str_one (W5.alloc (.cells #[.int .i64 0, .string ⟨#[]⟩, .string ⟨#[]⟩, .slice none 0 0, .string ⟨#[]⟩, .bool false] 33)) (u) (fun _ => True) trivial 9
        rw [World.size_alloc] at hh
        exact hh.down (Below.drew (Below.refl _ _))
      have HW2 : Hid (Below W5.heap.size W5 ((W5.alloc (.cells #[.int .i64 0, .string ⟨#[]⟩, .string ⟨#[]⟩, .slice none 0 0, .string ⟨#[]⟩, .bool false] 33)).alloc (.cells #[.string ⟨u.toArray⟩] 9)).drew) := Below.drew (ba (ba (Below.refl _ _) _) _)
      have nn1 : W5.heap.size ≠ S := World.new_ne W5 ⟨S, 0, none⟩ c0
      have nm1 : W5.heap.size + 1 ≠ S := by have hh : S < W5.heap.size := World.block_lt_of_cell? W5 ⟨S, 0, none⟩ c0; omega
      have nn2 : W5.heap.size ≠ O := World.new_ne W5 ⟨O, ko, none⟩ ho5
      have nm2 : W5.heap.size + 1 ≠ O := by have hh : O < W5.heap.size := World.block_lt_of_cell? W5 ⟨O, ko, none⟩ ho5; omega
      have nn3 : W5.heap.size ≠ K := World.new_ne W5 ⟨K, 0, none⟩ k0'
      have nm3 : W5.heap.size + 1 ≠ K := by have hh : K < W5.heap.size := World.block_lt_of_cell? W5 ⟨K, 0, none⟩ k0'; omega
      skip
      go_cut [17, 18, 19, 20] (LineNew r W5)
      case first =>
        go_region_held3 (fun w' => w'.cell? ⟨S, 0, none⟩ = some (.int .i64 q.step) ∧ w'.cell? ⟨S, 1, none⟩ = some (.string ⟨q.frm.1.toArray⟩) ∧ w'.cell? ⟨S, 2, none⟩ = some (.string ⟨q.frm.2.toArray⟩) ∧ w'.cell? ⟨S, 3, none⟩ = some (.slice Gv q.rcp.length cv) ∧ w'.cell? ⟨S, 4, none⟩ = some (.string ⟨q.text.toArray⟩) ∧ w'.cell? ⟨S, 5, none⟩ = some (.bool q.large) ∧ w'.cell? ⟨O, ko, none⟩ = some (.string ⟨x.toArray⟩) ∧ w'.cell? ⟨K, 0, none⟩ = some (.string ⟨u.toArray⟩)) (first | with_reducible exact ⟨c0, c1, c2, c3, c4, c5, ho5, k0'⟩ | with_reducible exact ⟨e_0, e_1, e_2, e_3, e_4, e_5, e_6, e_7⟩ | go_keep) (first
          | (go_at_call 11; refine (HPO.out _).mono ?_; rintro e w' ⟨rfl, rfl⟩)
          | (go_at_call 10; refine (hLN2.out _ _ (by first | exact bt HBR5.out HW0.out | exact bt HBR5.out HW1.out | exact bt HBR5.out HW2.out) (by first | exact HK0.out | exact HK1.out | exact HK2.out)).mono ?_; intro e w4 hp; obtain ⟨G4, c4', Gl, cl, rfl, hv4, hl4, hb4⟩ := hp.form; first | ((with_reducible have hb0 : Below (W5.alloc (.cells #[.string ⟨u.toArray⟩] 9)).drew.heap.size (W5.alloc (.cells #[.string ⟨u.toArray⟩] 9)).drew w4 := hb4); have e_0 := moved_drew (cell_alloc _ c0) hb4 (Nat.le_refl _); have e_1 := moved_drew (cell_alloc _ c1) hb4 (Nat.le_refl _); have e_2 := moved_drew (cell_alloc _ c2) hb4 (Nat.le_refl _); have e_3 := moved_drew (cell_alloc _ c3) hb4 (Nat.le_refl _); have e_4 := moved_drew (cell_alloc _ c4) hb4 (Nat.le_refl _); have e_5 := moved_drew (cell_alloc _ c5) hb4 (Nat.le_refl _); have e_6 := moved_drew (cell_alloc _ ho5) hb4 (Nat.le_refl _); have e_7 := moved_drew (cell_alloc _ k0') hb4 (Nat.le_refl _); have np1 : w4.heap.size ≠ S := World.new_ne w4 ⟨S, 0, none⟩ e_0; have np2 : w4.heap.size ≠ O := World.new_ne w4 ⟨O, ko, none⟩ e_6; have np3 : w4.heap.size ≠ K := World.new_ne w4 ⟨K, 0, none⟩ e_7) | ((with_reducible have hb1 : Below ((W5.alloc (.cells #[.string ⟨u.toArray⟩] 9)).alloc (.cells #[.int .i64 0, .string ⟨#[]⟩, .string ⟨#[]⟩, .slice none 0 0, .string ⟨#[]⟩, .bool false] 33)).drew.heap.size ((W5.alloc (.cells #[.string ⟨u.toArray⟩] 9)).alloc (.cells #[.int .i64 0, .string ⟨#[]⟩, .string ⟨#[]⟩, .slice none 0 0, .string ⟨#[]⟩, .bool false] 33)).drew w4 := hb4); have e_0 := moved_drew (cell_alloc _ (cell_alloc _ c0)) hb4 (Nat.le_refl _); have e_1 := moved_drew (cell_alloc _ (cell_alloc _ c1)) hb4 (Nat.le_refl _); have e_2 := moved_drew (cell_alloc _ (cell_alloc _ c2)) hb4 (Nat.le_refl _); have e_3 := moved_drew (cell_alloc _ (cell_alloc _ c3)) hb4 (Nat.le_refl _); have e_4 := moved_drew (cell_alloc _ (cell_alloc _ c4)) hb4 (Nat.le_refl _); have e_5 := moved_drew (cell_alloc _ (cell_alloc _ c5)) hb4 (Nat.le_refl _); have e_6 := moved_drew (cell_alloc _ (cell_alloc _ ho5)) hb4 (Nat.le_refl _); have e_7 := moved_drew (cell_alloc _ (cell_alloc _ k0')) hb4 (Nat.le_refl _); have np1 : w4.heap.size ≠ S := World.new_ne w4 ⟨S, 0, none⟩ e_0; have np2 : w4.heap.size ≠ O := World.new_ne w4 ⟨O, ko, none⟩ e_6; have np3 : w4.heap.size ≠ K := World.new_ne w4 ⟨K, 0, none⟩ e_7; have kk := HZ1.out.down hb4; obtain ⟨k0, k1, k2, k3, k4, k5⟩ := kk.six; obtain ⟨f0, f1, f2, f3, f4, f5⟩ := kk.six_free) | ((with_reducible have hb2 : Below ((W5.alloc (.cells #[.int .i64 0, .string ⟨#[]⟩, .string ⟨#[]⟩, .slice none 0 0, .string ⟨#[]⟩, .bool false] 33)).alloc (.cells #[.string ⟨u.toArray⟩] 9)).drew.heap.size ((W5.alloc (.cells #[.int .i64 0, .string ⟨#[]⟩, .string ⟨#[]⟩, .slice none 0 0, .string ⟨#[]⟩, .bool false] 33)).alloc (.cells #[.string ⟨u.toArray⟩] 9)).drew w4 := hb4); have e_0 := moved_drew (cell_alloc _ (cell_alloc _ c0)) hb4 (Nat.le_refl _); have e_1 := moved_drew (cell_alloc _ (cell_alloc _ c1)) hb4 (Nat.le_refl _); have e_2 := moved_drew (cell_alloc _ (cell_alloc _ c2)) hb4 (Nat.le_refl _); have e_3 := moved_drew (cell_alloc _ (cell_alloc _ c3)) hb4 (Nat.le_refl _); have e_4 := moved_drew (cell_alloc _ (cell_alloc _ c4)) hb4 (Nat.le_refl _); have e_5 := moved_drew (cell_alloc _ (cell_alloc _ c5)) hb4 (Nat.le_refl _); have e_6 := moved_drew (cell_alloc _ (cell_alloc _ ho5)) hb4 (Nat.le_refl _); have e_7 := moved_drew (cell_alloc _ (cell_alloc _ k0')) hb4 (Nat.le_refl _); have np1 : w4.heap.size ≠ S := World.new_ne w4 ⟨S, 0, none⟩ e_0; have np2 : w4.heap.size ≠ O := World.new_ne w4 ⟨O, ko, none⟩ e_6; have np3 : w4.heap.size ≠ K := World.new_ne w4 ⟨K, 0, none⟩ e_7; have kk := HZ2.out.down hb4; obtain ⟨k0, k1, k2, k3, k4, k5⟩ := kk.six; obtain ⟨f0, f1, f2, f3, f4, f5⟩ := kk.six_free)))
        all_goals
          go_wp2_with fail
          go_meet
          case rel => first
            | (have _t := hb0; exact line_new HW0.out.size hv4 hl4 (bt HW0.out hb4))
            | (have _t := hb1; exact line_at (R := W5.heap.size + 1) (by omega) (by first | (simp; done) | (simp; omega)) kk hv4 hl4 (bt HW1.out hb4))
            | (have _t := hb2; exact line_at (R := W5.heap.size) (by omega) (by first | (simp; done) | (simp; omega)) kk hv4 hl4 (bt HW2.out hb4))
      case rest =>
        obtain ⟨R, G4, c4', Gl, cl, rfl, rfl, rfl, rfl, hR, hs4, -, hb4⟩ := hcut
        have hr := HR.out
        have hr1 : r.1 = q := by rw [hr]
        have hr2 : r.2.1 = z := by rw [hr]
        have hr3 : r.2.2.length = 0 := by rw [hr]; rfl
        rw [hr1] at hs4
        rw [hr2, hr3]
        have HE4 := Lib.hid (bt HE.out hb4)
        obtain ⟨d0, d1, d2, d3, d4, d5⟩ := hs4.six.six
        obtain ⟨e0, e1, e2, e3, e4, e5⟩ := (HS5.out.down hb4).six.six
        have q1 : decide ((500 : Int) ≤ z) = true := decide_eq_true hz5
        clear hr hr1 hr2 hr3 hs4 hb4 c0 c1 c2 c3 c4 c5 k0' hLN2 HR HE HS HS5 HL HK HM HG HBR HBR5 ho5
        go_wp2_with fail
        go_ret
        exact ⟨rfl, HE4.out⟩
end Go.Proofs.YtpekkebmdhpbeaaDoor
