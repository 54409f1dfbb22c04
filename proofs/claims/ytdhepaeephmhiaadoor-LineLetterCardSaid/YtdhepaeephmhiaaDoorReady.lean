/-
  DERIVED. 'ready' of postroomkeep: a session that is ready for the lines of a letter: the walk.
-/
import Derived.Test.YtdhepaeephmhiaaDoorLineKit
import Derived.Deep.RegionHeld3
import Derived.BigRegion
namespace Go.Proofs.YtdhepaeephmhiaaDoor
open Go.RowKit

def ReadyPost (f t : Ad) (w : World) (e : Ending) (w' : World) : Prop :=
  (∃ G c, e = .returned (.tuple #[.agg #[.int .i64 4, .string ⟨f.1.toArray⟩, .string ⟨f.2.toArray⟩, .slice G 1 c, .string ⟨#[]⟩, .bool false], .bool true]) ∧ SAt cAd w' (fun b => w.heap.size ≤ b) (.slice G 1 c) [t]) ∧ Below w.heap.size w w'
theorem rdy_bytes (p q : Array UInt8) (x y : List UInt8) (h : p = (q.toList ++ [60]).toArray) : (⟨p⟩ : ByteArray) ++ ⟨x.toArray⟩ ++ ⟨#[64]⟩ ++ ⟨y.toArray⟩ ++ ⟨#[62]⟩ = ⟨(q.toList ++ angL (x, y)).toArray⟩ := by
  rw [← Lib.mk_data ((⟨p⟩ : ByteArray) ++ ⟨x.toArray⟩ ++ ⟨#[64]⟩ ++ ⟨y.toArray⟩ ++ ⟨#[62]⟩)]
  congr 2
  subst h
  simp [angL]
theorem Has.four {w : World} {b : Nat} {a0 a1 a2 a3 : Value} (h : Has w b [a0, a1, a2, a3]) : w.cell? ⟨b, 0, none⟩ = some a0 ∧ w.cell? ⟨b, 1, none⟩ = some a1 ∧ w.cell? ⟨b, 2, none⟩ = some a2 ∧ w.cell? ⟨b, 3, none⟩ = some a3 := ⟨h.1 0 _ rfl, h.1 1 _ rfl, h.1 2 _ rfl, h.1 3 _ rfl⟩

theorem ready_done {w W3 wr : World} {Z S : Nat} {f t : Ad} {Gv : Option Addr} {cv : Nat} (hk : Has wr Z [.int .i64 0, .string ⟨#[]⟩, .string ⟨#[]⟩, .slice none 0 0, .string ⟨#[]⟩, .bool false]) (hs : SesAt W3.heap.size wr S (.slice Gv 1 cv) ⟨4, f, [t], [], false⟩) (hZS : Z < S) (hZw : w.heap.size ≤ Z) (hb : Below w.heap.size w W3) (hg : W3.grownBy wr (some S)) (hS : S < W3.heap.size) :
    Has (((((((wr.setCell ⟨Z, 0, none⟩ (.int .i64 4)).setCell ⟨Z, 1, none⟩ (.string ⟨f.1.toArray⟩)).setCell ⟨Z, 2, none⟩ (.string ⟨f.2.toArray⟩)).setCell ⟨Z, 3, none⟩ (.slice Gv 1 cv)).setCell ⟨Z, 4, none⟩ (.string ⟨#[]⟩)).setCell ⟨Z, 5, none⟩ (.bool false)).drew) Z [.int .i64 4, .string ⟨f.1.toArray⟩, .string ⟨f.2.toArray⟩, .slice Gv 1 cv, .string ⟨#[]⟩, .bool false] ∧ SAt cAd (((((((wr.setCell ⟨Z, 0, none⟩ (.int .i64 4)).setCell ⟨Z, 1, none⟩ (.string ⟨f.1.toArray⟩)).setCell ⟨Z, 2, none⟩ (.string ⟨f.2.toArray⟩)).setCell ⟨Z, 3, none⟩ (.slice Gv 1 cv)).setCell ⟨Z, 4, none⟩ (.string ⟨#[]⟩)).setCell ⟨Z, 5, none⟩ (.bool false)).drew) (fun b => w.heap.size ≤ b) (.slice Gv 1 cv) [t] ∧ Below w.heap.size w (((((((wr.setCell ⟨Z, 0, none⟩ (.int .i64 4)).setCell ⟨Z, 1, none⟩ (.string ⟨f.1.toArray⟩)).setCell ⟨Z, 2, none⟩ (.string ⟨f.2.toArray⟩)).setCell ⟨Z, 3, none⟩ (.slice Gv 1 cv)).setCell ⟨Z, 4, none⟩ (.string ⟨#[]⟩)).setCell ⟨Z, 5, none⟩ (.bool false)).drew) := by
  have hgz : wr.grownBy (((((((wr.setCell ⟨Z, 0, none⟩ (.int .i64 4)).setCell ⟨Z, 1, none⟩ (.string ⟨f.1.toArray⟩)).setCell ⟨Z, 2, none⟩ (.string ⟨f.2.toArray⟩)).setCell ⟨Z, 3, none⟩ (.slice Gv 1 cv)).setCell ⟨Z, 4, none⟩ (.string ⟨#[]⟩)).setCell ⟨Z, 5, none⟩ (.bool false)).drew) (some Z) := Go.Lib.grownBy_below (Go.Lib.grownBy_setB (Go.Lib.grownBy_setB (Go.Lib.grownBy_setB (Go.Lib.grownBy_setB (Go.Lib.grownBy_setB (Go.Lib.grownBy_setB (World.grownBy.refl wr (some Z)) 0 _) 1 _) 2 _) 3 _) 4 _) 5 _) (Below.drew (Below.refl _ _))
  refine ⟨?_, ?_, below_grown (below_grown hb hg (by omega)) hgz hZw⟩
  · exact ((((((hk.set' (i := 0) _ (by simp)).set' (i := 1) _ (by simp)).set' (i := 2) _ (by simp)).set' (i := 3) _ (by simp)).set' (i := 4) _ (by simp)).set' (i := 5) _ (by simp)).down (Below.drew (Below.refl _ _))
  · exact (hs.rcp.stable (Same.of_grown hgz (fun b e hh => by have := Option.some.inj e; have := hh.2; omega)) hgz.size).mono (fun b hh => by have := hh.2; omega)
theorem ready_end {Z : Nat} {f t : Ad} {Gv : Option Addr} {cv : Nat} {a : Act} {W w : World} (ht : a.tmps.getD 2 undef = .pointer (some ⟨Z, 0, none⟩)) (h3 : a.tmps.getD 3 undef = .bool true) (hd : a.defers = [])
    (h : Has W Z [.int .i64 4, .string ⟨f.1.toArray⟩, .string ⟨f.2.toArray⟩, .slice Gv 1 cv, .string ⟨#[]⟩, .bool false]) (hv : SAt cAd W (fun b => w.heap.size ≤ b) (.slice Gv 1 cv) [t]) (hb : Below w.heap.size w W) : bodyPost Tryd.prog Tryd.f14 (ReadyPost f t w) .ret a W := by
  obtain ⟨c0, c1, c2, c3, c4, c5⟩ := h.six
  refine bodyPost_ret (v := .tuple #[.agg #[.int .i64 4, .string ⟨f.1.toArray⟩, .string ⟨f.2.toArray⟩, .slice Gv 1 cv, .string ⟨#[]⟩, .bool false], .bool true]) ?_ hd ⟨⟨Gv, cv, rfl, hv⟩, hb⟩
  have ht' : a.tmps[2]?.getD undef = .pointer (some ⟨Z, 0, none⟩) := by simpa using ht
  have h3' : a.tmps[3]?.getD undef = .bool true := by simpa using h3
  simp [results, Tryd.results14, go_sem, ht', h3', c0, c1, c2, c3, c4, c5]

set_option maxHeartbeats 8000000 in
set_option maxRecDepth 20000 in
theorem ready_any (a0 a1 a2 b0 b1 b2 : ByteArray) (G : Option Addr) (n c : Nat) (bo : ByteArray) (m : Int) (w : World) (h0 : a0.size ≤ maxLen) (h1 : a1.size ≤ maxLen) (k0 : b0.size ≤ maxLen) (k1 : b1.size ≤ maxLen) (hm : w.cell? ⟨0, 0, none⟩ = some (.int .i64 m)) :
    Calls Tryd.prog 14 #[.agg #[.string a0, .string a1, .string a2, .string b0, .string b1, .string b2, .slice G n c, .string bo]] w (ReadyPost (zAd a0.data.toList a1.data.toList) (zAd b0.data.toList b1.data.toList) w) := by
  unfold maxLen at h0 h1 k0 k1
  have HAD1 := Lib.hid (fun w => address_any a0 a1 a2 w (by omega) (by omega))
  have HAD2 := Lib.hid (fun w => address_any b0 b1 b2 w (by omega) (by omega))
  have hgood := rdy_good a0.data.toList a1.data.toList b0.data.toList b1.data.toList
  have hnext := rdy_next a0.data.toList a1.data.toList b0.data.toList b1.data.toList
  have hlf := angL_len a0.data.toList a1.data.toList
  have hlt := angL_len b0.data.toList b1.data.toList
  have hwf : (zAd a0.data.toList a1.data.toList).1.length ≤ 8 ∧ (zAd a0.data.toList a1.data.toList).2.length ≤ 12 := by
    have x1 := wordL_len8 a0.data.toList; have x2 := wordL_len8 a1.data.toList
    simp only [zAd, List.length_append, List.length_cons, List.length_nil]; omega
  have hwt : (zAd b0.data.toList b1.data.toList).1.length ≤ 8 ∧ (zAd b0.data.toList b1.data.toList).2.length ≤ 12 := by
    have x1 := wordL_len8 b0.data.toList; have x2 := wordL_len8 b1.data.toList
    simp only [zAd, List.length_append, List.length_cons, List.length_nil]; omega
  have ht1 : wordL b0.data.toList = (zAd b0.data.toList b1.data.toList).1 := rfl
  rw [ht1] at hnext
  have HX1 : Hid (addrL a0.data.toList = ⟨(zAd a0.data.toList a1.data.toList).1.toArray⟩) := rfl
  have HY1 : Hid (addrD a1.data.toList = ⟨(zAd a0.data.toList a1.data.toList).2.toArray⟩) := (arr_addrD _).symm
  have HX2 : Hid (addrL b0.data.toList = ⟨(zAd b0.data.toList b1.data.toList).1.toArray⟩) := rfl
  have HY2 : Hid (addrD b1.data.toList = ⟨(zAd b0.data.toList b1.data.toList).2.toArray⟩) := (arr_addrD _).symm
  rw [HX1.out, HY1.out] at HAD1
  rw [HX2.out, HY2.out] at HAD2
  obtain ⟨f, hf⟩ : ∃ f, f = zAd a0.data.toList a1.data.toList := ⟨_, rfl⟩
  obtain ⟨t, ht⟩ : ∃ t, t = zAd b0.data.toList b1.data.toList := ⟨_, rfl⟩
  rw [← hf, ← ht] at hgood hnext ⊢
  rw [← hf] at hlf hwf HAD1; rw [← ht] at hlt hwt HAD2
  have HGOOD := Lib.hid hgood; have HNEXT := Lib.hid hnext
  clear hf ht HX1 HY1 HX2 HY2 ht1 hgood hnext
  obtain ⟨hf1, hf2⟩ := hwf
  obtain ⟨ht1, ht2⟩ := hwt
  have hA := ba (ba (Below.refl w.heap.size w) (.cells #[.string a0, .string a1, .string a2, .string b0, .string b1, .string b2, .slice G n c, .string bo] 42)) (.cells zeroS 49)
  have hZ := Has.alloc (w.alloc (.cells #[.string a0, .string a1, .string a2, .string b0, .string b1, .string b2, .slice G n c, .string bo] 42)) zeroS.toList 49
  have hP := (Has.alloc w [.string a0, .string a1, .string a2, .string b0, .string b1, .string b2, .slice G n c, .string bo] 42).down (ba (Below.refl _ _) (.cells zeroS 49))
  rw [World.size_alloc] at hZ
  have HA := Lib.hid hA; have HM := Lib.hid (moved hm hA (Nat.le_refl _)); have HZ := Lib.hid hZ; have HP := Lib.hid hP
  have hmw : 0 < w.heap.size := World.block_lt_of_cell? w ⟨0, 0, none⟩ hm
  clear hA hm hZ hP
  go_enter Tryd.func14, Tryd.ntmps14
  go_wp2_with fail
  refine (HAD1.out _).mono ?_
  rintro e w1 ⟨rfl, hb1⟩
  have hA1 := ba (Below.refl w1.heap.size w1) (.cells #[.string ⟨f.1.toArray⟩, .string ⟨f.2.toArray⟩] 44)
  have hbb := bt hb1 hA1
  have hz1 : w.heap.size + 2 ≤ w1.heap.size := by have := hb1.size; simpa using this
  have HF1 := Lib.hid (Has.alloc w1 [.string ⟨f.1.toArray⟩, .string ⟨f.2.toArray⟩] 44)
  have HB1 := Lib.hid (bt HA.out hbb); have HM1 := Lib.hid (moved HM.out hbb (Nat.le_refl _)); have HZ1 := Lib.hid (HZ.out.down hbb)
  have hP1 := HP.out.down hbb
  have p3 := hP1.1 3 _ rfl; have p4 := hP1.1 4 _ rfl; have p5 := hP1.1 5 _ rfl
  clear hb1 hA1 hbb HA HM HZ HP hP1 HAD1
  go_wp2_with fail
  refine (HAD2.out _).mono ?_
  rintro e w2 ⟨rfl, hb2⟩
  have hA2 := ba (Below.refl w2.heap.size w2) (.cells #[.string ⟨t.1.toArray⟩, .string ⟨t.2.toArray⟩] 44)
  have hbb := bt hb2 hA2
  have hz2 : w1.heap.size + 1 ≤ w2.heap.size := by have := hb2.size; simpa using this
  have HF2 := Lib.hid (HF1.out.down hbb)
  have HT2 := Lib.hid (Has.alloc w2 [.string ⟨t.1.toArray⟩, .string ⟨t.2.toArray⟩] 44)
  have HB2 := Lib.hid (bt HB1.out hbb); have HM2 := Lib.hid (moved HM1.out hbb (Nat.le_refl _)); have HZ2 := Lib.hid (HZ1.out.down hbb)
  obtain ⟨x0, x1, -, -⟩ := HF2.out.two
  obtain ⟨y0, y1, -, -⟩ := HT2.out.two
  have hs1 : (⟨f.1.toArray⟩ : ByteArray).size ≤ 8 := by show f.1.toArray.size ≤ 8; simpa using hf1
  have hs2 : (⟨f.2.toArray⟩ : ByteArray).size ≤ 12 := by show f.2.toArray.size ≤ 12; simpa using hf2
  have hs3 : (⟨t.1.toArray⟩ : ByteArray).size ≤ 8 := by show t.1.toArray.size ≤ 8; simpa using ht1
  have hs4 : (⟨t.2.toArray⟩ : ByteArray).size ≤ 12 := by show t.2.toArray.size ≤ 12; simpa using ht2
  have HP1 : Hid ((⟨#[77, 65, 73, 76, 32, 70, 82, 79, 77, 58, 60]⟩ : ByteArray) ++ ⟨f.1.toArray⟩ ++ ⟨#[64]⟩ ++ ⟨f.2.toArray⟩ ++ ⟨#[62]⟩ = ⟨(rdyL f t 1).toArray⟩) := rdy_bytes _ wMAIL.toArray f.1 f.2 rfl
  have HP2 : Hid ((⟨#[114, 99, 112, 116, 32, 116, 111, 58, 60]⟩ : ByteArray) ++ ⟨t.1.toArray⟩ ++ ⟨#[64]⟩ ++ ⟨t.2.toArray⟩ ++ ⟨#[62]⟩ = ⟨(rdyL f t 2).toArray⟩) := rdy_bytes _ wrcpt.toArray t.1 t.2 rfl
  clear hb2 hA2 hbb HB1 HM1 HZ1 HF1 p3 p4 p5 HAD2
  go_upto_region 4 with fail
  rw [HP1.out, HP2.out]
  clear HP1 HP2 hs1 hs2 hs3 hs4 x0 x1 y0 y1
  go_wp2_with fail
  have hL := Has.alloc (w2.alloc (.cells #[.string ⟨t.1.toArray⟩, .string ⟨t.2.toArray⟩] 44)) [.string ⟨#[76, 72, 76, 79, 32, 120, 46, 121]⟩, .string ⟨(rdyL f t 1).toArray⟩, .string ⟨(rdyL f t 2).toArray⟩, .string ⟨#[68, 65, 84, 65]⟩] 9
  have hC := Has.alloc ((w2.alloc (.cells #[.string ⟨t.1.toArray⟩, .string ⟨t.2.toArray⟩] 44)).alloc (.cells #[.string ⟨#[76, 72, 76, 79, 32, 120, 46, 121]⟩, .string ⟨(rdyL f t 1).toArray⟩, .string ⟨(rdyL f t 2).toArray⟩, .string ⟨#[68, 65, 84, 65]⟩] 9)) [.int .i64 250, .int .i64 250, .int .i64 250, .int .i64 354] 3
  have hS := Has.alloc (((w2.alloc (.cells #[.string ⟨t.1.toArray⟩, .string ⟨t.2.toArray⟩] 44)).alloc (.cells #[.string ⟨#[76, 72, 76, 79, 32, 120, 46, 121]⟩, .string ⟨(rdyL f t 1).toArray⟩, .string ⟨(rdyL f t 2).toArray⟩, .string ⟨#[68, 65, 84, 65]⟩] 9)).alloc (.cells #[.int .i64 250, .int .i64 250, .int .i64 250, .int .i64 354] 3)) zeroS.toList 49
  simp only [World.size_alloc] at hL hC hS
  replace hL := (hL.down (ba (Below.refl _ _) (.cells #[.int .i64 250, .int .i64 250, .int .i64 250, .int .i64 354] 3))).down (ba (Below.refl _ _) (.cells zeroS 49))
  replace hC := hC.down (ba (Below.refl _ _) (.cells zeroS 49))
  have hT := ((HT2.out.down (ba (Below.refl _ _) (.cells #[.string ⟨#[76, 72, 76, 79, 32, 120, 46, 121]⟩, .string ⟨(rdyL f t 1).toArray⟩, .string ⟨(rdyL f t 2).toArray⟩, .string ⟨#[68, 65, 84, 65]⟩] 9))).down (ba (Below.refl _ _) (.cells #[.int .i64 250, .int .i64 250, .int .i64 250, .int .i64 354] 3))).down (ba (Below.refl _ _) (.cells zeroS 49))
  have hb3 := ba (ba (ba (Below.refl _ (w2.alloc (.cells #[.string ⟨t.1.toArray⟩, .string ⟨t.2.toArray⟩] 44))) (.cells #[.string ⟨#[76, 72, 76, 79, 32, 120, 46, 121]⟩, .string ⟨(rdyL f t 1).toArray⟩, .string ⟨(rdyL f t 2).toArray⟩, .string ⟨#[68, 65, 84, 65]⟩] 9)) (.cells #[.int .i64 250, .int .i64 250, .int .i64 250, .int .i64 354] 3)) (.cells zeroS 49)
  have HB3 := Lib.hid (bt HB2.out hb3); have HM3 := Lib.hid (moved HM2.out hb3 (Nat.le_refl _)); have HZ3 := Lib.hid (HZ2.out.down hb3)
  have HL3 := Lib.hid hL; have HC3 := Lib.hid hC; have HS3 := Lib.hid hS; have HT3 := Lib.hid hT
  clear hL hC hS hT hb3 HB2 HM2 HZ2 HT2 HF2
  unfold zeroS at HL3 HC3 HS3 HT3 HB3 HM3 HZ3
  obtain ⟨W3, hW3⟩ : ∃ W3, W3 = (((w2.alloc (.cells #[.string ⟨t.1.toArray⟩, .string ⟨t.2.toArray⟩] 44)).alloc (.cells #[.string ⟨#[76, 72, 76, 79, 32, 120, 46, 121]⟩, .string ⟨(rdyL f t 1).toArray⟩, .string ⟨(rdyL f t 2).toArray⟩, .string ⟨#[68, 65, 84, 65]⟩] 9)).alloc (.cells #[.int .i64 250, .int .i64 250, .int .i64 250, .int .i64 354] 3)).alloc (.cells #[.int .i64 0, .string ⟨#[]⟩, .string ⟨#[]⟩, .slice none 0 0, .string ⟨#[]⟩, .bool false] 49) := ⟨_, rfl⟩
  have o1 : w2.heap.size + 4 ≤ W3.heap.size := by rw [hW3]; simp
  rw [← hW3] at HL3 HC3 HS3 HT3 HB3 HM3 HZ3 ⊢
  clear hW3
  obtain ⟨T, hT⟩ : ∃ T, T = w2.heap.size := ⟨_, rfl⟩
  obtain ⟨S, hS⟩ : ∃ S, S = w2.heap.size + 3 := ⟨_, rfl⟩
  obtain ⟨C, hC⟩ : ∃ C, C = w2.heap.size + 2 := ⟨_, rfl⟩
  obtain ⟨L, hL⟩ : ∃ L, L = w2.heap.size + 1 := ⟨_, rfl⟩
  rw [← hS, ← hC, ← hL, ← hT]
  rw [← hS] at HS3; rw [← hC] at HC3; rw [← hL] at HL3; rw [← hT] at HT3
  have o2 : S < W3.heap.size := by omega
  have o3 : T < S ∧ L < S ∧ C < S ∧ w.heap.size + 2 ≤ T := by omega
  have o4 : 0 < S := by omega
  obtain ⟨o5, o6, o7, o8⟩ := o3
  clear hz1 hz2 o1 hT hS hC hL hmw
  go_loopw [9] (fun i wr => ∃ j : Nat, j ≤ 4 ∧ i = .int .i64 j ∧ SesPost W3.heap.size S (rdyS f t j) W3 wr) (fun i _ => 4 - (intOf i).toNat)
  case atStart => exact ⟨0, Nat.zero_le _, rfl, SesPost.of ⟨HS3.out, SAt.nil _ _ _⟩ (World.grownBy.refl _ _)⟩
  case round =>
    obtain ⟨j, hj, rfl, ⟨v, hs⟩, hg⟩ := hrel
    obtain ⟨Gv, cv, rfl, -⟩ := hs.rcp.form
    have HLr := Lib.hid (HL3.out.kept hg (fun e => by have := Option.some.inj e; omega))
    have HCr := Lib.hid (HC3.out.kept hg (fun e => by have := Option.some.inj e; omega))
    have HTr := Lib.hid (HT3.out.kept hg (fun e => by have := Option.some.inj e; omega))
    have HZr := Lib.hid (HZ3.out.kept hg (fun e => by have := Option.some.inj e; omega))
    have HM := Lib.hid (cell_else hg HM3.out (by omega))
    have HS := Lib.hid hs; have HG := Lib.hid hg
    have hg2 := HGOOD.out j
    have hsz : W3.heap.size ≤ wr.heap.size := hg.size
    have hSw : S < wr.heap.size := hs.has.2.2
    clear hs hg
    by_cases hlt : j < 4
    · have hnx := HNEXT.out j hlt
      have hxl : (rdyL f t j).length ≤ 300 := by
        match j, hlt with
        | 0, _ => show 8 ≤ 300; omega
        | 1, _ => show (wMAIL ++ angL f).length ≤ 300; rw [List.length_append]; show 10 + _ ≤ 300; omega
        | 2, _ => show (wrcpt ++ angL t).length ≤ 300; rw [List.length_append]; show 8 + _ ≤ 300; omega
        | 3, _ => show 4 ≤ 300; omega
      have hl : wr.cell? ⟨L, j, none⟩ = some (.string ⟨(rdyL f t j).toArray⟩) := by
        match j, hlt with
        | 0, _ => exact HLr.out.1 0 _ rfl
        | 1, _ => exact HLr.out.1 1 _ rfl
        | 2, _ => exact HLr.out.1 2 _ rfl
        | 3, _ => exact HLr.out.1 3 _ rfl
      have hcd : wr.cell? ⟨C, j, none⟩ = some (.int .i64 (rdyC j)) := by
        match j, hlt with
        | 0, _ => exact HCr.out.1 0 _ rfl
        | 1, _ => exact HCr.out.1 1 _ rfl
        | 2, _ => exact HCr.out.1 2 _ rfl
        | 3, _ => exact HCr.out.1 3 _ rfl
      obtain ⟨ht0, -, -, -⟩ := HTr.out.two
      have hLN : Hid (∀ (w' : World) (b : Nat), Below wr.heap.size wr w' → SAt cStr w' (fun _ => True) (.slice (some ⟨b, 0, none⟩) 1 1) [t.1] → Calls Tryd.prog 12 #[.agg #[.int .i64 (rdyS f t j).step, .string ⟨(rdyS f t j).frm.1.toArray⟩, .string ⟨(rdyS f t j).frm.2.toArray⟩, .slice Gv (rdyS f t j).rcp.length cv, .string ⟨(rdyS f t j).text.toArray⟩, .bool (rdyS f t j).large], .slice (some ⟨b, 0, none⟩) 1 1, .string ⟨(rdyL f t j).toArray⟩] w' (LinePost (rdyS f t (j + 1), rdyC j, []) w')) := by
        intro w' b hb hk
        rw [← hnx]
        exact line_any (rdyS f t j) _ _ _ [t.1] _ _ m w' (HS.out.rcp.down hb) hg2 hk (by show 1 ≤ 1000; omega) (by omega) (moved HM.out hb (Nat.le_refl _))
      obtain ⟨c0, c1, c2, c3, c4, c5⟩ := HS.out.six.six
      obtain ⟨r, hr⟩ : ∃ r : Ses × Int × List Lt, r = (rdyS f t (j + 1), rdyC j, []) := ⟨_, rfl⟩
      rw [← hr] at hLN
      obtain ⟨q, hq⟩ : ∃ q, q = rdyS f t j := ⟨_, rfl⟩
      rw [← hq] at hLN HS c0 c1 c2 c3 c4 c5
      obtain ⟨x, hx⟩ : ∃ x, x = rdyL f t j := ⟨_, rfl⟩
      rw [← hx] at hLN hl
      obtain ⟨cd, hcd2⟩ : ∃ cd, cd = rdyC j := ⟨_, rfl⟩
      rw [← hcd2] at hcd hr
      have HR := Lib.hid hr
      have HBR := Lib.hid (Below.refl wr.heap.size wr)
      have dj : decide ((j : Int) < 4) = true := decide_eq_true (by omega)
      clear hnx hxl hr hq hx hg2 hcd2
      go_upto_region 9 with fail
      clear dj
      have i1 : (0 : Int) ≤ j := by omega
      have i2 : (j : Int) < 4 := by omega
      have HK0 : Hid (SAt cStr (wr.alloc (.cells #[.string ⟨t.1.toArray⟩] 9)).drew (fun _ => True) (.slice (some ⟨wr.heap.size, 0, none⟩) 1 1) [t.1]) := by
        have hh := str_one wr (t.1) (fun _ => True) trivial 9
        exact hh.down (Below.drew (Below.refl _ _))
      have HW0 : Hid (Below wr.heap.size wr (wr.alloc (.cells #[.string ⟨t.1.toArray⟩] 9)).drew) := Below.drew (ba (Below.refl _ _) _)
      have HZ1 : Hid (Has ((wr.alloc (.cells #[.string ⟨t.1.toArray⟩] 9)).alloc (.cells #[.int .i64 0, .string ⟨#[]⟩, .string ⟨#[]⟩, .slice none 0 0, .string ⟨#[]⟩, .bool false] 49)).drew (wr.heap.size + 1) [.int .i64 0, .string ⟨#[]⟩, .string ⟨#[]⟩, .slice none 0 0, .string ⟨#[]⟩, .bool false]) := by
        have hh := Has.alloc (wr.alloc (.cells #[.string ⟨t.1.toArray⟩] 9)) [.int .i64 0, .string ⟨#[]⟩, .string ⟨#[]⟩, .slice none 0 0, .string ⟨#[]⟩, .bool false] 49
        rw [World.size_alloc] at hh
        exact hh.down (Below.drew (Below.refl _ _))
      have HK1 : Hid (SAt cStr ((wr.alloc (.cells #[.string ⟨t.1.toArray⟩] 9)).alloc (.cells #[.int .i64 0, .string ⟨#[]⟩, .string ⟨#[]⟩, .slice none 0 0, .string ⟨#[]⟩, .bool false] 49)).drew (fun _ => True) (.slice (some ⟨wr.heap.size, 0, none⟩) 1 1) [t.1]) := by
        have hh := str_one wr (t.1) (fun _ => True) trivial 9
        exact hh.down (Below.drew (ba (Below.refl _ _) _))
      have HW1 : Hid (Below wr.heap.size wr ((wr.alloc (.cells #[.string ⟨t.1.toArray⟩] 9)).alloc (.cells #[.int .i64 0, .string ⟨#[]⟩, .string ⟨#[]⟩, .slice none 0 0, .string ⟨#[]⟩, .bool false] 49)).drew) := Below.drew (ba (ba (Below.refl _ _) _) _)
      have HZ2 : Hid (Has ((wr.alloc (.cells #[.int .i64 0, .string ⟨#[]⟩, .string ⟨#[]⟩, .slice none 0 0, .string ⟨#[]⟩, .bool false] 49)).alloc (.cells #[.string ⟨t.1.toArray⟩] 9)).drew (wr.heap.size) [.int .i64 0, .string ⟨#[]⟩, .string ⟨#[]⟩, .slice none 0 0, .string ⟨#[]⟩, .bool false]) := by
        have hh := Has.alloc wr [.int .i64 0, .string ⟨#[]⟩, .string ⟨#[]⟩, .slice none 0 0, .string ⟨#[]⟩, .bool false] 49
        exact hh.down (Below.drew (ba (Below.refl _ _) _))
      have HK2 : Hid (SAt cStr ((wr.alloc (.cells #[.int .i64 0, .string ⟨#[]⟩, .string ⟨#[]⟩, .slice none 0 0, .string ⟨#[]⟩, .bool false] 49)).alloc (.cells #[.string ⟨t.1.toArray⟩] 9)).drew (fun _ => True) (.slice (some ⟨wr.heap.size + 1, 0, none⟩) 1 1) [t.1]) := by
        have hh := str_one (wr.alloc (.cells #[.int .i64 0, .string ⟨#[]⟩, .string ⟨#[]⟩, .slice none 0 0, .string ⟨#[]⟩, .bool false] 49)) (t.1) (fun _ => True) trivial 9
        rw [World.size_alloc] at hh
        exact hh.down (Below.drew (Below.refl _ _))
      have HW2 : Hid (Below wr.heap.size wr ((wr.alloc (.cells #[.int .i64 0, .string ⟨#[]⟩, .string ⟨#[]⟩, .slice none 0 0, .string ⟨#[]⟩, .bool false] 49)).alloc (.cells #[.string ⟨t.1.toArray⟩] 9)).drew) := Below.drew (ba (ba (Below.refl _ _) _) _)
      have nn1 : wr.heap.size ≠ S := World.new_ne wr ⟨S, 0, none⟩ c0
      have nm1 : wr.heap.size + 1 ≠ S := by have hh : S < wr.heap.size := World.block_lt_of_cell? wr ⟨S, 0, none⟩ c0; omega
      have nn2 : wr.heap.size ≠ L := World.new_ne wr ⟨L, j, none⟩ hl
      have nm2 : wr.heap.size + 1 ≠ L := by have hh : L < wr.heap.size := World.block_lt_of_cell? wr ⟨L, j, none⟩ hl; omega
      have nn3 : wr.heap.size ≠ T := World.new_ne wr ⟨T, 0, none⟩ ht0
      have nm3 : wr.heap.size + 1 ≠ T := by have hh : T < wr.heap.size := World.block_lt_of_cell? wr ⟨T, 0, none⟩ ht0; omega
      skip
      go_cut [10, 11, 12, 13] (LineNew r wr)
      case first =>
        go_region_held3 (fun w' => w'.cell? ⟨S, 0, none⟩ = some (.int .i64 q.step) ∧ w'.cell? ⟨S, 1, none⟩ = some (.string ⟨q.frm.1.toArray⟩) ∧ w'.cell? ⟨S, 2, none⟩ = some (.string ⟨q.frm.2.toArray⟩) ∧ w'.cell? ⟨S, 3, none⟩ = some (.slice Gv q.rcp.length cv) ∧ w'.cell? ⟨S, 4, none⟩ = some (.string ⟨q.text.toArray⟩) ∧ w'.cell? ⟨S, 5, none⟩ = some (.bool q.large) ∧ w'.cell? ⟨L, j, none⟩ = some (.string ⟨x.toArray⟩) ∧ w'.cell? ⟨T, 0, none⟩ = some (.string ⟨t.1.toArray⟩)) (first | with_reducible exact ⟨c0, c1, c2, c3, c4, c5, hl, ht0⟩ | with_reducible exact ⟨e_0, e_1, e_2, e_3, e_4, e_5, e_6, e_7⟩ | go_keep) (first
          | (go_at_call 12; refine (hLN.out _ _ (by first | exact bt HBR.out HW0.out | exact bt HBR.out HW1.out | exact bt HBR.out HW2.out) (by first | exact HK0.out | exact HK1.out | exact HK2.out)).mono ?_; intro e w4 hp; obtain ⟨G4, c4', Gl, cl, rfl, hv4, hl4, hb4⟩ := hp.form; first | ((with_reducible have hb0 : Below (wr.alloc (.cells #[.string ⟨t.1.toArray⟩] 9)).drew.heap.size (wr.alloc (.cells #[.string ⟨t.1.toArray⟩] 9)).drew w4 := hb4); have e_0 := moved_drew (cell_alloc _ c0) hb4 (Nat.le_refl _); have e_1 := moved_drew (cell_alloc _ c1) hb4 (Nat.le_refl _); have e_2 := moved_drew (cell_alloc _ c2) hb4 (Nat.le_refl _); have e_3 := moved_drew (cell_alloc _ c3) hb4 (Nat.le_refl _); have e_4 := moved_drew (cell_alloc _ c4) hb4 (Nat.le_refl _); have e_5 := moved_drew (cell_alloc _ c5) hb4 (Nat.le_refl _); have e_6 := moved_drew (cell_alloc _ hl) hb4 (Nat.le_refl _); have e_7 := moved_drew (cell_alloc _ ht0) hb4 (Nat.le_refl _); have np1 : w4.heap.size ≠ S := World.new_ne w4 ⟨S, 0, none⟩ e_0; have np2 : w4.heap.size ≠ L := World.new_ne w4 ⟨L, j, none⟩ e_6; have np3 : w4.heap.size ≠ T := World.new_ne w4 ⟨T, 0, none⟩ e_7) | ((with_reducible have hb1 : Below ((wr.alloc (.cells #[.string ⟨t.1.toArray⟩] 9)).alloc (.cells #[.int .i64 0, .string ⟨#[]⟩, .string ⟨#[]⟩, .slice none 0 0, .string ⟨#[]⟩, .bool false] 49)).drew.heap.size ((wr.alloc (.cells #[.string ⟨t.1.toArray⟩] 9)).alloc (.cells #[.int .i64 0, .string ⟨#[]⟩, .string ⟨#[]⟩, .slice none 0 0, .string ⟨#[]⟩, .bool false] 49)).drew w4 := hb4); have e_0 := moved_drew (cell_alloc _ (cell_alloc _ c0)) hb4 (Nat.le_refl _); have e_1 := moved_drew (cell_alloc _ (cell_alloc _ c1)) hb4 (Nat.le_refl _); have e_2 := moved_drew (cell_alloc _ (cell_alloc _ c2)) hb4 (Nat.le_refl _); have e_3 := moved_drew (cell_alloc _ (cell_alloc _ c3)) hb4 (Nat.le_refl _); have e_4 := moved_drew (cell_alloc _ (cell_alloc _ c4)) hb4 (Nat.le_refl _); have e_5 := moved_drew (cell_alloc _ (cell_alloc _ c5)) hb4 (Nat.le_refl _); have e_6 := moved_drew (cell_alloc _ (cell_alloc _ hl)) hb4 (Nat.le_refl _); have e_7 := moved_drew (cell_alloc _ (cell_alloc _ ht0)) hb4 (Nat.le_refl _); have np1 : w4.heap.size ≠ S := World.new_ne w4 ⟨S, 0, none⟩ e_0; have np2 : w4.heap.size ≠ L := World.new_ne w4 ⟨L, j, none⟩ e_6; have np3 : w4.heap.size ≠ T := World.new_ne w4 ⟨T, 0, none⟩ e_7; have kk := HZ1.out.down hb4; obtain ⟨k0, k1, k2, k3, k4, k5⟩ := kk.six; obtain ⟨f0, f1, f2, f3, f4, f5⟩ := kk.six_free) | ((with_reducible have hb2 : Below ((wr.alloc (.cells #[.int .i64 0, .string ⟨#[]⟩, .string ⟨#[]⟩, .slice none 0 0, .string ⟨#[]⟩, .bool false] 49)).alloc (.cells #[.string ⟨t.1.toArray⟩] 9)).drew.heap.size ((wr.alloc (.cells #[.int .i64 0, .string ⟨#[]⟩, .string ⟨#[]⟩, .slice none 0 0, .string ⟨#[]⟩, .bool false] 49)).alloc (.cells #[.string ⟨t.1.toArray⟩] 9)).drew w4 := hb4); have e_0 := moved_drew (cell_alloc _ (cell_alloc _ c0)) hb4 (Nat.le_refl _); have e_1 := moved_drew (cell_alloc _ (cell_alloc _ c1)) hb4 (Nat.le_refl _); have e_2 := moved_drew (cell_alloc _ (cell_alloc _ c2)) hb4 (Nat.le_refl _); have e_3 := moved_drew (cell_alloc _ (cell_alloc _ c3)) hb4 (Nat.le_refl _); have e_4 := moved_drew (cell_alloc _ (cell_alloc _ c4)) hb4 (Nat.le_refl _); have e_5 := moved_drew (cell_alloc _ (cell_alloc _ c5)) hb4 (Nat.le_refl _); have e_6 := moved_drew (cell_alloc _ (cell_alloc _ hl)) hb4 (Nat.le_refl _); have e_7 := moved_drew (cell_alloc _ (cell_alloc _ ht0)) hb4 (Nat.le_refl _); have np1 : w4.heap.size ≠ S := World.new_ne w4 ⟨S, 0, none⟩ e_0; have np2 : w4.heap.size ≠ L := World.new_ne w4 ⟨L, j, none⟩ e_6; have np3 : w4.heap.size ≠ T := World.new_ne w4 ⟨T, 0, none⟩ e_7; have kk := HZ2.out.down hb4; obtain ⟨k0, k1, k2, k3, k4, k5⟩ := kk.six; obtain ⟨f0, f1, f2, f3, f4, f5⟩ := kk.six_free)))
        all_goals
          go_wp2_with fail
          go_meet
          case rel => first
            | (have _t := hb0; exact line_new HW0.out.size hv4 hl4 (bt HW0.out hb4))
            | (have _t := hb1; exact line_at (R := wr.heap.size + 1) (by omega) (by first | (simp; done) | (simp; omega)) kk hv4 hl4 (bt HW1.out hb4))
            | (have _t := hb2; exact line_at (R := wr.heap.size) (by omega) (by first | (simp; done) | (simp; omega)) kk hv4 hl4 (bt HW2.out hb4))
      case rest =>
        obtain ⟨R, G4, c4', Gl, cl, rfl, rfl, rfl, rfl, hR, hs4, -, hb4⟩ := hcut
        have hr := HR.out
        have hr1 : r.1 = rdyS f t (j + 1) := by rw [hr]
        have q1 : ((r.2.1 : Int) != cd) = false := by rw [hr]; simp
        have q2 : ((r.2.1 : Int) == cd) = true := by rw [hr]; simp
        have HR1 := Lib.hid hr1
        replace hcd := moved hcd hb4 (Nat.le_refl _)
        have hS4 := (HS.out.down hb4).six
        have hp4 := ses_assign (LB := W3.heap.size) o2 (hs4.mono hsz) (Go.Lib.grownBy_below HG.out hb4) hS4 rfl (Nat.le_refl _)
        have HP4 := Lib.hid hp4
        obtain ⟨d0, d1, d2, d3, d4, d5⟩ := hs4.six.six
        obtain ⟨e0, e1, e2, e3, e4, e5⟩ := hS4.six
        obtain ⟨f0, f1, f2, f3, f4, f5⟩ := hS4.six_free
        clear hr hr1 hs4 hb4 hS4 hp4 c0 c1 c2 c3 c4 c5 hl ht0 hLN HR
        go_wp2_with fail
        go_roundw
        case rel => exact ⟨j + 1, by omega, by go_num, by rw [← HR1.out]; exact HP4.out⟩
        case measure => simp [intOf]; omega
    · obtain rfl : j = 4 := by omega
      have hs4 : SesAt W3.heap.size wr S (.slice Gv 1 cv) ⟨4, f, [t], [], false⟩ := HS.out
      have hgr := HG.out
      obtain ⟨c0, c1, c2, c3, c4, c5⟩ := hs4.six.six
      obtain ⟨e0, e1, e2, e3, e4, e5⟩ := HZr.out.six
      obtain ⟨f0, f1, f2, f3, f4, f5⟩ := HZr.out.six_free
      have HS4 := Lib.hid hs4
      obtain ⟨Z, hZ⟩ : ∃ Z, Z = w.heap.size + 1 := ⟨_, rfl⟩
      rw [← hZ] at e0 e1 e2 e3 e4 e5 f0 f1 f2 f3 f4 f5 HZr
      have hZS : Z < S := by omega
      have hZw : w.heap.size ≤ Z := by omega
      clear hs4 hgr hg2
      go_upto_region 13 with fail
      rw [← hZ]
      clear hZ
      have HE := Lib.hid (ready_done HZr.out HS4.out hZS hZw HB3.out HG.out o2)
      go_region
      all_goals
        go_wp2_with fail
        exact ready_end rfl rfl rfl HE.out.1 HE.out.2.1 HE.out.2.2
end Go.Proofs.YtdhepaeephmhiaaDoor
