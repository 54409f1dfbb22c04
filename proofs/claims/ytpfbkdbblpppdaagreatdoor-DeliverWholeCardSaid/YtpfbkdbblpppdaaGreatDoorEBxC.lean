/- On the way. -/
import Derived.Test.YtpfbkdbblpppdaaGreatDoorEBxA
import Derived.Test.YtpfbkdbblpppdaaGreatDoorEJgC
import Derived.Test.YtpfbkdbblpppdaaGreatDoorEKtA
import Derived.Test.YtpfbkdbblpppdaaGreatDoorEBxB
import Derived.BigQuiet
import Derived.Deep.QuietTactic
import Derived.Deep.AppendLies
import Derived.Deep.DeepCutAuto
import Derived.Deep.RegionHeld3
set_option linter.unusedVariables false
set_option linter.unusedSimpArgs false
set_option maxHeartbeats 8000000
set_option maxRecDepth 20000
namespace Go.Proofs.YtpfbkdbblpppdaaGreatDoor
open Go.RowKit
theorem same_any (s : St) (v1 u1 v2 u2 : Value) (F1 F2 : Dom) (w : World) (h1 : SAt cBox w F1 v1 s.boxes) (k1 : SAt cEnt w F1 u1 s.spool) (h2 : SAt cBox w F2 v2 s.boxes) (k2 : SAt cEnt w F2 u2 s.spool) (hl : s.boxes.length ≤ 1000) (hsl : s.spool.length ≤ 1000) (hml : ∀ b ∈ s.boxes, b.mails.length ≤ 1000) :
    Calls Tryz.prog 30 #[.agg #[v1, u1], .agg #[v2, u2]] w fun e w' => e = .returned (.bool true) ∧ Below w.heap.size w w' := by
 obtain ⟨G1, c1, rfl, hc1⟩ := h1.form
 obtain ⟨G2, c2, rfl, hc2⟩ := h2.form
 obtain ⟨D1, d1, rfl, hd1⟩ := k1.form
 obtain ⟨D2, d2, rfl, hd2⟩ := k2.form
 have hA := ba (ba (Below.refl w.heap.size w) (.cells #[.slice G1 s.boxes.length c1, .slice D1 s.spool.length d1] 73)) (.cells #[.slice G2 s.boxes.length c2, .slice D2 s.spool.length d2] 73)
 have hX := (Has.alloc w [.slice G1 s.boxes.length c1, .slice D1 s.spool.length d1] 73).down (ba (Below.refl _ _) (.cells #[.slice G2 s.boxes.length c2, .slice D2 s.spool.length d2] 73))
 have hY := Has.alloc (w.alloc (.cells #[.slice G1 s.boxes.length c1, .slice D1 s.spool.length d1] 73)) [.slice G2 s.boxes.length c2, .slice D2 s.spool.length d2] 73
 simp only [World.size_alloc] at hY
 have H1 := Lib.hid (h1.down hA); have H2 := Lib.hid (h2.down hA); have K1 := Lib.hid (k1.down hA); have K2 := Lib.hid (k2.down hA); have HML := Lib.hid hml
 have HA := Lib.hid hA; have HX := Lib.hid hX; have HY := Lib.hid hY
 clear h1 h2 k1 k2 hml hA hX hY
 go_enter Tryz.func30, Tryz.ntmps30
 go_wp2_with fail
 obtain ⟨W0, hW0⟩ : ∃ W0, W0 = (w.alloc (.cells #[.slice G1 s.boxes.length c1, .slice D1 s.spool.length d1] 73)).alloc (.cells #[.slice G2 s.boxes.length c2, .slice D2 s.spool.length d2] 73) := ⟨_, rfl⟩
 rw [← hW0] at H1 H2 K1 K2 HA HX HY ⊢
 clear hW0
 go_loopw [5] (fun i wr => ∃ j : Nat, j ≤ s.spool.length ∧ i = .int .i64 j ∧ Below W0.heap.size W0 wr) (fun i _ => s.spool.length - (intOf i).toNat)
 case atStart => exact ⟨0, Nat.zero_le _, rfl, Below.refl _ _⟩
 case round =>
  obtain ⟨j, hj, rfl, hb⟩ := hrel
  obtain ⟨x0, x1, -, -⟩ := (HX.out.down hb).two
  obtain ⟨y0, y1, -, -⟩ := (HY.out.down hb).two
  by_cases hlt : j < s.spool.length
  ·obtain ⟨g, off, rfl, hF, hg, m0, m1, m2, m3, m4, m5⟩ := ent_get K1.out hb j hlt
   obtain ⟨g', off', rfl, hF', hg', n0, n1, n2, n3, n4, n5⟩ := ent_get K2.out hb j hlt
   generalize s.spool[j] = x at m0 m1 m2 m3 m4 m5 n0 n1 n2 n3 n4 n5
   go_wp2_with fail
   go_quiet (fail)
   have HB := Lib.hid (bt hb (below_drewN wr nq))
   clear x0 x1 y0 y1 m0 m1 m2 m3 m4 m5 n0 n1 n2 n3 n4 n5 hb
   go_wp2_with fail
   go_roundw
   case rel => exact ⟨j + 1, hlt, by go_num, HB.out⟩
   case measure => simp [intOf]; omega
  ·obtain rfl : j = s.spool.length := by omega
   obtain ⟨wo, rfl⟩ : ∃ wo : World, wo = wr := ⟨_, rfl⟩
   have HBO := Lib.hid hb
   clear hb
   go_wp2_with fail
   clear x0 x1 y0 y1
   go_loopw [6] (fun i wr => ∃ j : Nat, j ≤ s.boxes.length ∧ i = .int .i64 j ∧ Below W0.heap.size W0 wr) (fun i _ => s.boxes.length - (intOf i).toNat)
   case atStart => exact ⟨0, Nat.zero_le _, rfl, HBO.out⟩
   case round =>
    obtain ⟨wp, rfl⟩ : ∃ wp : World, wp = wr := ⟨_, rfl⟩
    obtain ⟨k, hk, rfl, hb⟩ := hrel
    obtain ⟨x0, x1, -, -⟩ := (HX.out.down hb).two
    obtain ⟨y0, y1, -, -⟩ := (HY.out.down hb).two
    by_cases hlk : k < s.boxes.length
    ·obtain ⟨g, off, a, c, rfl, hF, hg, hac, hm, p0, p1, p2⟩ := box_get H1.out hb k hlk
     obtain ⟨g', off', a', c', rfl, hF', hg', hac', hm', q0, q1, q2⟩ := box_get H2.out hb k hlk
     have hmk := HML.out s.boxes[k] (List.getElem_mem _)
     generalize s.boxes[k] = b at hac hm p0 p1 p2 hac' hm' q0 q1 q2 hmk
     have hA1 := ba (Below.refl wp.heap.size wp) (.cells #[.string ⟨b.name.toArray⟩, .int .i64 b.next, .slice a b.mails.length c] 119)
     have hA2 := ba hA1 (.cells #[.string ⟨b.name.toArray⟩, .int .i64 b.next, .slice a' b.mails.length c'] 119)
     have hP := (Has.alloc wp [.string ⟨b.name.toArray⟩, .int .i64 b.next, .slice a b.mails.length c] 119).down (ba (Below.refl _ _) (.cells #[.string ⟨b.name.toArray⟩, .int .i64 b.next, .slice a' b.mails.length c'] 119))
     have hQ := Has.alloc (wp.alloc (.cells #[.string ⟨b.name.toArray⟩, .int .i64 b.next, .slice a b.mails.length c] 119)) [.string ⟨b.name.toArray⟩, .int .i64 b.next, .slice a' b.mails.length c'] 119
     simp only [World.size_alloc] at hQ
     have HP := Lib.hid hP; have HQ := Lib.hid hQ; have HB2 := Lib.hid (bt hb hA2); have HM := Lib.hid (hm.down hA2); have HM' := Lib.hid (hm'.down hA2)
     have q0' := moved q0 hA1 (Nat.le_refl _); have q1' := moved q1 hA1 (Nat.le_refl _); have q2' := moved q2 hA1 (Nat.le_refl _); have y0' := moved y0 hA1 (Nat.le_refl _)
     clear hA1 hA2 hP hQ hb hm hm' q0 q1 q2
     go_wp2_with fail
     obtain ⟨W1, hW1⟩ : ∃ W1, W1 = (wp.alloc (.cells #[.string ⟨b.name.toArray⟩, .int .i64 b.next, .slice a b.mails.length c] 119)).alloc (.cells #[.string ⟨b.name.toArray⟩, .int .i64 b.next, .slice a' b.mails.length c'] 119) := ⟨_, rfl⟩
     rw [← hW1] at HP HQ HB2 HM HM' ⊢
     clear hW1 p0 p1 p2 q0' q1' q2' y0' x0 x1 y0 y1
     go_loopw [9] (fun i wr => ∃ r : Nat, r ≤ b.mails.length ∧ i = .int .i64 r ∧ Below W1.heap.size W1 wr) (fun i _ => b.mails.length - (intOf i).toNat)
     case atStart => exact ⟨0, Nat.zero_le _, rfl, Below.refl _ _⟩
     case round =>
      obtain ⟨r, hr, rfl, hbr⟩ := hrel
      have z2 := (HP.out.down hbr).1 2 _ rfl
      have t2 := (HQ.out.down hbr).1 2 _ rfl
      by_cases hlr : r < b.mails.length
      ·obtain ⟨gm, om, rfl, _, hgm, m0, m1, m2⟩ := mail_get HM.out hbr r hlr
       obtain ⟨gn, on, rfl, _, hgn, n0, n1, n2⟩ := mail_get HM'.out hbr r hlr
       generalize b.mails[r] = m at m0 m1 m2 n0 n1 n2
       go_wp2_with fail
       go_quiet (fail)
       have HB := Lib.hid (bt hbr (below_drewN wr nq))
       clear z2 t2 m0 m1 m2 n0 n1 n2 hbr
       go_wp2_with fail
       go_roundw
       case rel => exact ⟨r + 1, hlr, by go_num, HB.out⟩
       case measure => simp [intOf]; omega
      ·obtain rfl : r = b.mails.length := by omega
       have HBR := Lib.hid (bt HB2.out hbr)
       clear hbr
       go_wp2_with fail
       go_roundw
       case rel => exact ⟨k + 1, hlk, by go_num, HBR.out⟩
       case measure => simp [intOf]; omega
    ·obtain rfl : k = s.boxes.length := by omega
     have HBF := Lib.hid (bt HA.out hb)
     clear hb
     go_wp2_with fail
     go_ret
     exact ⟨rfl, HBF.out⟩
def Int64 (n : Int) : Prop := -9223372036854775808 ≤ n ∧ n ≤ 9223372036854775807
theorem boxName_any (n : Int) (w : World) (h : Int64 n) :
    Calls Tryz.prog 82 #[.int .i64 n] w fun e w' => e = .returned (.string ⟨(boxL n).toArray⟩) ∧ Below w.heap.size w w' := by
 have hp : Hid (∀ w, Calls Tryz.prog 15 #[.int .i64 n, .int .i64 6] w fun e w' => e = .returned (.int .i64 (pick n (6 : Nat))) ∧ w = w') := fun w => picked_any n 6 w h.1 h.2 (by omega) (by omega)
 have hk := pick_lt n 6 (by omega)
 unfold boxL
 generalize pick n (6 : Nat) = k at hp hk
 have hb := Lib.hid (ba (Below.refl _ w) (.cells #[.string ⟨#[73, 78, 66, 79, 88]⟩, .string ⟨#[119, 111, 114, 107]⟩, .string ⟨#[106, 117, 110, 107]⟩, .string ⟨#[97]⟩, .string ⟨#[98]⟩, .string ⟨#[99]⟩] 9))
 have : k = 0 ∨ k = 1 ∨ k = 2 ∨ k = 3 ∨ k = 4 ∨ k = 5 := by omega
 clear hk h
 rcases this with rfl | rfl | rfl | rfl | rfl | rfl
 all_goals
  go_enter Tryz.func82, Tryz.ntmps82
  go_wp2_with fail
  refine (hp.out _).mono ?_
  rintro e w1 ⟨rfl, rfl⟩
  go_wp2_with fail
  go_ret
  exact ⟨rfl, hb.out⟩
def rawV (c : Raw) : Value := .agg #[.int .i64 c.kind, .int .i64 c.box, .int .i64 c.uid, .int .i64 c.flags, .int .i64 c.dest, .string c.text]
def RawOK (c : Raw) : Prop := Int64 c.kind ∧ Int64 c.box ∧ Int64 c.uid ∧ Int64 c.flags ∧ Int64 c.dest ∧ c.text.size ≤ 9223372036854775807
theorem entry_blocks (w w' : World) (xs ys zs : List Value) (a b c : TypeId) (hb : Below (((w.alloc (.cells xs.toArray a)).alloc (.cells ys.toArray b)).alloc (.cells zs.toArray c)).heap.size (((w.alloc (.cells xs.toArray a)).alloc (.cells ys.toArray b)).alloc (.cells zs.toArray c)) w') :
    Has w' w.heap.size xs ∧ Has w' (w.heap.size + 1) ys ∧ Has w' (w.heap.size + 1 + 1) zs ∧ Below w.heap.size w w' := by
 have h1 := (Has.alloc w xs a).down (ba (Below.refl _ _) (.cells ys.toArray b))
 have h2 := (h1.down (ba (Below.refl _ _) (.cells zs.toArray c))).down hb
 have h3 := ((Has.alloc (w.alloc (.cells xs.toArray a)) ys b).down (ba (Below.refl _ _) (.cells zs.toArray c))).down hb
 have h4 := (Has.alloc ((w.alloc (.cells xs.toArray a)).alloc (.cells ys.toArray b)) zs c).down hb
 refine ⟨h2, ?_, ?_, bt (ba (ba (ba (Below.refl _ w) _) _) _) hb⟩
 ·simpa using h3
 ·simpa using h4
theorem Has.six_set {w : World} {b : Nat} {a0 a1 a2 a3 a4 a5 : Value} (h : Has w b [a0, a1, a2, a3, a4, a5]) (e0 e1 e2 e3 e4 e5 : Value) :
    Has ((((((w.setCell ⟨b, 0, none⟩ e0).setCell ⟨b, 1, none⟩ e1).setCell ⟨b, 2, none⟩ e2).setCell ⟨b, 3, none⟩ e3).setCell ⟨b, 4, none⟩ e4).setCell ⟨b, 5, none⟩ e5) b [e0, e1, e2, e3, e4, e5] :=
 (((((h.set' e0 (i := 0) (by simp)).set' e1 (i := 1) (by simp)).set' e2 (i := 2) (by simp)).set' e3 (i := 3) (by simp)).set' e4 (i := 4) (by simp)).set' e5 (i := 5) (by simp)
theorem below_six {w W : World} {b : Nat} (h : Below w.heap.size w W) (hb : w.heap.size ≤ b) (e0 e1 e2 e3 e4 e5 : Value) :
    Below w.heap.size w ((((((W.setCell ⟨b, 0, none⟩ e0).setCell ⟨b, 1, none⟩ e1).setCell ⟨b, 2, none⟩ e2).setCell ⟨b, 3, none⟩ e3).setCell ⟨b, 4, none⟩ e4).setCell ⟨b, 5, none⟩ e5) :=
 (((((h.setCell hb e0).setCell hb e1).setCell hb e2).setCell hb e3).setCell hb e4).setCell hb e5
theorem entry_end {w W : World} {b : Nat} {x : Ent} {a : Act} (ht : a.tmps.getD 2 undef = .pointer (some ⟨b, 0, none⟩)) (hd : a.defers = []) (h : Has W b (entC x)) (hb : Below w.heap.size w W) :
    bodyPost Tryz.prog Tryz.f50 (fun e w' => e = .returned (entV x) ∧ Below w.heap.size w w') .ret a W := by
 obtain ⟨c0, c1, c2, c3, c4, c5⟩ := Has.six (show Has W b [.int .i64 x.kind, .string ⟨x.box.toArray⟩, .int .i64 x.uid, .int .i64 x.flags, .string ⟨x.to.toArray⟩, .string ⟨x.text.toArray⟩] from h)
 refine bodyPost_ret (v := entV x) ?_ hd ⟨rfl, hb⟩
 have ht' : a.tmps[2]?.getD undef = .pointer (some ⟨b, 0, none⟩) := by simpa using ht
 simp [results, Tryz.results50, go_sem, ht', c0, c1, c2, c3, c4, c5, entV]
theorem entry_any (c : Raw) (w : World) (h : RawOK c) :
    Calls Tryz.prog 50 #[rawV c] w fun e w' => e = .returned (entV (entOf c)) ∧ Below w.heap.size w w' := by
 obtain ⟨kind, box, uid, flags, dest, text⟩ := c
 obtain ⟨h1, h2, h3, h4, h5, h6⟩ := h
 simp only at h1 h2 h3 h4 h5 h6
 have HK : Hid (∀ w, Calls Tryz.prog 15 #[.int .i64 kind, .int .i64 6] w fun e w' => e = .returned (.int .i64 (pick kind (6 : Nat))) ∧ w = w') := fun w => picked_any kind 6 w h1.1 h1.2 (by omega) (by omega)
 have HF : Hid (∀ w, Calls Tryz.prog 15 #[.int .i64 flags, .int .i64 32] w fun e w' => e = .returned (.int .i64 (pick flags (32 : Nat))) ∧ w = w') := fun w => picked_any flags 32 w h4.1 h4.2 (by omega) (by omega)
 have HU : Hid (∀ w, Calls Tryz.prog 15 #[.int .i64 uid, .int .i64 8] w fun e w' => e = .returned (.int .i64 (pick uid (8 : Nat))) ∧ w = w') := fun w => picked_any uid 8 w h3.1 h3.2 (by omega) (by omega)
 have HB : Hid (∀ w, Calls Tryz.prog 82 #[.int .i64 box] w fun e w' => e = .returned (.string ⟨(boxL box).toArray⟩) ∧ Below w.heap.size w w') := fun w => boxName_any box w h2
 have HD : Hid (∀ w, Calls Tryz.prog 82 #[.int .i64 dest] w fun e w' => e = .returned (.string ⟨(boxL dest).toArray⟩) ∧ Below w.heap.size w w') := fun w => boxName_any dest w h5
 have HC : Hid (∀ (n : Nat) w, n ≤ 1000000 → Calls Tryz.prog 40 #[.string text, .int .i64 n] w fun e w' => e = .returned (.string ⟨(text.data.toList.take n).toArray⟩) ∧ w = w') := fun n w hn => cut_text text n w h6 hn
 have hk := pick_lt kind 6 (by omega)
 have hf := pick_lt flags 32 (by omega)
 have hu := pick_lt uid 8 (by omega)
 unfold entOf
 simp only
 generalize pick kind (6 : Nat) = k at HK hk
 generalize pick flags (32 : Nat) = f at HF hf
 generalize pick uid (8 : Nat) = u at HU hu
 generalize boxL box = B at HB
 generalize boxL dest = D at HD
 clear h1 h2 h3 h4 h5 h6
 show Calls Tryz.prog 50 #[.agg #[.int .i64 kind, .int .i64 box, .int .i64 uid, .int .i64 flags, .int .i64 dest, .string text]] w _
 have : k = 0 ∨ k = 1 ∨ k = 2 ∨ k = 3 ∨ k = 4 ∨ k = 5 := by omega
 clear hk
 rcases this with rfl | rfl | rfl | rfl | rfl | rfl
 ·go_enter Tryz.func50, Tryz.ntmps50
  go_wp2_with fail
  refine (HK.out _).mono ?_
  rintro e w1 ⟨rfl, rfl⟩
  go_wp2_with fail
  refine (HB.out _).mono ?_
  rintro e w2 ⟨rfl, hb2⟩
  obtain ⟨b1, b2, b3, hw2⟩ := entry_blocks w w2 [.int .i64 kind, .int .i64 box, .int .i64 uid, .int .i64 flags, .int .i64 dest, .string text] [.int .i64 0, .string ⟨#[]⟩, .int .i64 0, .int .i64 0, .string ⟨#[]⟩, .string ⟨#[]⟩] [.int .i64 1, .string ⟨#[]⟩, .int .i64 0, .int .i64 0, .string ⟨#[]⟩, .string ⟨#[]⟩] 122 80 80 hb2
  obtain ⟨a0, a1, a2, a3, a4, a5⟩ := b1.six
  obtain ⟨c0, c1, c2, c3, c4, c5⟩ := b2.six
  obtain ⟨d0, d1, d2, d3, d4, d5⟩ := b3.six
  obtain ⟨p0, p1, p2, p3, p4, p5⟩ := b2.six_free
  obtain ⟨q0, q1, q2, q3, q4, q5⟩ := b3.six_free
  have hz : w.heap.size + 1 + 1 < w2.heap.size := b3.2.2
  clear hb2
  have HW := Lib.hid hw2; clear hw2
  have B1 := Lib.hid b1; have B2 := Lib.hid b2; have B3 := Lib.hid b3
  clear b1 b2 b3
  go_wp2_with fail
  exact entry_end (b := w.heap.size + 1) rfl rfl ((B2.out.else' (by omega) _).six_set _ _ _ _ _ _) (below_six (HW.out.setCell (show w.heap.size ≤ w.heap.size + 1 + 1 by omega) _) (by omega) _ _ _ _ _ _)
 ·go_enter Tryz.func50, Tryz.ntmps50
  go_wp2_with fail
  refine (HK.out _).mono ?_
  rintro e w1 ⟨rfl, rfl⟩
  go_wp2_with fail
  refine (HB.out _).mono ?_
  rintro e w2 ⟨rfl, hb2⟩
  obtain ⟨b1, b2, b3, hw2⟩ := entry_blocks w w2 [.int .i64 kind, .int .i64 box, .int .i64 uid, .int .i64 flags, .int .i64 dest, .string text] [.int .i64 0, .string ⟨#[]⟩, .int .i64 0, .int .i64 0, .string ⟨#[]⟩, .string ⟨#[]⟩] [.int .i64 2, .string ⟨#[]⟩, .int .i64 0, .int .i64 0, .string ⟨#[]⟩, .string ⟨#[]⟩] 122 80 80 hb2
  obtain ⟨a0, a1, a2, a3, a4, a5⟩ := b1.six
  obtain ⟨c0, c1, c2, c3, c4, c5⟩ := b2.six
  obtain ⟨d0, d1, d2, d3, d4, d5⟩ := b3.six
  obtain ⟨p0, p1, p2, p3, p4, p5⟩ := b2.six_free
  obtain ⟨q0, q1, q2, q3, q4, q5⟩ := b3.six_free
  have hz : w.heap.size + 1 + 1 < w2.heap.size := b3.2.2
  clear hb2
  have HW := Lib.hid hw2; clear hw2
  have B1 := Lib.hid b1; have B2 := Lib.hid b2; have B3 := Lib.hid b3
  clear b1 b2 b3
  go_wp2_with fail
  refine (HF.out _).mono ?_
  rintro e w1 ⟨rfl, rfl⟩
  go_wp2_with fail
  refine (HC.out 300 _ (by omega)).mono ?_
  rintro e w1 ⟨rfl, rfl⟩
  go_wp2_with fail
  exact entry_end (b := w.heap.size + 1) rfl rfl ((((B2.out.else' (by omega) _).else' (by omega) _).else' (by omega) _).six_set _ _ _ _ _ _) (below_six (((HW.out.setCell (show w.heap.size ≤ w.heap.size + 1 + 1 by omega) _).setCell (show w.heap.size ≤ w.heap.size + 1 + 1 by omega) _).setCell (show w.heap.size ≤ w.heap.size + 1 + 1 by omega) _) (by omega) _ _ _ _ _ _)
 ·go_enter Tryz.func50, Tryz.ntmps50
  go_wp2_with fail
  refine (HK.out _).mono ?_
  rintro e w1 ⟨rfl, rfl⟩
  go_wp2_with fail
  refine (HB.out _).mono ?_
  rintro e w2 ⟨rfl, hb2⟩
  obtain ⟨b1, b2, b3, hw2⟩ := entry_blocks w w2 [.int .i64 kind, .int .i64 box, .int .i64 uid, .int .i64 flags, .int .i64 dest, .string text] [.int .i64 0, .string ⟨#[]⟩, .int .i64 0, .int .i64 0, .string ⟨#[]⟩, .string ⟨#[]⟩] [.int .i64 3, .string ⟨#[]⟩, .int .i64 0, .int .i64 0, .string ⟨#[]⟩, .string ⟨#[]⟩] 122 80 80 hb2
  obtain ⟨a0, a1, a2, a3, a4, a5⟩ := b1.six
  obtain ⟨c0, c1, c2, c3, c4, c5⟩ := b2.six
  obtain ⟨d0, d1, d2, d3, d4, d5⟩ := b3.six
  obtain ⟨p0, p1, p2, p3, p4, p5⟩ := b2.six_free
  obtain ⟨q0, q1, q2, q3, q4, q5⟩ := b3.six_free
  have hz : w.heap.size + 1 + 1 < w2.heap.size := b3.2.2
  clear hb2
  have HW := Lib.hid hw2; clear hw2
  have B1 := Lib.hid b1; have B2 := Lib.hid b2; have B3 := Lib.hid b3
  clear b1 b2 b3
  go_wp2_with fail
  refine (HU.out _).mono ?_
  rintro e w1 ⟨rfl, rfl⟩
  go_wp2_with fail
  refine (HF.out _).mono ?_
  rintro e w1 ⟨rfl, rfl⟩
  go_wp2_with fail
  exact entry_end (b := w.heap.size + 1) rfl rfl ((((B2.out.else' (by omega) _).else' (by omega) _).else' (by omega) _).six_set _ _ _ _ _ _) (below_six (((HW.out.setCell (show w.heap.size ≤ w.heap.size + 1 + 1 by omega) _).setCell (show w.heap.size ≤ w.heap.size + 1 + 1 by omega) _).setCell (show w.heap.size ≤ w.heap.size + 1 + 1 by omega) _) (by omega) _ _ _ _ _ _)
 ·go_enter Tryz.func50, Tryz.ntmps50
  go_wp2_with fail
  refine (HK.out _).mono ?_
  rintro e w1 ⟨rfl, rfl⟩
  go_wp2_with fail
  refine (HB.out _).mono ?_
  rintro e w2 ⟨rfl, hb2⟩
  obtain ⟨b1, b2, b3, hw2⟩ := entry_blocks w w2 [.int .i64 kind, .int .i64 box, .int .i64 uid, .int .i64 flags, .int .i64 dest, .string text] [.int .i64 0, .string ⟨#[]⟩, .int .i64 0, .int .i64 0, .string ⟨#[]⟩, .string ⟨#[]⟩] [.int .i64 4, .string ⟨#[]⟩, .int .i64 0, .int .i64 0, .string ⟨#[]⟩, .string ⟨#[]⟩] 122 80 80 hb2
  obtain ⟨a0, a1, a2, a3, a4, a5⟩ := b1.six
  obtain ⟨c0, c1, c2, c3, c4, c5⟩ := b2.six
  obtain ⟨d0, d1, d2, d3, d4, d5⟩ := b3.six
  obtain ⟨p0, p1, p2, p3, p4, p5⟩ := b2.six_free
  obtain ⟨q0, q1, q2, q3, q4, q5⟩ := b3.six_free
  have hz : w.heap.size + 1 + 1 < w2.heap.size := b3.2.2
  clear hb2
  have HW := Lib.hid hw2; clear hw2
  have B1 := Lib.hid b1; have B2 := Lib.hid b2; have B3 := Lib.hid b3
  clear b1 b2 b3
  go_wp2_with fail
  exact entry_end (b := w.heap.size + 1) rfl rfl ((B2.out.else' (by omega) _).six_set _ _ _ _ _ _) (below_six (HW.out.setCell (show w.heap.size ≤ w.heap.size + 1 + 1 by omega) _) (by omega) _ _ _ _ _ _)
 ·go_enter Tryz.func50, Tryz.ntmps50
  go_wp2_with fail
  refine (HK.out _).mono ?_
  rintro e w1 ⟨rfl, rfl⟩
  go_wp2_with fail
  refine (HB.out _).mono ?_
  rintro e w2 ⟨rfl, hb2⟩
  obtain ⟨b1, b2, b3, hw2⟩ := entry_blocks w w2 [.int .i64 kind, .int .i64 box, .int .i64 uid, .int .i64 flags, .int .i64 dest, .string text] [.int .i64 0, .string ⟨#[]⟩, .int .i64 0, .int .i64 0, .string ⟨#[]⟩, .string ⟨#[]⟩] [.int .i64 5, .string ⟨#[]⟩, .int .i64 0, .int .i64 0, .string ⟨#[]⟩, .string ⟨#[]⟩] 122 80 80 hb2
  obtain ⟨a0, a1, a2, a3, a4, a5⟩ := b1.six
  obtain ⟨c0, c1, c2, c3, c4, c5⟩ := b2.six
  obtain ⟨d0, d1, d2, d3, d4, d5⟩ := b3.six
  obtain ⟨p0, p1, p2, p3, p4, p5⟩ := b2.six_free
  obtain ⟨q0, q1, q2, q3, q4, q5⟩ := b3.six_free
  have hz : w.heap.size + 1 + 1 < w2.heap.size := b3.2.2
  clear hb2
  have HW := Lib.hid hw2; clear hw2
  have B1 := Lib.hid b1; have B2 := Lib.hid b2; have B3 := Lib.hid b3
  clear b1 b2 b3
  go_wp2_with fail
  refine (HU.out _).mono ?_
  rintro e w1 ⟨rfl, rfl⟩
  go_wp2_with fail
  refine (HD.out _).mono ?_
  rintro e w3 ⟨rfl, hb3⟩
  have hw3 := bt ((HW.out.setCell (show w.heap.size ≤ w.heap.size + 1 + 1 by omega) (.string ⟨B.toArray⟩)).setCell (show w.heap.size ≤ w.heap.size + 1 + 1 by omega) (.int .i64 (1 + (u : Int)))) hb3
  have b1 := ((B1.out.else' (show w.heap.size ≠ w.heap.size + 1 + 1 by omega) (i := 1) (.string ⟨B.toArray⟩)).else' (show w.heap.size ≠ w.heap.size + 1 + 1 by omega) (i := 2) (.int .i64 (1 + (u : Int)))).down hb3
  have b2 := ((B2.out.else' (show w.heap.size + 1 ≠ w.heap.size + 1 + 1 by omega) (i := 1) (.string ⟨B.toArray⟩)).else' (show w.heap.size + 1 ≠ w.heap.size + 1 + 1 by omega) (i := 2) (.int .i64 (1 + (u : Int)))).down hb3
  have b3 := ((B3.out.set' (i := 1) (.string ⟨B.toArray⟩) (by simp)).set' (i := 2) (.int .i64 (1 + (u : Int))) (by simp)).down hb3
  simp only [List.set_cons_succ, List.set_cons_zero] at b3
  clear a0 a1 a2 a3 a4 a5 c0 c1 c2 c3 c4 c5 d0 d1 d2 d3 d4 d5 p0 p1 p2 p3 p4 p5 q0 q1 q2 q3 q4 q5 hb3 B1 B2 B3 HW
  obtain ⟨a0, a1, a2, a3, a4, a5⟩ := b1.six
  obtain ⟨c0, c1, c2, c3, c4, c5⟩ := b2.six
  obtain ⟨d0, d1, d2, d3, d4, d5⟩ := b3.six
  obtain ⟨p0, p1, p2, p3, p4, p5⟩ := b2.six_free
  obtain ⟨q0, q1, q2, q3, q4, q5⟩ := b3.six_free
  have HW := Lib.hid hw3; clear hw3
  have B2 := Lib.hid b2
  clear b1 b2 b3
  go_wp2_with fail
  exact entry_end (b := w.heap.size + 1) rfl rfl ((B2.out.else' (by omega) _).six_set _ _ _ _ _ _) (below_six (HW.out.setCell (show w.heap.size ≤ w.heap.size + 1 + 1 by omega) _) (by omega) _ _ _ _ _ _)
 ·go_enter Tryz.func50, Tryz.ntmps50
  go_wp2_with fail
  refine (HK.out _).mono ?_
  rintro e w1 ⟨rfl, rfl⟩
  go_wp2_with fail
  refine (HC.out 100 _ (by omega)).mono ?_
  rintro e w1 ⟨rfl, rfl⟩
  go_wp2_with fail
  refine entry_end (b := w.heap.size + 1) rfl rfl ?_ (ba (ba (ba (Below.refl _ w) _) _) _)
  have := (Has.alloc (w.alloc (.cells #[.int .i64 kind, .int .i64 box, .int .i64 uid, .int .i64 flags, .int .i64 dest, .string text] 122)) (entC ⟨6, 0, 0, [], [97, 64, 98, 46, 99], List.take 100 text.data.toList⟩) 80).down (ba (Below.refl _ _) (.cells (entC ⟨6, 0, 0, [], [97, 64, 98, 46, 99], List.take 100 text.data.toList⟩).toArray 80))
  simp only [World.size_alloc] at this
  exact this
def RawIn (w : World) (g p : Nat) (c : Raw) : Prop :=
 w.cell? ⟨g, p, none⟩ = some (.int .i64 c.kind) ∧ w.cell? ⟨g, p + 1, none⟩ = some (.int .i64 c.box) ∧ w.cell? ⟨g, p + 2, none⟩ = some (.int .i64 c.uid) ∧ w.cell? ⟨g, p + 3, none⟩ = some (.int .i64 c.flags) ∧
 w.cell? ⟨g, p + 4, none⟩ = some (.int .i64 c.dest) ∧ w.cell? ⟨g, p + 5, none⟩ = some (.string c.text) ∧ RawOK c
theorem RawIn.down {w w' : World} {g p : Nat} {c : Raw} (h : RawIn w g p c) (hb : Below w.heap.size w w') : RawIn w' g p c :=
 ⟨moved h.1 hb (Nat.le_refl _), moved h.2.1 hb (Nat.le_refl _), moved h.2.2.1 hb (Nat.le_refl _), moved h.2.2.2.1 hb (Nat.le_refl _), moved h.2.2.2.2.1 hb (Nat.le_refl _), moved h.2.2.2.2.2.1 hb (Nat.le_refl _), h.2.2.2.2.2.2⟩
def RawsAt (w : World) (a : Option Addr) (cs : List Raw) : Prop :=
 ∀ i c, cs[i]? = some c → ∃ g off, a = some ⟨g, off, none⟩ ∧ g < w.heap.size ∧ RawIn w g (off + i * 6) c
theorem RawsAt.down {w w' : World} {a : Option Addr} {cs : List Raw} (h : RawsAt w a cs) (hb : Below w.heap.size w w') : RawsAt w' a cs := by
 intro i c hc
 obtain ⟨g, off, h1, h2, h3⟩ := h i c hc
 exact ⟨g, off, h1, Nat.lt_of_lt_of_le h2 hb.size, h3.down hb⟩
def stepS (s : St) (c : Raw) : St := if (allS s [entOf c]).2 = 0 then (allS s [entOf c]).1 else s
def stBx (cs : List Raw) : St := (cs.take 40).foldl stepS st0
theorem stepS_good {s : St} (hg : GoodS s) (c : Raw) : GoodS (stepS s c) := by
 unfold stepS
 split
 ·exact allS_one_good hg (entOf_form c)
 ·exact hg
theorem stBx_good (cs : List Raw) : GoodS (stBx cs) := by
 unfold stBx
 generalize cs.take 40 = l
 have key : ∀ (l : List Raw) (s : St), GoodS s → GoodS (l.foldl stepS s) := by
  intro l
  induction l with
  | nil => intro s h; exact h
  | cons c l ih => intro s h; exact ih _ (stepS_good h c)
 exact key l st0 st0_good
def StPost (s : St) (w : World) (e : Ending) (w' : World) : Prop := (∃ G1 c1 G2 c2, e = .returned (.agg #[.slice G1 s.boxes.length c1, .slice G2 s.spool.length c2]) ∧ SAt cBox w' (fun _ => True) (.slice G1 s.boxes.length c1) s.boxes ∧ SAt cEnt w' (fun _ => True) (.slice G2 s.spool.length c2) s.spool) ∧ Below w.heap.size w w'
theorem state_end {R : Nat} {s : St} {G1 G2 : Option Addr} {c1 c2 : Nat} {a : Act} {W w : World} (ht : a.tmps.getD 2 undef = .pointer (some ⟨R, 0, none⟩)) (hd : a.defers = [])
    (h : Has W R [.slice G1 s.boxes.length c1, .slice G2 s.spool.length c2]) (he : SAt cBox W (fun _ => True) (.slice G1 s.boxes.length c1) s.boxes) (hf : SAt cEnt W (fun _ => True) (.slice G2 s.spool.length c2) s.spool) (hb : Below w.heap.size w W) : bodyPost Tryz.prog Tryz.f26 (StPost s w) .ret a W := by
 obtain ⟨c0, c1', _, _⟩ := h.two
 refine bodyPost_ret (v := .agg #[.slice G1 s.boxes.length c1, .slice G2 s.spool.length c2]) ?_ hd ⟨⟨_, _, _, _, rfl, he, hf⟩, hb⟩
 have ht' : a.tmps[2]?.getD undef = .pointer (some ⟨R, 0, none⟩) := by simpa using ht
 simp [results, Tryz.results26, go_sem, ht', c0, c1']
def StRel (cs : List Raw) (w : World) (i : Value) (wr : World) : Prop := ∃ (j : Nat) (t : St) (G1 : Option Addr) (c1 : Nat) (G2 : Option Addr) (c2 : Nat), j ≤ cs.length ∧ j ≤ 40 ∧ i = .int .i64 j ∧ t = (cs.take j).foldl stepS st0 ∧ GoodS t ∧ Has wr (w.heap.size + 2) [.slice G1 t.boxes.length c1, .slice G2 t.spool.length c2] ∧
 SAt cBox wr (fun b => b ≠ w.heap.size + 2 ∧ b ≠ w.heap.size) (.slice G1 t.boxes.length c1) t.boxes ∧ SAt cEnt wr (fun b => b ≠ w.heap.size + 2 ∧ b ≠ w.heap.size) (.slice G2 t.spool.length c2) t.spool ∧ Has wr w.heap.size [.slice none 0 0, .slice none 0 0] ∧ Below w.heap.size w wr
theorem st0_at (w : World) (o : Obj) : SAt cBox ((w.alloc o).alloc (.cells #[.string ⟨#[73, 78, 66, 79, 88]⟩, .int .i64 1, .slice none 0 0] 119)) (fun b => b ≠ w.heap.size + 2 ∧ b ≠ w.heap.size) (.slice (some ⟨w.heap.size + 1, 0, none⟩) 1 1) st0.boxes := by
 refine ⟨_, 1, rfl, Nat.le_refl _, fun i y hi => ⟨w.heap.size + 1, 0, rfl, ⟨by omega, by omega⟩, by simp, ?_⟩⟩
 cases i with
 | succ i => simp [st0] at hi
 | zero =>
  obtain rfl : (⟨[73, 78, 66, 79, 88], 1, []⟩ : Bx) = y := by simpa [st0] using hi
  refine ⟨[.string ⟨#[73, 78, 66, 79, 88]⟩, .int .i64 1, .slice none 0 0], ⟨.slice none 0 0, rfl, SAt.nil _ _ _⟩, fun j u hj => ?_⟩
  have := (Has.alloc (w.alloc o) [.string ⟨#[73, 78, 66, 79, 88]⟩, .int .i64 1, .slice none 0 0] 119).1 j u hj
  simpa using this
theorem take_fold (cs : List Raw) (j : Nat) (h : j < cs.length) : (cs.take (j + 1)).foldl stepS st0 = stepS ((cs.take j).foldl stepS st0) cs[j] := by
 rw [List.take_succ_eq_append_getElem h, List.foldl_append]; rfl
theorem state_any (a : Option Addr) (cap : Nat) (cs : List Raw) (m : Int) (w : World) (h : RawsAt w a cs) (hlen : cs.length ≤ 9223372036854775807) (hm : w.cell? ⟨6, 0, none⟩ = some (.int .i64 m)) :
    Calls Tryz.prog 26 #[.slice a cs.length cap] w (StPost (stBx cs) w) := by
 have HR := Lib.hid h; have HM := Lib.hid hm
 have hA3 := ba (Below.refl ((w.alloc (.cells #[.slice none 0 0, .slice none 0 0] 73)).alloc (.cells #[.string ⟨#[73, 78, 66, 79, 88]⟩, .int .i64 1, .slice none 0 0] 119)).heap.size _) (.cells #[.slice (some ⟨w.heap.size + 1, 0, none⟩) 1 1, .slice none 0 0] 73)
 have h3 := Has.alloc ((w.alloc (.cells #[.slice none 0 0, .slice none 0 0] 73)).alloc (.cells #[.string ⟨#[73, 78, 66, 79, 88]⟩, .int .i64 1, .slice none 0 0] 119)) [.slice (some ⟨w.heap.size + 1, 0, none⟩) 1 1, .slice none 0 0] 73
 simp only [World.size_alloc] at h3
 have H3 := Lib.hid h3
 have H1 := Lib.hid ((st0_at w (.cells #[.slice none 0 0, .slice none 0 0] 73)).down hA3)
 have H2 := Lib.hid (((Has.alloc w [.slice none 0 0, .slice none 0 0] 73).down (ba (Below.refl _ _) (.cells #[.string ⟨#[73, 78, 66, 79, 88]⟩, .int .i64 1, .slice none 0 0] 119))).down hA3)
 have HB := Lib.hid (bt (ba (ba (Below.refl w.heap.size w) (.cells #[.slice none 0 0, .slice none 0 0] 73)) (.cells #[.string ⟨#[73, 78, 66, 79, 88]⟩, .int .i64 1, .slice none 0 0] 119)) hA3)
 clear h hm hA3 h3
 go_enter Tryz.func26, Tryz.ntmps26
 go_wp2_with fail
 go_loopw [4] (StRel cs w) (fun i _ => cs.length - (intOf i).toNat)
 case atStart => exact ⟨0, st0, some ⟨w.heap.size + 1, 0, none⟩, 1, none, 0, Nat.zero_le _, Nat.zero_le _, rfl, rfl, st0_good, H3.out, H1.out, SAt.nil _ _ _, H2.out, HB.out⟩
 case round =>
  obtain ⟨j, t, G1, c1, G2, c2, hj, hj40, rfl, ht, hgt, hO, hS1, hS2, hR, hb⟩ := hrel
  clear H1 H2 H3 HB
  by_cases hlt : j < cs.length ∧ j < 40
  ·obtain ⟨hl, h40⟩ := hlt
   obtain ⟨g, off, ha, hg, hin⟩ := HR.out j cs[j] (List.getElem?_eq_getElem hl)
   subst ha
   obtain ⟨m0, m1, m2, m3, m4, m5, hok⟩ := hin.down hb
   have htk := take_fold cs j hl
   have hfx := entOf_form cs[j]
   generalize cs[j] = c at m0 m1 m2 m3 m4 m5 hok htk hfx hin
   have HE : Hid (∀ w', Calls Tryz.prog 50 #[.agg #[.int .i64 c.kind, .int .i64 c.box, .int .i64 c.uid, .int .i64 c.flags, .int .i64 c.dest, .string c.text]] w' fun e w'' => e = .returned (.agg #[.int .i64 (entOf c).kind, .string ⟨(entOf c).box.toArray⟩, .int .i64 (entOf c).uid, .int .i64 (entOf c).flags, .string ⟨(entOf c).to.toArray⟩, .string ⟨(entOf c).text.toArray⟩]) ∧ Below w'.heap.size w' w'') := fun w' => entry_any c w' hok
   have hst : stepS t c = if (allS t [entOf c]).2 = 0 then (allS t [entOf c]).1 else t := rfl
   rw [← ht] at htk
   obtain ⟨x, hx⟩ : ∃ x, x = entOf c := ⟨_, rfl⟩
   rw [← hx] at HE hst hfx
   have HSM := Lib.hid (small_of_form hfx)
   obtain ⟨r, hr⟩ : ∃ r, r = allS t [x] := ⟨_, rfl⟩
   have hgr : GoodS r.1 := by rw [hr]; exact allS_one_good hgt hfx
   rw [← hr] at hst
   have HTK := Lib.hid htk; have HST := Lib.hid hst; have HGT := Lib.hid hgt; have HGR := Lib.hid hgr
   have HS1 := Lib.hid hS1; have HS2 := Lib.hid hS2; have HT1S := Lib.hid hS1; have HT2S := Lib.hid hS2; have HO := Lib.hid hO; have HR2 := Lib.hid hR; have HB := Lib.hid hb
   obtain ⟨o0, o1, -, -⟩ := hO.two
   have hdr := Below.drew (Below.refl wr.heap.size wr)
   have hda := ba (Below.refl wr.heap.size wr) (.cells #[.slice none 0 0, .slice none 0 0] 73)
   have o0a := moved o0 hda (Nat.le_refl _); have o1a := moved o1 hda (Nat.le_refl _)
   have m0a := moved m0 hda (Nat.le_refl _); have m1a := moved m1 hda (Nat.le_refl _); have m2a := moved m2 hda (Nat.le_refl _); have m3a := moved m3 hda (Nat.le_refl _); have m4a := moved m4 hda (Nat.le_refl _); have m5a := moved m5 hda (Nat.le_refl _)
   have hH : Hid (∀ w' : World, Has (w'.alloc (.cells #[.slice none 0 0, .slice none 0 0] 73)) w'.heap.size [.slice none 0 0, .slice none 0 0]) := fun w' => Has.alloc w' [.slice none 0 0, .slice none 0 0] 73
   have HELD : ∀ w', Below wr.heap.size wr w' → w'.cell? ⟨w.heap.size + 2, 0, none⟩ = some (.slice G1 t.boxes.length c1) ∧ w'.cell? ⟨w.heap.size + 2, 1, none⟩ = some (.slice G2 t.spool.length c2) ∧ w'.cell? ⟨g, off + j * 6, none⟩ = some (.int .i64 c.kind) ∧ w'.cell? ⟨g, off + j * 6 + 1, none⟩ = some (.int .i64 c.box) ∧ w'.cell? ⟨g, off + j * 6 + 2, none⟩ = some (.int .i64 c.uid) ∧ w'.cell? ⟨g, off + j * 6 + 3, none⟩ = some (.int .i64 c.flags) ∧ w'.cell? ⟨g, off + j * 6 + 4, none⟩ = some (.int .i64 c.dest) ∧ w'.cell? ⟨g, off + j * 6 + 5, none⟩ = some (.string c.text) := fun w' h => ⟨moved o0 h (Nat.le_refl _), moved o1 h (Nat.le_refl _), moved m0 h (Nat.le_refl _), moved m1 h (Nat.le_refl _), moved m2 h (Nat.le_refl _), moved m3 h (Nat.le_refl _), moved m4 h (Nat.le_refl _), moved m5 h (Nat.le_refl _)⟩
   have HELD := Lib.hid HELD
   clear hin hok ht htk hst hgt hgr hfx hx hS1 hS2 hO hR hb hda
   by_cases hr0 : r.2 = 0
   ·skip
    have HAP : Hid (∀ w', Below wr.heap.size wr w' → Calls Tryz.prog 31 #[.agg #[.slice G1 t.boxes.length c1, .slice G2 t.spool.length c2], .agg #[.int .i64 x.kind, .string ⟨x.box.toArray⟩, .int .i64 x.uid, .int .i64 x.flags, .string ⟨x.to.toArray⟩, .string ⟨x.text.toArray⟩]] w' fun e w'' => (∃ G1 c1 G2 c2, e = .returned (.tuple #[.agg #[.slice G1 r.1.boxes.length c1, .slice G2 r.1.spool.length c2], .int .i64 0]) ∧ OwnV w'' w'.heap.size (.slice G1 r.1.boxes.length c1) (.slice G2 r.1.spool.length c2) r.1) ∧ Below w'.heap.size w' w'') := by
     intro w' hb'
     have := Apply_any t x _ _ _ m w' (HS1.out.down hb') (HS2.out.down hb') HGT.out HSM.out (moved HM.out (bt HB.out hb') (Nat.le_refl _))
     rw [← hr] at this
     refine this.mono fun e w'' h => ?_
     unfold ApPost at h
     rwa [if_pos hr0] at h
    clear HS1 HS2 hr
    have HR0 := Lib.hid hr0
    clear hr0
    go_upto_region 5 with fail
    go_cut [5, 6] (ApNew r wr)
    case first =>
     go_region_held3 (fun w' => w'.cell? ⟨w.heap.size + 2, 0, none⟩ = some (.slice G1 t.boxes.length c1) ∧ w'.cell? ⟨w.heap.size + 2, 1, none⟩ = some (.slice G2 t.spool.length c2) ∧ w'.cell? ⟨g, off + j * 6, none⟩ = some (.int .i64 c.kind) ∧ w'.cell? ⟨g, off + j * 6 + 1, none⟩ = some (.int .i64 c.box) ∧ w'.cell? ⟨g, off + j * 6 + 2, none⟩ = some (.int .i64 c.uid) ∧ w'.cell? ⟨g, off + j * 6 + 3, none⟩ = some (.int .i64 c.flags) ∧ w'.cell? ⟨g, off + j * 6 + 4, none⟩ = some (.int .i64 c.dest) ∧ w'.cell? ⟨g, off + j * 6 + 5, none⟩ = some (.string c.text)) (first | exact ⟨o0, o1, m0, m1, m2, m3, m4, m5⟩ | exact ⟨o0a, o1a, m0a, m1a, m2a, m3a, m4a, m5a⟩ | exact HELD.out w3 hd3 | exact HELD.out _ (ba hd3 _) | exact HELD.out w4 (bt hd3 hb4) | exact HELD.out w4 (bt (ba hd3 _) hb4) | exact HELD.out _ (ba (bt hd3 hb4) _) | exact HELD.out _ (Below.setCell (Below.setCell (by first | exact bt hd3 hb4 | exact bt (ba hd3 _) hb4) (by first | exact Nat.le_refl _ | exact hd3.size) _) (by first | exact Nat.le_refl _ | exact hd3.size) _)) (first
      | (go_at_call 50; refine (HE.out _).mono ?_; rintro e w3 ⟨rfl, hb3⟩; have hd3 : Below wr.heap.size wr w3 := (by first | exact bt hdr hb3 | exact bt (ba hdr _) hb3); have s0 := moved o0 hd3 (Nat.le_refl _); have s1 := moved o1 hd3 (Nat.le_refl _); have s0a := moved s0 (ba (Below.refl w3.heap.size w3) (.cells #[.slice none 0 0, .slice none 0 0] 73)) (Nat.le_refl _); have s1a := moved s1 (ba (Below.refl w3.heap.size w3) (.cells #[.slice none 0 0, .slice none 0 0] 73)) (Nat.le_refl _))
      | (go_at_call 31; refine (HAP.out _ (by first | exact hd3 | exact ba hd3 _)).mono ?_; rintro e w4 ⟨⟨E1, e1, E2, e2, rfl, hv4⟩, hb4⟩; first | (have kk : Has w4 wr.heap.size [.slice none 0 0, .slice none 0 0] := ((hH.out wr.drew).down hb3).down hb4; obtain ⟨k0, k1, k2, k3⟩ := kk.two) | (have kk : Has w4 w3.heap.size [.slice none 0 0, .slice none 0 0] := (hH.out w3).down hb4; obtain ⟨k0, k1, k2, k3⟩ := kk.two) | (have kk := trivial)))
     all_goals
      go_wp2_with fail
      go_meet
      case rel =>
       try rw [show (Value.int .i64 0) = .int .i64 r.2 by rw [HR0.out]]
       first
        | exact ap_new (bt hd3 hb4) hd3.size (fun _ => ⟨_, _, _, _, rfl, rfl, hv4⟩)
        | exact ap_at (bt hd3 hb4) (Nat.le_refl _) (by have := hb3.size; simp at this; omega) kk (fun _ => ⟨_, _, _, _, rfl, rfl, hv4⟩)
        | exact ap_at (bt (ba hd3 _) hb4) hd3.size (by simp) kk (fun _ => ⟨_, _, _, _, rfl, rfl, hv4⟩)
    case rest =>
     obtain ⟨R, B, rfl, rfl, hR9, hB9, hb9, hRz9, hh9⟩ := hcut
     obtain ⟨E1, e1, E2, e2, hx9, hv9⟩ := hh9 HR0.out
     obtain ⟨x0, x1, -, -⟩ := hx9.two
     have ho9 := HO.out.down hb9
     obtain ⟨y0, y1, yf0, yf1⟩ := ho9.two
     have hz9 := HO.out.2.2
     have q : (r.2 == 0) = true := by have := HR0.out; simpa using this
     have HO9 := Lib.hid ho9; have HV9 := Lib.hid hv9; have HR9 := Lib.hid (HR2.out.down hb9); have HB9 := Lib.hid (bt HB.out hb9)
     have hn : Hid (r.1 = (cs.take (j + 1)).foldl stepS st0) := by unfold Hid; rw [HTK.out, HST.out, if_pos HR0.out]
     have hzz := hb9.size
     clear hx9 ho9 hv9 hb9 hh9 o0 o1 o0a o1a m0 m1 m2 m3 m4 m5 m0a m1a m2a m3a m4a m5a hdr HAP HE HELD
     go_wp2_with fail
     go_roundw
     case rel =>
      have hs := ((HV9.out.else' (R := w.heap.size + 2) (i := 0) (u := .slice E1 r.1.boxes.length e1) (by omega)).else' (R := w.heap.size + 2) (i := 1) (u := .slice E2 r.1.spool.length e2) (by omega)).sat (F := fun b => b ≠ w.heap.size + 2 ∧ b ≠ w.heap.size) (fun b hb => ⟨by omega, by omega⟩)
      exact ⟨j + 1, r.1, E1, e1, E2, e2, hl, h40, by go_num, hn.out, HGR.out, (HO9.out.set' (i := 0) _ (by simp)).set' (i := 1) _ (by simp), hs.1, hs.2, (HR9.out.else' (by omega) _).else' (by omega) _, (HB9.out.setCell (p := ⟨w.heap.size + 2, 0, none⟩) (by show w.heap.size ≤ w.heap.size + 2; omega) _).setCell (p := ⟨w.heap.size + 2, 1, none⟩) (by show w.heap.size ≤ w.heap.size + 2; omega) _⟩
     case measure => simp [intOf]; omega
   ·skip
    have HAP : Hid (∀ w', Below wr.heap.size wr w' → Calls Tryz.prog 31 #[.agg #[.slice G1 t.boxes.length c1, .slice G2 t.spool.length c2], .agg #[.int .i64 x.kind, .string ⟨x.box.toArray⟩, .int .i64 x.uid, .int .i64 x.flags, .string ⟨x.to.toArray⟩, .string ⟨x.text.toArray⟩]] w' fun e w'' => e = .returned (.tuple #[.agg #[.slice none 0 0, .slice none 0 0], .int .i64 r.2]) ∧ Below w'.heap.size w' w'') := by
     intro w' hb'
     have := Apply_any t x _ _ _ m w' (HS1.out.down hb') (HS2.out.down hb') HGT.out HSM.out (moved HM.out (bt HB.out hb') (Nat.le_refl _))
     rw [← hr] at this
     refine this.mono fun e w'' h => ?_
     unfold ApPost at h
     rwa [if_neg hr0] at h
    clear HS1 HS2 hr
    have HR0 := Lib.hid hr0
    clear hr0
    go_upto_region 5 with fail
    go_cut [5, 6] (ApNew r wr)
    case first =>
     go_region_held3 (fun w' => w'.cell? ⟨w.heap.size + 2, 0, none⟩ = some (.slice G1 t.boxes.length c1) ∧ w'.cell? ⟨w.heap.size + 2, 1, none⟩ = some (.slice G2 t.spool.length c2) ∧ w'.cell? ⟨g, off + j * 6, none⟩ = some (.int .i64 c.kind) ∧ w'.cell? ⟨g, off + j * 6 + 1, none⟩ = some (.int .i64 c.box) ∧ w'.cell? ⟨g, off + j * 6 + 2, none⟩ = some (.int .i64 c.uid) ∧ w'.cell? ⟨g, off + j * 6 + 3, none⟩ = some (.int .i64 c.flags) ∧ w'.cell? ⟨g, off + j * 6 + 4, none⟩ = some (.int .i64 c.dest) ∧ w'.cell? ⟨g, off + j * 6 + 5, none⟩ = some (.string c.text)) (first | exact ⟨o0, o1, m0, m1, m2, m3, m4, m5⟩ | exact ⟨o0a, o1a, m0a, m1a, m2a, m3a, m4a, m5a⟩ | exact HELD.out w3 hd3 | exact HELD.out _ (ba hd3 _) | exact HELD.out w4 (bt hd3 hb4) | exact HELD.out w4 (bt (ba hd3 _) hb4) | exact HELD.out _ (ba (bt hd3 hb4) _) | exact HELD.out _ (Below.setCell (Below.setCell (by first | exact bt hd3 hb4 | exact bt (ba hd3 _) hb4) (by first | exact Nat.le_refl _ | exact hd3.size) _) (by first | exact Nat.le_refl _ | exact hd3.size) _)) (first
      | (go_at_call 50; refine (HE.out _).mono ?_; rintro e w3 ⟨rfl, hb3⟩; have hd3 : Below wr.heap.size wr w3 := (by first | exact bt hdr hb3 | exact bt (ba hdr _) hb3); have s0 := moved o0 hd3 (Nat.le_refl _); have s1 := moved o1 hd3 (Nat.le_refl _); have s0a := moved s0 (ba (Below.refl w3.heap.size w3) (.cells #[.slice none 0 0, .slice none 0 0] 73)) (Nat.le_refl _); have s1a := moved s1 (ba (Below.refl w3.heap.size w3) (.cells #[.slice none 0 0, .slice none 0 0] 73)) (Nat.le_refl _))
      | (go_at_call 31; refine (HAP.out _ (by first | exact hd3 | exact ba hd3 _)).mono ?_; rintro e w4 ⟨rfl, hb4⟩; first | (have kk : Has w4 wr.heap.size [.slice none 0 0, .slice none 0 0] := ((hH.out wr.drew).down hb3).down hb4; obtain ⟨k0, k1, k2, k3⟩ := kk.two) | (have kk : Has w4 w3.heap.size [.slice none 0 0, .slice none 0 0] := (hH.out w3).down hb4; obtain ⟨k0, k1, k2, k3⟩ := kk.two) | (have kk := trivial)))
     all_goals
      go_wp2_with fail
      go_meet
      case rel => first
       | exact ap_new (B := wr.heap.size) (bt hd3 hb4) (Nat.le_refl _) (fun h => absurd h HR0.out)
       | exact ap_at (B := wr.heap.size + 1) (bt hd3 hb4) (Nat.le_refl _) (by omega) kk (fun h => absurd h HR0.out)
       | exact ap_at (B := w3.heap.size + 1) (bt (ba hd3 _) hb4) hd3.size (by omega) kk (fun h => absurd h HR0.out)
    case rest =>
     obtain ⟨R, B, rfl, rfl, hR9, hB9, hb9, hRz9, hh9⟩ := hcut
     have q : (r.2 == 0) = false := by have := HR0.out; simpa using this
     have HO9 := Lib.hid (HO.out.down hb9); have HR9 := Lib.hid (HR2.out.down hb9); have HB9 := Lib.hid (bt HB.out hb9)
     have hn : Hid (t = (cs.take (j + 1)).foldl stepS st0) := by unfold Hid; rw [HTK.out, HST.out, if_neg HR0.out]
     have HT1 := Lib.hid (HT1S.out.down hb9); have HT2 := Lib.hid (HT2S.out.down hb9)
     clear hb9 hh9 o0 o1 o0a o1a m0 m1 m2 m3 m4 m5 m0a m1a m2a m3a m4a m5a hdr HAP HE HELD
     go_wp2_with fail
     go_roundw
     case rel => exact ⟨j + 1, t, G1, c1, G2, c2, hl, h40, by go_num, hn.out, HGT.out, HO9.out, HT1.out, HT2.out, HR9.out, HB9.out⟩
     case measure => simp [intOf]; omega
  ·have hend : Hid (t = stBx cs) := by
    unfold Hid stBx; rw [ht]
    congr 1
    by_cases h40 : j = 40
    ·rw [h40]
    ·rw [List.take_of_length_le (by omega), List.take_of_length_le (by omega)]
   obtain ⟨c0, c1', -, -⟩ := hO.two
   obtain ⟨d0, d1, f0, f1⟩ := hR.two
   have HRR := Lib.hid hR; have HBB := Lib.hid hb; have HS1 := Lib.hid hS1; have HS2 := Lib.hid hS2
   have hz := hR.2.2
   clear hO hR hb ht hS1 hS2 hgt
   have HF : Hid (∀ u v, SAt cBox ((wr.setCell ⟨w.heap.size, 0, none⟩ u).setCell ⟨w.heap.size, 1, none⟩ v) (fun _ => True) (.slice G1 t.boxes.length c1) t.boxes ∧ SAt cEnt ((wr.setCell ⟨w.heap.size, 0, none⟩ u).setCell ⟨w.heap.size, 1, none⟩ v) (fun _ => True) (.slice G2 t.spool.length c2) t.spool) := by
    intro u v
    have g1 := Go.Lib.grownBy_setB (World.grownBy.refl wr (some w.heap.size)) 0 u
    have g2 := Go.Lib.grownBy_trans g1 (Go.Lib.grownBy_setB (World.grownBy.refl _ (some w.heap.size)) 1 v)
    have hs := Same.of_grown (F := fun b => b ≠ w.heap.size + 2 ∧ b ≠ w.heap.size) g2 (fun b e hh => hh.2 (Option.some.inj e).symm)
    exact ⟨(HS1.out.stable hs g2.size).mono (fun _ _ => trivial), (HS2.out.stable hs g2.size).mono (fun _ _ => trivial)⟩
   by_cases h : j < cs.length
   ·have h2 : decide ((j : Int) < 40) = false := decide_eq_false (by omega)
    go_wp2_with fail
    rw [← hend.out]
    exact state_end (R := w.heap.size) rfl rfl ((HRR.out.set' (i := 0) _ (by simp)).set' (i := 1) _ (by simp)) (HF.out _ _).1 (HF.out _ _).2 ((HBB.out.setCell (p := ⟨w.heap.size, 0, none⟩) (Nat.le_refl _) _).setCell (p := ⟨w.heap.size, 1, none⟩) (Nat.le_refl _) _)
   ·have h2 : decide ((j : Int) < cs.length) = false := decide_eq_false (by omega)
    go_wp2_with fail
    rw [← hend.out]
    exact state_end (R := w.heap.size) rfl rfl ((HRR.out.set' (i := 0) _ (by simp)).set' (i := 1) _ (by simp)) (HF.out _ _).1 (HF.out _ _).2 ((HBB.out.setCell (p := ⟨w.heap.size, 0, none⟩) (Nat.le_refl _) _).setCell (p := ⟨w.heap.size, 1, none⟩) (Nat.le_refl _) _)
end Go.Proofs.YtpfbkdbblpppdaaGreatDoor
