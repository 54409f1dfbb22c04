/- On the way. -/
import Derived.Test.YtmkppkjikifdlaaGreatDoorTBxA
import Derived.Test.YtmkppkjikifdlaaGreatDoorTKtA
import Derived.Deep.AppendLies
set_option linter.unusedVariables false
set_option linter.unusedSimpArgs false
set_option maxHeartbeats 4000000
set_option maxRecDepth 20000
namespace Go.Proofs.YtmkppkjikifdlaaGreatDoor
open Go.RowKit
def Int64 (n : Int) : Prop := -9223372036854775808 ≤ n ∧ n ≤ 9223372036854775807
theorem boxName_any (n : Int) (w : World) (h : Int64 n) :
    Calls Tryz.prog 55 #[.int .i64 n] w fun e w' => e = .returned (.string ⟨(boxL n).toArray⟩) ∧ Below w.heap.size w w' := by
 have hp : Hid (∀ w, Calls Tryz.prog 16 #[.int .i64 n, .int .i64 6] w fun e w' => e = .returned (.int .i64 (pick n (6 : Nat))) ∧ w = w') := fun w => picked_any n 6 w h.1 h.2 (by omega) (by omega)
 have hk := pick_lt n 6 (by omega)
 unfold boxL
 generalize pick n (6 : Nat) = k at hp hk
 have hb := Lib.hid (ba (Below.refl _ w) (.cells #[.string ⟨#[73, 78, 66, 79, 88]⟩, .string ⟨#[119, 111, 114, 107]⟩, .string ⟨#[106, 117, 110, 107]⟩, .string ⟨#[97]⟩, .string ⟨#[98]⟩, .string ⟨#[99]⟩] 9))
 have : k = 0 ∨ k = 1 ∨ k = 2 ∨ k = 3 ∨ k = 4 ∨ k = 5 := by omega
 clear hk h
 rcases this with rfl | rfl | rfl | rfl | rfl | rfl
 all_goals
  go_enter Tryz.func55, Tryz.ntmps55
  go_wp2_with fail
  refine (hp.out _).mono ?_
  rintro e w1 ⟨rfl, rfl⟩
  go_wp2_with fail
  go_ret
  exact ⟨rfl, hb.out⟩
def rawV (c : Raw) : Value := .agg #[.int .i64 c.kind, .int .i64 c.box, .int .i64 c.uid, .int .i64 c.flags, .int .i64 c.dest, .string c.text]
def RawOK (c : Raw) : Prop := Int64 c.kind ∧ Int64 c.box ∧ Int64 c.uid ∧ Int64 c.flags ∧ Int64 c.dest ∧ c.text.size ≤ 9223372036854775807
theorem entry_blocks (w w' : World) (xs ys zs : List Value) (a b c : TypeId) (hb : Below (((w.alloc (.cells xs.toArray a)).alloc (.cells ys.toArray b)).alloc (.cells zs.toArray c)).heap.size (((w.alloc (.cells xs.toArray a)).alloc (.cells ys.toArray b)).alloc (.cells zs.toArray c)) w') :
    Has w' w.heap.size xs ∧ Has w' (w.heap.size + 1) ys ∧ Has w' (w.heap.size + 1 + 1) zs ∧ Below w.heap.size w w' := by
 have h1 := (Has.alloc w xs a).down (ba (Below.refl _ _) (.cells ys.toArray b))
 have h2 := (h1.down (ba (Below.refl _ _) (.cells zs.toArray c))).down hb
 have h3 := ((Has.alloc (w.alloc (.cells xs.toArray a)) ys b).down (ba (Below.refl _ _) (.cells zs.toArray c))).down hb
 have h4 := (Has.alloc ((w.alloc (.cells xs.toArray a)).alloc (.cells ys.toArray b)) zs c).down hb
 refine ⟨h2, ?_, ?_, bt (ba (ba (ba (Below.refl _ w) _) _) _) hb⟩
 ·simpa using h3
 ·simpa using h4
theorem Has.six_set {w : World} {b : Nat} {a0 a1 a2 a3 a4 a5 : Value} (h : Has w b [a0, a1, a2, a3, a4, a5]) (e0 e1 e2 e3 e4 e5 : Value) :
    Has ((((((w.setCell ⟨b, 0, none⟩ e0).setCell ⟨b, 1, none⟩ e1).setCell ⟨b, 2, none⟩ e2).setCell ⟨b, 3, none⟩ e3).setCell ⟨b, 4, none⟩ e4).setCell ⟨b, 5, none⟩ e5) b [e0, e1, e2, e3, e4, e5] :=
 (((((h.set' e0 (i := 0) (by simp)).set' e1 (i := 1) (by simp)).set' e2 (i := 2) (by simp)).set' e3 (i := 3) (by simp)).set' e4 (i := 4) (by simp)).set' e5 (i := 5) (by simp)
theorem below_six {w W : World} {b : Nat} (h : Below w.heap.size w W) (hb : w.heap.size ≤ b) (e0 e1 e2 e3 e4 e5 : Value) :
    Below w.heap.size w ((((((W.setCell ⟨b, 0, none⟩ e0).setCell ⟨b, 1, none⟩ e1).setCell ⟨b, 2, none⟩ e2).setCell ⟨b, 3, none⟩ e3).setCell ⟨b, 4, none⟩ e4).setCell ⟨b, 5, none⟩ e5) :=
 (((((h.setCell hb e0).setCell hb e1).setCell hb e2).setCell hb e3).setCell hb e4).setCell hb e5
theorem entry_end {w W : World} {b : Nat} {x : Ent} {a : Act} (ht : a.tmps.getD 2 undef = .pointer (some ⟨b, 0, none⟩)) (hd : a.defers = []) (h : Has W b (entC x)) (hb : Below w.heap.size w W) :
    bodyPost Tryz.prog Tryz.f37 (fun e w' => e = .returned (entV x) ∧ Below w.heap.size w w') .ret a W := by
 obtain ⟨c0, c1, c2, c3, c4, c5⟩ := Has.six (show Has W b [.int .i64 x.kind, .string ⟨x.box.toArray⟩, .int .i64 x.uid, .int .i64 x.flags, .string ⟨x.to.toArray⟩, .string ⟨x.text.toArray⟩] from h)
 refine bodyPost_ret (v := entV x) ?_ hd ⟨rfl, hb⟩
 have ht' : a.tmps[2]?.getD undef = .pointer (some ⟨b, 0, none⟩) := by simpa using ht
 simp [results, Tryz.results37, go_sem, ht', c0, c1, c2, c3, c4, c5, entV]
theorem entry_any (c : Raw) (w : World) (h : RawOK c) :
    Calls Tryz.prog 37 #[rawV c] w fun e w' => e = .returned (entV (entOf c)) ∧ Below w.heap.size w w' := by
 obtain ⟨kind, box, uid, flags, dest, text⟩ := c
 obtain ⟨h1, h2, h3, h4, h5, h6⟩ := h
 simp only at h1 h2 h3 h4 h5 h6
 have HK : Hid (∀ w, Calls Tryz.prog 16 #[.int .i64 kind, .int .i64 6] w fun e w' => e = .returned (.int .i64 (pick kind (6 : Nat))) ∧ w = w') := fun w => picked_any kind 6 w h1.1 h1.2 (by omega) (by omega)
 have HF : Hid (∀ w, Calls Tryz.prog 16 #[.int .i64 flags, .int .i64 32] w fun e w' => e = .returned (.int .i64 (pick flags (32 : Nat))) ∧ w = w') := fun w => picked_any flags 32 w h4.1 h4.2 (by omega) (by omega)
 have HU : Hid (∀ w, Calls Tryz.prog 16 #[.int .i64 uid, .int .i64 8] w fun e w' => e = .returned (.int .i64 (pick uid (8 : Nat))) ∧ w = w') := fun w => picked_any uid 8 w h3.1 h3.2 (by omega) (by omega)
 have HB : Hid (∀ w, Calls Tryz.prog 55 #[.int .i64 box] w fun e w' => e = .returned (.string ⟨(boxL box).toArray⟩) ∧ Below w.heap.size w w') := fun w => boxName_any box w h2
 have HD : Hid (∀ w, Calls Tryz.prog 55 #[.int .i64 dest] w fun e w' => e = .returned (.string ⟨(boxL dest).toArray⟩) ∧ Below w.heap.size w w') := fun w => boxName_any dest w h5
 have HC : Hid (∀ (n : Nat) w, n ≤ 1000000 → Calls Tryz.prog 56 #[.string text, .int .i64 n] w fun e w' => e = .returned (.string ⟨(text.data.toList.take n).toArray⟩) ∧ w = w') := fun n w hn => cut_text text n w h6 hn
 have hk := pick_lt kind 6 (by omega)
 have hf := pick_lt flags 32 (by omega)
 have hu := pick_lt uid 8 (by omega)
 unfold entOf
 simp only
 generalize pick kind (6 : Nat) = k at HK hk
 generalize pick flags (32 : Nat) = f at HF hf
 generalize pick uid (8 : Nat) = u at HU hu
 generalize boxL box = B at HB
 generalize boxL dest = D at HD
 clear h1 h2 h3 h4 h5 h6
 show Calls Tryz.prog 37 #[.agg #[.int .i64 kind, .int .i64 box, .int .i64 uid, .int .i64 flags, .int .i64 dest, .string text]] w _
 have : k = 0 ∨ k = 1 ∨ k = 2 ∨ k = 3 ∨ k = 4 ∨ k = 5 := by omega
 clear hk
 rcases this with rfl | rfl | rfl | rfl | rfl | rfl
 ·go_enter Tryz.func37, Tryz.ntmps37
  go_wp2_with fail
  refine (HK.out _).mono ?_
  rintro e w1 ⟨rfl, rfl⟩
  go_wp2_with fail
  refine (HB.out _).mono ?_
  rintro e w2 ⟨rfl, hb2⟩
  obtain ⟨b1, b2, b3, hw2⟩ := entry_blocks w w2 [.int .i64 kind, .int .i64 box, .int .i64 uid, .int .i64 flags, .int .i64 dest, .string text] [.int .i64 0, .string ⟨#[]⟩, .int .i64 0, .int .i64 0, .string ⟨#[]⟩, .string ⟨#[]⟩] [.int .i64 1, .string ⟨#[]⟩, .int .i64 0, .int .i64 0, .string ⟨#[]⟩, .string ⟨#[]⟩] 99 30 30 hb2
  obtain ⟨a0, a1, a2, a3, a4, a5⟩ := b1.six
  obtain ⟨c0, c1, c2, c3, c4, c5⟩ := b2.six
  obtain ⟨d0, d1, d2, d3, d4, d5⟩ := b3.six
  obtain ⟨p0, p1, p2, p3, p4, p5⟩ := b2.six_free
  obtain ⟨q0, q1, q2, q3, q4, q5⟩ := b3.six_free
  have hz : w.heap.size + 1 + 1 < w2.heap.size := b3.2.2
  clear hb2
  have HW := Lib.hid hw2; clear hw2
  have B1 := Lib.hid b1; have B2 := Lib.hid b2; have B3 := Lib.hid b3
  clear b1 b2 b3
  go_wp2_with fail
  exact entry_end (b := w.heap.size + 1) rfl rfl ((B2.out.else' (by omega) _).six_set _ _ _ _ _ _) (below_six (HW.out.setCell (show w.heap.size ≤ w.heap.size + 1 + 1 by omega) _) (by omega) _ _ _ _ _ _)
 ·go_enter Tryz.func37, Tryz.ntmps37
  go_wp2_with fail
  refine (HK.out _).mono ?_
  rintro e w1 ⟨rfl, rfl⟩
  go_wp2_with fail
  refine (HB.out _).mono ?_
  rintro e w2 ⟨rfl, hb2⟩
  obtain ⟨b1, b2, b3, hw2⟩ := entry_blocks w w2 [.int .i64 kind, .int .i64 box, .int .i64 uid, .int .i64 flags, .int .i64 dest, .string text] [.int .i64 0, .string ⟨#[]⟩, .int .i64 0, .int .i64 0, .string ⟨#[]⟩, .string ⟨#[]⟩] [.int .i64 2, .string ⟨#[]⟩, .int .i64 0, .int .i64 0, .string ⟨#[]⟩, .string ⟨#[]⟩] 99 30 30 hb2
  obtain ⟨a0, a1, a2, a3, a4, a5⟩ := b1.six
  obtain ⟨c0, c1, c2, c3, c4, c5⟩ := b2.six
  obtain ⟨d0, d1, d2, d3, d4, d5⟩ := b3.six
  obtain ⟨p0, p1, p2, p3, p4, p5⟩ := b2.six_free
  obtain ⟨q0, q1, q2, q3, q4, q5⟩ := b3.six_free
  have hz : w.heap.size + 1 + 1 < w2.heap.size := b3.2.2
  clear hb2
  have HW := Lib.hid hw2; clear hw2
  have B1 := Lib.hid b1; have B2 := Lib.hid b2; have B3 := Lib.hid b3
  clear b1 b2 b3
  go_wp2_with fail
  refine (HF.out _).mono ?_
  rintro e w1 ⟨rfl, rfl⟩
  go_wp2_with fail
  refine (HC.out 300 _ (by omega)).mono ?_
  rintro e w1 ⟨rfl, rfl⟩
  go_wp2_with fail
  exact entry_end (b := w.heap.size + 1) rfl rfl ((((B2.out.else' (by omega) _).else' (by omega) _).else' (by omega) _).six_set _ _ _ _ _ _) (below_six (((HW.out.setCell (show w.heap.size ≤ w.heap.size + 1 + 1 by omega) _).setCell (show w.heap.size ≤ w.heap.size + 1 + 1 by omega) _).setCell (show w.heap.size ≤ w.heap.size + 1 + 1 by omega) _) (by omega) _ _ _ _ _ _)
 ·go_enter Tryz.func37, Tryz.ntmps37
  go_wp2_with fail
  refine (HK.out _).mono ?_
  rintro e w1 ⟨rfl, rfl⟩
  go_wp2_with fail
  refine (HB.out _).mono ?_
  rintro e w2 ⟨rfl, hb2⟩
  obtain ⟨b1, b2, b3, hw2⟩ := entry_blocks w w2 [.int .i64 kind, .int .i64 box, .int .i64 uid, .int .i64 flags, .int .i64 dest, .string text] [.int .i64 0, .string ⟨#[]⟩, .int .i64 0, .int .i64 0, .string ⟨#[]⟩, .string ⟨#[]⟩] [.int .i64 3, .string ⟨#[]⟩, .int .i64 0, .int .i64 0, .string ⟨#[]⟩, .string ⟨#[]⟩] 99 30 30 hb2
  obtain ⟨a0, a1, a2, a3, a4, a5⟩ := b1.six
  obtain ⟨c0, c1, c2, c3, c4, c5⟩ := b2.six
  obtain ⟨d0, d1, d2, d3, d4, d5⟩ := b3.six
  obtain ⟨p0, p1, p2, p3, p4, p5⟩ := b2.six_free
  obtain ⟨q0, q1, q2, q3, q4, q5⟩ := b3.six_free
  have hz : w.heap.size + 1 + 1 < w2.heap.size := b3.2.2
  clear hb2
  have HW := Lib.hid hw2; clear hw2
  have B1 := Lib.hid b1; have B2 := Lib.hid b2; have B3 := Lib.hid b3
  clear b1 b2 b3
  go_wp2_with fail
  refine (HU.out _).mono ?_
  rintro e w1 ⟨rfl, rfl⟩
  go_wp2_with fail
  refine (HF.out _).mono ?_
  rintro e w1 ⟨rfl, rfl⟩
  go_wp2_with fail
  exact entry_end (b := w.heap.size + 1) rfl rfl ((((B2.out.else' (by omega) _).else' (by omega) _).else' (by omega) _).six_set _ _ _ _ _ _) (below_six (((HW.out.setCell (show w.heap.size ≤ w.heap.size + 1 + 1 by omega) _).setCell (show w.heap.size ≤ w.heap.size + 1 + 1 by omega) _).setCell (show w.heap.size ≤ w.heap.size + 1 + 1 by omega) _) (by omega) _ _ _ _ _ _)
 ·go_enter Tryz.func37, Tryz.ntmps37
  go_wp2_with fail
  refine (HK.out _).mono ?_
  rintro e w1 ⟨rfl, rfl⟩
  go_wp2_with fail
  refine (HB.out _).mono ?_
  rintro e w2 ⟨rfl, hb2⟩
  obtain ⟨b1, b2, b3, hw2⟩ := entry_blocks w w2 [.int .i64 kind, .int .i64 box, .int .i64 uid, .int .i64 flags, .int .i64 dest, .string text] [.int .i64 0, .string ⟨#[]⟩, .int .i64 0, .int .i64 0, .string ⟨#[]⟩, .string ⟨#[]⟩] [.int .i64 4, .string ⟨#[]⟩, .int .i64 0, .int .i64 0, .string ⟨#[]⟩, .string ⟨#[]⟩] 99 30 30 hb2
  obtain ⟨a0, a1, a2, a3, a4, a5⟩ := b1.six
  obtain ⟨c0, c1, c2, c3, c4, c5⟩ := b2.six
  obtain ⟨d0, d1, d2, d3, d4, d5⟩ := b3.six
  obtain ⟨p0, p1, p2, p3, p4, p5⟩ := b2.six_free
  obtain ⟨q0, q1, q2, q3, q4, q5⟩ := b3.six_free
  have hz : w.heap.size + 1 + 1 < w2.heap.size := b3.2.2
  clear hb2
  have HW := Lib.hid hw2; clear hw2
  have B1 := Lib.hid b1; have B2 := Lib.hid b2; have B3 := Lib.hid b3
  clear b1 b2 b3
  go_wp2_with fail
  exact entry_end (b := w.heap.size + 1) rfl rfl ((B2.out.else' (by omega) _).six_set _ _ _ _ _ _) (below_six (HW.out.setCell (show w.heap.size ≤ w.heap.size + 1 + 1 by omega) _) (by omega) _ _ _ _ _ _)
 ·go_enter Tryz.func37, Tryz.ntmps37
  go_wp2_with fail
  refine (HK.out _).mono ?_
  rintro e w1 ⟨rfl, rfl⟩
  go_wp2_with fail
  refine (HB.out _).mono ?_
  rintro e w2 ⟨rfl, hb2⟩
  obtain ⟨b1, b2, b3, hw2⟩ := entry_blocks w w2 [.int .i64 kind, .int .i64 box, .int .i64 uid, .int .i64 flags, .int .i64 dest, .string text] [.int .i64 0, .string ⟨#[]⟩, .int .i64 0, .int .i64 0, .string ⟨#[]⟩, .string ⟨#[]⟩] [.int .i64 5, .string ⟨#[]⟩, .int .i64 0, .int .i64 0, .string ⟨#[]⟩, .string ⟨#[]⟩] 99 30 30 hb2
  obtain ⟨a0, a1, a2, a3, a4, a5⟩ := b1.six
  obtain ⟨c0, c1, c2, c3, c4, c5⟩ := b2.six
  obtain ⟨d0, d1, d2, d3, d4, d5⟩ := b3.six
  obtain ⟨p0, p1, p2, p3, p4, p5⟩ := b2.six_free
  obtain ⟨q0, q1, q2, q3, q4, q5⟩ := b3.six_free
  have hz : w.heap.size + 1 + 1 < w2.heap.size := b3.2.2
  clear hb2
  have HW := Lib.hid hw2; clear hw2
  have B1 := Lib.hid b1; have B2 := Lib.hid b2; have B3 := Lib.hid b3
  clear b1 b2 b3
  go_wp2_with fail
  refine (HU.out _).mono ?_
  rintro e w1 ⟨rfl, rfl⟩
  go_wp2_with fail
  refine (HD.out _).mono ?_
  rintro e w3 ⟨rfl, hb3⟩
  have hw3 := bt ((HW.out.setCell (show w.heap.size ≤ w.heap.size + 1 + 1 by omega) (.string ⟨B.toArray⟩)).setCell (show w.heap.size ≤ w.heap.size + 1 + 1 by omega) (.int .i64 (1 + (u : Int)))) hb3
  have b1 := ((B1.out.else' (show w.heap.size ≠ w.heap.size + 1 + 1 by omega) (i := 1) (.string ⟨B.toArray⟩)).else' (show w.heap.size ≠ w.heap.size + 1 + 1 by omega) (i := 2) (.int .i64 (1 + (u : Int)))).down hb3
  have b2 := ((B2.out.else' (show w.heap.size + 1 ≠ w.heap.size + 1 + 1 by omega) (i := 1) (.string ⟨B.toArray⟩)).else' (show w.heap.size + 1 ≠ w.heap.size + 1 + 1 by omega) (i := 2) (.int .i64 (1 + (u : Int)))).down hb3
  have b3 := ((B3.out.set' (i := 1) (.string ⟨B.toArray⟩) (by simp)).set' (i := 2) (.int .i64 (1 + (u : Int))) (by simp)).down hb3
  simp only [List.set_cons_succ, List.set_cons_zero] at b3
  clear a0 a1 a2 a3 a4 a5 c0 c1 c2 c3 c4 c5 d0 d1 d2 d3 d4 d5 p0 p1 p2 p3 p4 p5 q0 q1 q2 q3 q4 q5 hb3 B1 B2 B3 HW
  obtain ⟨a0, a1, a2, a3, a4, a5⟩ := b1.six
  obtain ⟨c0, c1, c2, c3, c4, c5⟩ := b2.six
  obtain ⟨d0, d1, d2, d3, d4, d5⟩ := b3.six
  obtain ⟨p0, p1, p2, p3, p4, p5⟩ := b2.six_free
  obtain ⟨q0, q1, q2, q3, q4, q5⟩ := b3.six_free
  have HW := Lib.hid hw3; clear hw3
  have B2 := Lib.hid b2
  clear b1 b2 b3
  go_wp2_with fail
  exact entry_end (b := w.heap.size + 1) rfl rfl ((B2.out.else' (by omega) _).six_set _ _ _ _ _ _) (below_six (HW.out.setCell (show w.heap.size ≤ w.heap.size + 1 + 1 by omega) _) (by omega) _ _ _ _ _ _)
 ·go_enter Tryz.func37, Tryz.ntmps37
  go_wp2_with fail
  refine (HK.out _).mono ?_
  rintro e w1 ⟨rfl, rfl⟩
  go_wp2_with fail
  refine (HC.out 100 _ (by omega)).mono ?_
  rintro e w1 ⟨rfl, rfl⟩
  go_wp2_with fail
  refine entry_end (b := w.heap.size + 1) rfl rfl ?_ (ba (ba (ba (Below.refl _ w) _) _) _)
  have := (Has.alloc (w.alloc (.cells #[.int .i64 kind, .int .i64 box, .int .i64 uid, .int .i64 flags, .int .i64 dest, .string text] 99)) (entC ⟨6, 0, 0, [], [97, 64, 98, 46, 99], List.take 100 text.data.toList⟩) 30).down (ba (Below.refl _ _) (.cells (entC ⟨6, 0, 0, [], [97, 64, 98, 46, 99], List.take 100 text.data.toList⟩).toArray 30))
  simp only [World.size_alloc] at this
  exact this
def RawIn (w : World) (g p : Nat) (c : Raw) : Prop :=
 w.cell? ⟨g, p, none⟩ = some (.int .i64 c.kind) ∧ w.cell? ⟨g, p + 1, none⟩ = some (.int .i64 c.box) ∧ w.cell? ⟨g, p + 2, none⟩ = some (.int .i64 c.uid) ∧ w.cell? ⟨g, p + 3, none⟩ = some (.int .i64 c.flags) ∧
 w.cell? ⟨g, p + 4, none⟩ = some (.int .i64 c.dest) ∧ w.cell? ⟨g, p + 5, none⟩ = some (.string c.text) ∧ RawOK c
theorem RawIn.down {w w' : World} {g p : Nat} {c : Raw} (h : RawIn w g p c) (hb : Below w.heap.size w w') : RawIn w' g p c :=
 ⟨moved h.1 hb (Nat.le_refl _), moved h.2.1 hb (Nat.le_refl _), moved h.2.2.1 hb (Nat.le_refl _), moved h.2.2.2.1 hb (Nat.le_refl _), moved h.2.2.2.2.1 hb (Nat.le_refl _), moved h.2.2.2.2.2.1 hb (Nat.le_refl _), h.2.2.2.2.2.2⟩
def RawsAt (w : World) (a : Option Addr) (cs : List Raw) : Prop :=
 ∀ i c, cs[i]? = some c → ∃ g off, a = some ⟨g, off, none⟩ ∧ g < w.heap.size ∧ RawIn w g (off + i * 6) c
theorem RawsAt.down {w w' : World} {a : Option Addr} {cs : List Raw} (h : RawsAt w a cs) (hb : Below w.heap.size w w') : RawsAt w' a cs := by
 intro i c hc
 obtain ⟨g, off, h1, h2, h3⟩ := h i c hc
 exact ⟨g, off, h1, Nat.lt_of_lt_of_le h2 hb.size, h3.down hb⟩
end Go.Proofs.YtmkppkjikifdlaaGreatDoor
