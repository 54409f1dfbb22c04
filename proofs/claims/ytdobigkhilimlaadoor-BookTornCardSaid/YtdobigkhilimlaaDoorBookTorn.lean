/-
  DERIVED. BookTorn: the walk.
-/
import Derived.Test.YtdobigkhilimlaaDoorBooks
namespace Go.Proofs.YtdobigkhilimlaaDoor
open Go.RowKit

theorem recover_end11 {R : Nat} {a : Act} {W w : World} (ht2 : a.tmps.getD 2 undef = .slice none 0 0) (ht : a.tmps.getD 3 undef = .pointer (some ⟨R, 0, none⟩)) (ht4 : a.tmps.getD 4 undef = .int .i64 11) (hd : a.defers = [])
    (h : Has W R [.slice none 0 0, .int .i64 0]) (hb : Below w.heap.size w W) :
    bodyPost Tryd.prog Tryd.f18 (fun e w' => e = .returned (.tuple #[.slice none 0 0, .agg #[.slice none 0 0, .int .i64 0], .int .i64 11]) ∧ Below w.heap.size w w') .ret a W := by
  obtain ⟨c0, c1, _, _⟩ := h.two
  refine bodyPost_ret (v := .tuple #[.slice none 0 0, .agg #[.slice none 0 0, .int .i64 0], .int .i64 11]) ?_ hd ⟨rfl, hb⟩
  have ht2' : a.tmps[2]?.getD undef = .slice none 0 0 := by simpa using ht2
  have ht' : a.tmps[3]?.getD undef = .pointer (some ⟨R, 0, none⟩) := by simpa using ht
  have ht4' : a.tmps[4]?.getD undef = .int .i64 11 := by simpa using ht4
  simp [results, Tryd.results18, go_sem, ht2', ht', ht4', c0, c1]
set_option maxHeartbeats 2000000 in
set_option maxRecDepth 20000 in
theorem recover_bad (w : World) : Calls Tryd.prog 18 #[.agg #[.slice none 0 0, .int .i64 1]] w fun e w' => e = .returned (.tuple #[.slice none 0 0, .agg #[.slice none 0 0, .int .i64 0], .int .i64 11]) ∧ Below w.heap.size w w' := by
  have hO : Hid (∀ w', Calls Tryd.prog 28 #[.agg #[.slice none 0 0, .int .i64 1]] w' fun e w'' => e = .returned (.tuple #[.agg #[.slice none 0 0, .int .i64 0], .bool false]) ∧ Below w'.heap.size w' w'') :=
    fun w' => open_not _ [] 1 w' ⟨_, rfl, bytes_nil w'⟩ (by simp) (by omega) (by unfold MayT; simp)
  have HB1 := Lib.hid (ba (ba (Below.refl _ w) (.cells #[.slice none 0 0, .int .i64 1] 42)) (.cells #[.slice none 0 0, .int .i64 0] 42))
  have h2 := Has.alloc (w.alloc (.cells #[.slice none 0 0, .int .i64 1] 42)) [.slice none 0 0, .int .i64 0] 42
  simp only [World.size_alloc] at h2
  have H2 := Lib.hid h2
  clear h2
  go_enter Tryd.func18, Tryd.ntmps18
  go_wp2_with fail
  refine (hO.out _).mono ?_
  rintro e w1 ⟨rfl, hb1⟩
  obtain ⟨c0, c1, f0, f1⟩ := (H2.out.down hb1).two
  have HB2 := Lib.hid hb1
  have hz := (H2.out.down hb1).2.2
  clear hb1
  go_wp2_with fail
  exact recover_end11 (R := w.heap.size + 1) rfl rfl rfl rfl ((((H2.out.down HB2.out).set' (i := 0) (.slice none 0 0) (by simp)).set' (i := 1) (.int .i64 0) (by simp)).down (ba (Below.refl _ _) _))
    (ba (((bt HB1.out HB2.out).setCell (p := ⟨w.heap.size + 1, 0, none⟩) (by show w.heap.size ≤ w.heap.size + 1; omega) _).setCell (p := ⟨w.heap.size + 1, 1, none⟩) (by show w.heap.size ≤ w.heap.size + 1; omega) _) _)

set_option maxHeartbeats 8000000 in
set_option maxRecDepth 20000 in
theorem bookTorn_walk (a : Option Addr) (cap : Nat) (cs : List Raw) (at' : Int) (m : Int) (w : World) (h : RawsAt w a cs) (hlen : cs.length ≤ 9223372036854775807) (hcap : cs.length ≤ cap) (hu : Int64 at') (hm : w.cell? ⟨0, 0, none⟩ = some (.int .i64 m)) :
    Calls Tryd.prog 6 #[.slice a cs.length cap, .int .i64 at'] w fun e w' => e = .returned (.bool true) ∧ Below w.heap.size w w' := by
  have hB := Lib.hid (batchesOf_any a cap cs w h hlen hcap)
  have hP0 : Hid (∀ (n : Nat) w, n ≤ 100000 → Calls Tryd.prog 15 #[.int .i64 at', .int .i64 ((n : Int) + 1)] w fun e w' => e = .returned (.int .i64 (pick at' ((n : Int) + 1))) ∧ w = w') := fun n w h => picked_any at' _ w hu.1 hu.2 (by omega) (by omega)
  have HM := Lib.hid hm
  clear hm h
  go_enter Tryd.func6, Tryd.ntmps6
  go_wp2_with fail
  refine hB.out.mono ?_
  rintro e w1 ⟨⟨vb, bs, rfl, hbs, hbl, hok⟩, hb1⟩
  obtain ⟨hgood, hDl, hg2⟩ := bats_known hok hbl
  have HG := Lib.hid hgood; have HG2 := Lib.hid hg2
  obtain ⟨D, hD⟩ : ∃ D, D = tapeL bs := ⟨_, rfl⟩
  have hT : Hid (∀ v w', BatsAt w' v bs → w'.cell? ⟨0, 0, none⟩ = some (.int .i64 m) → Calls Tryd.prog 17 #[v] w' fun e w'' => (∃ a c, e = .returned (.tuple #[.agg #[.slice a D.length c, .int .i64 0], .bool true]) ∧ Bytes w'' (.slice a D.length c) D) ∧ Below w'.heap.size w' w'') := by
    intro v w' h hm
    refine (taped_any v bs m w' h hgood (by omega) (by omega) hm).mono ?_
    rintro e w'' ⟨⟨v, rfl, u, rfl, hu⟩, hb⟩
    rw [← hD] at hu
    obtain ⟨a, c, rfl, _⟩ := id hu
    exact ⟨⟨a, c, rfl, hu⟩, hb⟩
  obtain ⟨k, hk⟩ : ∃ k, k = pick at' ((D.length : Int) + 1) := ⟨_, rfl⟩
  have hkD : k ≤ D.length := by have := pick_lt_int at' ((D.length : Int) + 1) (by omega); omega
  obtain ⟨j, rest, hj, hrec, hjk, _⟩ := rec_torn bs k hgood (by rw [← hD]; exact hkD)
  rw [← hD] at hDl hrec hjk
  have hlT : (tapeL (bs.take j)).length ≤ k := by
    have := congrArg List.length hrec.1
    rw [List.length_append, List.length_take] at this
    omega
  have HREC := Lib.hid hrec
  have hrec2 : Hid (Rec (tapeL (bs.take j)) (bs.take j) []) := Rec.whole (fun x hx => hgood x (List.mem_of_mem_take hx))
  obtain ⟨gs, hgs⟩ : ∃ gs, gs = bs.take j := ⟨_, rfl⟩
  have hgl : gs.length = j := by rw [hgs, List.length_take]; omega
  have hpre : Hid (gs <+: bs) := by unfold Hid; rw [hgs]; exact List.take_prefix _ _
  have HG3 : Hid (∀ b ∈ gs, b.1 < 1000000 ∧ b.2.length ≤ 1000) := fun b hb => hg2 b (by rw [hgs] at hb; exact List.mem_of_mem_take hb)
  rw [← hgs] at HREC hrec2 hlT
  have hP : Hid (∀ w, Calls Tryd.prog 15 #[.int .i64 at', .int .i64 ((D.length : Int) + 1)] w fun e w' => e = .returned (.int .i64 k) ∧ w = w') := fun w => by rw [hk]; exact hP0.out D.length w (by omega)
  have hjk2 : (gs.length = bs.length ↔ k = D.length) := by rw [hgl]; exact hjk
  have HJK := Lib.hid hjk2
  have hglb : gs.length ≤ bs.length := by omega
  obtain ⟨E, hE⟩ : ∃ E, E = tapeL gs := ⟨_, rfl⟩
  rw [← hE] at hrec2 hlT
  have HE := Lib.hid hE
  clear hok hgood hg2 hD hP0 hk hrec hjk hjk2 hgs hgl hE hj
  obtain ⟨Gb, cb, rfl, hcb, _⟩ := id hbs
  have HBS1 := Lib.hid hbs; have HB1 := Lib.hid hb1
  clear hbs hb1
  go_wp2_with fail
  refine (hT.out _ _ HBS1.out (moved HM.out HB1.out (Nat.le_refl _))).mono ?_
  rintro e w2 ⟨⟨a2, c2, rfl, hu2⟩, hb2⟩
  have hA2 := ba (Below.refl w2.heap.size w2) (.cells #[.slice a2 D.length c2, .int .i64 0] 42)
  have hb2' := bt hb2 hA2
  have HX2 := Lib.hid (Has.alloc w2 [.slice a2 D.length c2, .int .i64 0] 42)
  have HU2 := Lib.hid (hu2.down hA2)
  have HBS2 := Lib.hid (HBS1.out.down hb2'); have HB2 := Lib.hid (bt HB1.out hb2')
  have hc2 : D.length ≤ c2 := by obtain ⟨_, _, h, h2, _⟩ := hu2; cases h; exact h2
  have hkc : k ≤ c2 := by omega
  clear hA2 hb2 hb2' hu2 HBS1 HB1
  go_wp2_with fail
  refine (hP.out _).mono ?_
  rintro e w3 ⟨rfl, rfl⟩
  have hcut := bytes_cut k HU2.out hkD
  have hlk : (D.take k).length = k := by rw [List.length_take]; omega
  have hcut2 : Hid (Bytes (w2.alloc (.cells #[.slice a2 D.length c2, .int .i64 0] 42)) (.slice a2 k k) (D.take k)) := hcut
  clear hcut
  go_wp2_with fail
  refine (recover_any _ (D.take k) 0 m _ ⟨_, rfl, hcut2.out⟩ ⟨by omega, by omega, by omega⟩ (moved HM.out HB2.out (Nat.le_refl _))).mono ?_
  rintro e w5 ⟨⟨bs5, rest5, v5, tv5, rfl, hr5, hbs5, ⟨u5, rfl, hu5⟩⟩, hb5⟩
  obtain ⟨rfl, rfl⟩ := Rec.unique hr5 HREC.out
  have hEE := HE.out
  rw [← hEE] at hu5 ⊢
  rw [show min (0 : Int) (E.length : Int) = 0 by omega]
  obtain ⟨a5, c5, rfl, _⟩ := id hu5
  have hA5 := ba (Below.refl w5.heap.size w5) (.cells #[.slice a5 E.length c5, .int .i64 0] 42)
  have hb5' := bt hb5 hA5
  have HY5 := Lib.hid (HX2.out.down hb5'); have HV5 := Lib.hid (HU2.out.down hb5')
  have HX5 := Lib.hid (Has.alloc w5 [.slice a5 E.length c5, .int .i64 0] 42); have HU5 := Lib.hid (hu5.down hA5); have HGT5 := Lib.hid (hbs5.down hA5)
  have HBS5 := Lib.hid (HBS2.out.down hb5'); have HB5 := Lib.hid (bt HB2.out hb5')
  obtain ⟨G5, cg5, rfl, _⟩ := id hbs5
  clear hA5 hb5 hb5' hu5 hbs5 hr5 HX2 HU2 HBS2 HB2 hEE hcut2 hlk HREC
  go_wp2_with fail
  refine (recover_any _ E 0 m _ ⟨_, rfl, HU5.out⟩ ⟨by omega, by omega, by omega⟩ (moved HM.out HB5.out (Nat.le_refl _))).mono ?_
  rintro e w6 ⟨⟨bs6, rest6, v6, tv6, rfl, hr6, hbs6, ⟨u6, rfl, hu6⟩⟩, hb6⟩
  obtain ⟨rfl, rfl⟩ := Rec.unique hr6 hrec2.out
  have hEE := HE.out
  rw [← hEE] at hu6 ⊢
  rw [show min (0 : Int) (E.length : Int) = 0 by omega]
  obtain ⟨a6, c6, rfl, _⟩ := id hu6
  have hA6 := ba (Below.refl w6.heap.size w6) (.cells #[.slice a6 E.length c6, .int .i64 0] 42)
  have hb6' := bt hb6 hA6
  have HY6 := Lib.hid (HY5.out.down hb6'); have HX6 := Lib.hid (HX5.out.down hb6'); have HU6 := Lib.hid (HU5.out.down hb6'); have HGT6 := Lib.hid (HGT5.out.down hb6')
  have HZ6 := Lib.hid (Has.alloc w6 [.slice a6 E.length c6, .int .i64 0] 42); have HT6 := Lib.hid (hu6.down hA6); have HAG6 := Lib.hid (hbs6.down hA6)
  have HBS6 := Lib.hid (HBS5.out.down hb6'); have HB6 := Lib.hid (bt HB5.out hb6')
  obtain ⟨G6, cg6, rfl, _⟩ := id hbs6
  clear hA6 hb6 hb6' hu6 hbs6 hr6 HX5 HU5 HBS5 HB5 HY5 HV5 HGT5 hEE
  go_wp2_with fail
  refine (recover_bad _).mono ?_
  rintro e w7 ⟨rfl, hb7⟩
  have hA7 := ba (Below.refl w7.heap.size w7) (.cells #[.slice none 0 0, .int .i64 0] 42)
  have hb7' := bt hb7 hA7
  have HY7 := Lib.hid (HY6.out.down hb7'); have HX7 := Lib.hid (HX6.out.down hb7'); have HU7 := Lib.hid (HU6.out.down hb7'); have HGT7 := Lib.hid (HGT6.out.down hb7')
  have HZ7 := Lib.hid (HZ6.out.down hb7'); have HT7 := Lib.hid (HT6.out.down hb7'); have HAG7 := Lib.hid (HAG6.out.down hb7')
  have HBS7 := Lib.hid (HBS6.out.down hb7'); have HB7 := Lib.hid (bt HB6.out hb7')
  clear hA7 hb7 hb7' HX6 HU6 HBS6 HB6 HY6 HGT6 HZ6 HT6 HAG6
  go_wp2_with fail
  refine (begins_any _ _ _ bs _ HGT7.out HBS7.out hpre.out HG3.out (by omega)).mono ?_
  rintro e w8 ⟨rfl, hb8⟩
  go_wp2_with fail
  refine (begins_any _ _ _ _ _ (HAG7.out.down hb8) (HGT7.out.down hb8) (List.prefix_refl _) HG3.out (by omega)).mono ?_
  rintro e w9 ⟨rfl, hb9⟩
  have hb79 := bt hb8 hb9
  obtain ⟨c0, c1, _, _⟩ := (HY7.out.down hb79).two
  obtain ⟨d0, d1, _, _⟩ := (HX7.out.down hb79).two
  obtain ⟨e0, e1, _, _⟩ := (HZ7.out.down hb79).two
  obtain ⟨a', c', h1, _, hat1, _⟩ := HU7.out.down hb79
  obtain ⟨a'', c'', h2, _, hat2, _⟩ := HT7.out.down hb79
  cases h1; cases h2
  have cv1 := conv_at (cap := c5) hat1
  have cv2 := conv_at (cap := c6) hat2
  have HB9 := Lib.hid (bt HB7.out hb79)
  have hEk : decide ((E.length : Int) ≤ k) = true := decide_eq_true (by omega)
  clear hat1 hat2 hb79 hb8 hb9
  by_cases hkD2 : k = D.length
  · have q1 : ((bs6.length : Int) == (bs.length : Int)) = true := by have := HJK.out.2 hkD2; simp; omega
    have q2 : ((k : Int) == (D.length : Int)) = true := by simp; omega
    clear hkD2
    go_wp2_with fail
    go_ret
    exact ⟨rfl, HB9.out⟩
  · have q1 : ((bs6.length : Int) == (bs.length : Int)) = false := by have := mt HJK.out.1 hkD2; simp; omega
    have q2 : ((k : Int) == (D.length : Int)) = false := by simp; omega
    clear hkD2
    go_wp2_with fail
    go_ret
    exact ⟨rfl, HB9.out⟩
end Go.Proofs.YtdobigkhilimlaaDoor
