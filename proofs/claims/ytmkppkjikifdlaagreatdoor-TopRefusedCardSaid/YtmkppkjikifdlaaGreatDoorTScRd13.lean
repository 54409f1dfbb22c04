/- On the way. -/
import Derived.Test.YtmkppkjikifdlaaGreatDoorTScRd12
set_option linter.unusedVariables false
set_option linter.unusedSimpArgs false
set_option maxHeartbeats 8000000
set_option maxRecDepth 20000
namespace Go.Proofs.YtmkppkjikifdlaaGreatDoor.Sc
open Go.RowKit
open Tk (Tok)
theorem command_wrong (n : Nat) (dI : Int) (d K b : Nat) (v : Value) (F : Dom) (all l : List Tok) (w : World) (hdI : dI = d) (hn : all.length ≤ 100000) (h : RL w b v F all l) (hTab : Tabs w b)
    (hbad : (6 < d ∧ l ≠ []) ∨ (¬ (6 < d ∧ l ≠ []) ∧ ∃ k c, wordP cmdTab l = .error (k, c))) :
    Calls Tryz.prog 75 #[.pointer (some ⟨b, 0, none⟩), .int .i64 dI] w (Ans (CmdR K w.heap.size) b v F all w (commandP (n + 1) d l)) := by
 obtain ⟨Rz, hRz⟩ : ∃ Rz, Rz = commandP (n + 1) d l := ⟨_, rfl⟩
 rw [← hRz]
 rw [commandP] at hRz
 have hal := ba (Below.refl w.heap.size w) (.cells #[.int .i64 0, .slice none 0 0, .int .i64 0, .int .i64 0, .int .i64 0, .slice none 0 0, .slice none 0 0, .bool false, .int .i64 0, .slice none 0 0, .slice none 0 0, .slice none 0 0] 160)
 have HAL := Lib.hid hal
 have h1 := h.below hal
 obtain ⟨p, hl0, hr⟩ := h1
 obtain ⟨G, cap, rfl, hlen, hf⟩ := hr.facts hl0
 have c0 := hr.c0
 have c1 := hr.c1
 have hpos : (0 : Int) ≤ p := by omega
 have HR := Lib.hid hr; have HL := Lib.hid hl0
 rcases hbad with ⟨hd, hl⟩ | ⟨hd, k, c, hw⟩
 ·rw [if_pos ⟨hd, hl⟩] at hRz
  have hq : decide (6 < dI) = true := decide_eq_true (by omega)
  have hlp : 0 < l.length := List.length_pos_iff.2 hl
  have hq2 : decide (p < all.length) = true := decide_eq_true (by omega)
  have HRZ : Hid (Rz = .error (l.length, if l.length = 0 then 4 else 1)) := by unfold Hid; rw [hRz, if_neg (by omega)]
  clear hRz hal h hl0 hr hf hlen hd hl hlp hdI
  go_enter Tryz.func75, Tryz.ntmps75
  go_wp2_with fail
  go_quiet (fail)
  go_wp2_with fail
  refine (give_any b p _ F all l 1 _ (by decide) hn HL.out (HR.out.below (belowDrewN _ nq))).mono ?_
  rintro e w2 ⟨ch, rfl, HCH, hb2⟩
  have HB2 := Lib.hid (bt (bt HAL.out (belowDrewN _ nq)) hb2)
  clear hb2
  go_wp2_with fail
  refine ⟨rfl, ?_⟩
  rw [HRZ.out]
  exact ⟨by rw [HCH.out], gBelow HB2.out b⟩
 ·rw [if_neg hd, hw] at hRz
  have HRZ : Hid (Rz = .error (k, c)) := hRz
  have hwt := fun W (hb : Below (w.alloc (.cells #[.int .i64 0, .slice none 0 0, .int .i64 0, .int .i64 0, .int .i64 0, .slice none 0 0, .slice none 0 0, .bool false, .int .i64 0, .slice none 0 0, .slice none 0 0, .slice none 0 0] 160)).heap.size (w.alloc (.cells #[.int .i64 0, .slice none 0 0, .int .i64 0, .int .i64 0, .int .i64 0, .slice none 0 0, .slice none 0 0, .bool false, .int .i64 0, .slice none 0 0, .slice none 0 0, .slice none 0 0] 160)) W) => word_tok b 1 cmdTab 11 (.slice G all.length cap) F all l W hn ⟨p, hl0, hr.below hb⟩ ((hTab.down (Nat.le_of_lt h.lt) (bt hal hb)).c) hTab.low.2.1 rfl (by decide)
  rw [hw] at hwt
  have HWT := Lib.hid hwt
  have hways : (decide (6 < dI) = false) ∨ (decide (6 < dI) = true ∧ decide (p < all.length) = false) := by
   by_cases h6 : 6 < dI
   ·refine .inr ⟨decide_eq_true h6, decide_eq_false ?_⟩
    have : l = [] := by
     by_cases e : l = []
     ·exact e
     ·exact absurd ⟨by omega, e⟩ hd
    rw [this] at hlen; simp at hlen; omega
   ·exact .inl (decide_eq_false h6)
  clear hRz hal h hl0 hr hf hlen hd hdI hw hwt
  rcases hways with q1 | ⟨q1, q2⟩
  all_goals
   go_enter Tryz.func75, Tryz.ntmps75
   go_wp2_with fail
   go_quiet (fail)
   go_wp2_with fail
   refine (HWT.out _ (belowDrewN _ nq)).mono ?_
   intro e w2 hp
   obtain ⟨ch, rfl, HCH, g2⟩ := hp.err
   have G2 := Lib.hid (Go.Lib.grownBy_trans (gBelow (bt HAL.out (belowDrewN _ nq)) b) g2)
   clear g2 hp
   go_wp2_with fail
   refine ⟨rfl, ?_⟩
   rw [HRZ.out]
   exact ⟨by rw [HCH.out], G2.out⟩
theorem plain_rep {K N H0 : Nat} {w : World} {k : Int} {tx : List Str} {vx : Value} (hx : SAt cStr w (fun x => N < x) vx tx) (h0 : H0 ≤ N) : (cCmd (K + 1)).rep w (fun x => H0 ≤ x ∧ x ≠ N) ⟨k, tx, T0, [], []⟩ [.int .i64 k, vx, .int .i64 0, .int .i64 0, .int .i64 0, .slice none 0 0, .slice none 0 0, .bool false, .int .i64 0, .slice none 0 0, .slice none 0 0, .slice none 0 0] :=
 ⟨vx, [.int .i64 0, .int .i64 0, .int .i64 0, .slice none 0 0, .slice none 0 0, .bool false, .int .i64 0, .slice none 0 0], _, _, rfl, hx.mono (fun x hx => ⟨by omega, by omega⟩), ⟨_, _, _, rfl, SAt.nil _ _ _, SAt.nil _ _ _, SAt.nil _ _ _⟩, SAt.nil _ _ _, SAt.nil _ _ _⟩
theorem command_if (n : Nat) (dI : Int) (d b k : Nat) (v : Value) (F : Dom) (all l r : List Tok) (w : World) (hdI : dI = d) (hn : all.length ≤ 100000) (h : RL w b v F all l) (hTab : Tabs w b) (hB : BranchN n) (hl : l.length < n + 1)
    (hg : ¬ (6 < d ∧ l ≠ [])) (hw : wordP cmdTab l = .ok (k, r)) (hk : k = 2) :
    Calls Tryz.prog 75 #[.pointer (some ⟨b, 0, none⟩), .int .i64 dI] w (Ans (CmdR (n + 1 + 7) w.heap.size) b v F all w (commandP (n + 1) d l)) := by
 obtain ⟨Rz, hRz⟩ : ∃ Rz, Rz = commandP (n + 1) d l := ⟨_, rfl⟩
 rw [← hRz]
 rw [commandP, if_neg hg, hw] at hRz
 have HRZ : Hid (Rz = cmdK (branchP n d) k r) := hRz
 have hl0 : l ≠ [] := by rintro rfl; cases hw
 have hd6 : d ≤ 6 := by
  by_cases e : 6 < d
  ·exact absurd ⟨e, hl0⟩ hg
  ·omega
 have hal := ba (Below.refl w.heap.size w) (.cells #[.int .i64 0, .slice none 0 0, .int .i64 0, .int .i64 0, .int .i64 0, .slice none 0 0, .slice none 0 0, .bool false, .int .i64 0, .slice none 0 0, .slice none 0 0, .slice none 0 0] 160)
 have HAL := Lib.hid hal
 have hbl := h.lt
 have hres := Has.alloc w [.int .i64 0, .slice none 0 0, .int .i64 0, .int .i64 0, .int .i64 0, .slice none 0 0, .slice none 0 0, .bool false, .int .i64 0, .slice none 0 0, .slice none 0 0, .slice none 0 0] 160
 have HRS := Lib.hid hres
 have h1 := h.below hal
 have hTab1 := hTab.down (Nat.le_of_lt hbl) hal
 obtain ⟨p, hl1, hr1⟩ := h1
 obtain ⟨G, cap, rfl, hlen, -⟩ := hr1.facts hl1
 have c0 := hr1.c0
 have c1 := hr1.c1
 have hpos : (0 : Int) ≤ p := by omega
 have hwt := fun W (hb : Below (w.alloc (.cells #[.int .i64 0, .slice none 0 0, .int .i64 0, .int .i64 0, .int .i64 0, .slice none 0 0, .slice none 0 0, .bool false, .int .i64 0, .slice none 0 0, .slice none 0 0, .slice none 0 0] 160)).heap.size (w.alloc (.cells #[.int .i64 0, .slice none 0 0, .int .i64 0, .int .i64 0, .int .i64 0, .slice none 0 0, .slice none 0 0, .bool false, .int .i64 0, .slice none 0 0, .slice none 0 0, .slice none 0 0] 160)) W) => word_tok b 1 cmdTab 11 (.slice G all.length cap) F all l W hn ⟨p, hl1, hr1.below hb⟩ ((hTab1.down (Nat.le_of_lt hr1.lt) hb).c) hTab.low.2.1 rfl (by decide)
 have hls := less_word cmdTab l
 rw [hw] at hwt hls
 have hrl : r.length + 1 ≤ l.length := hls
 have HWT := Lib.hid hwt
 have HTAB := Lib.hid hTab
 have q1 : decide (6 < dI) = false := decide_eq_false (by omega)
 have HDI := Lib.hid hdI
 clear hRz hal h hl1 hr1 hlen hg hw hwt hls hres hTab hTab1 hl0 hdI
 have HBR : Hid (∀ (V : World) (q : List Tok), RL V b (.slice G all.length cap) F all q → w.grownBy V (some b) → q.length < n → Calls Tryz.prog 109 #[.pointer (some ⟨b, 0, none⟩), .int .i64 dI] V (Ans (CmdR (n + 7) V.heap.size) b (.slice G all.length cap) F all V (branchP n d q))) := fun V q h1 h2 h3 => hB dI d b _ F all q V HDI.out hd6 hn h1 (HTAB.out.below (grown_low h2 (Nat.le_of_lt hbl))) h3
 clear hB
 subst hk
 go_enter Tryz.func75, Tryz.ntmps75
 go_wp2_with fail
 go_quiet (fail)
 go_wp2_with fail
 refine (HWT.out _ (belowDrewN _ nq)).mono ?_
 intro e w2 hp
 obtain ⟨he, hr2, g2⟩ := hp
 have he' : e = .returned (.int .i64 2) := he
 subst he'
 have H0 : Hid (RC w (w2.alloc (.cells #[.int .i64 2, .slice none 0 0, .int .i64 0, .int .i64 0, .int .i64 0, .slice none 0 0, .slice none 0 0, .bool false, .int .i64 0, .slice none 0 0, .slice none 0 0, .slice none 0 0] 160)) b w2.heap.size w.heap.size (.slice G all.length cap) F all r [.int .i64 2, .slice none 0 0, .int .i64 0, .int .i64 0, .int .i64 0, .slice none 0 0, .slice none 0 0, .bool false, .int .i64 0, .slice none 0 0, .slice none 0 0, .slice none 0 0]) := by
  have hb2 := ba (Below.refl w2.heap.size w2) (.cells #[.int .i64 2, .slice none 0 0, .int .i64 0, .int .i64 0, .int .i64 0, .slice none 0 0, .slice none 0 0, .bool false, .int .i64 0, .slice none 0 0, .slice none 0 0, .slice none 0 0] 160)
  have g3 := Go.Lib.grownBy_trans (gBelow (bt HAL.out (belowDrewN _ nq)) b) g2
  have hr9 : Has w2 w.heap.size res12 := (HRS.out.down (belowDrewN _ nq)).kept g2 (fun e => by have := Option.some.inj e; omega)
  exact ⟨hr2.below hb2, Has.alloc w2 _ _, hr9.down hb2, Go.Lib.grownBy_below g3 hb2, hbl, hr9.2.2, Nat.le_refl _⟩
 clear he hr2 g2 HWT HAL HRS c0 c1
 go_upto_region 4 with fail
 refine wp_at (R := fun W => RC w W b w2.heap.size w.heap.size (.slice G all.length cap) F all r [.int .i64 2, .slice none 0 0, .int .i64 0, .int .i64 0, .int .i64 0, .slice none 0 0, .slice none 0 0, .bool false, .int .i64 0, .slice none 0 0, .slice none 0 0, .slice none 0 0]) H0.out (fun W hW => ?_)
 clear H0
 generalize w2.heap.size = T at hW ⊢
 obtain ⟨N, hN⟩ : ∃ N, N = w.heap.size := ⟨_, rfl⟩
 rw [← hN] at hW ⊢
 have HN := Lib.hid hN
 clear hN
 obtain ⟨e0, e1, e2, e3, e4, e5, e6, e7, e8, e9, e10, e11⟩ := has_12 hW.t
 have HW := Lib.hid hW
 clear hW
 have hB5 := HBR.out W r HW.out.rd HW.out.gr (by omega)
 have HZ : Hid (Rz = branchP n d r) := HRZ.out
 clear HRZ
 cases hx : branchP n d r with
 | error p =>
  obtain ⟨kk, c⟩ := p
  rw [hx] at hB5 HZ
  have HB5 := Lib.hid hB5
  clear hx hB5
  go_wp2_with fail
  refine HB5.out.mono ?_
  intro e w9 hp
  obtain ⟨ch, rfl, HCH, g9⟩ := hp.err
  have G9 := Lib.hid (Go.Lib.grownBy_trans HW.out.gr g9)
  clear g9 hp
  go_wp2_with fail
  refine ⟨rfl, ?_⟩
  rw [HZ.out]
  exact ⟨by rw [HCH.out], G9.out⟩
 | ok p =>
  obtain ⟨y, r6⟩ := p
  rw [hx] at hB5 HZ
  have HB5 := Lib.hid hB5
  clear hx hB5
  go_wp2_with fail
  refine HB5.out.mono ?_
  intro e w6 hp
  obtain ⟨⟨vs6, rfl, hr6⟩, h6, g6⟩ := hp
  obtain ⟨k, G0, n0, c0, kq, mq, pq, Gq1, nq1, cq1, Gq2, nq2, cq2, oq, lq, Gq3, nq3, cq3, G4', n4, c4, G5, n5, c5, rfl⟩ := cmd_form12 hr6
  have hw6 := HW.out.next h6 g6
  have hWN : N < W.heap.size := HW.out.res.2.2
  obtain ⟨r0, r1, r2, r3, r4, r5, r6', r7, r8, r9, r10, r11⟩ := has_12 hw6.res
  have f0 := hw6.res.2.1 0 (by simp [res12]); have f1 := hw6.res.2.1 1 (by simp [res12]); have f2 := hw6.res.2.1 2 (by simp [res12]); have f3 := hw6.res.2.1 3 (by simp [res12]); have f4 := hw6.res.2.1 4 (by simp [res12]); have f5 := hw6.res.2.1 5 (by simp [res12]); have f6 := hw6.res.2.1 6 (by simp [res12]); have f7 := hw6.res.2.1 7 (by simp [res12]); have f8 := hw6.res.2.1 8 (by simp [res12]); have f9 := hw6.res.2.1 9 (by simp [res12]); have f10 := hw6.res.2.1 10 (by simp [res12]); have f11 := hw6.res.2.1 11 (by simp [res12])
  have hp9 := put12_has hw6.res (.int .i64 k) (.slice G0 n0 c0) (.int .i64 kq) (.int .i64 mq) (.int .i64 pq) (.slice Gq1 nq1 cq1) (.slice Gq2 nq2 cq2) (.bool oq) (.int .i64 lq) (.slice Gq3 nq3 cq3) (.slice G4' n4 c4) (.slice G5 n5 c5)
  have hans : Ans (CmdR (n + 1 + 7) w.heap.size) b (.slice G all.length cap) F all w (.ok (y, r6)) (.returned (.agg #[.int .i64 k, .slice G0 n0 c0, .int .i64 kq, .int .i64 mq, .int .i64 pq, .slice Gq1 nq1 cq1, .slice Gq2 nq2 cq2, .bool oq, .int .i64 lq, .slice Gq3 nq3 cq3, .slice G4' n4 c4, .slice G5 n5 c5])) (put12 w6 N (.int .i64 k) (.slice G0 n0 c0) (.int .i64 kq) (.int .i64 mq) (.int .i64 pq) (.slice Gq1 nq1 cq1) (.slice Gq2 nq2 cq2) (.bool oq) (.int .i64 lq) (.slice Gq3 nq3 cq3) (.slice G4' n4 c4) (.slice G5 n5 c5)) := by
   refine ⟨⟨_, rfl, ?_⟩, ?_, ?_⟩
   ·have hN0 := HW.out.N0
    exact (cCmd (n + 1 + 7)).mono ((cCmd (n + 1 + 7)).stable (cmd_le (by omega) hr6) (fun x hx _ => put12_same (by have : W.heap.size ≤ x := hx; omega) _ _ _ _ _ _ _ _ _ _ _ _) (put12_size _ _ _ _ _ _ _ _ _ _ _ _)) (fun x hx => by have : W.heap.size ≤ x := hx; omega)
   ·unfold put12
    have hb := hw6.bN
    exact rl_far (rl_far (rl_far (rl_far (rl_far (rl_far (rl_far (rl_far (rl_far (rl_far (rl_far (rl_far h6 hb _) hb _) hb _) hb _) hb _) hb _) hb _) hb _) hb _) hb _) hb _) hb _
   ·unfold put12
    have h0 := hw6.N0
    exact grown_far (grown_far (grown_far (grown_far (grown_far (grown_far (grown_far (grown_far (grown_far (grown_far (grown_far (grown_far hw6.gr h0 _) h0 _) h0 _) h0 _) h0 _) h0 _) h0 _) h0 _) h0 _) h0 _) h0 _) h0 _
  obtain ⟨x0, x1, x2, x3, x4, x5, x6, x7, x8, x9, x10, x11⟩ := has_12 hp9
  have HANS := Lib.hid hans
  unfold put12 at x0 x1 x2 x3 x4 x5 x6 x7 x8 x9 x10 x11 HANS
  clear hr6 h6 g6 hw6 hp9 hans HB5 e0 e1 e2 e3 e4 e5 e6 e7 e8 e9 e10 e11
  go_wp2_with fail
  refine bodyPost_ret (v := .agg #[.int .i64 k, .slice G0 n0 c0, .int .i64 kq, .int .i64 mq, .int .i64 pq, .slice Gq1 nq1 cq1, .slice Gq2 nq2 cq2, .bool oq, .int .i64 lq, .slice Gq3 nq3 cq3, .slice G4' n4 c4, .slice G5 n5 c5]) ?_ rfl ?_
  ·simp [results, Tryz.results75, go_sem, x0, x1, x2, x3, x4, x5, x6, x7, x8, x9, x10, x11]
  ·rw [HZ.out]; exact HANS.out
theorem command_bare (n : Nat) (dI : Int) (d b k : Nat) (v : Value) (F : Dom) (all l r : List Tok) (w : World) (hdI : dI = d) (hn : all.length ≤ 100000) (h : RL w b v F all l) (hTab : Tabs w b) 
    (hg : ¬ (6 < d ∧ l ≠ [])) (hw : wordP cmdTab l = .ok (k, r)) (hk : k = 3 ∨ k = 4 ∨ k = 10) :
    Calls Tryz.prog 75 #[.pointer (some ⟨b, 0, none⟩), .int .i64 dI] w (Ans (CmdR (n + 1 + 7) w.heap.size) b v F all w (commandP (n + 1) d l)) := by
 obtain ⟨Rz, hRz⟩ : ∃ Rz, Rz = commandP (n + 1) d l := ⟨_, rfl⟩
 rw [← hRz]
 rw [commandP, if_neg hg, hw] at hRz
 have HRZ : Hid (Rz = cmdK (branchP n d) k r) := hRz
 have hl0 : l ≠ [] := by rintro rfl; cases hw
 have hd6 : d ≤ 6 := by
  by_cases e : 6 < d
  ·exact absurd ⟨e, hl0⟩ hg
  ·omega
 have hal := ba (Below.refl w.heap.size w) (.cells #[.int .i64 0, .slice none 0 0, .int .i64 0, .int .i64 0, .int .i64 0, .slice none 0 0, .slice none 0 0, .bool false, .int .i64 0, .slice none 0 0, .slice none 0 0, .slice none 0 0] 160)
 have HAL := Lib.hid hal
 have hbl := h.lt
 have hres := Has.alloc w [.int .i64 0, .slice none 0 0, .int .i64 0, .int .i64 0, .int .i64 0, .slice none 0 0, .slice none 0 0, .bool false, .int .i64 0, .slice none 0 0, .slice none 0 0, .slice none 0 0] 160
 have HRS := Lib.hid hres
 have h1 := h.below hal
 have hTab1 := hTab.down (Nat.le_of_lt hbl) hal
 obtain ⟨p, hl1, hr1⟩ := h1
 obtain ⟨G, cap, rfl, hlen, -⟩ := hr1.facts hl1
 have c0 := hr1.c0
 have c1 := hr1.c1
 have hpos : (0 : Int) ≤ p := by omega
 have hwt := fun W (hb : Below (w.alloc (.cells #[.int .i64 0, .slice none 0 0, .int .i64 0, .int .i64 0, .int .i64 0, .slice none 0 0, .slice none 0 0, .bool false, .int .i64 0, .slice none 0 0, .slice none 0 0, .slice none 0 0] 160)).heap.size (w.alloc (.cells #[.int .i64 0, .slice none 0 0, .int .i64 0, .int .i64 0, .int .i64 0, .slice none 0 0, .slice none 0 0, .bool false, .int .i64 0, .slice none 0 0, .slice none 0 0, .slice none 0 0] 160)) W) => word_tok b 1 cmdTab 11 (.slice G all.length cap) F all l W hn ⟨p, hl1, hr1.below hb⟩ ((hTab1.down (Nat.le_of_lt hr1.lt) hb).c) hTab.low.2.1 rfl (by decide)
 have hls := less_word cmdTab l
 rw [hw] at hwt hls
 have hrl : r.length + 1 ≤ l.length := hls
 have HWT := Lib.hid hwt
 have HTAB := Lib.hid hTab
 have q1 : decide (6 < dI) = false := decide_eq_false (by omega)
 have HDI := Lib.hid hdI
 clear hRz hal h hl1 hr1 hlen hg hw hwt hls hres hTab hTab1 hl0 hdI
 rcases hk with rfl | rfl | rfl
 ·go_enter Tryz.func75, Tryz.ntmps75
  go_wp2_with fail
  go_quiet (fail)
  go_wp2_with fail
  refine (HWT.out _ (belowDrewN _ nq)).mono ?_
  intro e w2 hp
  obtain ⟨he, hr2, g2⟩ := hp
  have he' : e = .returned (.int .i64 3) := he
  subst he'
  have H0 : Hid (RC w (w2.alloc (.cells #[.int .i64 3, .slice none 0 0, .int .i64 0, .int .i64 0, .int .i64 0, .slice none 0 0, .slice none 0 0, .bool false, .int .i64 0, .slice none 0 0, .slice none 0 0, .slice none 0 0] 160)) b w2.heap.size w.heap.size (.slice G all.length cap) F all r [.int .i64 3, .slice none 0 0, .int .i64 0, .int .i64 0, .int .i64 0, .slice none 0 0, .slice none 0 0, .bool false, .int .i64 0, .slice none 0 0, .slice none 0 0, .slice none 0 0]) := by
   have hb2 := ba (Below.refl w2.heap.size w2) (.cells #[.int .i64 3, .slice none 0 0, .int .i64 0, .int .i64 0, .int .i64 0, .slice none 0 0, .slice none 0 0, .bool false, .int .i64 0, .slice none 0 0, .slice none 0 0, .slice none 0 0] 160)
   have g3 := Go.Lib.grownBy_trans (gBelow (bt HAL.out (belowDrewN _ nq)) b) g2
   have hr9 : Has w2 w.heap.size res12 := (HRS.out.down (belowDrewN _ nq)).kept g2 (fun e => by have := Option.some.inj e; omega)
   exact ⟨hr2.below hb2, Has.alloc w2 _ _, hr9.down hb2, Go.Lib.grownBy_below g3 hb2, hbl, hr9.2.2, Nat.le_refl _⟩
  clear he hr2 g2 HWT HAL HRS c0 c1
  go_upto_region 4 with fail
  refine wp_at (R := fun W => RC w W b w2.heap.size w.heap.size (.slice G all.length cap) F all r [.int .i64 3, .slice none 0 0, .int .i64 0, .int .i64 0, .int .i64 0, .slice none 0 0, .slice none 0 0, .bool false, .int .i64 0, .slice none 0 0, .slice none 0 0, .slice none 0 0]) H0.out (fun W hW => ?_)
  clear H0
  generalize w2.heap.size = T at hW ⊢
  obtain ⟨N, hN⟩ : ∃ N, N = w.heap.size := ⟨_, rfl⟩
  rw [← hN] at hW ⊢
  have HN := Lib.hid hN
  clear hN
  obtain ⟨e0, e1, e2, e3, e4, e5, e6, e7, e8, e9, e10, e11⟩ := has_12 hW.t
  have HW := Lib.hid hW
  clear hW
  have HZ : Hid (Rz = bnd (mustP 59 r) fun _ r => .ok (⟨3, [], T0, [], []⟩, r)) := HRZ.out
  clear HRZ
  have HMU := Lib.hid (must_any b (.slice G all.length cap) F all r 59 W hn HW.out.rd)
  cases hx : mustP 59 r with
  | error p =>
   obtain ⟨kk, c⟩ := p
   rw [hx] at HMU HZ
   clear hx
   go_wp2_with fail
   refine HMU.out.mono ?_
   intro e w9 hp
   obtain ⟨ch, rfl, HCH, g9⟩ := hp.err
   have G9 := Lib.hid (Go.Lib.grownBy_trans HW.out.gr g9)
   clear g9 hp
   go_wp2_with fail
   refine ⟨rfl, ?_⟩
   rw [HZ.out]
   exact ⟨by rw [HCH.out], G9.out⟩
  | ok p =>
   obtain ⟨u9, r9⟩ := p
   rw [hx] at HMU HZ
   have HZ9 : Hid (Rz = .ok (⟨3, [], T0, [], []⟩, r9)) := HZ.out
   clear hx
   go_wp2_with fail
   refine HMU.out.mono ?_
   intro e w9 hp
   obtain ⟨rfl, hr9, g9⟩ := hp
   have HW9 := Lib.hid (HW.out.next hr9 g9)
   have HREP : Hid ((cCmd (n + 1 + 7)).rep w9 (fun x => w.heap.size ≤ x ∧ x ≠ N) ⟨3, [], T0, [], []⟩ [.int .i64 3, .slice none 0 0, .int .i64 0, .int .i64 0, .int .i64 0, .slice none 0 0, .slice none 0 0, .bool false, .int .i64 0, .slice none 0 0, .slice none 0 0, .slice none 0 0]) := plain_rep (K := n + 7) (SAt.nil _ _ _) HW.out.N0
   clear hr9 g9 HMU
   go_upto_region 16 with fail
   obtain ⟨e0, e1, e2, e3, e4, e5, e6, e7, e8, e9, e10, e11⟩ := has_12 HW9.out.t
   obtain ⟨r0, r1, r2, r3, r4, r5, r6, r7, r8, r9, r10, r11⟩ := has_12 HW9.out.res
   have f0 := HW9.out.res.2.1 0 (by simp [res12]); have f1 := HW9.out.res.2.1 1 (by simp [res12]); have f2 := HW9.out.res.2.1 2 (by simp [res12]); have f3 := HW9.out.res.2.1 3 (by simp [res12]); have f4 := HW9.out.res.2.1 4 (by simp [res12]); have f5 := HW9.out.res.2.1 5 (by simp [res12]); have f6 := HW9.out.res.2.1 6 (by simp [res12]); have f7 := HW9.out.res.2.1 7 (by simp [res12]); have f8 := HW9.out.res.2.1 8 (by simp [res12]); have f9 := HW9.out.res.2.1 9 (by simp [res12]); have f10 := HW9.out.res.2.1 10 (by simp [res12]); have f11 := HW9.out.res.2.1 11 (by simp [res12])
   have hfin := agg_put12 HW9.out HREP.out
   obtain ⟨x0, x1, x2, x3, x4, x5, x6, x7, x8, x9, x10, x11⟩ := has_12 hfin.1
   have HANS := Lib.hid hfin.2
   unfold put12 at x0 x1 x2 x3 x4 x5 x6 x7 x8 x9 x10 x11 HANS
   clear hfin
   go_wp2_with fail
   refine bodyPost_ret (v := .agg #[.int .i64 3, .slice none 0 0, .int .i64 0, .int .i64 0, .int .i64 0, .slice none 0 0, .slice none 0 0, .bool false, .int .i64 0, .slice none 0 0, .slice none 0 0, .slice none 0 0]) ?_ rfl ?_
   ·simp [results, Tryz.results75, go_sem, x0, x1, x2, x3, x4, x5, x6, x7, x8, x9, x10, x11]
   ·rw [HZ9.out]; exact HANS.out
 ·go_enter Tryz.func75, Tryz.ntmps75
  go_wp2_with fail
  go_quiet (fail)
  go_wp2_with fail
  refine (HWT.out _ (belowDrewN _ nq)).mono ?_
  intro e w2 hp
  obtain ⟨he, hr2, g2⟩ := hp
  have he' : e = .returned (.int .i64 4) := he
  subst he'
  have H0 : Hid (RC w (w2.alloc (.cells #[.int .i64 4, .slice none 0 0, .int .i64 0, .int .i64 0, .int .i64 0, .slice none 0 0, .slice none 0 0, .bool false, .int .i64 0, .slice none 0 0, .slice none 0 0, .slice none 0 0] 160)) b w2.heap.size w.heap.size (.slice G all.length cap) F all r [.int .i64 4, .slice none 0 0, .int .i64 0, .int .i64 0, .int .i64 0, .slice none 0 0, .slice none 0 0, .bool false, .int .i64 0, .slice none 0 0, .slice none 0 0, .slice none 0 0]) := by
   have hb2 := ba (Below.refl w2.heap.size w2) (.cells #[.int .i64 4, .slice none 0 0, .int .i64 0, .int .i64 0, .int .i64 0, .slice none 0 0, .slice none 0 0, .bool false, .int .i64 0, .slice none 0 0, .slice none 0 0, .slice none 0 0] 160)
   have g3 := Go.Lib.grownBy_trans (gBelow (bt HAL.out (belowDrewN _ nq)) b) g2
   have hr9 : Has w2 w.heap.size res12 := (HRS.out.down (belowDrewN _ nq)).kept g2 (fun e => by have := Option.some.inj e; omega)
   exact ⟨hr2.below hb2, Has.alloc w2 _ _, hr9.down hb2, Go.Lib.grownBy_below g3 hb2, hbl, hr9.2.2, Nat.le_refl _⟩
  clear he hr2 g2 HWT HAL HRS c0 c1
  go_upto_region 4 with fail
  refine wp_at (R := fun W => RC w W b w2.heap.size w.heap.size (.slice G all.length cap) F all r [.int .i64 4, .slice none 0 0, .int .i64 0, .int .i64 0, .int .i64 0, .slice none 0 0, .slice none 0 0, .bool false, .int .i64 0, .slice none 0 0, .slice none 0 0, .slice none 0 0]) H0.out (fun W hW => ?_)
  clear H0
  generalize w2.heap.size = T at hW ⊢
  obtain ⟨N, hN⟩ : ∃ N, N = w.heap.size := ⟨_, rfl⟩
  rw [← hN] at hW ⊢
  have HN := Lib.hid hN
  clear hN
  obtain ⟨e0, e1, e2, e3, e4, e5, e6, e7, e8, e9, e10, e11⟩ := has_12 hW.t
  have HW := Lib.hid hW
  clear hW
  have HZ : Hid (Rz = bnd (mustP 59 r) fun _ r => .ok (⟨4, [], T0, [], []⟩, r)) := HRZ.out
  clear HRZ
  have HMU := Lib.hid (must_any b (.slice G all.length cap) F all r 59 W hn HW.out.rd)
  cases hx : mustP 59 r with
  | error p =>
   obtain ⟨kk, c⟩ := p
   rw [hx] at HMU HZ
   clear hx
   go_wp2_with fail
   refine HMU.out.mono ?_
   intro e w9 hp
   obtain ⟨ch, rfl, HCH, g9⟩ := hp.err
   have G9 := Lib.hid (Go.Lib.grownBy_trans HW.out.gr g9)
   clear g9 hp
   go_wp2_with fail
   refine ⟨rfl, ?_⟩
   rw [HZ.out]
   exact ⟨by rw [HCH.out], G9.out⟩
  | ok p =>
   obtain ⟨u9, r9⟩ := p
   rw [hx] at HMU HZ
   have HZ9 : Hid (Rz = .ok (⟨4, [], T0, [], []⟩, r9)) := HZ.out
   clear hx
   go_wp2_with fail
   refine HMU.out.mono ?_
   intro e w9 hp
   obtain ⟨rfl, hr9, g9⟩ := hp
   have HW9 := Lib.hid (HW.out.next hr9 g9)
   have HREP : Hid ((cCmd (n + 1 + 7)).rep w9 (fun x => w.heap.size ≤ x ∧ x ≠ N) ⟨4, [], T0, [], []⟩ [.int .i64 4, .slice none 0 0, .int .i64 0, .int .i64 0, .int .i64 0, .slice none 0 0, .slice none 0 0, .bool false, .int .i64 0, .slice none 0 0, .slice none 0 0, .slice none 0 0]) := plain_rep (K := n + 7) (SAt.nil _ _ _) HW.out.N0
   clear hr9 g9 HMU
   go_upto_region 16 with fail
   obtain ⟨e0, e1, e2, e3, e4, e5, e6, e7, e8, e9, e10, e11⟩ := has_12 HW9.out.t
   obtain ⟨r0, r1, r2, r3, r4, r5, r6, r7, r8, r9, r10, r11⟩ := has_12 HW9.out.res
   have f0 := HW9.out.res.2.1 0 (by simp [res12]); have f1 := HW9.out.res.2.1 1 (by simp [res12]); have f2 := HW9.out.res.2.1 2 (by simp [res12]); have f3 := HW9.out.res.2.1 3 (by simp [res12]); have f4 := HW9.out.res.2.1 4 (by simp [res12]); have f5 := HW9.out.res.2.1 5 (by simp [res12]); have f6 := HW9.out.res.2.1 6 (by simp [res12]); have f7 := HW9.out.res.2.1 7 (by simp [res12]); have f8 := HW9.out.res.2.1 8 (by simp [res12]); have f9 := HW9.out.res.2.1 9 (by simp [res12]); have f10 := HW9.out.res.2.1 10 (by simp [res12]); have f11 := HW9.out.res.2.1 11 (by simp [res12])
   have hfin := agg_put12 HW9.out HREP.out
   obtain ⟨x0, x1, x2, x3, x4, x5, x6, x7, x8, x9, x10, x11⟩ := has_12 hfin.1
   have HANS := Lib.hid hfin.2
   unfold put12 at x0 x1 x2 x3 x4 x5 x6 x7 x8 x9 x10 x11 HANS
   clear hfin
   go_wp2_with fail
   refine bodyPost_ret (v := .agg #[.int .i64 4, .slice none 0 0, .int .i64 0, .int .i64 0, .int .i64 0, .slice none 0 0, .slice none 0 0, .bool false, .int .i64 0, .slice none 0 0, .slice none 0 0, .slice none 0 0]) ?_ rfl ?_
   ·simp [results, Tryz.results75, go_sem, x0, x1, x2, x3, x4, x5, x6, x7, x8, x9, x10, x11]
   ·rw [HZ9.out]; exact HANS.out
 ·go_enter Tryz.func75, Tryz.ntmps75
  go_wp2_with fail
  go_quiet (fail)
  go_wp2_with fail
  refine (HWT.out _ (belowDrewN _ nq)).mono ?_
  intro e w2 hp
  obtain ⟨he, hr2, g2⟩ := hp
  have he' : e = .returned (.int .i64 10) := he
  subst he'
  have H0 : Hid (RC w (w2.alloc (.cells #[.int .i64 10, .slice none 0 0, .int .i64 0, .int .i64 0, .int .i64 0, .slice none 0 0, .slice none 0 0, .bool false, .int .i64 0, .slice none 0 0, .slice none 0 0, .slice none 0 0] 160)) b w2.heap.size w.heap.size (.slice G all.length cap) F all r [.int .i64 10, .slice none 0 0, .int .i64 0, .int .i64 0, .int .i64 0, .slice none 0 0, .slice none 0 0, .bool false, .int .i64 0, .slice none 0 0, .slice none 0 0, .slice none 0 0]) := by
   have hb2 := ba (Below.refl w2.heap.size w2) (.cells #[.int .i64 10, .slice none 0 0, .int .i64 0, .int .i64 0, .int .i64 0, .slice none 0 0, .slice none 0 0, .bool false, .int .i64 0, .slice none 0 0, .slice none 0 0, .slice none 0 0] 160)
   have g3 := Go.Lib.grownBy_trans (gBelow (bt HAL.out (belowDrewN _ nq)) b) g2
   have hr9 : Has w2 w.heap.size res12 := (HRS.out.down (belowDrewN _ nq)).kept g2 (fun e => by have := Option.some.inj e; omega)
   exact ⟨hr2.below hb2, Has.alloc w2 _ _, hr9.down hb2, Go.Lib.grownBy_below g3 hb2, hbl, hr9.2.2, Nat.le_refl _⟩
  clear he hr2 g2 HWT HAL HRS c0 c1
  go_upto_region 4 with fail
  refine wp_at (R := fun W => RC w W b w2.heap.size w.heap.size (.slice G all.length cap) F all r [.int .i64 10, .slice none 0 0, .int .i64 0, .int .i64 0, .int .i64 0, .slice none 0 0, .slice none 0 0, .bool false, .int .i64 0, .slice none 0 0, .slice none 0 0, .slice none 0 0]) H0.out (fun W hW => ?_)
  clear H0
  generalize w2.heap.size = T at hW ⊢
  obtain ⟨N, hN⟩ : ∃ N, N = w.heap.size := ⟨_, rfl⟩
  rw [← hN] at hW ⊢
  have HN := Lib.hid hN
  clear hN
  obtain ⟨e0, e1, e2, e3, e4, e5, e6, e7, e8, e9, e10, e11⟩ := has_12 hW.t
  have HW := Lib.hid hW
  clear hW
  have HZ : Hid (Rz = bnd (mustP 59 r) fun _ r => .ok (⟨10, [], T0, [], []⟩, r)) := HRZ.out
  clear HRZ
  have HMU := Lib.hid (must_any b (.slice G all.length cap) F all r 59 W hn HW.out.rd)
  cases hx : mustP 59 r with
  | error p =>
   obtain ⟨kk, c⟩ := p
   rw [hx] at HMU HZ
   clear hx
   go_wp2_with fail
   refine HMU.out.mono ?_
   intro e w9 hp
   obtain ⟨ch, rfl, HCH, g9⟩ := hp.err
   have G9 := Lib.hid (Go.Lib.grownBy_trans HW.out.gr g9)
   clear g9 hp
   go_wp2_with fail
   refine ⟨rfl, ?_⟩
   rw [HZ.out]
   exact ⟨by rw [HCH.out], G9.out⟩
  | ok p =>
   obtain ⟨u9, r9⟩ := p
   rw [hx] at HMU HZ
   have HZ9 : Hid (Rz = .ok (⟨10, [], T0, [], []⟩, r9)) := HZ.out
   clear hx
   go_wp2_with fail
   refine HMU.out.mono ?_
   intro e w9 hp
   obtain ⟨rfl, hr9, g9⟩ := hp
   have HW9 := Lib.hid (HW.out.next hr9 g9)
   have HREP : Hid ((cCmd (n + 1 + 7)).rep w9 (fun x => w.heap.size ≤ x ∧ x ≠ N) ⟨10, [], T0, [], []⟩ [.int .i64 10, .slice none 0 0, .int .i64 0, .int .i64 0, .int .i64 0, .slice none 0 0, .slice none 0 0, .bool false, .int .i64 0, .slice none 0 0, .slice none 0 0, .slice none 0 0]) := plain_rep (K := n + 7) (SAt.nil _ _ _) HW.out.N0
   clear hr9 g9 HMU
   go_upto_region 16 with fail
   obtain ⟨e0, e1, e2, e3, e4, e5, e6, e7, e8, e9, e10, e11⟩ := has_12 HW9.out.t
   obtain ⟨r0, r1, r2, r3, r4, r5, r6, r7, r8, r9, r10, r11⟩ := has_12 HW9.out.res
   have f0 := HW9.out.res.2.1 0 (by simp [res12]); have f1 := HW9.out.res.2.1 1 (by simp [res12]); have f2 := HW9.out.res.2.1 2 (by simp [res12]); have f3 := HW9.out.res.2.1 3 (by simp [res12]); have f4 := HW9.out.res.2.1 4 (by simp [res12]); have f5 := HW9.out.res.2.1 5 (by simp [res12]); have f6 := HW9.out.res.2.1 6 (by simp [res12]); have f7 := HW9.out.res.2.1 7 (by simp [res12]); have f8 := HW9.out.res.2.1 8 (by simp [res12]); have f9 := HW9.out.res.2.1 9 (by simp [res12]); have f10 := HW9.out.res.2.1 10 (by simp [res12]); have f11 := HW9.out.res.2.1 11 (by simp [res12])
   have hfin := agg_put12 HW9.out HREP.out
   obtain ⟨x0, x1, x2, x3, x4, x5, x6, x7, x8, x9, x10, x11⟩ := has_12 hfin.1
   have HANS := Lib.hid hfin.2
   unfold put12 at x0 x1 x2 x3 x4 x5 x6 x7 x8 x9 x10 x11 HANS
   clear hfin
   go_wp2_with fail
   refine bodyPost_ret (v := .agg #[.int .i64 10, .slice none 0 0, .int .i64 0, .int .i64 0, .int .i64 0, .slice none 0 0, .slice none 0 0, .bool false, .int .i64 0, .slice none 0 0, .slice none 0 0, .slice none 0 0]) ?_ rfl ?_
   ·simp [results, Tryz.results75, go_sem, x0, x1, x2, x3, x4, x5, x6, x7, x8, x9, x10, x11]
   ·rw [HZ9.out]; exact HANS.out
theorem command_list (n : Nat) (dI : Int) (d b k : Nat) (v : Value) (F : Dom) (all l r : List Tok) (w : World) (hdI : dI = d) (hn : all.length ≤ 100000) (h : RL w b v F all l) (hTab : Tabs w b) 
    (hg : ¬ (6 < d ∧ l ≠ [])) (hw : wordP cmdTab l = .ok (k, r)) (hk : k = 1 ∨ k = 8 ∨ k = 9) :
    Calls Tryz.prog 75 #[.pointer (some ⟨b, 0, none⟩), .int .i64 dI] w (Ans (CmdR (n + 1 + 7) w.heap.size) b v F all w (commandP (n + 1) d l)) := by
 obtain ⟨Rz, hRz⟩ : ∃ Rz, Rz = commandP (n + 1) d l := ⟨_, rfl⟩
 rw [← hRz]
 rw [commandP, if_neg hg, hw] at hRz
 have HRZ : Hid (Rz = cmdK (branchP n d) k r) := hRz
 have hl0 : l ≠ [] := by rintro rfl; cases hw
 have hd6 : d ≤ 6 := by
  by_cases e : 6 < d
  ·exact absurd ⟨e, hl0⟩ hg
  ·omega
 have hal := ba (Below.refl w.heap.size w) (.cells #[.int .i64 0, .slice none 0 0, .int .i64 0, .int .i64 0, .int .i64 0, .slice none 0 0, .slice none 0 0, .bool false, .int .i64 0, .slice none 0 0, .slice none 0 0, .slice none 0 0] 160)
 have HAL := Lib.hid hal
 have hbl := h.lt
 have hres := Has.alloc w [.int .i64 0, .slice none 0 0, .int .i64 0, .int .i64 0, .int .i64 0, .slice none 0 0, .slice none 0 0, .bool false, .int .i64 0, .slice none 0 0, .slice none 0 0, .slice none 0 0] 160
 have HRS := Lib.hid hres
 have h1 := h.below hal
 have hTab1 := hTab.down (Nat.le_of_lt hbl) hal
 obtain ⟨p, hl1, hr1⟩ := h1
 obtain ⟨G, cap, rfl, hlen, -⟩ := hr1.facts hl1
 have c0 := hr1.c0
 have c1 := hr1.c1
 have hpos : (0 : Int) ≤ p := by omega
 have hwt := fun W (hb : Below (w.alloc (.cells #[.int .i64 0, .slice none 0 0, .int .i64 0, .int .i64 0, .int .i64 0, .slice none 0 0, .slice none 0 0, .bool false, .int .i64 0, .slice none 0 0, .slice none 0 0, .slice none 0 0] 160)).heap.size (w.alloc (.cells #[.int .i64 0, .slice none 0 0, .int .i64 0, .int .i64 0, .int .i64 0, .slice none 0 0, .slice none 0 0, .bool false, .int .i64 0, .slice none 0 0, .slice none 0 0, .slice none 0 0] 160)) W) => word_tok b 1 cmdTab 11 (.slice G all.length cap) F all l W hn ⟨p, hl1, hr1.below hb⟩ ((hTab1.down (Nat.le_of_lt hr1.lt) hb).c) hTab.low.2.1 rfl (by decide)
 have hls := less_word cmdTab l
 rw [hw] at hwt hls
 have hrl : r.length + 1 ≤ l.length := hls
 have HWT := Lib.hid hwt
 have HTAB := Lib.hid hTab
 have q1 : decide (6 < dI) = false := decide_eq_false (by omega)
 have HDI := Lib.hid hdI
 clear hRz hal h hl1 hr1 hlen hg hw hwt hls hres hTab hTab1 hl0 hdI
 rcases hk with rfl | rfl | rfl
 ·go_enter Tryz.func75, Tryz.ntmps75
  go_wp2_with fail
  go_quiet (fail)
  go_wp2_with fail
  refine (HWT.out _ (belowDrewN _ nq)).mono ?_
  intro e w2 hp
  obtain ⟨he, hr2, g2⟩ := hp
  have he' : e = .returned (.int .i64 1) := he
  subst he'
  have H0 : Hid (RC w (w2.alloc (.cells #[.int .i64 1, .slice none 0 0, .int .i64 0, .int .i64 0, .int .i64 0, .slice none 0 0, .slice none 0 0, .bool false, .int .i64 0, .slice none 0 0, .slice none 0 0, .slice none 0 0] 160)) b w2.heap.size w.heap.size (.slice G all.length cap) F all r [.int .i64 1, .slice none 0 0, .int .i64 0, .int .i64 0, .int .i64 0, .slice none 0 0, .slice none 0 0, .bool false, .int .i64 0, .slice none 0 0, .slice none 0 0, .slice none 0 0]) := by
   have hb2 := ba (Below.refl w2.heap.size w2) (.cells #[.int .i64 1, .slice none 0 0, .int .i64 0, .int .i64 0, .int .i64 0, .slice none 0 0, .slice none 0 0, .bool false, .int .i64 0, .slice none 0 0, .slice none 0 0, .slice none 0 0] 160)
   have g3 := Go.Lib.grownBy_trans (gBelow (bt HAL.out (belowDrewN _ nq)) b) g2
   have hr9 : Has w2 w.heap.size res12 := (HRS.out.down (belowDrewN _ nq)).kept g2 (fun e => by have := Option.some.inj e; omega)
   exact ⟨hr2.below hb2, Has.alloc w2 _ _, hr9.down hb2, Go.Lib.grownBy_below g3 hb2, hbl, hr9.2.2, Nat.le_refl _⟩
  clear he hr2 g2 HWT HAL HRS c0 c1
  go_upto_region 4 with fail
  refine wp_at (R := fun W => RC w W b w2.heap.size w.heap.size (.slice G all.length cap) F all r [.int .i64 1, .slice none 0 0, .int .i64 0, .int .i64 0, .int .i64 0, .slice none 0 0, .slice none 0 0, .bool false, .int .i64 0, .slice none 0 0, .slice none 0 0, .slice none 0 0]) H0.out (fun W hW => ?_)
  clear H0
  generalize w2.heap.size = T at hW ⊢
  obtain ⟨N, hN⟩ : ∃ N, N = w.heap.size := ⟨_, rfl⟩
  rw [← hN] at hW ⊢
  have HN := Lib.hid hN
  clear hN
  obtain ⟨e0, e1, e2, e3, e4, e5, e6, e7, e8, e9, e10, e11⟩ := has_12 hW.t
  have HW := Lib.hid hW
  clear hW
  have HL := Lib.hid (list_tok b (.slice G all.length cap) F all r W hn HW.out.rd)
  have HZ : Hid (Rz = bnd (listP r) fun ts r => bnd (mustP 59 r) fun _ r => .ok (⟨1, ts, T0, [], []⟩, r)) := HRZ.out
  clear HRZ
  cases hx : listP r with
  | error p =>
   obtain ⟨kk, c⟩ := p
   rw [hx] at HL HZ
   clear hx
   go_wp2_with fail
   refine HL.out.mono ?_
   intro e w9 hp
   obtain ⟨ch, rfl, HCH, g9⟩ := hp.err
   have G9 := Lib.hid (Go.Lib.grownBy_trans HW.out.gr g9)
   clear g9 hp
   go_wp2_with fail
   refine ⟨rfl, ?_⟩
   rw [HZ.out]
   exact ⟨by rw [HCH.out], G9.out⟩
  | ok p =>
   obtain ⟨ns, r5⟩ := p
   rw [hx] at HL HZ
   have HZ2 : Hid (Rz = bnd (mustP 59 r5) fun _ r => .ok (⟨1, ns, T0, [], []⟩, r)) := HZ.out
   clear hx HZ
   go_wp2_with fail
   refine HL.out.mono ?_
   intro e w4 hp
   obtain ⟨⟨v4, rfl, hs4⟩, hr4, g4⟩ := hp
   obtain ⟨Gn, cn, rfl, -⟩ := hs4.form
   have hw4 := HW.out.next hr4 g4
   have e1' := hw4.t.1 1 _ rfl
   have f1' := hw4.t.2.1 1 (by simp)
   have hTW := HW.out.TW
   have HW5 := Lib.hid (hw4.set (i := 1) (.slice Gn ns.length cn) (by simp))
   have HS5 := Lib.hid (sat_set (i := 1) hs4 hTW (.slice Gn ns.length cn))
   clear hs4 hr4 g4 hw4 HL e0 e1 e2 e3 e4 e5 e6 e7 e8 e9 e10 e11
   have HMU := Lib.hid (must_any b (.slice G all.length cap) F all r5 59 _ hn HW5.out.rd)
   cases hx : mustP 59 r5 with
   | error p =>
    obtain ⟨kk, c⟩ := p
    rw [hx] at HMU HZ2
    clear hx
    go_wp2_with fail
    refine HMU.out.mono ?_
    intro e w9 hp
    obtain ⟨ch, rfl, HCH, g9⟩ := hp.err
    have G9 := Lib.hid (Go.Lib.grownBy_trans HW5.out.gr g9)
    clear g9 hp
    go_wp2_with fail
    refine ⟨rfl, ?_⟩
    rw [HZ2.out]
    exact ⟨by rw [HCH.out], G9.out⟩
   | ok p =>
    obtain ⟨u9, r9⟩ := p
    rw [hx] at HMU HZ2
    have HZ9 : Hid (Rz = .ok (⟨1, ns, T0, [], []⟩, r9)) := HZ2.out
    clear hx
    go_wp2_with fail
    refine HMU.out.mono ?_
    intro e w9 hp
    obtain ⟨rfl, hr9, g9⟩ := hp
    have HW9 := Lib.hid (HW5.out.next hr9 g9)
    have HREP : Hid ((cCmd (n + 1 + 7)).rep w9 (fun x => w.heap.size ≤ x ∧ x ≠ N) ⟨1, ns, T0, [], []⟩ [.int .i64 1, .slice Gn ns.length cn, .int .i64 0, .int .i64 0, .int .i64 0, .slice none 0 0, .slice none 0 0, .bool false, .int .i64 0, .slice none 0 0, .slice none 0 0, .slice none 0 0]) := plain_rep (K := n + 7) ((sat_read HS5.out g9 (by have := HW.out.bN; have := HW.out.NT; omega)).mono (fun x hx => by have : W.heap.size ≤ x := hx; have := HW.out.NT; omega)) HW5.out.N0
    clear hr9 g9 HMU
    go_upto_region 16 with fail
    obtain ⟨e0, e1, e2, e3, e4, e5, e6, e7, e8, e9, e10, e11⟩ := has_12 HW9.out.t
    obtain ⟨r0, r1, r2, r3, r4, r5, r6, r7, r8, r9, r10, r11⟩ := has_12 HW9.out.res
    have f0 := HW9.out.res.2.1 0 (by simp [res12]); have f1 := HW9.out.res.2.1 1 (by simp [res12]); have f2 := HW9.out.res.2.1 2 (by simp [res12]); have f3 := HW9.out.res.2.1 3 (by simp [res12]); have f4 := HW9.out.res.2.1 4 (by simp [res12]); have f5 := HW9.out.res.2.1 5 (by simp [res12]); have f6 := HW9.out.res.2.1 6 (by simp [res12]); have f7 := HW9.out.res.2.1 7 (by simp [res12]); have f8 := HW9.out.res.2.1 8 (by simp [res12]); have f9 := HW9.out.res.2.1 9 (by simp [res12]); have f10 := HW9.out.res.2.1 10 (by simp [res12]); have f11 := HW9.out.res.2.1 11 (by simp [res12])
    have hfin := agg_put12 HW9.out HREP.out
    obtain ⟨x0, x1, x2, x3, x4, x5, x6, x7, x8, x9, x10, x11⟩ := has_12 hfin.1
    have HANS := Lib.hid hfin.2
    unfold put12 at x0 x1 x2 x3 x4 x5 x6 x7 x8 x9 x10 x11 HANS
    clear hfin
    go_wp2_with fail
    refine bodyPost_ret (v := .agg #[.int .i64 1, .slice Gn ns.length cn, .int .i64 0, .int .i64 0, .int .i64 0, .slice none 0 0, .slice none 0 0, .bool false, .int .i64 0, .slice none 0 0, .slice none 0 0, .slice none 0 0]) ?_ rfl ?_
    ·simp [results, Tryz.results75, go_sem, x0, x1, x2, x3, x4, x5, x6, x7, x8, x9, x10, x11]
    ·rw [HZ9.out]; exact HANS.out
 ·go_enter Tryz.func75, Tryz.ntmps75
  go_wp2_with fail
  go_quiet (fail)
  go_wp2_with fail
  refine (HWT.out _ (belowDrewN _ nq)).mono ?_
  intro e w2 hp
  obtain ⟨he, hr2, g2⟩ := hp
  have he' : e = .returned (.int .i64 8) := he
  subst he'
  have H0 : Hid (RC w (w2.alloc (.cells #[.int .i64 8, .slice none 0 0, .int .i64 0, .int .i64 0, .int .i64 0, .slice none 0 0, .slice none 0 0, .bool false, .int .i64 0, .slice none 0 0, .slice none 0 0, .slice none 0 0] 160)) b w2.heap.size w.heap.size (.slice G all.length cap) F all r [.int .i64 8, .slice none 0 0, .int .i64 0, .int .i64 0, .int .i64 0, .slice none 0 0, .slice none 0 0, .bool false, .int .i64 0, .slice none 0 0, .slice none 0 0, .slice none 0 0]) := by
   have hb2 := ba (Below.refl w2.heap.size w2) (.cells #[.int .i64 8, .slice none 0 0, .int .i64 0, .int .i64 0, .int .i64 0, .slice none 0 0, .slice none 0 0, .bool false, .int .i64 0, .slice none 0 0, .slice none 0 0, .slice none 0 0] 160)
   have g3 := Go.Lib.grownBy_trans (gBelow (bt HAL.out (belowDrewN _ nq)) b) g2
   have hr9 : Has w2 w.heap.size res12 := (HRS.out.down (belowDrewN _ nq)).kept g2 (fun e => by have := Option.some.inj e; omega)
   exact ⟨hr2.below hb2, Has.alloc w2 _ _, hr9.down hb2, Go.Lib.grownBy_below g3 hb2, hbl, hr9.2.2, Nat.le_refl _⟩
  clear he hr2 g2 HWT HAL HRS c0 c1
  go_upto_region 4 with fail
  refine wp_at (R := fun W => RC w W b w2.heap.size w.heap.size (.slice G all.length cap) F all r [.int .i64 8, .slice none 0 0, .int .i64 0, .int .i64 0, .int .i64 0, .slice none 0 0, .slice none 0 0, .bool false, .int .i64 0, .slice none 0 0, .slice none 0 0, .slice none 0 0]) H0.out (fun W hW => ?_)
  clear H0
  generalize w2.heap.size = T at hW ⊢
  obtain ⟨N, hN⟩ : ∃ N, N = w.heap.size := ⟨_, rfl⟩
  rw [← hN] at hW ⊢
  have HN := Lib.hid hN
  clear hN
  obtain ⟨e0, e1, e2, e3, e4, e5, e6, e7, e8, e9, e10, e11⟩ := has_12 hW.t
  have HW := Lib.hid hW
  clear hW
  have HL := Lib.hid (list_tok b (.slice G all.length cap) F all r W hn HW.out.rd)
  have HZ : Hid (Rz = bnd (listP r) fun ts r => bnd (mustP 59 r) fun _ r => .ok (⟨8, ts, T0, [], []⟩, r)) := HRZ.out
  clear HRZ
  cases hx : listP r with
  | error p =>
   obtain ⟨kk, c⟩ := p
   rw [hx] at HL HZ
   clear hx
   go_wp2_with fail
   refine HL.out.mono ?_
   intro e w9 hp
   obtain ⟨ch, rfl, HCH, g9⟩ := hp.err
   have G9 := Lib.hid (Go.Lib.grownBy_trans HW.out.gr g9)
   clear g9 hp
   go_wp2_with fail
   refine ⟨rfl, ?_⟩
   rw [HZ.out]
   exact ⟨by rw [HCH.out], G9.out⟩
  | ok p =>
   obtain ⟨ns, r5⟩ := p
   rw [hx] at HL HZ
   have HZ2 : Hid (Rz = bnd (mustP 59 r5) fun _ r => .ok (⟨8, ns, T0, [], []⟩, r)) := HZ.out
   clear hx HZ
   go_wp2_with fail
   refine HL.out.mono ?_
   intro e w4 hp
   obtain ⟨⟨v4, rfl, hs4⟩, hr4, g4⟩ := hp
   obtain ⟨Gn, cn, rfl, -⟩ := hs4.form
   have hw4 := HW.out.next hr4 g4
   have e1' := hw4.t.1 1 _ rfl
   have f1' := hw4.t.2.1 1 (by simp)
   have hTW := HW.out.TW
   have HW5 := Lib.hid (hw4.set (i := 1) (.slice Gn ns.length cn) (by simp))
   have HS5 := Lib.hid (sat_set (i := 1) hs4 hTW (.slice Gn ns.length cn))
   clear hs4 hr4 g4 hw4 HL e0 e1 e2 e3 e4 e5 e6 e7 e8 e9 e10 e11
   have HMU := Lib.hid (must_any b (.slice G all.length cap) F all r5 59 _ hn HW5.out.rd)
   cases hx : mustP 59 r5 with
   | error p =>
    obtain ⟨kk, c⟩ := p
    rw [hx] at HMU HZ2
    clear hx
    go_wp2_with fail
    refine HMU.out.mono ?_
    intro e w9 hp
    obtain ⟨ch, rfl, HCH, g9⟩ := hp.err
    have G9 := Lib.hid (Go.Lib.grownBy_trans HW5.out.gr g9)
    clear g9 hp
    go_wp2_with fail
    refine ⟨rfl, ?_⟩
    rw [HZ2.out]
    exact ⟨by rw [HCH.out], G9.out⟩
   | ok p =>
    obtain ⟨u9, r9⟩ := p
    rw [hx] at HMU HZ2
    have HZ9 : Hid (Rz = .ok (⟨8, ns, T0, [], []⟩, r9)) := HZ2.out
    clear hx
    go_wp2_with fail
    refine HMU.out.mono ?_
    intro e w9 hp
    obtain ⟨rfl, hr9, g9⟩ := hp
    have HW9 := Lib.hid (HW5.out.next hr9 g9)
    have HREP : Hid ((cCmd (n + 1 + 7)).rep w9 (fun x => w.heap.size ≤ x ∧ x ≠ N) ⟨8, ns, T0, [], []⟩ [.int .i64 8, .slice Gn ns.length cn, .int .i64 0, .int .i64 0, .int .i64 0, .slice none 0 0, .slice none 0 0, .bool false, .int .i64 0, .slice none 0 0, .slice none 0 0, .slice none 0 0]) := plain_rep (K := n + 7) ((sat_read HS5.out g9 (by have := HW.out.bN; have := HW.out.NT; omega)).mono (fun x hx => by have : W.heap.size ≤ x := hx; have := HW.out.NT; omega)) HW5.out.N0
    clear hr9 g9 HMU
    go_upto_region 16 with fail
    obtain ⟨e0, e1, e2, e3, e4, e5, e6, e7, e8, e9, e10, e11⟩ := has_12 HW9.out.t
    obtain ⟨r0, r1, r2, r3, r4, r5, r6, r7, r8, r9, r10, r11⟩ := has_12 HW9.out.res
    have f0 := HW9.out.res.2.1 0 (by simp [res12]); have f1 := HW9.out.res.2.1 1 (by simp [res12]); have f2 := HW9.out.res.2.1 2 (by simp [res12]); have f3 := HW9.out.res.2.1 3 (by simp [res12]); have f4 := HW9.out.res.2.1 4 (by simp [res12]); have f5 := HW9.out.res.2.1 5 (by simp [res12]); have f6 := HW9.out.res.2.1 6 (by simp [res12]); have f7 := HW9.out.res.2.1 7 (by simp [res12]); have f8 := HW9.out.res.2.1 8 (by simp [res12]); have f9 := HW9.out.res.2.1 9 (by simp [res12]); have f10 := HW9.out.res.2.1 10 (by simp [res12]); have f11 := HW9.out.res.2.1 11 (by simp [res12])
    have hfin := agg_put12 HW9.out HREP.out
    obtain ⟨x0, x1, x2, x3, x4, x5, x6, x7, x8, x9, x10, x11⟩ := has_12 hfin.1
    have HANS := Lib.hid hfin.2
    unfold put12 at x0 x1 x2 x3 x4 x5 x6 x7 x8 x9 x10 x11 HANS
    clear hfin
    go_wp2_with fail
    refine bodyPost_ret (v := .agg #[.int .i64 8, .slice Gn ns.length cn, .int .i64 0, .int .i64 0, .int .i64 0, .slice none 0 0, .slice none 0 0, .bool false, .int .i64 0, .slice none 0 0, .slice none 0 0, .slice none 0 0]) ?_ rfl ?_
    ·simp [results, Tryz.results75, go_sem, x0, x1, x2, x3, x4, x5, x6, x7, x8, x9, x10, x11]
    ·rw [HZ9.out]; exact HANS.out
 ·go_enter Tryz.func75, Tryz.ntmps75
  go_wp2_with fail
  go_quiet (fail)
  go_wp2_with fail
  refine (HWT.out _ (belowDrewN _ nq)).mono ?_
  intro e w2 hp
  obtain ⟨he, hr2, g2⟩ := hp
  have he' : e = .returned (.int .i64 9) := he
  subst he'
  have H0 : Hid (RC w (w2.alloc (.cells #[.int .i64 9, .slice none 0 0, .int .i64 0, .int .i64 0, .int .i64 0, .slice none 0 0, .slice none 0 0, .bool false, .int .i64 0, .slice none 0 0, .slice none 0 0, .slice none 0 0] 160)) b w2.heap.size w.heap.size (.slice G all.length cap) F all r [.int .i64 9, .slice none 0 0, .int .i64 0, .int .i64 0, .int .i64 0, .slice none 0 0, .slice none 0 0, .bool false, .int .i64 0, .slice none 0 0, .slice none 0 0, .slice none 0 0]) := by
   have hb2 := ba (Below.refl w2.heap.size w2) (.cells #[.int .i64 9, .slice none 0 0, .int .i64 0, .int .i64 0, .int .i64 0, .slice none 0 0, .slice none 0 0, .bool false, .int .i64 0, .slice none 0 0, .slice none 0 0, .slice none 0 0] 160)
   have g3 := Go.Lib.grownBy_trans (gBelow (bt HAL.out (belowDrewN _ nq)) b) g2
   have hr9 : Has w2 w.heap.size res12 := (HRS.out.down (belowDrewN _ nq)).kept g2 (fun e => by have := Option.some.inj e; omega)
   exact ⟨hr2.below hb2, Has.alloc w2 _ _, hr9.down hb2, Go.Lib.grownBy_below g3 hb2, hbl, hr9.2.2, Nat.le_refl _⟩
  clear he hr2 g2 HWT HAL HRS c0 c1
  go_upto_region 4 with fail
  refine wp_at (R := fun W => RC w W b w2.heap.size w.heap.size (.slice G all.length cap) F all r [.int .i64 9, .slice none 0 0, .int .i64 0, .int .i64 0, .int .i64 0, .slice none 0 0, .slice none 0 0, .bool false, .int .i64 0, .slice none 0 0, .slice none 0 0, .slice none 0 0]) H0.out (fun W hW => ?_)
  clear H0
  generalize w2.heap.size = T at hW ⊢
  obtain ⟨N, hN⟩ : ∃ N, N = w.heap.size := ⟨_, rfl⟩
  rw [← hN] at hW ⊢
  have HN := Lib.hid hN
  clear hN
  obtain ⟨e0, e1, e2, e3, e4, e5, e6, e7, e8, e9, e10, e11⟩ := has_12 hW.t
  have HW := Lib.hid hW
  clear hW
  have HL := Lib.hid (list_tok b (.slice G all.length cap) F all r W hn HW.out.rd)
  have HZ : Hid (Rz = bnd (listP r) fun ts r => bnd (mustP 59 r) fun _ r => .ok (⟨9, ts, T0, [], []⟩, r)) := HRZ.out
  clear HRZ
  cases hx : listP r with
  | error p =>
   obtain ⟨kk, c⟩ := p
   rw [hx] at HL HZ
   clear hx
   go_wp2_with fail
   refine HL.out.mono ?_
   intro e w9 hp
   obtain ⟨ch, rfl, HCH, g9⟩ := hp.err
   have G9 := Lib.hid (Go.Lib.grownBy_trans HW.out.gr g9)
   clear g9 hp
   go_wp2_with fail
   refine ⟨rfl, ?_⟩
   rw [HZ.out]
   exact ⟨by rw [HCH.out], G9.out⟩
  | ok p =>
   obtain ⟨ns, r5⟩ := p
   rw [hx] at HL HZ
   have HZ2 : Hid (Rz = bnd (mustP 59 r5) fun _ r => .ok (⟨9, ns, T0, [], []⟩, r)) := HZ.out
   clear hx HZ
   go_wp2_with fail
   refine HL.out.mono ?_
   intro e w4 hp
   obtain ⟨⟨v4, rfl, hs4⟩, hr4, g4⟩ := hp
   obtain ⟨Gn, cn, rfl, -⟩ := hs4.form
   have hw4 := HW.out.next hr4 g4
   have e1' := hw4.t.1 1 _ rfl
   have f1' := hw4.t.2.1 1 (by simp)
   have hTW := HW.out.TW
   have HW5 := Lib.hid (hw4.set (i := 1) (.slice Gn ns.length cn) (by simp))
   have HS5 := Lib.hid (sat_set (i := 1) hs4 hTW (.slice Gn ns.length cn))
   clear hs4 hr4 g4 hw4 HL e0 e1 e2 e3 e4 e5 e6 e7 e8 e9 e10 e11
   have HMU := Lib.hid (must_any b (.slice G all.length cap) F all r5 59 _ hn HW5.out.rd)
   cases hx : mustP 59 r5 with
   | error p =>
    obtain ⟨kk, c⟩ := p
    rw [hx] at HMU HZ2
    clear hx
    go_wp2_with fail
    refine HMU.out.mono ?_
    intro e w9 hp
    obtain ⟨ch, rfl, HCH, g9⟩ := hp.err
    have G9 := Lib.hid (Go.Lib.grownBy_trans HW5.out.gr g9)
    clear g9 hp
    go_wp2_with fail
    refine ⟨rfl, ?_⟩
    rw [HZ2.out]
    exact ⟨by rw [HCH.out], G9.out⟩
   | ok p =>
    obtain ⟨u9, r9⟩ := p
    rw [hx] at HMU HZ2
    have HZ9 : Hid (Rz = .ok (⟨9, ns, T0, [], []⟩, r9)) := HZ2.out
    clear hx
    go_wp2_with fail
    refine HMU.out.mono ?_
    intro e w9 hp
    obtain ⟨rfl, hr9, g9⟩ := hp
    have HW9 := Lib.hid (HW5.out.next hr9 g9)
    have HREP : Hid ((cCmd (n + 1 + 7)).rep w9 (fun x => w.heap.size ≤ x ∧ x ≠ N) ⟨9, ns, T0, [], []⟩ [.int .i64 9, .slice Gn ns.length cn, .int .i64 0, .int .i64 0, .int .i64 0, .slice none 0 0, .slice none 0 0, .bool false, .int .i64 0, .slice none 0 0, .slice none 0 0, .slice none 0 0]) := plain_rep (K := n + 7) ((sat_read HS5.out g9 (by have := HW.out.bN; have := HW.out.NT; omega)).mono (fun x hx => by have : W.heap.size ≤ x := hx; have := HW.out.NT; omega)) HW5.out.N0
    clear hr9 g9 HMU
    go_upto_region 16 with fail
    obtain ⟨e0, e1, e2, e3, e4, e5, e6, e7, e8, e9, e10, e11⟩ := has_12 HW9.out.t
    obtain ⟨r0, r1, r2, r3, r4, r5, r6, r7, r8, r9, r10, r11⟩ := has_12 HW9.out.res
    have f0 := HW9.out.res.2.1 0 (by simp [res12]); have f1 := HW9.out.res.2.1 1 (by simp [res12]); have f2 := HW9.out.res.2.1 2 (by simp [res12]); have f3 := HW9.out.res.2.1 3 (by simp [res12]); have f4 := HW9.out.res.2.1 4 (by simp [res12]); have f5 := HW9.out.res.2.1 5 (by simp [res12]); have f6 := HW9.out.res.2.1 6 (by simp [res12]); have f7 := HW9.out.res.2.1 7 (by simp [res12]); have f8 := HW9.out.res.2.1 8 (by simp [res12]); have f9 := HW9.out.res.2.1 9 (by simp [res12]); have f10 := HW9.out.res.2.1 10 (by simp [res12]); have f11 := HW9.out.res.2.1 11 (by simp [res12])
    have hfin := agg_put12 HW9.out HREP.out
    obtain ⟨x0, x1, x2, x3, x4, x5, x6, x7, x8, x9, x10, x11⟩ := has_12 hfin.1
    have HANS := Lib.hid hfin.2
    unfold put12 at x0 x1 x2 x3 x4 x5 x6 x7 x8 x9 x10 x11 HANS
    clear hfin
    go_wp2_with fail
    refine bodyPost_ret (v := .agg #[.int .i64 9, .slice Gn ns.length cn, .int .i64 0, .int .i64 0, .int .i64 0, .slice none 0 0, .slice none 0 0, .bool false, .int .i64 0, .slice none 0 0, .slice none 0 0, .slice none 0 0]) ?_ rfl ?_
    ·simp [results, Tryz.results75, go_sem, x0, x1, x2, x3, x4, x5, x6, x7, x8, x9, x10, x11]
    ·rw [HZ9.out]; exact HANS.out
theorem command_text (n : Nat) (dI : Int) (d b k : Nat) (v : Value) (F : Dom) (all l r : List Tok) (w : World) (hdI : dI = d) (hn : all.length ≤ 100000) (h : RL w b v F all l) (hTab : Tabs w b) 
    (hg : ¬ (6 < d ∧ l ≠ [])) (hw : wordP cmdTab l = .ok (k, r)) (hk : k = 5 ∨ k = 6 ∨ k = 7) :
    Calls Tryz.prog 75 #[.pointer (some ⟨b, 0, none⟩), .int .i64 dI] w (Ans (CmdR (n + 1 + 7) w.heap.size) b v F all w (commandP (n + 1) d l)) := by
 obtain ⟨Rz, hRz⟩ : ∃ Rz, Rz = commandP (n + 1) d l := ⟨_, rfl⟩
 rw [← hRz]
 rw [commandP, if_neg hg, hw] at hRz
 have HRZ : Hid (Rz = cmdK (branchP n d) k r) := hRz
 have hl0 : l ≠ [] := by rintro rfl; cases hw
 have hd6 : d ≤ 6 := by
  by_cases e : 6 < d
  ·exact absurd ⟨e, hl0⟩ hg
  ·omega
 have hal := ba (Below.refl w.heap.size w) (.cells #[.int .i64 0, .slice none 0 0, .int .i64 0, .int .i64 0, .int .i64 0, .slice none 0 0, .slice none 0 0, .bool false, .int .i64 0, .slice none 0 0, .slice none 0 0, .slice none 0 0] 160)
 have HAL := Lib.hid hal
 have hbl := h.lt
 have hres := Has.alloc w [.int .i64 0, .slice none 0 0, .int .i64 0, .int .i64 0, .int .i64 0, .slice none 0 0, .slice none 0 0, .bool false, .int .i64 0, .slice none 0 0, .slice none 0 0, .slice none 0 0] 160
 have HRS := Lib.hid hres
 have h1 := h.below hal
 have hTab1 := hTab.down (Nat.le_of_lt hbl) hal
 obtain ⟨p, hl1, hr1⟩ := h1
 obtain ⟨G, cap, rfl, hlen, -⟩ := hr1.facts hl1
 have c0 := hr1.c0
 have c1 := hr1.c1
 have hpos : (0 : Int) ≤ p := by omega
 have hwt := fun W (hb : Below (w.alloc (.cells #[.int .i64 0, .slice none 0 0, .int .i64 0, .int .i64 0, .int .i64 0, .slice none 0 0, .slice none 0 0, .bool false, .int .i64 0, .slice none 0 0, .slice none 0 0, .slice none 0 0] 160)).heap.size (w.alloc (.cells #[.int .i64 0, .slice none 0 0, .int .i64 0, .int .i64 0, .int .i64 0, .slice none 0 0, .slice none 0 0, .bool false, .int .i64 0, .slice none 0 0, .slice none 0 0, .slice none 0 0] 160)) W) => word_tok b 1 cmdTab 11 (.slice G all.length cap) F all l W hn ⟨p, hl1, hr1.below hb⟩ ((hTab1.down (Nat.le_of_lt hr1.lt) hb).c) hTab.low.2.1 rfl (by decide)
 have hls := less_word cmdTab l
 rw [hw] at hwt hls
 have hrl : r.length + 1 ≤ l.length := hls
 have HWT := Lib.hid hwt
 have HTAB := Lib.hid hTab
 have q1 : decide (6 < dI) = false := decide_eq_false (by omega)
 have HDI := Lib.hid hdI
 clear hRz hal h hl1 hr1 hlen hg hw hwt hls hres hTab hTab1 hl0 hdI
 rcases hk with rfl | rfl | rfl
 ·go_enter Tryz.func75, Tryz.ntmps75
  go_wp2_with fail
  go_quiet (fail)
  go_wp2_with fail
  refine (HWT.out _ (belowDrewN _ nq)).mono ?_
  intro e w2 hp
  obtain ⟨he, hr2, g2⟩ := hp
  have he' : e = .returned (.int .i64 5) := he
  subst he'
  have H0 : Hid (RC w (w2.alloc (.cells #[.int .i64 5, .slice none 0 0, .int .i64 0, .int .i64 0, .int .i64 0, .slice none 0 0, .slice none 0 0, .bool false, .int .i64 0, .slice none 0 0, .slice none 0 0, .slice none 0 0] 160)) b w2.heap.size w.heap.size (.slice G all.length cap) F all r [.int .i64 5, .slice none 0 0, .int .i64 0, .int .i64 0, .int .i64 0, .slice none 0 0, .slice none 0 0, .bool false, .int .i64 0, .slice none 0 0, .slice none 0 0, .slice none 0 0]) := by
   have hb2 := ba (Below.refl w2.heap.size w2) (.cells #[.int .i64 5, .slice none 0 0, .int .i64 0, .int .i64 0, .int .i64 0, .slice none 0 0, .slice none 0 0, .bool false, .int .i64 0, .slice none 0 0, .slice none 0 0, .slice none 0 0] 160)
   have g3 := Go.Lib.grownBy_trans (gBelow (bt HAL.out (belowDrewN _ nq)) b) g2
   have hr9 : Has w2 w.heap.size res12 := (HRS.out.down (belowDrewN _ nq)).kept g2 (fun e => by have := Option.some.inj e; omega)
   exact ⟨hr2.below hb2, Has.alloc w2 _ _, hr9.down hb2, Go.Lib.grownBy_below g3 hb2, hbl, hr9.2.2, Nat.le_refl _⟩
  clear he hr2 g2 HWT HAL HRS c0 c1
  go_upto_region 4 with fail
  refine wp_at (R := fun W => RC w W b w2.heap.size w.heap.size (.slice G all.length cap) F all r [.int .i64 5, .slice none 0 0, .int .i64 0, .int .i64 0, .int .i64 0, .slice none 0 0, .slice none 0 0, .bool false, .int .i64 0, .slice none 0 0, .slice none 0 0, .slice none 0 0]) H0.out (fun W hW => ?_)
  clear H0
  generalize w2.heap.size = T at hW ⊢
  obtain ⟨N, hN⟩ : ∃ N, N = w.heap.size := ⟨_, rfl⟩
  rw [← hN] at hW ⊢
  have HN := Lib.hid hN
  clear hN
  obtain ⟨e0, e1, e2, e3, e4, e5, e6, e7, e8, e9, e10, e11⟩ := has_12 hW.t
  have HW := Lib.hid hW
  clear hW
  have HL := Lib.hid (next_tok b (.slice G all.length cap) F all r 4 W hn HW.out.rd)
  have HZ : Hid (Rz = bnd (nextP 4 r) fun t r => bnd (mustP 59 r) fun _ r => .ok (⟨5, [t.text], T0, [], []⟩, r)) := HRZ.out
  clear HRZ
  cases hx : nextP 4 r with
  | error p =>
   obtain ⟨kk, c⟩ := p
   rw [hx] at HL HZ
   clear hx
   go_wp2_with fail
   refine HL.out.mono ?_
   intro e w9 hp
   obtain ⟨ch, rfl, HCH, g9⟩ := hp.err
   have G9 := Lib.hid (Go.Lib.grownBy_trans HW.out.gr g9)
   clear g9 hp
   go_wp2_with fail
   refine ⟨rfl, ?_⟩
   rw [HZ.out]
   exact ⟨by rw [HCH.out], G9.out⟩
  | ok p =>
   obtain ⟨⟨kt, st, nt⟩, r5⟩ := p
   rw [hx] at HL HZ
   have HZ2 : Hid (Rz = bnd (mustP 59 r5) fun _ r => .ok (⟨5, [st], T0, [], []⟩, r)) := HZ.out
   have hfld := fun w => tok_text kt nt ⟨st.toArray⟩ w
   clear hx HZ
   go_wp2_with fail
   refine HL.out.mono ?_
   intro e w4 hp
   obtain ⟨rfl, hr4, g4⟩ := hp
   have hal := ba (Below.refl w4.heap.size w4) (.cells #[.string ⟨st.toArray⟩] 9)
   have hw4 := (HW.out.next hr4 g4).down hal
   have e1' := hw4.t.1 1 _ rfl
   have f1' := hw4.t.2.1 1 (by simp)
   have hTW := HW.out.TW
   have hT4 : W.heap.size ≤ w4.heap.size := g4.size
   have HW5 := Lib.hid (hw4.set (i := 1) (.slice (some ⟨w4.heap.size, 0, none⟩) 1 1) (by simp))
   have HS5 := Lib.hid (sat_set (i := 1) (sat_str (F := fun x => W.heap.size ≤ x) (Has.alloc w4 [.string ⟨st.toArray⟩] 9) hT4) hTW (.slice (some ⟨w4.heap.size, 0, none⟩) 1 1))
   clear hr4 g4 hal hw4 HL hT4 e0 e1 e2 e3 e4 e5 e6 e7 e8 e9 e10 e11
   go_upto_region 15 with fail
   generalize w4.heap.size = X at HW5 HS5 ⊢
   have HMU := Lib.hid (must_any b (.slice G all.length cap) F all r5 59 _ hn HW5.out.rd)
   cases hx : mustP 59 r5 with
   | error p =>
    obtain ⟨kk, c⟩ := p
    rw [hx] at HMU HZ2
    clear hx
    go_wp2_with fail
    refine HMU.out.mono ?_
    intro e w9 hp
    obtain ⟨ch, rfl, HCH, g9⟩ := hp.err
    have G9 := Lib.hid (Go.Lib.grownBy_trans HW5.out.gr g9)
    clear g9 hp
    go_wp2_with fail
    refine ⟨rfl, ?_⟩
    rw [HZ2.out]
    exact ⟨by rw [HCH.out], G9.out⟩
   | ok p =>
    obtain ⟨u9, r9⟩ := p
    rw [hx] at HMU HZ2
    have HZ9 : Hid (Rz = .ok (⟨5, [st], T0, [], []⟩, r9)) := HZ2.out
    clear hx
    go_wp2_with fail
    refine HMU.out.mono ?_
    intro e w9 hp
    obtain ⟨rfl, hr9, g9⟩ := hp
    have HW9 := Lib.hid (HW5.out.next hr9 g9)
    have HREP : Hid ((cCmd (n + 1 + 7)).rep w9 (fun x => w.heap.size ≤ x ∧ x ≠ N) ⟨5, [st], T0, [], []⟩ [.int .i64 5, .slice (some ⟨X, 0, none⟩) 1 1, .int .i64 0, .int .i64 0, .int .i64 0, .slice none 0 0, .slice none 0 0, .bool false, .int .i64 0, .slice none 0 0, .slice none 0 0, .slice none 0 0]) := plain_rep (K := n + 7) ((sat_read HS5.out g9 (by have := HW.out.bN; have := HW.out.NT; omega)).mono (fun x hx => by have : W.heap.size ≤ x := hx; have := HW.out.NT; omega)) HW5.out.N0
    clear hr9 g9 HMU
    go_upto_region 16 with fail
    obtain ⟨e0, e1, e2, e3, e4, e5, e6, e7, e8, e9, e10, e11⟩ := has_12 HW9.out.t
    obtain ⟨r0, r1, r2, r3, r4, r5, r6, r7, r8, r9, r10, r11⟩ := has_12 HW9.out.res
    have f0 := HW9.out.res.2.1 0 (by simp [res12]); have f1 := HW9.out.res.2.1 1 (by simp [res12]); have f2 := HW9.out.res.2.1 2 (by simp [res12]); have f3 := HW9.out.res.2.1 3 (by simp [res12]); have f4 := HW9.out.res.2.1 4 (by simp [res12]); have f5 := HW9.out.res.2.1 5 (by simp [res12]); have f6 := HW9.out.res.2.1 6 (by simp [res12]); have f7 := HW9.out.res.2.1 7 (by simp [res12]); have f8 := HW9.out.res.2.1 8 (by simp [res12]); have f9 := HW9.out.res.2.1 9 (by simp [res12]); have f10 := HW9.out.res.2.1 10 (by simp [res12]); have f11 := HW9.out.res.2.1 11 (by simp [res12])
    have hfin := agg_put12 HW9.out HREP.out
    obtain ⟨x0, x1, x2, x3, x4, x5, x6, x7, x8, x9, x10, x11⟩ := has_12 hfin.1
    have HANS := Lib.hid hfin.2
    unfold put12 at x0 x1 x2 x3 x4 x5 x6 x7 x8 x9 x10 x11 HANS
    clear hfin
    go_wp2_with fail
    refine bodyPost_ret (v := .agg #[.int .i64 5, .slice (some ⟨X, 0, none⟩) 1 1, .int .i64 0, .int .i64 0, .int .i64 0, .slice none 0 0, .slice none 0 0, .bool false, .int .i64 0, .slice none 0 0, .slice none 0 0, .slice none 0 0]) ?_ rfl ?_
    ·simp [results, Tryz.results75, go_sem, x0, x1, x2, x3, x4, x5, x6, x7, x8, x9, x10, x11]
    ·rw [HZ9.out]; exact HANS.out
 ·go_enter Tryz.func75, Tryz.ntmps75
  go_wp2_with fail
  go_quiet (fail)
  go_wp2_with fail
  refine (HWT.out _ (belowDrewN _ nq)).mono ?_
  intro e w2 hp
  obtain ⟨he, hr2, g2⟩ := hp
  have he' : e = .returned (.int .i64 6) := he
  subst he'
  have H0 : Hid (RC w (w2.alloc (.cells #[.int .i64 6, .slice none 0 0, .int .i64 0, .int .i64 0, .int .i64 0, .slice none 0 0, .slice none 0 0, .bool false, .int .i64 0, .slice none 0 0, .slice none 0 0, .slice none 0 0] 160)) b w2.heap.size w.heap.size (.slice G all.length cap) F all r [.int .i64 6, .slice none 0 0, .int .i64 0, .int .i64 0, .int .i64 0, .slice none 0 0, .slice none 0 0, .bool false, .int .i64 0, .slice none 0 0, .slice none 0 0, .slice none 0 0]) := by
   have hb2 := ba (Below.refl w2.heap.size w2) (.cells #[.int .i64 6, .slice none 0 0, .int .i64 0, .int .i64 0, .int .i64 0, .slice none 0 0, .slice none 0 0, .bool false, .int .i64 0, .slice none 0 0, .slice none 0 0, .slice none 0 0] 160)
   have g3 := Go.Lib.grownBy_trans (gBelow (bt HAL.out (belowDrewN _ nq)) b) g2
   have hr9 : Has w2 w.heap.size res12 := (HRS.out.down (belowDrewN _ nq)).kept g2 (fun e => by have := Option.some.inj e; omega)
   exact ⟨hr2.below hb2, Has.alloc w2 _ _, hr9.down hb2, Go.Lib.grownBy_below g3 hb2, hbl, hr9.2.2, Nat.le_refl _⟩
  clear he hr2 g2 HWT HAL HRS c0 c1
  go_upto_region 4 with fail
  refine wp_at (R := fun W => RC w W b w2.heap.size w.heap.size (.slice G all.length cap) F all r [.int .i64 6, .slice none 0 0, .int .i64 0, .int .i64 0, .int .i64 0, .slice none 0 0, .slice none 0 0, .bool false, .int .i64 0, .slice none 0 0, .slice none 0 0, .slice none 0 0]) H0.out (fun W hW => ?_)
  clear H0
  generalize w2.heap.size = T at hW ⊢
  obtain ⟨N, hN⟩ : ∃ N, N = w.heap.size := ⟨_, rfl⟩
  rw [← hN] at hW ⊢
  have HN := Lib.hid hN
  clear hN
  obtain ⟨e0, e1, e2, e3, e4, e5, e6, e7, e8, e9, e10, e11⟩ := has_12 hW.t
  have HW := Lib.hid hW
  clear hW
  have HL := Lib.hid (next_tok b (.slice G all.length cap) F all r 4 W hn HW.out.rd)
  have HZ : Hid (Rz = bnd (nextP 4 r) fun t r => bnd (mustP 59 r) fun _ r => .ok (⟨6, [t.text], T0, [], []⟩, r)) := HRZ.out
  clear HRZ
  cases hx : nextP 4 r with
  | error p =>
   obtain ⟨kk, c⟩ := p
   rw [hx] at HL HZ
   clear hx
   go_wp2_with fail
   refine HL.out.mono ?_
   intro e w9 hp
   obtain ⟨ch, rfl, HCH, g9⟩ := hp.err
   have G9 := Lib.hid (Go.Lib.grownBy_trans HW.out.gr g9)
   clear g9 hp
   go_wp2_with fail
   refine ⟨rfl, ?_⟩
   rw [HZ.out]
   exact ⟨by rw [HCH.out], G9.out⟩
  | ok p =>
   obtain ⟨⟨kt, st, nt⟩, r5⟩ := p
   rw [hx] at HL HZ
   have HZ2 : Hid (Rz = bnd (mustP 59 r5) fun _ r => .ok (⟨6, [st], T0, [], []⟩, r)) := HZ.out
   have hfld := fun w => tok_text kt nt ⟨st.toArray⟩ w
   clear hx HZ
   go_wp2_with fail
   refine HL.out.mono ?_
   intro e w4 hp
   obtain ⟨rfl, hr4, g4⟩ := hp
   have hal := ba (Below.refl w4.heap.size w4) (.cells #[.string ⟨st.toArray⟩] 9)
   have hw4 := (HW.out.next hr4 g4).down hal
   have e1' := hw4.t.1 1 _ rfl
   have f1' := hw4.t.2.1 1 (by simp)
   have hTW := HW.out.TW
   have hT4 : W.heap.size ≤ w4.heap.size := g4.size
   have HW5 := Lib.hid (hw4.set (i := 1) (.slice (some ⟨w4.heap.size, 0, none⟩) 1 1) (by simp))
   have HS5 := Lib.hid (sat_set (i := 1) (sat_str (F := fun x => W.heap.size ≤ x) (Has.alloc w4 [.string ⟨st.toArray⟩] 9) hT4) hTW (.slice (some ⟨w4.heap.size, 0, none⟩) 1 1))
   clear hr4 g4 hal hw4 HL hT4 e0 e1 e2 e3 e4 e5 e6 e7 e8 e9 e10 e11
   go_upto_region 15 with fail
   generalize w4.heap.size = X at HW5 HS5 ⊢
   have HMU := Lib.hid (must_any b (.slice G all.length cap) F all r5 59 _ hn HW5.out.rd)
   cases hx : mustP 59 r5 with
   | error p =>
    obtain ⟨kk, c⟩ := p
    rw [hx] at HMU HZ2
    clear hx
    go_wp2_with fail
    refine HMU.out.mono ?_
    intro e w9 hp
    obtain ⟨ch, rfl, HCH, g9⟩ := hp.err
    have G9 := Lib.hid (Go.Lib.grownBy_trans HW5.out.gr g9)
    clear g9 hp
    go_wp2_with fail
    refine ⟨rfl, ?_⟩
    rw [HZ2.out]
    exact ⟨by rw [HCH.out], G9.out⟩
   | ok p =>
    obtain ⟨u9, r9⟩ := p
    rw [hx] at HMU HZ2
    have HZ9 : Hid (Rz = .ok (⟨6, [st], T0, [], []⟩, r9)) := HZ2.out
    clear hx
    go_wp2_with fail
    refine HMU.out.mono ?_
    intro e w9 hp
    obtain ⟨rfl, hr9, g9⟩ := hp
    have HW9 := Lib.hid (HW5.out.next hr9 g9)
    have HREP : Hid ((cCmd (n + 1 + 7)).rep w9 (fun x => w.heap.size ≤ x ∧ x ≠ N) ⟨6, [st], T0, [], []⟩ [.int .i64 6, .slice (some ⟨X, 0, none⟩) 1 1, .int .i64 0, .int .i64 0, .int .i64 0, .slice none 0 0, .slice none 0 0, .bool false, .int .i64 0, .slice none 0 0, .slice none 0 0, .slice none 0 0]) := plain_rep (K := n + 7) ((sat_read HS5.out g9 (by have := HW.out.bN; have := HW.out.NT; omega)).mono (fun x hx => by have : W.heap.size ≤ x := hx; have := HW.out.NT; omega)) HW5.out.N0
    clear hr9 g9 HMU
    go_upto_region 16 with fail
    obtain ⟨e0, e1, e2, e3, e4, e5, e6, e7, e8, e9, e10, e11⟩ := has_12 HW9.out.t
    obtain ⟨r0, r1, r2, r3, r4, r5, r6, r7, r8, r9, r10, r11⟩ := has_12 HW9.out.res
    have f0 := HW9.out.res.2.1 0 (by simp [res12]); have f1 := HW9.out.res.2.1 1 (by simp [res12]); have f2 := HW9.out.res.2.1 2 (by simp [res12]); have f3 := HW9.out.res.2.1 3 (by simp [res12]); have f4 := HW9.out.res.2.1 4 (by simp [res12]); have f5 := HW9.out.res.2.1 5 (by simp [res12]); have f6 := HW9.out.res.2.1 6 (by simp [res12]); have f7 := HW9.out.res.2.1 7 (by simp [res12]); have f8 := HW9.out.res.2.1 8 (by simp [res12]); have f9 := HW9.out.res.2.1 9 (by simp [res12]); have f10 := HW9.out.res.2.1 10 (by simp [res12]); have f11 := HW9.out.res.2.1 11 (by simp [res12])
    have hfin := agg_put12 HW9.out HREP.out
    obtain ⟨x0, x1, x2, x3, x4, x5, x6, x7, x8, x9, x10, x11⟩ := has_12 hfin.1
    have HANS := Lib.hid hfin.2
    unfold put12 at x0 x1 x2 x3 x4 x5 x6 x7 x8 x9 x10 x11 HANS
    clear hfin
    go_wp2_with fail
    refine bodyPost_ret (v := .agg #[.int .i64 6, .slice (some ⟨X, 0, none⟩) 1 1, .int .i64 0, .int .i64 0, .int .i64 0, .slice none 0 0, .slice none 0 0, .bool false, .int .i64 0, .slice none 0 0, .slice none 0 0, .slice none 0 0]) ?_ rfl ?_
    ·simp [results, Tryz.results75, go_sem, x0, x1, x2, x3, x4, x5, x6, x7, x8, x9, x10, x11]
    ·rw [HZ9.out]; exact HANS.out
 ·go_enter Tryz.func75, Tryz.ntmps75
  go_wp2_with fail
  go_quiet (fail)
  go_wp2_with fail
  refine (HWT.out _ (belowDrewN _ nq)).mono ?_
  intro e w2 hp
  obtain ⟨he, hr2, g2⟩ := hp
  have he' : e = .returned (.int .i64 7) := he
  subst he'
  have H0 : Hid (RC w (w2.alloc (.cells #[.int .i64 7, .slice none 0 0, .int .i64 0, .int .i64 0, .int .i64 0, .slice none 0 0, .slice none 0 0, .bool false, .int .i64 0, .slice none 0 0, .slice none 0 0, .slice none 0 0] 160)) b w2.heap.size w.heap.size (.slice G all.length cap) F all r [.int .i64 7, .slice none 0 0, .int .i64 0, .int .i64 0, .int .i64 0, .slice none 0 0, .slice none 0 0, .bool false, .int .i64 0, .slice none 0 0, .slice none 0 0, .slice none 0 0]) := by
   have hb2 := ba (Below.refl w2.heap.size w2) (.cells #[.int .i64 7, .slice none 0 0, .int .i64 0, .int .i64 0, .int .i64 0, .slice none 0 0, .slice none 0 0, .bool false, .int .i64 0, .slice none 0 0, .slice none 0 0, .slice none 0 0] 160)
   have g3 := Go.Lib.grownBy_trans (gBelow (bt HAL.out (belowDrewN _ nq)) b) g2
   have hr9 : Has w2 w.heap.size res12 := (HRS.out.down (belowDrewN _ nq)).kept g2 (fun e => by have := Option.some.inj e; omega)
   exact ⟨hr2.below hb2, Has.alloc w2 _ _, hr9.down hb2, Go.Lib.grownBy_below g3 hb2, hbl, hr9.2.2, Nat.le_refl _⟩
  clear he hr2 g2 HWT HAL HRS c0 c1
  go_upto_region 4 with fail
  refine wp_at (R := fun W => RC w W b w2.heap.size w.heap.size (.slice G all.length cap) F all r [.int .i64 7, .slice none 0 0, .int .i64 0, .int .i64 0, .int .i64 0, .slice none 0 0, .slice none 0 0, .bool false, .int .i64 0, .slice none 0 0, .slice none 0 0, .slice none 0 0]) H0.out (fun W hW => ?_)
  clear H0
  generalize w2.heap.size = T at hW ⊢
  obtain ⟨N, hN⟩ : ∃ N, N = w.heap.size := ⟨_, rfl⟩
  rw [← hN] at hW ⊢
  have HN := Lib.hid hN
  clear hN
  obtain ⟨e0, e1, e2, e3, e4, e5, e6, e7, e8, e9, e10, e11⟩ := has_12 hW.t
  have HW := Lib.hid hW
  clear hW
  have HL := Lib.hid (next_tok b (.slice G all.length cap) F all r 4 W hn HW.out.rd)
  have HZ : Hid (Rz = bnd (nextP 4 r) fun t r => bnd (mustP 59 r) fun _ r => .ok (⟨7, [t.text], T0, [], []⟩, r)) := HRZ.out
  clear HRZ
  cases hx : nextP 4 r with
  | error p =>
   obtain ⟨kk, c⟩ := p
   rw [hx] at HL HZ
   clear hx
   go_wp2_with fail
   refine HL.out.mono ?_
   intro e w9 hp
   obtain ⟨ch, rfl, HCH, g9⟩ := hp.err
   have G9 := Lib.hid (Go.Lib.grownBy_trans HW.out.gr g9)
   clear g9 hp
   go_wp2_with fail
   refine ⟨rfl, ?_⟩
   rw [HZ.out]
   exact ⟨by rw [HCH.out], G9.out⟩
  | ok p =>
   obtain ⟨⟨kt, st, nt⟩, r5⟩ := p
   rw [hx] at HL HZ
   have HZ2 : Hid (Rz = bnd (mustP 59 r5) fun _ r => .ok (⟨7, [st], T0, [], []⟩, r)) := HZ.out
   have hfld := fun w => tok_text kt nt ⟨st.toArray⟩ w
   clear hx HZ
   go_wp2_with fail
   refine HL.out.mono ?_
   intro e w4 hp
   obtain ⟨rfl, hr4, g4⟩ := hp
   have hal := ba (Below.refl w4.heap.size w4) (.cells #[.string ⟨st.toArray⟩] 9)
   have hw4 := (HW.out.next hr4 g4).down hal
   have e1' := hw4.t.1 1 _ rfl
   have f1' := hw4.t.2.1 1 (by simp)
   have hTW := HW.out.TW
   have hT4 : W.heap.size ≤ w4.heap.size := g4.size
   have HW5 := Lib.hid (hw4.set (i := 1) (.slice (some ⟨w4.heap.size, 0, none⟩) 1 1) (by simp))
   have HS5 := Lib.hid (sat_set (i := 1) (sat_str (F := fun x => W.heap.size ≤ x) (Has.alloc w4 [.string ⟨st.toArray⟩] 9) hT4) hTW (.slice (some ⟨w4.heap.size, 0, none⟩) 1 1))
   clear hr4 g4 hal hw4 HL hT4 e0 e1 e2 e3 e4 e5 e6 e7 e8 e9 e10 e11
   go_upto_region 15 with fail
   generalize w4.heap.size = X at HW5 HS5 ⊢
   have HMU := Lib.hid (must_any b (.slice G all.length cap) F all r5 59 _ hn HW5.out.rd)
   cases hx : mustP 59 r5 with
   | error p =>
    obtain ⟨kk, c⟩ := p
    rw [hx] at HMU HZ2
    clear hx
    go_wp2_with fail
    refine HMU.out.mono ?_
    intro e w9 hp
    obtain ⟨ch, rfl, HCH, g9⟩ := hp.err
    have G9 := Lib.hid (Go.Lib.grownBy_trans HW5.out.gr g9)
    clear g9 hp
    go_wp2_with fail
    refine ⟨rfl, ?_⟩
    rw [HZ2.out]
    exact ⟨by rw [HCH.out], G9.out⟩
   | ok p =>
    obtain ⟨u9, r9⟩ := p
    rw [hx] at HMU HZ2
    have HZ9 : Hid (Rz = .ok (⟨7, [st], T0, [], []⟩, r9)) := HZ2.out
    clear hx
    go_wp2_with fail
    refine HMU.out.mono ?_
    intro e w9 hp
    obtain ⟨rfl, hr9, g9⟩ := hp
    have HW9 := Lib.hid (HW5.out.next hr9 g9)
    have HREP : Hid ((cCmd (n + 1 + 7)).rep w9 (fun x => w.heap.size ≤ x ∧ x ≠ N) ⟨7, [st], T0, [], []⟩ [.int .i64 7, .slice (some ⟨X, 0, none⟩) 1 1, .int .i64 0, .int .i64 0, .int .i64 0, .slice none 0 0, .slice none 0 0, .bool false, .int .i64 0, .slice none 0 0, .slice none 0 0, .slice none 0 0]) := plain_rep (K := n + 7) ((sat_read HS5.out g9 (by have := HW.out.bN; have := HW.out.NT; omega)).mono (fun x hx => by have : W.heap.size ≤ x := hx; have := HW.out.NT; omega)) HW5.out.N0
    clear hr9 g9 HMU
    go_upto_region 16 with fail
    obtain ⟨e0, e1, e2, e3, e4, e5, e6, e7, e8, e9, e10, e11⟩ := has_12 HW9.out.t
    obtain ⟨r0, r1, r2, r3, r4, r5, r6, r7, r8, r9, r10, r11⟩ := has_12 HW9.out.res
    have f0 := HW9.out.res.2.1 0 (by simp [res12]); have f1 := HW9.out.res.2.1 1 (by simp [res12]); have f2 := HW9.out.res.2.1 2 (by simp [res12]); have f3 := HW9.out.res.2.1 3 (by simp [res12]); have f4 := HW9.out.res.2.1 4 (by simp [res12]); have f5 := HW9.out.res.2.1 5 (by simp [res12]); have f6 := HW9.out.res.2.1 6 (by simp [res12]); have f7 := HW9.out.res.2.1 7 (by simp [res12]); have f8 := HW9.out.res.2.1 8 (by simp [res12]); have f9 := HW9.out.res.2.1 9 (by simp [res12]); have f10 := HW9.out.res.2.1 10 (by simp [res12]); have f11 := HW9.out.res.2.1 11 (by simp [res12])
    have hfin := agg_put12 HW9.out HREP.out
    obtain ⟨x0, x1, x2, x3, x4, x5, x6, x7, x8, x9, x10, x11⟩ := has_12 hfin.1
    have HANS := Lib.hid hfin.2
    unfold put12 at x0 x1 x2 x3 x4 x5 x6 x7 x8 x9 x10 x11 HANS
    clear hfin
    go_wp2_with fail
    refine bodyPost_ret (v := .agg #[.int .i64 7, .slice (some ⟨X, 0, none⟩) 1 1, .int .i64 0, .int .i64 0, .int .i64 0, .slice none 0 0, .slice none 0 0, .bool false, .int .i64 0, .slice none 0 0, .slice none 0 0, .slice none 0 0]) ?_ rfl ?_
    ·simp [results, Tryz.results75, go_sem, x0, x1, x2, x3, x4, x5, x6, x7, x8, x9, x10, x11]
    ·rw [HZ9.out]; exact HANS.out
theorem both_every : ∀ n, CommandN n ∧ BranchN n
 | 0 => ⟨fun _ _ _ _ _ _ _ _ _ _ _ _ _ h => absurd h (Nat.not_lt_zero _), fun _ _ _ _ _ _ _ _ _ _ _ _ _ h => absurd h (Nat.not_lt_zero _)⟩
 | n + 1 => by
  have ih := both_every n
  refine ⟨fun dI d b v F all l w hdI hd hn h hTab hl => ?_, branch_succ n ih.1 ih.2⟩
  by_cases hg : 6 < d ∧ l ≠ []
  ·exact command_wrong n dI d _ b v F all l w hdI hn h hTab (.inl hg)
  ·cases hw : wordP cmdTab l with
   | error p => exact command_wrong n dI d _ b v F all l w hdI hn h hTab (.inr ⟨hg, p.1, p.2, hw⟩)
   | ok p =>
    obtain ⟨k, r⟩ := p
    have hk := word_range hw
    have hk11 : k < 11 := hk.2
    have key : k = 2 ∨ (k = 3 ∨ k = 4 ∨ k = 10) ∨ (k = 1 ∨ k = 8 ∨ k = 9) ∨ (k = 5 ∨ k = 6 ∨ k = 7) := by omega
    rcases key with hk | hk | hk | hk
    ·exact command_if n dI d b k v F all l r w hdI hn h hTab ih.2 hl hg hw hk
    ·exact command_bare n dI d b k v F all l r w hdI hn h hTab hg hw hk
    ·exact command_list n dI d b k v F all l r w hdI hn h hTab hg hw hk
    ·exact command_text n dI d b k v F all l r w hdI hn h hTab hg hw hk
end Go.Proofs.YtmkppkjikifdlaaGreatDoor.Sc
