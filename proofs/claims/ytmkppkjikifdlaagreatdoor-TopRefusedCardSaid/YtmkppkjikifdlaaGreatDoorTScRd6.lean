/- On the way. -/
import Derived.Test.YtmkppkjikifdlaaGreatDoorTRdX
set_option linter.unusedVariables false
set_option linter.unusedSimpArgs false
set_option maxHeartbeats 8000000
set_option maxRecDepth 20000
namespace Go.Proofs.YtmkppkjikifdlaaGreatDoor.Sc
open Go.RowKit
open Tk (Tok)
theorem has_same' {w w' : World} {b : Nat} {vs : List Value} (h : Has w b vs) (hk : w'.heap[b]? = w.heap[b]?) (hz : b < w'.heap.size) : Has w' b vs :=
 ⟨fun i v hv => (World.cell?_of_block (w := w) (a := ⟨b, i, none⟩) hk).trans (h.1 i v hv), fun i hi => (World.frozen?_of_block (w := w) (a := ⟨b, i, none⟩) hk).trans (h.2.1 i hi), hz⟩
theorem sat_set {α : Type} {c : Cod α} {w : World} {T i H : Nat} {v : Value} {xs : List α} (h : SAt c w (fun x => H ≤ x) v xs) (hT : T < H) (u : Value) : SAt c (w.setCell ⟨T, i, none⟩ u) (fun x => H ≤ x) v xs :=
 h.stable (fun x hx _ => Below.heap_setCell _ _ _ _ (by show x ≠ T; have : H ≤ x := hx; omega)) (by simp [World.setCell])
theorem sat_new {α : Type} {c : Cod α} {w : World} {H0 N H : Nat} {v : Value} {xs : List α} (h : SAt c w (fun x => H ≤ x) v xs) (hN : N < H) (h0 : H0 ≤ N) : SAt c w (fun x => H0 ≤ x ∧ x ≠ N) v xs := h.mono (fun x hx => ⟨by omega, by omega⟩)
theorem RB.TW {w0 w : World} {b T N : Nat} {v : Value} {F : Dom} {all l : List Tok} {cs : List Value} (h : RB w0 w b T N v F all l cs) : T < w.heap.size := h.t.2.2
theorem RB.tags {w0 w w' : World} {b T N : Nat} {v : Value} {F : Dom} {all l l' : List Tok} {cs cs' : List Value} (h : RB w0 w b T N v F all l cs) (hr : RL w' b v F all l') (ht : Has w' T cs') (g : Gr2 w w' b T) : RB w0 w' b T N v F all l' cs' :=
 ⟨hr, ht, has_same' h.res (g.keep N h.res.2.2 (by have := h.bN; omega) (by have := h.NT; omega)) (Nat.lt_of_lt_of_le h.res.2.2 g.size), g.out h.gr (by have := h.NT; have := h.N0; omega), h.bN, h.NT, h.N0⟩
theorem test_bare_p (n : Nat) (dI : Int) (d m b k : Nat) (v : Value) (F : Dom) (all l r : List Tok) (w : World) (hdI : dI = d) (hm : d + m = 8) (hn : all.length ≤ 100000) (h : RL w b v F all l) (hTab : Tabs w b) 
    (hg : ¬ (6 < d ∧ l ≠ [])) (hw : wordP tstTab l = .ok (k, r)) (hk : k = 1 ∨ k = 2) :
    Calls Tryz.prog 133 #[.pointer (some ⟨b, 0, none⟩), .int .i64 dI] w (Ans (TstR m w.heap.size) b v F all w (testP (n + 1) d l)) := by
 obtain ⟨Rz, hRz⟩ : ∃ Rz, Rz = testP (n + 1) d l := ⟨_, rfl⟩
 rw [← hRz]
 rw [testP, if_neg hg, hw] at hRz
 have HRZ : Hid (Rz = testK (testP n (d + 1)) k r) := hRz
 have hl0 : l ≠ [] := by rintro rfl; cases hw
 have hd6 : d ≤ 6 := by
  by_cases e : 6 < d
  ·exact absurd ⟨e, hl0⟩ hg
  ·omega
 obtain ⟨m', rfl⟩ : ∃ m', m = m' + 1 := ⟨m - 1, by omega⟩
 have hal := ba (Below.refl w.heap.size w) (.cells #[.int .i64 0, .int .i64 0, .int .i64 0, .slice none 0 0, .slice none 0 0, .bool false, .int .i64 0, .slice none 0 0] 158)
 have HAL := Lib.hid hal
 have hbl := h.lt
 have hres := Has.alloc w [.int .i64 0, .int .i64 0, .int .i64 0, .slice none 0 0, .slice none 0 0, .bool false, .int .i64 0, .slice none 0 0] 158
 have HRS := Lib.hid hres
 have h1 := h.below hal
 have hrln := h1.len
 have hTab1 := hTab.down (Nat.le_of_lt hbl) hal
 obtain ⟨p, hl1, hr1⟩ := h1
 obtain ⟨G, cap, rfl, hlen, -⟩ := hr1.facts hl1
 have c0 := hr1.c0
 have c1 := hr1.c1
 have hpos : (0 : Int) ≤ p := by omega
 have hwt := fun W (hb : Below (w.alloc (.cells #[.int .i64 0, .int .i64 0, .int .i64 0, .slice none 0 0, .slice none 0 0, .bool false, .int .i64 0, .slice none 0 0] 158)).heap.size (w.alloc (.cells #[.int .i64 0, .int .i64 0, .int .i64 0, .slice none 0 0, .slice none 0 0, .bool false, .int .i64 0, .slice none 0 0] 158)) W) => word_tok b 3 tstTab 11 (.slice G all.length cap) F all l W hn ⟨p, hl1, hr1.below hb⟩ ((hTab1.down (Nat.le_of_lt hr1.lt) hb).t) hTab.low.1 rfl (by decide)
 have hls := less_word tstTab l
 rw [hw] at hwt hls
 have hrl : r.length + 1 ≤ l.length := hls
 have HWT := Lib.hid hwt
 have HTAB := Lib.hid hTab
 have q1 : decide (6 < dI) = false := decide_eq_false (by omega)
 have HDI := Lib.hid hdI
 clear hRz hal h hl1 hr1 hlen hg hw hwt hls hres hTab hTab1 hl0 hdI
 rcases hk with rfl | rfl
 ·go_enter Tryz.func133, Tryz.ntmps133
  go_wp2_with fail
  go_quiet (fail)
  go_wp2_with fail
  refine (HWT.out _ (belowDrewN _ nq)).mono ?_
  intro e w2 hp
  obtain ⟨he, hr2, g2⟩ := hp
  have he' : e = .returned (.int .i64 1) := he
  subst he'
  have H0 : Hid (RB w (w2.alloc (.cells #[.int .i64 1, .int .i64 0, .int .i64 0, .slice none 0 0, .slice none 0 0, .bool false, .int .i64 0, .slice none 0 0] 158)) b w2.heap.size w.heap.size (.slice G all.length cap) F all r [.int .i64 1, .int .i64 0, .int .i64 0, .slice none 0 0, .slice none 0 0, .bool false, .int .i64 0, .slice none 0 0]) := by
   have hb2 := ba (Below.refl w2.heap.size w2) (.cells #[.int .i64 1, .int .i64 0, .int .i64 0, .slice none 0 0, .slice none 0 0, .bool false, .int .i64 0, .slice none 0 0] 158)
   have g3 := Go.Lib.grownBy_trans (gBelow (bt HAL.out (belowDrewN _ nq)) b) g2
   have hs2 := g2.size
   have hr9 : Has w2 w.heap.size res8 := (HRS.out.down (belowDrewN _ nq)).kept g2 (fun e => by have := Option.some.inj e; omega)
   exact ⟨hr2.below hb2, Has.alloc w2 _ _, hr9.down hb2, Go.Lib.grownBy_below g3 hb2, hbl, hr9.2.2, Nat.le_refl _⟩
  clear he hr2 g2 HWT HAL HRS c0 c1
  go_upto_region 4 with fail
  refine wp_at (R := fun W => RB w W b w2.heap.size w.heap.size (.slice G all.length cap) F all r [.int .i64 1, .int .i64 0, .int .i64 0, .slice none 0 0, .slice none 0 0, .bool false, .int .i64 0, .slice none 0 0]) H0.out (fun W hW => ?_)
  clear H0
  generalize w2.heap.size = T at hW ⊢
  obtain ⟨N, hN⟩ : ∃ N, N = w.heap.size := ⟨_, rfl⟩
  rw [← hN] at hW ⊢
  have HN := Lib.hid hN
  clear hN
  obtain ⟨e0, e1, e2, e3, e4, e5, e6, e7⟩ := has_oct' hW.t
  have HW := Lib.hid hW
  clear hW
  have HE : Hid (Rz = .ok (⟨1, 0, 0, [], [], false, 0, []⟩, r)) := HRZ.out
  have HREP : Hid ((cTst (m' + 1)).rep W (fun x => w.heap.size ≤ x ∧ x ≠ N) ⟨1, 0, 0, [], [], false, 0, []⟩ [.int .i64 1, .int .i64 0, .int .i64 0, .slice none 0 0, .slice none 0 0, .bool false, .int .i64 0, .slice none 0 0]) := ⟨_, _, _, rfl, SAt.nil _ _ _, SAt.nil _ _ _, SAt.nil _ _ _⟩
  clear HRZ e0 e1 e2 e3 e4 e5 e6 e7
  obtain ⟨e0, e1, e2, e3, e4, e5, e6, e7⟩ := has_oct' HW.out.t
  obtain ⟨r0, r1, r2, r3, r4, r5, r6, r7⟩ := has_oct' HW.out.res
  have f0 := HW.out.res.2.1 0 (by simp [res8]); have f1 := HW.out.res.2.1 1 (by simp [res8]); have f2 := HW.out.res.2.1 2 (by simp [res8]); have f3 := HW.out.res.2.1 3 (by simp [res8])
  have f4 := HW.out.res.2.1 4 (by simp [res8]); have f5 := HW.out.res.2.1 5 (by simp [res8]); have f6 := HW.out.res.2.1 6 (by simp [res8]); have f7 := HW.out.res.2.1 7 (by simp [res8])
  have hfin := agg_put8 HW.out HREP.out
  obtain ⟨x0, x1, x2, x3, x4, x5, x6, x7⟩ := has_oct' hfin.1
  have HANS := Lib.hid hfin.2
  unfold put8 at x0 x1 x2 x3 x4 x5 x6 x7 HANS
  clear hfin
  go_wp2_with fail
  refine bodyPost_ret (v := .agg #[.int .i64 1, .int .i64 0, .int .i64 0, .slice none 0 0, .slice none 0 0, .bool false, .int .i64 0, .slice none 0 0]) ?_ rfl ?_
  ·simp [results, Tryz.results133, go_sem, x0, x1, x2, x3, x4, x5, x6, x7]
  ·rw [HE.out]; exact HANS.out
 ·go_enter Tryz.func133, Tryz.ntmps133
  go_wp2_with fail
  go_quiet (fail)
  go_wp2_with fail
  refine (HWT.out _ (belowDrewN _ nq)).mono ?_
  intro e w2 hp
  obtain ⟨he, hr2, g2⟩ := hp
  have he' : e = .returned (.int .i64 2) := he
  subst he'
  have H0 : Hid (RB w (w2.alloc (.cells #[.int .i64 2, .int .i64 0, .int .i64 0, .slice none 0 0, .slice none 0 0, .bool false, .int .i64 0, .slice none 0 0] 158)) b w2.heap.size w.heap.size (.slice G all.length cap) F all r [.int .i64 2, .int .i64 0, .int .i64 0, .slice none 0 0, .slice none 0 0, .bool false, .int .i64 0, .slice none 0 0]) := by
   have hb2 := ba (Below.refl w2.heap.size w2) (.cells #[.int .i64 2, .int .i64 0, .int .i64 0, .slice none 0 0, .slice none 0 0, .bool false, .int .i64 0, .slice none 0 0] 158)
   have g3 := Go.Lib.grownBy_trans (gBelow (bt HAL.out (belowDrewN _ nq)) b) g2
   have hs2 := g2.size
   have hr9 : Has w2 w.heap.size res8 := (HRS.out.down (belowDrewN _ nq)).kept g2 (fun e => by have := Option.some.inj e; omega)
   exact ⟨hr2.below hb2, Has.alloc w2 _ _, hr9.down hb2, Go.Lib.grownBy_below g3 hb2, hbl, hr9.2.2, Nat.le_refl _⟩
  clear he hr2 g2 HWT HAL HRS c0 c1
  go_upto_region 4 with fail
  refine wp_at (R := fun W => RB w W b w2.heap.size w.heap.size (.slice G all.length cap) F all r [.int .i64 2, .int .i64 0, .int .i64 0, .slice none 0 0, .slice none 0 0, .bool false, .int .i64 0, .slice none 0 0]) H0.out (fun W hW => ?_)
  clear H0
  generalize w2.heap.size = T at hW ⊢
  obtain ⟨N, hN⟩ : ∃ N, N = w.heap.size := ⟨_, rfl⟩
  rw [← hN] at hW ⊢
  have HN := Lib.hid hN
  clear hN
  obtain ⟨e0, e1, e2, e3, e4, e5, e6, e7⟩ := has_oct' hW.t
  have HW := Lib.hid hW
  clear hW
  have HE : Hid (Rz = .ok (⟨2, 0, 0, [], [], false, 0, []⟩, r)) := HRZ.out
  have HREP : Hid ((cTst (m' + 1)).rep W (fun x => w.heap.size ≤ x ∧ x ≠ N) ⟨2, 0, 0, [], [], false, 0, []⟩ [.int .i64 2, .int .i64 0, .int .i64 0, .slice none 0 0, .slice none 0 0, .bool false, .int .i64 0, .slice none 0 0]) := ⟨_, _, _, rfl, SAt.nil _ _ _, SAt.nil _ _ _, SAt.nil _ _ _⟩
  clear HRZ e0 e1 e2 e3 e4 e5 e6 e7
  obtain ⟨e0, e1, e2, e3, e4, e5, e6, e7⟩ := has_oct' HW.out.t
  obtain ⟨r0, r1, r2, r3, r4, r5, r6, r7⟩ := has_oct' HW.out.res
  have f0 := HW.out.res.2.1 0 (by simp [res8]); have f1 := HW.out.res.2.1 1 (by simp [res8]); have f2 := HW.out.res.2.1 2 (by simp [res8]); have f3 := HW.out.res.2.1 3 (by simp [res8])
  have f4 := HW.out.res.2.1 4 (by simp [res8]); have f5 := HW.out.res.2.1 5 (by simp [res8]); have f6 := HW.out.res.2.1 6 (by simp [res8]); have f7 := HW.out.res.2.1 7 (by simp [res8])
  have hfin := agg_put8 HW.out HREP.out
  obtain ⟨x0, x1, x2, x3, x4, x5, x6, x7⟩ := has_oct' hfin.1
  have HANS := Lib.hid hfin.2
  unfold put8 at x0 x1 x2 x3 x4 x5 x6 x7 HANS
  clear hfin
  go_wp2_with fail
  refine bodyPost_ret (v := .agg #[.int .i64 2, .int .i64 0, .int .i64 0, .slice none 0 0, .slice none 0 0, .bool false, .int .i64 0, .slice none 0 0]) ?_ rfl ?_
  ·simp [results, Tryz.results133, go_sem, x0, x1, x2, x3, x4, x5, x6, x7]
  ·rw [HE.out]; exact HANS.out
theorem test_exists_p (n : Nat) (dI : Int) (d m b k : Nat) (v : Value) (F : Dom) (all l r : List Tok) (w : World) (hdI : dI = d) (hm : d + m = 8) (hn : all.length ≤ 100000) (h : RL w b v F all l) (hTab : Tabs w b) 
    (hg : ¬ (6 < d ∧ l ≠ [])) (hw : wordP tstTab l = .ok (k, r)) (hk : k = 9) :
    Calls Tryz.prog 133 #[.pointer (some ⟨b, 0, none⟩), .int .i64 dI] w (Ans (TstR m w.heap.size) b v F all w (testP (n + 1) d l)) := by
 obtain ⟨Rz, hRz⟩ : ∃ Rz, Rz = testP (n + 1) d l := ⟨_, rfl⟩
 rw [← hRz]
 rw [testP, if_neg hg, hw] at hRz
 have HRZ : Hid (Rz = testK (testP n (d + 1)) k r) := hRz
 have hl0 : l ≠ [] := by rintro rfl; cases hw
 have hd6 : d ≤ 6 := by
  by_cases e : 6 < d
  ·exact absurd ⟨e, hl0⟩ hg
  ·omega
 obtain ⟨m', rfl⟩ : ∃ m', m = m' + 1 := ⟨m - 1, by omega⟩
 have hal := ba (Below.refl w.heap.size w) (.cells #[.int .i64 0, .int .i64 0, .int .i64 0, .slice none 0 0, .slice none 0 0, .bool false, .int .i64 0, .slice none 0 0] 158)
 have HAL := Lib.hid hal
 have hbl := h.lt
 have hres := Has.alloc w [.int .i64 0, .int .i64 0, .int .i64 0, .slice none 0 0, .slice none 0 0, .bool false, .int .i64 0, .slice none 0 0] 158
 have HRS := Lib.hid hres
 have h1 := h.below hal
 have hrln := h1.len
 have hTab1 := hTab.down (Nat.le_of_lt hbl) hal
 obtain ⟨p, hl1, hr1⟩ := h1
 obtain ⟨G, cap, rfl, hlen, -⟩ := hr1.facts hl1
 have c0 := hr1.c0
 have c1 := hr1.c1
 have hpos : (0 : Int) ≤ p := by omega
 have hwt := fun W (hb : Below (w.alloc (.cells #[.int .i64 0, .int .i64 0, .int .i64 0, .slice none 0 0, .slice none 0 0, .bool false, .int .i64 0, .slice none 0 0] 158)).heap.size (w.alloc (.cells #[.int .i64 0, .int .i64 0, .int .i64 0, .slice none 0 0, .slice none 0 0, .bool false, .int .i64 0, .slice none 0 0] 158)) W) => word_tok b 3 tstTab 11 (.slice G all.length cap) F all l W hn ⟨p, hl1, hr1.below hb⟩ ((hTab1.down (Nat.le_of_lt hr1.lt) hb).t) hTab.low.1 rfl (by decide)
 have hls := less_word tstTab l
 rw [hw] at hwt hls
 have hrl : r.length + 1 ≤ l.length := hls
 have HWT := Lib.hid hwt
 have HTAB := Lib.hid hTab
 have q1 : decide (6 < dI) = false := decide_eq_false (by omega)
 have HDI := Lib.hid hdI
 clear hRz hal h hl1 hr1 hlen hg hw hwt hls hres hTab hTab1 hl0 hdI
 subst hk
 go_enter Tryz.func133, Tryz.ntmps133
 go_wp2_with fail
 go_quiet (fail)
 go_wp2_with fail
 refine (HWT.out _ (belowDrewN _ nq)).mono ?_
 intro e w2 hp
 obtain ⟨he, hr2, g2⟩ := hp
 have he' : e = .returned (.int .i64 9) := he
 subst he'
 have H0 : Hid (RB w (w2.alloc (.cells #[.int .i64 9, .int .i64 0, .int .i64 0, .slice none 0 0, .slice none 0 0, .bool false, .int .i64 0, .slice none 0 0] 158)) b w2.heap.size w.heap.size (.slice G all.length cap) F all r [.int .i64 9, .int .i64 0, .int .i64 0, .slice none 0 0, .slice none 0 0, .bool false, .int .i64 0, .slice none 0 0]) := by
  have hb2 := ba (Below.refl w2.heap.size w2) (.cells #[.int .i64 9, .int .i64 0, .int .i64 0, .slice none 0 0, .slice none 0 0, .bool false, .int .i64 0, .slice none 0 0] 158)
  have g3 := Go.Lib.grownBy_trans (gBelow (bt HAL.out (belowDrewN _ nq)) b) g2
  have hs2 := g2.size
  have hr9 : Has w2 w.heap.size res8 := (HRS.out.down (belowDrewN _ nq)).kept g2 (fun e => by have := Option.some.inj e; omega)
  exact ⟨hr2.below hb2, Has.alloc w2 _ _, hr9.down hb2, Go.Lib.grownBy_below g3 hb2, hbl, hr9.2.2, Nat.le_refl _⟩
 clear he hr2 g2 HWT HAL HRS c0 c1
 go_upto_region 4 with fail
 refine wp_at (R := fun W => RB w W b w2.heap.size w.heap.size (.slice G all.length cap) F all r [.int .i64 9, .int .i64 0, .int .i64 0, .slice none 0 0, .slice none 0 0, .bool false, .int .i64 0, .slice none 0 0]) H0.out (fun W hW => ?_)
 clear H0
 generalize w2.heap.size = T at hW ⊢
 obtain ⟨N, hN⟩ : ∃ N, N = w.heap.size := ⟨_, rfl⟩
 rw [← hN] at hW ⊢
 have HN := Lib.hid hN
 clear hN
 obtain ⟨e0, e1, e2, e3, e4, e5, e6, e7⟩ := has_oct' hW.t
 have HW := Lib.hid hW
 clear hW
 have HL := Lib.hid (list_tok b (.slice G all.length cap) F all r W hn HW.out.rd)
 have HZ : Hid (Rz = bnd (listP r) fun ns r => .ok (⟨9, 0, 0, ns, [], false, 0, []⟩, r)) := HRZ.out
 clear HRZ
 cases hx : listP r with
 | error p =>
  obtain ⟨kk, c⟩ := p
  rw [hx] at HL HZ
  clear hx
  go_wp2_with fail
  refine HL.out.mono ?_
  intro e w9 hp
  obtain ⟨ch, rfl, HCH, g9⟩ := hp.err
  have G9 := Lib.hid (Go.Lib.grownBy_trans HW.out.gr g9)
  clear g9 hp
  go_wp2_with fail
  refine ⟨rfl, ?_⟩
  rw [HZ.out]
  exact ⟨by rw [HCH.out], G9.out⟩
 | ok p =>
  obtain ⟨ns, r5⟩ := p
  rw [hx] at HL HZ
  clear hx
  go_wp2_with fail
  refine HL.out.mono ?_
  intro e w4 hp
  obtain ⟨⟨v4, rfl, hs4⟩, hr4, g4⟩ := hp
  obtain ⟨Gn, cn, rfl, -⟩ := hs4.form
  have hw4 := HW.out.next hr4 g4
  have e3' := hw4.t.1 3 _ rfl
  have f3' := hw4.t.2.1 3 (by simp)
  have hTW := HW.out.TW
  have HW5 := Lib.hid (hw4.set (i := 3) (.slice Gn ns.length cn) (by simp))
  have HREP : Hid ((cTst (m' + 1)).rep (w4.setCell ⟨T, 3, none⟩ (.slice Gn ns.length cn)) (fun x => w.heap.size ≤ x ∧ x ≠ N) ⟨9, 0, 0, ns, [], false, 0, []⟩ [.int .i64 9, .int .i64 0, .int .i64 0, .slice Gn ns.length cn, .slice none 0 0, .bool false, .int .i64 0, .slice none 0 0]) := ⟨_, _, _, rfl, sat_new (sat_set hs4 hTW _) (by have := HW.out.NT; omega) HW.out.N0, SAt.nil _ _ _, SAt.nil _ _ _⟩
  clear hs4 hr4 g4 hw4 HL hTW e0 e1 e2 e3 e4 e5 e6 e7
  go_upto_region 28 with fail
  clear e3' f3'
  obtain ⟨e0, e1, e2, e3, e4, e5, e6, e7⟩ := has_oct' HW5.out.t
  obtain ⟨r0, r1, r2, r3, r4, r5, r6, r7⟩ := has_oct' HW5.out.res
  have f0 := HW5.out.res.2.1 0 (by simp [res8]); have f1 := HW5.out.res.2.1 1 (by simp [res8]); have f2 := HW5.out.res.2.1 2 (by simp [res8]); have f3 := HW5.out.res.2.1 3 (by simp [res8])
  have f4 := HW5.out.res.2.1 4 (by simp [res8]); have f5 := HW5.out.res.2.1 5 (by simp [res8]); have f6 := HW5.out.res.2.1 6 (by simp [res8]); have f7 := HW5.out.res.2.1 7 (by simp [res8])
  have hfin := agg_put8 HW5.out HREP.out
  obtain ⟨x0, x1, x2, x3, x4, x5, x6, x7⟩ := has_oct' hfin.1
  have HANS := Lib.hid hfin.2
  unfold put8 at x0 x1 x2 x3 x4 x5 x6 x7 HANS
  clear hfin
  go_wp2_with fail
  refine bodyPost_ret (v := .agg #[.int .i64 9, .int .i64 0, .int .i64 0, .slice Gn ns.length cn, .slice none 0 0, .bool false, .int .i64 0, .slice none 0 0]) ?_ rfl ?_
  ·simp [results, Tryz.results133, go_sem, x0, x1, x2, x3, x4, x5, x6, x7]
  ·rw [HZ.out]; exact HANS.out
theorem tags_six : ∀ (n m : Nat) (l : List Tok) (mp : Nat × Nat) (r : List Tok), tagsP n 6 m 0 l = .ok (mp, r) → mp.2 = 0
 | 0, m, l, mp, r, h => by
  have h' : (.ok ((m, 0), l) : PR (Nat × Nat)) = .ok (mp, r) := h
  cases h'; rfl
 | n + 1, m, [], mp, r, h => by
  have h' : (.ok ((m, 0), []) : PR (Nat × Nat)) = .ok (mp, r) := h
  cases h'; rfl
 | n + 1, m, t :: q, mp, r, h => by
  by_cases hk : t.kind = 2
  ·rw [tags_tag hk] at h
   split at h
   ·exact tags_six n _ q mp r h
   ·rw [if_neg (by omega)] at h
    cases h
  ·rw [tags_else hk] at h
   cases h; rfl
theorem test_header_p (n : Nat) (dI : Int) (d m b k : Nat) (v : Value) (F : Dom) (all l r : List Tok) (w : World) (hdI : dI = d) (hm : d + m = 8) (hn : all.length ≤ 100000) (h : RL w b v F all l) (hTab : Tabs w b) 
    (hg : ¬ (6 < d ∧ l ≠ [])) (hw : wordP tstTab l = .ok (k, r)) (hk : k = 6 ∨ k = 7 ∨ k = 8) :
    Calls Tryz.prog 133 #[.pointer (some ⟨b, 0, none⟩), .int .i64 dI] w (Ans (TstR m w.heap.size) b v F all w (testP (n + 1) d l)) := by
 obtain ⟨Rz, hRz⟩ : ∃ Rz, Rz = testP (n + 1) d l := ⟨_, rfl⟩
 rw [← hRz]
 rw [testP, if_neg hg, hw] at hRz
 have HRZ : Hid (Rz = testK (testP n (d + 1)) k r) := hRz
 have hl0 : l ≠ [] := by rintro rfl; cases hw
 have hd6 : d ≤ 6 := by
  by_cases e : 6 < d
  ·exact absurd ⟨e, hl0⟩ hg
  ·omega
 obtain ⟨m', rfl⟩ : ∃ m', m = m' + 1 := ⟨m - 1, by omega⟩
 have hal := ba (Below.refl w.heap.size w) (.cells #[.int .i64 0, .int .i64 0, .int .i64 0, .slice none 0 0, .slice none 0 0, .bool false, .int .i64 0, .slice none 0 0] 158)
 have HAL := Lib.hid hal
 have hbl := h.lt
 have hres := Has.alloc w [.int .i64 0, .int .i64 0, .int .i64 0, .slice none 0 0, .slice none 0 0, .bool false, .int .i64 0, .slice none 0 0] 158
 have HRS := Lib.hid hres
 have h1 := h.below hal
 have hrln := h1.len
 have hTab1 := hTab.down (Nat.le_of_lt hbl) hal
 obtain ⟨p, hl1, hr1⟩ := h1
 obtain ⟨G, cap, rfl, hlen, -⟩ := hr1.facts hl1
 have c0 := hr1.c0
 have c1 := hr1.c1
 have hpos : (0 : Int) ≤ p := by omega
 have hwt := fun W (hb : Below (w.alloc (.cells #[.int .i64 0, .int .i64 0, .int .i64 0, .slice none 0 0, .slice none 0 0, .bool false, .int .i64 0, .slice none 0 0] 158)).heap.size (w.alloc (.cells #[.int .i64 0, .int .i64 0, .int .i64 0, .slice none 0 0, .slice none 0 0, .bool false, .int .i64 0, .slice none 0 0] 158)) W) => word_tok b 3 tstTab 11 (.slice G all.length cap) F all l W hn ⟨p, hl1, hr1.below hb⟩ ((hTab1.down (Nat.le_of_lt hr1.lt) hb).t) hTab.low.1 rfl (by decide)
 have hls := less_word tstTab l
 rw [hw] at hwt hls
 have hrl : r.length + 1 ≤ l.length := hls
 have HWT := Lib.hid hwt
 have HTAB := Lib.hid hTab
 have q1 : decide (6 < dI) = false := decide_eq_false (by omega)
 have HDI := Lib.hid hdI
 clear hRz hal h hl1 hr1 hlen hg hw hwt hls hres hTab hTab1 hl0 hdI
 rcases hk with rfl | rfl | rfl
 ·go_enter Tryz.func133, Tryz.ntmps133
  go_wp2_with fail
  go_quiet (fail)
  go_wp2_with fail
  refine (HWT.out _ (belowDrewN _ nq)).mono ?_
  intro e w2 hp
  obtain ⟨he, hr2, g2⟩ := hp
  have he' : e = .returned (.int .i64 6) := he
  subst he'
  have H0 : Hid (RB w (w2.alloc (.cells #[.int .i64 6, .int .i64 0, .int .i64 0, .slice none 0 0, .slice none 0 0, .bool false, .int .i64 0, .slice none 0 0] 158)) b w2.heap.size w.heap.size (.slice G all.length cap) F all r [.int .i64 6, .int .i64 0, .int .i64 0, .slice none 0 0, .slice none 0 0, .bool false, .int .i64 0, .slice none 0 0]) := by
   have hb2 := ba (Below.refl w2.heap.size w2) (.cells #[.int .i64 6, .int .i64 0, .int .i64 0, .slice none 0 0, .slice none 0 0, .bool false, .int .i64 0, .slice none 0 0] 158)
   have g3 := Go.Lib.grownBy_trans (gBelow (bt HAL.out (belowDrewN _ nq)) b) g2
   have hs2 := g2.size
   have hr9 : Has w2 w.heap.size res8 := (HRS.out.down (belowDrewN _ nq)).kept g2 (fun e => by have := Option.some.inj e; omega)
   exact ⟨hr2.below hb2, Has.alloc w2 _ _, hr9.down hb2, Go.Lib.grownBy_below g3 hb2, hbl, hr9.2.2, Nat.le_refl _⟩
  clear he hr2 g2 HWT HAL HRS c0 c1
  go_upto_region 4 with fail
  refine wp_at (R := fun W => RB w W b w2.heap.size w.heap.size (.slice G all.length cap) F all r [.int .i64 6, .int .i64 0, .int .i64 0, .slice none 0 0, .slice none 0 0, .bool false, .int .i64 0, .slice none 0 0]) H0.out (fun W hW => ?_)
  clear H0
  generalize w2.heap.size = T at hW ⊢
  obtain ⟨N, hN⟩ : ∃ N, N = w.heap.size := ⟨_, rfl⟩
  rw [← hN] at hW ⊢
  have HN := Lib.hid hN
  clear hN
  obtain ⟨e0, e1, e2, e3, e4, e5, e6, e7⟩ := has_oct' hW.t
  have HW := Lib.hid hW
  clear hW
  have HTG := Lib.hid (tags_any 6 6 b T (.slice G all.length cap) F all r W rfl hn HW.out.rd HW.out.t (by have := HW.out.bN; have := HW.out.NT; omega) (HTAB.out.below (grown_low HW.out.gr (Nat.le_of_lt hbl))))
  have HZ : Hid (Rz = bnd (tagsP r.length 6 0 0 r) fun mp r => bnd (listP r) fun ns r => bnd (listP r) fun ks r => .ok (⟨6, dfl mp.1, if (6 : Nat) = 6 then 0 else dfl mp.2, ns, ks, false, 0, []⟩, r)) := HRZ.out
  clear HRZ
  cases hx : tagsP r.length 6 0 0 r with
  | error p =>
   obtain ⟨kk, c⟩ := p
   rw [hx] at HTG HZ
   clear hx
   go_wp2_with fail
   refine HTG.out.mono ?_
   intro e w9 hp
   obtain ⟨ch, rfl, HCH, g9⟩ := hp
   have G9 := Lib.hid (g9.out HW.out.gr (by have := HW.out.NT; have := HW.out.N0; omega))
   clear g9
   go_wp2_with fail
   refine ⟨rfl, ?_⟩
   rw [HZ.out]
   exact ⟨by rw [HCH.out], G9.out⟩
  | ok p =>
   obtain ⟨mp, r5⟩ := p
   have h6 := tags_six _ _ _ _ _ hx
   rw [hx] at HTG HZ
   obtain ⟨M, hM⟩ : ∃ M : Int, M = ((dfl mp.1 : Nat) : Int) := ⟨_, rfl⟩
   obtain ⟨P, hP⟩ : ∃ P : Int, P = (((if (6 : Nat) = 6 then mp.2 else dfl mp.2) : Nat) : Int) := ⟨_, rfl⟩
   have HZ2 : Hid (Rz = bnd (listP r5) fun ns r => bnd (listP r) fun ks r => .ok (⟨6, M, P, ns, ks, false, 0, []⟩, r)) := by
    unfold Hid
    rw [HZ.out]
    show (bnd (listP r5) fun ns r => bnd (listP r) fun ks r => (.ok ((⟨6, ((dfl mp.1 : Nat) : Int), (if (6 : Nat) = 6 then (0 : Int) else ((dfl mp.2 : Nat) : Int)), ns, ks, false, 0, []⟩ : Tst), r) : PR Tst)) = _
    have e1 : (if (6 : Nat) = 6 then mp.2 else dfl mp.2) = 0 := by rw [if_pos rfl, h6]
    rw [hM, hP]
    rw [e1]; rfl
   have HM := Lib.hid hM; have HP := Lib.hid hP
   clear hx h6 hM hP HZ
   go_wp2_with fail
   refine HTG.out.mono ?_
   intro e w5 hp
   obtain ⟨rfl, hr5, ht5, g5⟩ := hp
   have ht5' : Has w5 T [.int .i64 6, .int .i64 M, .int .i64 P, .slice none 0 0, .slice none 0 0, .bool false, .int .i64 0, .slice none 0 0] := by rw [HM.out, HP.out]; exact ht5
   have HW5 := Lib.hid (HW.out.tags hr5 ht5' g5)
   have HL := Lib.hid (list_tok b (.slice G all.length cap) F all r5 w5 hn hr5)
   clear hr5 ht5 ht5' g5 HTG HM HP e0 e1 e2 e3 e4 e5 e6 e7
   cases hx : listP r5 with
   | error p =>
    obtain ⟨kk, c⟩ := p
    rw [hx] at HL HZ2
    clear hx
    go_wp2_with fail
    refine HL.out.mono ?_
    intro e w9 hp
    obtain ⟨ch, rfl, HCH, g9⟩ := hp.err
    have G9 := Lib.hid (Go.Lib.grownBy_trans HW5.out.gr g9)
    clear g9 hp
    go_wp2_with fail
    refine ⟨rfl, ?_⟩
    rw [HZ2.out]
    exact ⟨by rw [HCH.out], G9.out⟩
   | ok p =>
    obtain ⟨ns, r6⟩ := p
    rw [hx] at HL HZ2
    clear hx
    go_wp2_with fail
    refine HL.out.mono ?_
    intro e w6 hp
    obtain ⟨⟨v6, rfl, hs6⟩, hr6, g6⟩ := hp
    obtain ⟨Gn, cn, rfl, -⟩ := hs6.form
    have hw6 := HW5.out.next hr6 g6
    have e3' := hw6.t.1 3 _ rfl
    have f3' := hw6.t.2.1 3 (by simp)
    have hTW := HW5.out.TW
    have HW7 := Lib.hid (hw6.set (i := 3) (.slice Gn ns.length cn) (by simp))
    have HS7 := Lib.hid (sat_set (i := 3) hs6 hTW (.slice Gn ns.length cn))
    have HLL := Lib.hid (list_tok b (.slice G all.length cap) F all r6 _ hn HW7.out.rd)
    have HZ3 : Hid (Rz = bnd (listP r6) fun ks r => .ok (⟨6, M, P, ns, ks, false, 0, []⟩, r)) := HZ2.out
    clear hs6 hr6 g6 hw6 HL HZ2
    cases hx : listP r6 with
    | error p =>
     obtain ⟨kk, c⟩ := p
     rw [hx] at HLL HZ3
     clear hx
     go_wp2_with fail
     refine HLL.out.mono ?_
     intro e w9 hp
     obtain ⟨ch, rfl, HCH, g9⟩ := hp.err
     have G9 := Lib.hid (Go.Lib.grownBy_trans HW7.out.gr g9)
     clear g9 hp
     go_wp2_with fail
     refine ⟨rfl, ?_⟩
     rw [HZ3.out]
     exact ⟨by rw [HCH.out], G9.out⟩
    | ok p =>
     obtain ⟨ks, r8⟩ := p
     rw [hx] at HLL HZ3
     clear hx
     go_wp2_with fail
     refine HLL.out.mono ?_
     intro e w8 hp
     obtain ⟨⟨v8, rfl, hs8⟩, hr8, g8⟩ := hp
     obtain ⟨Gk, ck, rfl, -⟩ := hs8.form
     have hw8 := HW7.out.next hr8 g8
     have e4' := hw8.t.1 4 _ rfl
     have f4' := hw8.t.2.1 4 (by simp)
     have hTW8 := HW7.out.TW
     have HW9 := Lib.hid (hw8.set (i := 4) (.slice Gk ks.length ck) (by simp))
     have hs7' := sat_set (i := 4) (sat_read HS7.out g8 (by have := HW5.out.bN; have := HW5.out.NT; omega)) hTW (.slice Gk ks.length ck)
     have HREP : Hid ((cTst (m' + 1)).rep (w8.setCell ⟨T, 4, none⟩ (.slice Gk ks.length ck)) (fun x => w.heap.size ≤ x ∧ x ≠ N) ⟨6, M, P, ns, ks, false, 0, []⟩ [.int .i64 6, .int .i64 M, .int .i64 P, .slice Gn ns.length cn, .slice Gk ks.length ck, .bool false, .int .i64 0, .slice none 0 0]) := ⟨_, _, _, rfl, sat_new hs7' (by have := HW5.out.NT; omega) HW5.out.N0, sat_new (sat_set hs8 hTW8 _) (by have := HW5.out.NT; omega) HW5.out.N0, SAt.nil _ _ _⟩
     clear hs8 hr8 g8 hw8 HLL hTW hTW8 hs7' e3' f3'
     go_upto_region 28 with fail
     clear e4' f4'
     obtain ⟨e0, e1, e2, e3, e4, e5, e6, e7⟩ := has_oct' HW9.out.t
     obtain ⟨r0, r1, r2, r3, r4, r5, r6, r7⟩ := has_oct' HW9.out.res
     have f0 := HW9.out.res.2.1 0 (by simp [res8]); have f1 := HW9.out.res.2.1 1 (by simp [res8]); have f2 := HW9.out.res.2.1 2 (by simp [res8]); have f3 := HW9.out.res.2.1 3 (by simp [res8])
     have f4 := HW9.out.res.2.1 4 (by simp [res8]); have f5 := HW9.out.res.2.1 5 (by simp [res8]); have f6 := HW9.out.res.2.1 6 (by simp [res8]); have f7 := HW9.out.res.2.1 7 (by simp [res8])
     have hfin := agg_put8 HW9.out HREP.out
     obtain ⟨x0, x1, x2, x3, x4, x5, x6, x7⟩ := has_oct' hfin.1
     have HANS := Lib.hid hfin.2
     unfold put8 at x0 x1 x2 x3 x4 x5 x6 x7 HANS
     clear hfin
     go_wp2_with fail
     refine bodyPost_ret (v := .agg #[.int .i64 6, .int .i64 M, .int .i64 P, .slice Gn ns.length cn, .slice Gk ks.length ck, .bool false, .int .i64 0, .slice none 0 0]) ?_ rfl ?_
     ·simp [results, Tryz.results133, go_sem, x0, x1, x2, x3, x4, x5, x6, x7]
     ·rw [HZ3.out]; exact HANS.out
 ·go_enter Tryz.func133, Tryz.ntmps133
  go_wp2_with fail
  go_quiet (fail)
  go_wp2_with fail
  refine (HWT.out _ (belowDrewN _ nq)).mono ?_
  intro e w2 hp
  obtain ⟨he, hr2, g2⟩ := hp
  have he' : e = .returned (.int .i64 7) := he
  subst he'
  have H0 : Hid (RB w (w2.alloc (.cells #[.int .i64 7, .int .i64 0, .int .i64 0, .slice none 0 0, .slice none 0 0, .bool false, .int .i64 0, .slice none 0 0] 158)) b w2.heap.size w.heap.size (.slice G all.length cap) F all r [.int .i64 7, .int .i64 0, .int .i64 0, .slice none 0 0, .slice none 0 0, .bool false, .int .i64 0, .slice none 0 0]) := by
   have hb2 := ba (Below.refl w2.heap.size w2) (.cells #[.int .i64 7, .int .i64 0, .int .i64 0, .slice none 0 0, .slice none 0 0, .bool false, .int .i64 0, .slice none 0 0] 158)
   have g3 := Go.Lib.grownBy_trans (gBelow (bt HAL.out (belowDrewN _ nq)) b) g2
   have hs2 := g2.size
   have hr9 : Has w2 w.heap.size res8 := (HRS.out.down (belowDrewN _ nq)).kept g2 (fun e => by have := Option.some.inj e; omega)
   exact ⟨hr2.below hb2, Has.alloc w2 _ _, hr9.down hb2, Go.Lib.grownBy_below g3 hb2, hbl, hr9.2.2, Nat.le_refl _⟩
  clear he hr2 g2 HWT HAL HRS c0 c1
  go_upto_region 4 with fail
  refine wp_at (R := fun W => RB w W b w2.heap.size w.heap.size (.slice G all.length cap) F all r [.int .i64 7, .int .i64 0, .int .i64 0, .slice none 0 0, .slice none 0 0, .bool false, .int .i64 0, .slice none 0 0]) H0.out (fun W hW => ?_)
  clear H0
  generalize w2.heap.size = T at hW ⊢
  obtain ⟨N, hN⟩ : ∃ N, N = w.heap.size := ⟨_, rfl⟩
  rw [← hN] at hW ⊢
  have HN := Lib.hid hN
  clear hN
  obtain ⟨e0, e1, e2, e3, e4, e5, e6, e7⟩ := has_oct' hW.t
  have HW := Lib.hid hW
  clear hW
  have HTG := Lib.hid (tags_any 7 7 b T (.slice G all.length cap) F all r W rfl hn HW.out.rd HW.out.t (by have := HW.out.bN; have := HW.out.NT; omega) (HTAB.out.below (grown_low HW.out.gr (Nat.le_of_lt hbl))))
  have HZ : Hid (Rz = bnd (tagsP r.length 7 0 0 r) fun mp r => bnd (listP r) fun ns r => bnd (listP r) fun ks r => .ok (⟨7, dfl mp.1, if (7 : Nat) = 6 then 0 else dfl mp.2, ns, ks, false, 0, []⟩, r)) := HRZ.out
  clear HRZ
  cases hx : tagsP r.length 7 0 0 r with
  | error p =>
   obtain ⟨kk, c⟩ := p
   rw [hx] at HTG HZ
   clear hx
   go_wp2_with fail
   refine HTG.out.mono ?_
   intro e w9 hp
   obtain ⟨ch, rfl, HCH, g9⟩ := hp
   have G9 := Lib.hid (g9.out HW.out.gr (by have := HW.out.NT; have := HW.out.N0; omega))
   clear g9
   go_wp2_with fail
   refine ⟨rfl, ?_⟩
   rw [HZ.out]
   exact ⟨by rw [HCH.out], G9.out⟩
  | ok p =>
   obtain ⟨mp, r5⟩ := p
   have h6 := trivial
   rw [hx] at HTG HZ
   obtain ⟨M, hM⟩ : ∃ M : Int, M = ((dfl mp.1 : Nat) : Int) := ⟨_, rfl⟩
   obtain ⟨P, hP⟩ : ∃ P : Int, P = (((if (7 : Nat) = 6 then mp.2 else dfl mp.2) : Nat) : Int) := ⟨_, rfl⟩
   have HZ2 : Hid (Rz = bnd (listP r5) fun ns r => bnd (listP r) fun ks r => .ok (⟨7, M, P, ns, ks, false, 0, []⟩, r)) := by
    unfold Hid
    rw [HZ.out]
    show (bnd (listP r5) fun ns r => bnd (listP r) fun ks r => (.ok ((⟨7, ((dfl mp.1 : Nat) : Int), (if (7 : Nat) = 6 then (0 : Int) else ((dfl mp.2 : Nat) : Int)), ns, ks, false, 0, []⟩ : Tst), r) : PR Tst)) = _
    have e1 := trivial
    rw [hM, hP]
    rfl
   have HM := Lib.hid hM; have HP := Lib.hid hP
   clear hx h6 hM hP HZ
   go_wp2_with fail
   refine HTG.out.mono ?_
   intro e w5 hp
   obtain ⟨rfl, hr5, ht5, g5⟩ := hp
   have ht5' : Has w5 T [.int .i64 7, .int .i64 M, .int .i64 P, .slice none 0 0, .slice none 0 0, .bool false, .int .i64 0, .slice none 0 0] := by rw [HM.out, HP.out]; exact ht5
   have HW5 := Lib.hid (HW.out.tags hr5 ht5' g5)
   have HL := Lib.hid (list_tok b (.slice G all.length cap) F all r5 w5 hn hr5)
   clear hr5 ht5 ht5' g5 HTG HM HP e0 e1 e2 e3 e4 e5 e6 e7
   cases hx : listP r5 with
   | error p =>
    obtain ⟨kk, c⟩ := p
    rw [hx] at HL HZ2
    clear hx
    go_wp2_with fail
    refine HL.out.mono ?_
    intro e w9 hp
    obtain ⟨ch, rfl, HCH, g9⟩ := hp.err
    have G9 := Lib.hid (Go.Lib.grownBy_trans HW5.out.gr g9)
    clear g9 hp
    go_wp2_with fail
    refine ⟨rfl, ?_⟩
    rw [HZ2.out]
    exact ⟨by rw [HCH.out], G9.out⟩
   | ok p =>
    obtain ⟨ns, r6⟩ := p
    rw [hx] at HL HZ2
    clear hx
    go_wp2_with fail
    refine HL.out.mono ?_
    intro e w6 hp
    obtain ⟨⟨v6, rfl, hs6⟩, hr6, g6⟩ := hp
    obtain ⟨Gn, cn, rfl, -⟩ := hs6.form
    have hw6 := HW5.out.next hr6 g6
    have e3' := hw6.t.1 3 _ rfl
    have f3' := hw6.t.2.1 3 (by simp)
    have hTW := HW5.out.TW
    have HW7 := Lib.hid (hw6.set (i := 3) (.slice Gn ns.length cn) (by simp))
    have HS7 := Lib.hid (sat_set (i := 3) hs6 hTW (.slice Gn ns.length cn))
    have HLL := Lib.hid (list_tok b (.slice G all.length cap) F all r6 _ hn HW7.out.rd)
    have HZ3 : Hid (Rz = bnd (listP r6) fun ks r => .ok (⟨7, M, P, ns, ks, false, 0, []⟩, r)) := HZ2.out
    clear hs6 hr6 g6 hw6 HL HZ2
    cases hx : listP r6 with
    | error p =>
     obtain ⟨kk, c⟩ := p
     rw [hx] at HLL HZ3
     clear hx
     go_wp2_with fail
     refine HLL.out.mono ?_
     intro e w9 hp
     obtain ⟨ch, rfl, HCH, g9⟩ := hp.err
     have G9 := Lib.hid (Go.Lib.grownBy_trans HW7.out.gr g9)
     clear g9 hp
     go_wp2_with fail
     refine ⟨rfl, ?_⟩
     rw [HZ3.out]
     exact ⟨by rw [HCH.out], G9.out⟩
    | ok p =>
     obtain ⟨ks, r8⟩ := p
     rw [hx] at HLL HZ3
     clear hx
     go_wp2_with fail
     refine HLL.out.mono ?_
     intro e w8 hp
     obtain ⟨⟨v8, rfl, hs8⟩, hr8, g8⟩ := hp
     obtain ⟨Gk, ck, rfl, -⟩ := hs8.form
     have hw8 := HW7.out.next hr8 g8
     have e4' := hw8.t.1 4 _ rfl
     have f4' := hw8.t.2.1 4 (by simp)
     have hTW8 := HW7.out.TW
     have HW9 := Lib.hid (hw8.set (i := 4) (.slice Gk ks.length ck) (by simp))
     have hs7' := sat_set (i := 4) (sat_read HS7.out g8 (by have := HW5.out.bN; have := HW5.out.NT; omega)) hTW (.slice Gk ks.length ck)
     have HREP : Hid ((cTst (m' + 1)).rep (w8.setCell ⟨T, 4, none⟩ (.slice Gk ks.length ck)) (fun x => w.heap.size ≤ x ∧ x ≠ N) ⟨7, M, P, ns, ks, false, 0, []⟩ [.int .i64 7, .int .i64 M, .int .i64 P, .slice Gn ns.length cn, .slice Gk ks.length ck, .bool false, .int .i64 0, .slice none 0 0]) := ⟨_, _, _, rfl, sat_new hs7' (by have := HW5.out.NT; omega) HW5.out.N0, sat_new (sat_set hs8 hTW8 _) (by have := HW5.out.NT; omega) HW5.out.N0, SAt.nil _ _ _⟩
     clear hs8 hr8 g8 hw8 HLL hTW hTW8 hs7' e3' f3'
     go_upto_region 28 with fail
     clear e4' f4'
     obtain ⟨e0, e1, e2, e3, e4, e5, e6, e7⟩ := has_oct' HW9.out.t
     obtain ⟨r0, r1, r2, r3, r4, r5, r6, r7⟩ := has_oct' HW9.out.res
     have f0 := HW9.out.res.2.1 0 (by simp [res8]); have f1 := HW9.out.res.2.1 1 (by simp [res8]); have f2 := HW9.out.res.2.1 2 (by simp [res8]); have f3 := HW9.out.res.2.1 3 (by simp [res8])
     have f4 := HW9.out.res.2.1 4 (by simp [res8]); have f5 := HW9.out.res.2.1 5 (by simp [res8]); have f6 := HW9.out.res.2.1 6 (by simp [res8]); have f7 := HW9.out.res.2.1 7 (by simp [res8])
     have hfin := agg_put8 HW9.out HREP.out
     obtain ⟨x0, x1, x2, x3, x4, x5, x6, x7⟩ := has_oct' hfin.1
     have HANS := Lib.hid hfin.2
     unfold put8 at x0 x1 x2 x3 x4 x5 x6 x7 HANS
     clear hfin
     go_wp2_with fail
     refine bodyPost_ret (v := .agg #[.int .i64 7, .int .i64 M, .int .i64 P, .slice Gn ns.length cn, .slice Gk ks.length ck, .bool false, .int .i64 0, .slice none 0 0]) ?_ rfl ?_
     ·simp [results, Tryz.results133, go_sem, x0, x1, x2, x3, x4, x5, x6, x7]
     ·rw [HZ3.out]; exact HANS.out
 ·go_enter Tryz.func133, Tryz.ntmps133
  go_wp2_with fail
  go_quiet (fail)
  go_wp2_with fail
  refine (HWT.out _ (belowDrewN _ nq)).mono ?_
  intro e w2 hp
  obtain ⟨he, hr2, g2⟩ := hp
  have he' : e = .returned (.int .i64 8) := he
  subst he'
  have H0 : Hid (RB w (w2.alloc (.cells #[.int .i64 8, .int .i64 0, .int .i64 0, .slice none 0 0, .slice none 0 0, .bool false, .int .i64 0, .slice none 0 0] 158)) b w2.heap.size w.heap.size (.slice G all.length cap) F all r [.int .i64 8, .int .i64 0, .int .i64 0, .slice none 0 0, .slice none 0 0, .bool false, .int .i64 0, .slice none 0 0]) := by
   have hb2 := ba (Below.refl w2.heap.size w2) (.cells #[.int .i64 8, .int .i64 0, .int .i64 0, .slice none 0 0, .slice none 0 0, .bool false, .int .i64 0, .slice none 0 0] 158)
   have g3 := Go.Lib.grownBy_trans (gBelow (bt HAL.out (belowDrewN _ nq)) b) g2
   have hs2 := g2.size
   have hr9 : Has w2 w.heap.size res8 := (HRS.out.down (belowDrewN _ nq)).kept g2 (fun e => by have := Option.some.inj e; omega)
   exact ⟨hr2.below hb2, Has.alloc w2 _ _, hr9.down hb2, Go.Lib.grownBy_below g3 hb2, hbl, hr9.2.2, Nat.le_refl _⟩
  clear he hr2 g2 HWT HAL HRS c0 c1
  go_upto_region 4 with fail
  refine wp_at (R := fun W => RB w W b w2.heap.size w.heap.size (.slice G all.length cap) F all r [.int .i64 8, .int .i64 0, .int .i64 0, .slice none 0 0, .slice none 0 0, .bool false, .int .i64 0, .slice none 0 0]) H0.out (fun W hW => ?_)
  clear H0
  generalize w2.heap.size = T at hW ⊢
  obtain ⟨N, hN⟩ : ∃ N, N = w.heap.size := ⟨_, rfl⟩
  rw [← hN] at hW ⊢
  have HN := Lib.hid hN
  clear hN
  obtain ⟨e0, e1, e2, e3, e4, e5, e6, e7⟩ := has_oct' hW.t
  have HW := Lib.hid hW
  clear hW
  have HTG := Lib.hid (tags_any 8 8 b T (.slice G all.length cap) F all r W rfl hn HW.out.rd HW.out.t (by have := HW.out.bN; have := HW.out.NT; omega) (HTAB.out.below (grown_low HW.out.gr (Nat.le_of_lt hbl))))
  have HZ : Hid (Rz = bnd (tagsP r.length 8 0 0 r) fun mp r => bnd (listP r) fun ns r => bnd (listP r) fun ks r => .ok (⟨8, dfl mp.1, if (8 : Nat) = 6 then 0 else dfl mp.2, ns, ks, false, 0, []⟩, r)) := HRZ.out
  clear HRZ
  cases hx : tagsP r.length 8 0 0 r with
  | error p =>
   obtain ⟨kk, c⟩ := p
   rw [hx] at HTG HZ
   clear hx
   go_wp2_with fail
   refine HTG.out.mono ?_
   intro e w9 hp
   obtain ⟨ch, rfl, HCH, g9⟩ := hp
   have G9 := Lib.hid (g9.out HW.out.gr (by have := HW.out.NT; have := HW.out.N0; omega))
   clear g9
   go_wp2_with fail
   refine ⟨rfl, ?_⟩
   rw [HZ.out]
   exact ⟨by rw [HCH.out], G9.out⟩
  | ok p =>
   obtain ⟨mp, r5⟩ := p
   have h6 := trivial
   rw [hx] at HTG HZ
   obtain ⟨M, hM⟩ : ∃ M : Int, M = ((dfl mp.1 : Nat) : Int) := ⟨_, rfl⟩
   obtain ⟨P, hP⟩ : ∃ P : Int, P = (((if (8 : Nat) = 6 then mp.2 else dfl mp.2) : Nat) : Int) := ⟨_, rfl⟩
   have HZ2 : Hid (Rz = bnd (listP r5) fun ns r => bnd (listP r) fun ks r => .ok (⟨8, M, P, ns, ks, false, 0, []⟩, r)) := by
    unfold Hid
    rw [HZ.out]
    show (bnd (listP r5) fun ns r => bnd (listP r) fun ks r => (.ok ((⟨8, ((dfl mp.1 : Nat) : Int), (if (8 : Nat) = 6 then (0 : Int) else ((dfl mp.2 : Nat) : Int)), ns, ks, false, 0, []⟩ : Tst), r) : PR Tst)) = _
    have e1 := trivial
    rw [hM, hP]
    rfl
   have HM := Lib.hid hM; have HP := Lib.hid hP
   clear hx h6 hM hP HZ
   go_wp2_with fail
   refine HTG.out.mono ?_
   intro e w5 hp
   obtain ⟨rfl, hr5, ht5, g5⟩ := hp
   have ht5' : Has w5 T [.int .i64 8, .int .i64 M, .int .i64 P, .slice none 0 0, .slice none 0 0, .bool false, .int .i64 0, .slice none 0 0] := by rw [HM.out, HP.out]; exact ht5
   have HW5 := Lib.hid (HW.out.tags hr5 ht5' g5)
   have HL := Lib.hid (list_tok b (.slice G all.length cap) F all r5 w5 hn hr5)
   clear hr5 ht5 ht5' g5 HTG HM HP e0 e1 e2 e3 e4 e5 e6 e7
   cases hx : listP r5 with
   | error p =>
    obtain ⟨kk, c⟩ := p
    rw [hx] at HL HZ2
    clear hx
    go_wp2_with fail
    refine HL.out.mono ?_
    intro e w9 hp
    obtain ⟨ch, rfl, HCH, g9⟩ := hp.err
    have G9 := Lib.hid (Go.Lib.grownBy_trans HW5.out.gr g9)
    clear g9 hp
    go_wp2_with fail
    refine ⟨rfl, ?_⟩
    rw [HZ2.out]
    exact ⟨by rw [HCH.out], G9.out⟩
   | ok p =>
    obtain ⟨ns, r6⟩ := p
    rw [hx] at HL HZ2
    clear hx
    go_wp2_with fail
    refine HL.out.mono ?_
    intro e w6 hp
    obtain ⟨⟨v6, rfl, hs6⟩, hr6, g6⟩ := hp
    obtain ⟨Gn, cn, rfl, -⟩ := hs6.form
    have hw6 := HW5.out.next hr6 g6
    have e3' := hw6.t.1 3 _ rfl
    have f3' := hw6.t.2.1 3 (by simp)
    have hTW := HW5.out.TW
    have HW7 := Lib.hid (hw6.set (i := 3) (.slice Gn ns.length cn) (by simp))
    have HS7 := Lib.hid (sat_set (i := 3) hs6 hTW (.slice Gn ns.length cn))
    have HLL := Lib.hid (list_tok b (.slice G all.length cap) F all r6 _ hn HW7.out.rd)
    have HZ3 : Hid (Rz = bnd (listP r6) fun ks r => .ok (⟨8, M, P, ns, ks, false, 0, []⟩, r)) := HZ2.out
    clear hs6 hr6 g6 hw6 HL HZ2
    cases hx : listP r6 with
    | error p =>
     obtain ⟨kk, c⟩ := p
     rw [hx] at HLL HZ3
     clear hx
     go_wp2_with fail
     refine HLL.out.mono ?_
     intro e w9 hp
     obtain ⟨ch, rfl, HCH, g9⟩ := hp.err
     have G9 := Lib.hid (Go.Lib.grownBy_trans HW7.out.gr g9)
     clear g9 hp
     go_wp2_with fail
     refine ⟨rfl, ?_⟩
     rw [HZ3.out]
     exact ⟨by rw [HCH.out], G9.out⟩
    | ok p =>
     obtain ⟨ks, r8⟩ := p
     rw [hx] at HLL HZ3
     clear hx
     go_wp2_with fail
     refine HLL.out.mono ?_
     intro e w8 hp
     obtain ⟨⟨v8, rfl, hs8⟩, hr8, g8⟩ := hp
     obtain ⟨Gk, ck, rfl, -⟩ := hs8.form
     have hw8 := HW7.out.next hr8 g8
     have e4' := hw8.t.1 4 _ rfl
     have f4' := hw8.t.2.1 4 (by simp)
     have hTW8 := HW7.out.TW
     have HW9 := Lib.hid (hw8.set (i := 4) (.slice Gk ks.length ck) (by simp))
     have hs7' := sat_set (i := 4) (sat_read HS7.out g8 (by have := HW5.out.bN; have := HW5.out.NT; omega)) hTW (.slice Gk ks.length ck)
     have HREP : Hid ((cTst (m' + 1)).rep (w8.setCell ⟨T, 4, none⟩ (.slice Gk ks.length ck)) (fun x => w.heap.size ≤ x ∧ x ≠ N) ⟨8, M, P, ns, ks, false, 0, []⟩ [.int .i64 8, .int .i64 M, .int .i64 P, .slice Gn ns.length cn, .slice Gk ks.length ck, .bool false, .int .i64 0, .slice none 0 0]) := ⟨_, _, _, rfl, sat_new hs7' (by have := HW5.out.NT; omega) HW5.out.N0, sat_new (sat_set hs8 hTW8 _) (by have := HW5.out.NT; omega) HW5.out.N0, SAt.nil _ _ _⟩
     clear hs8 hr8 g8 hw8 HLL hTW hTW8 hs7' e3' f3'
     go_upto_region 28 with fail
     clear e4' f4'
     obtain ⟨e0, e1, e2, e3, e4, e5, e6, e7⟩ := has_oct' HW9.out.t
     obtain ⟨r0, r1, r2, r3, r4, r5, r6, r7⟩ := has_oct' HW9.out.res
     have f0 := HW9.out.res.2.1 0 (by simp [res8]); have f1 := HW9.out.res.2.1 1 (by simp [res8]); have f2 := HW9.out.res.2.1 2 (by simp [res8]); have f3 := HW9.out.res.2.1 3 (by simp [res8])
     have f4 := HW9.out.res.2.1 4 (by simp [res8]); have f5 := HW9.out.res.2.1 5 (by simp [res8]); have f6 := HW9.out.res.2.1 6 (by simp [res8]); have f7 := HW9.out.res.2.1 7 (by simp [res8])
     have hfin := agg_put8 HW9.out HREP.out
     obtain ⟨x0, x1, x2, x3, x4, x5, x6, x7⟩ := has_oct' hfin.1
     have HANS := Lib.hid hfin.2
     unfold put8 at x0 x1 x2 x3 x4 x5 x6 x7 HANS
     clear hfin
     go_wp2_with fail
     refine bodyPost_ret (v := .agg #[.int .i64 8, .int .i64 M, .int .i64 P, .slice Gn ns.length cn, .slice Gk ks.length ck, .bool false, .int .i64 0, .slice none 0 0]) ?_ rfl ?_
     ·simp [results, Tryz.results133, go_sem, x0, x1, x2, x3, x4, x5, x6, x7]
     ·rw [HZ3.out]; exact HANS.out
end Go.Proofs.YtmkppkjikifdlaaGreatDoor.Sc
