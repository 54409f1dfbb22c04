/- On the way. -/
import Derived.Test.YtmkppkjikifdlaaGreatDoorTScRd6
import Derived.Test.YtmkppkjikifdlaaGreatDoorTScCmds
set_option linter.unusedVariables false
set_option linter.unusedSimpArgs false
set_option maxHeartbeats 8000000
set_option maxRecDepth 20000
namespace Go.Proofs.YtmkppkjikifdlaaGreatDoor.Sc
open Go.RowKit
open Tk (Tok)
theorem test_size_p (n : Nat) (dI : Int) (d m b k : Nat) (v : Value) (F : Dom) (all l r : List Tok) (w : World) (hdI : dI = d) (hm : d + m = 8) (hn : all.length ≤ 100000) (h : RL w b v F all l) (hTab : Tabs w b) 
    (hg : ¬ (6 < d ∧ l ≠ [])) (hw : wordP tstTab l = .ok (k, r)) (hk : k = 10) :
    Calls Tryz.prog 133 #[.pointer (some ⟨b, 0, none⟩), .int .i64 dI] w (Ans (TstR m w.heap.size) b v F all w (testP (n + 1) d l)) := by
 obtain ⟨Rz, hRz⟩ : ∃ Rz, Rz = testP (n + 1) d l := ⟨_, rfl⟩
 rw [← hRz]
 rw [testP, if_neg hg, hw] at hRz
 have HRZ : Hid (Rz = testK (testP n (d + 1)) k r) := hRz
 have hl0 : l ≠ [] := by rintro rfl; cases hw
 have hd6 : d ≤ 6 := by
  by_cases e : 6 < d
  ·exact absurd ⟨e, hl0⟩ hg
  ·omega
 obtain ⟨m', rfl⟩ : ∃ m', m = m' + 1 := ⟨m - 1, by omega⟩
 have hal := ba (Below.refl w.heap.size w) (.cells #[.int .i64 0, .int .i64 0, .int .i64 0, .slice none 0 0, .slice none 0 0, .bool false, .int .i64 0, .slice none 0 0] 158)
 have HAL := Lib.hid hal
 have hbl := h.lt
 have hres := Has.alloc w [.int .i64 0, .int .i64 0, .int .i64 0, .slice none 0 0, .slice none 0 0, .bool false, .int .i64 0, .slice none 0 0] 158
 have HRS := Lib.hid hres
 have h1 := h.below hal
 have hrln := h1.len
 have hTab1 := hTab.down (Nat.le_of_lt hbl) hal
 obtain ⟨p, hl1, hr1⟩ := h1
 obtain ⟨G, cap, rfl, hlen, -⟩ := hr1.facts hl1
 have c0 := hr1.c0
 have c1 := hr1.c1
 have hpos : (0 : Int) ≤ p := by omega
 have hwt := fun W (hb : Below (w.alloc (.cells #[.int .i64 0, .int .i64 0, .int .i64 0, .slice none 0 0, .slice none 0 0, .bool false, .int .i64 0, .slice none 0 0] 158)).heap.size (w.alloc (.cells #[.int .i64 0, .int .i64 0, .int .i64 0, .slice none 0 0, .slice none 0 0, .bool false, .int .i64 0, .slice none 0 0] 158)) W) => word_tok b 3 tstTab 11 (.slice G all.length cap) F all l W hn ⟨p, hl1, hr1.below hb⟩ ((hTab1.down (Nat.le_of_lt hr1.lt) hb).t) hTab.low.1 rfl (by decide)
 have hls := less_word tstTab l
 rw [hw] at hwt hls
 have hrl : r.length + 1 ≤ l.length := hls
 have HWT := Lib.hid hwt
 have HTAB := Lib.hid hTab
 have q1 : decide (6 < dI) = false := decide_eq_false (by omega)
 have HDI := Lib.hid hdI
 clear hRz hal h hl1 hr1 hlen hg hw hwt hls hres hTab hTab1 hl0 hdI
 subst hk
 go_enter Tryz.func133, Tryz.ntmps133
 go_wp2_with fail
 go_quiet (fail)
 go_wp2_with fail
 refine (HWT.out _ (belowDrewN _ nq)).mono ?_
 intro e w2 hp
 obtain ⟨he, hr2, g2⟩ := hp
 have he' : e = .returned (.int .i64 10) := he
 subst he'
 have H0 : Hid (RB w (w2.alloc (.cells #[.int .i64 10, .int .i64 0, .int .i64 0, .slice none 0 0, .slice none 0 0, .bool false, .int .i64 0, .slice none 0 0] 158)) b w2.heap.size w.heap.size (.slice G all.length cap) F all r [.int .i64 10, .int .i64 0, .int .i64 0, .slice none 0 0, .slice none 0 0, .bool false, .int .i64 0, .slice none 0 0]) := by
  have hb2 := ba (Below.refl w2.heap.size w2) (.cells #[.int .i64 10, .int .i64 0, .int .i64 0, .slice none 0 0, .slice none 0 0, .bool false, .int .i64 0, .slice none 0 0] 158)
  have g3 := Go.Lib.grownBy_trans (gBelow (bt HAL.out (belowDrewN _ nq)) b) g2
  have hs2 := g2.size
  have hr9 : Has w2 w.heap.size res8 := (HRS.out.down (belowDrewN _ nq)).kept g2 (fun e => by have := Option.some.inj e; omega)
  exact ⟨hr2.below hb2, Has.alloc w2 _ _, hr9.down hb2, Go.Lib.grownBy_below g3 hb2, hbl, hr9.2.2, Nat.le_refl _⟩
 clear he hr2 g2 HWT HAL HRS c0 c1
 go_upto_region 4 with fail
 refine wp_at (R := fun W => RB w W b w2.heap.size w.heap.size (.slice G all.length cap) F all r [.int .i64 10, .int .i64 0, .int .i64 0, .slice none 0 0, .slice none 0 0, .bool false, .int .i64 0, .slice none 0 0]) H0.out (fun W hW => ?_)
 clear H0
 generalize w2.heap.size = T at hW ⊢
 obtain ⟨N, hN⟩ : ∃ N, N = w.heap.size := ⟨_, rfl⟩
 rw [← hN] at hW ⊢
 have HN := Lib.hid hN
 clear hN
 obtain ⟨e0, e1, e2, e3, e4, e5, e6, e7⟩ := has_oct' hW.t
 have HW := Lib.hid hW
 clear hW
 obtain ⟨p1, hl1, hr1⟩ := HW.out.rd
 have HI1 : Hid (Calls Tryz.prog 135 #[.pointer (some ⟨b, 0, none⟩), .int .i64 2, .string ⟨#[111, 118, 101, 114]⟩] W fun e w' => e = .returned (.bool (isP 2 overW r)) ∧ Below W.heap.size W w') := is_any b p1 _ F all r 2 overW W hn hl1 hr1
 have HI2 : Hid (∀ V, RT V b (.slice G all.length cap) F all p1 → Calls Tryz.prog 135 #[.pointer (some ⟨b, 0, none⟩), .int .i64 2, .string ⟨#[117, 110, 100, 101, 114]⟩] V fun e w' => e = .returned (.bool (isP 2 underW r)) ∧ Below V.heap.size V w') := fun V hV => is_any b p1 _ F all r 2 underW V hn hl1 hV
 have HZ : Hid (Rz = if isP 2 overW r = true ∨ isP 2 underW r = true then bnd (nextP 3 r.tail) fun t r' => .ok (⟨10, 0, 0, [], [], isP 2 overW r, t.num, []⟩, r') else giveP r 3) := HRZ.out
 have HL1 := Lib.hid hl1; have HR1 := Lib.hid hr1
 have hp1 : p1 ≤ 100000 := by have := hl1.1; omega
 have HCO := Lib.hid (isP_cons (k := 2) (s := overW) (l := r)); have HCU := Lib.hid (isP_cons (k := 2) (s := underW) (l := r))
 obtain ⟨o, ho⟩ : ∃ o, o = isP 2 overW r := ⟨_, rfl⟩
 obtain ⟨u, hu⟩ : ∃ u, u = isP 2 underW r := ⟨_, rfl⟩
 rw [← ho] at HI1 HZ HCO
 rw [← hu] at HI2 HZ HCU
 clear hl1 hr1 HRZ ho hu
 cases o with
 | true =>
  obtain ⟨t, q, rfl, -, -⟩ := HCO.out rfl
  have HZ2 : Hid (Rz = bnd (nextP 3 q) fun t r' => .ok (⟨10, 0, 0, [], [], true, t.num, []⟩, r')) := by unfold Hid; rw [HZ.out, if_pos (.inl rfl)]; rfl
  clear HZ

  go_wp2_with fail
  refine HI1.out.mono ?_
  rintro e w4 ⟨rfl, hb4⟩
  have hw4 := HW.out.down hb4
  have e5' := hw4.t.1 5 _ rfl
  have f5' := hw4.t.2.1 5 (by simp)
  have hw5 := hw4.set (i := 5) (.bool true) (by simp)
  have hr5 := (HR1.out.below hb4).far (N := T) (i := 5) (by have := HW.out.bN; have := HW.out.NT; omega) (.bool true)
  have c1' := hr5.c1
  have f1' := hr5.f1
  have HV := Lib.hid (hw5.step HL1.out)
  have HNX := Lib.hid (next_tok b (.slice G all.length cap) F all q 3 _ hn HV.out.rd)
  clear hb4 hw4 hw5 hr5 HI1 e0 e1 e2 e3 e4 e5 e6 e7
  cases hx : nextP 3 q with
  | error p =>
   obtain ⟨kk, c⟩ := p
   rw [hx] at HNX HZ2
   clear hx
   go_wp2_with fail
   refine HNX.out.mono ?_
   intro e w9 hp
   obtain ⟨ch, rfl, HCH, g9⟩ := hp.err
   have G9 := Lib.hid (Go.Lib.grownBy_trans HV.out.gr g9)
   clear g9 hp
   go_wp2_with fail
   refine ⟨rfl, ?_⟩
   rw [HZ2.out]
   exact ⟨by rw [HCH.out], G9.out⟩
  | ok p =>
   obtain ⟨⟨kt, st, nt⟩, r5⟩ := p
   rw [hx] at HNX HZ2
   have hfld := fun w => tok_num kt nt ⟨st.toArray⟩ w
   have HZ3 : Hid (Rz = .ok (⟨10, 0, 0, [], [], true, nt, []⟩, r5)) := HZ2.out
   clear hx HZ2
   go_wp2_with fail
   refine HNX.out.mono ?_
   intro e w5 hp
   obtain ⟨rfl, hr5, g5⟩ := hp
   have hw5 := HV.out.next hr5 g5
   have e6' := hw5.t.1 6 _ rfl
   have f6' := hw5.t.2.1 6 (by simp)
   have HW9 := Lib.hid (hw5.set (i := 6) (.int .i64 nt) (by simp))
   have HREP : Hid ((cTst (m' + 1)).rep (w5.setCell ⟨T, 6, none⟩ (.int .i64 nt)) (fun x => w.heap.size ≤ x ∧ x ≠ N) ⟨10, 0, 0, [], [], true, nt, []⟩ [.int .i64 10, .int .i64 0, .int .i64 0, .slice none 0 0, .slice none 0 0, .bool true, .int .i64 nt, .slice none 0 0]) := ⟨_, _, _, rfl, SAt.nil _ _ _, SAt.nil _ _ _, SAt.nil _ _ _⟩
   clear hr5 g5 hw5 HNX
   go_upto_region 28 with fail
   clear e6' f6' hfld
   obtain ⟨e0, e1, e2, e3, e4, e5, e6, e7⟩ := has_oct' HW9.out.t
   obtain ⟨r0, r1, r2, r3, r4, r5, r6, r7⟩ := has_oct' HW9.out.res
   have f0 := HW9.out.res.2.1 0 (by simp [res8]); have f1 := HW9.out.res.2.1 1 (by simp [res8]); have f2 := HW9.out.res.2.1 2 (by simp [res8]); have f3 := HW9.out.res.2.1 3 (by simp [res8])
   have f4 := HW9.out.res.2.1 4 (by simp [res8]); have f5 := HW9.out.res.2.1 5 (by simp [res8]); have f6 := HW9.out.res.2.1 6 (by simp [res8]); have f7 := HW9.out.res.2.1 7 (by simp [res8])
   have hfin := agg_put8 HW9.out HREP.out
   obtain ⟨x0, x1, x2, x3, x4, x5, x6, x7⟩ := has_oct' hfin.1
   have HANS := Lib.hid hfin.2
   unfold put8 at x0 x1 x2 x3 x4 x5 x6 x7 HANS
   clear hfin
   go_wp2_with fail
   refine bodyPost_ret (v := .agg #[.int .i64 10, .int .i64 0, .int .i64 0, .slice none 0 0, .slice none 0 0, .bool true, .int .i64 nt, .slice none 0 0]) ?_ rfl ?_
   ·simp [results, Tryz.results133, go_sem, x0, x1, x2, x3, x4, x5, x6, x7]
   ·rw [HZ3.out]; exact HANS.out

 | false =>
  cases u with
  | true =>
   obtain ⟨t, q, rfl, -, -⟩ := HCU.out rfl
   have HZ2 : Hid (Rz = bnd (nextP 3 q) fun t r' => .ok (⟨10, 0, 0, [], [], false, t.num, []⟩, r')) := by unfold Hid; rw [HZ.out, if_pos (.inr rfl)]; rfl
   clear HZ

   go_wp2_with fail
   refine HI1.out.mono ?_
   rintro e w4 ⟨rfl, hb4⟩
   have hw4 := HW.out.down hb4
   have e5' := hw4.t.1 5 _ rfl
   have f5' := hw4.t.2.1 5 (by simp)
   have HW5 := Lib.hid (hw4.set (i := 5) (.bool false) (by simp))
   have hr5 := (HR1.out.below hb4).far (N := T) (i := 5) (by have := HW.out.bN; have := HW.out.NT; omega) (.bool false)
   have HR5 := Lib.hid hr5
   have HI3 := Lib.hid (HI2.out _ hr5)
   clear hb4 hw4 hr5 HI1 HI2 e0 e1 e2 e3 e4 e5 e6 e7
   go_wp2_with fail
   refine HI3.out.mono ?_
   rintro e w6 ⟨rfl, hb6⟩
   have hr6 := HR5.out.below hb6
   have c1' := hr6.c1
   have f1' := hr6.f1
   have HV := Lib.hid ((HW5.out.down hb6).step HL1.out)
   have HNX := Lib.hid (next_tok b (.slice G all.length cap) F all q 3 _ hn HV.out.rd)
   clear hb6 hr6 HI3 e5' f5'
   cases hx : nextP 3 q with
   | error p =>
    obtain ⟨kk, c⟩ := p
    rw [hx] at HNX HZ2
    clear hx
    go_wp2_with fail
    refine HNX.out.mono ?_
    intro e w9 hp
    obtain ⟨ch, rfl, HCH, g9⟩ := hp.err
    have G9 := Lib.hid (Go.Lib.grownBy_trans HV.out.gr g9)
    clear g9 hp
    go_wp2_with fail
    refine ⟨rfl, ?_⟩
    rw [HZ2.out]
    exact ⟨by rw [HCH.out], G9.out⟩
   | ok p =>
    obtain ⟨⟨kt, st, nt⟩, r5⟩ := p
    rw [hx] at HNX HZ2
    have hfld := fun w => tok_num kt nt ⟨st.toArray⟩ w
    have HZ3 : Hid (Rz = .ok (⟨10, 0, 0, [], [], false, nt, []⟩, r5)) := HZ2.out
    clear hx HZ2
    go_wp2_with fail
    refine HNX.out.mono ?_
    intro e w5 hp
    obtain ⟨rfl, hr5, g5⟩ := hp
    have hw5 := HV.out.next hr5 g5
    have e6' := hw5.t.1 6 _ rfl
    have f6' := hw5.t.2.1 6 (by simp)
    have HW9 := Lib.hid (hw5.set (i := 6) (.int .i64 nt) (by simp))
    have HREP : Hid ((cTst (m' + 1)).rep (w5.setCell ⟨T, 6, none⟩ (.int .i64 nt)) (fun x => w.heap.size ≤ x ∧ x ≠ N) ⟨10, 0, 0, [], [], false, nt, []⟩ [.int .i64 10, .int .i64 0, .int .i64 0, .slice none 0 0, .slice none 0 0, .bool false, .int .i64 nt, .slice none 0 0]) := ⟨_, _, _, rfl, SAt.nil _ _ _, SAt.nil _ _ _, SAt.nil _ _ _⟩
    clear hr5 g5 hw5 HNX
    go_upto_region 28 with fail
    clear e6' f6' hfld
    obtain ⟨e0, e1, e2, e3, e4, e5, e6, e7⟩ := has_oct' HW9.out.t
    obtain ⟨r0, r1, r2, r3, r4, r5, r6, r7⟩ := has_oct' HW9.out.res
    have f0 := HW9.out.res.2.1 0 (by simp [res8]); have f1 := HW9.out.res.2.1 1 (by simp [res8]); have f2 := HW9.out.res.2.1 2 (by simp [res8]); have f3 := HW9.out.res.2.1 3 (by simp [res8])
    have f4 := HW9.out.res.2.1 4 (by simp [res8]); have f5 := HW9.out.res.2.1 5 (by simp [res8]); have f6 := HW9.out.res.2.1 6 (by simp [res8]); have f7 := HW9.out.res.2.1 7 (by simp [res8])
    have hfin := agg_put8 HW9.out HREP.out
    obtain ⟨x0, x1, x2, x3, x4, x5, x6, x7⟩ := has_oct' hfin.1
    have HANS := Lib.hid hfin.2
    unfold put8 at x0 x1 x2 x3 x4 x5 x6 x7 HANS
    clear hfin
    go_wp2_with fail
    refine bodyPost_ret (v := .agg #[.int .i64 10, .int .i64 0, .int .i64 0, .slice none 0 0, .slice none 0 0, .bool false, .int .i64 nt, .slice none 0 0]) ?_ rfl ?_
    ·simp [results, Tryz.results133, go_sem, x0, x1, x2, x3, x4, x5, x6, x7]
    ·rw [HZ3.out]; exact HANS.out

  | false =>
   have HZ2 : Hid (Rz = .error (r.length, if r.length = 0 then 4 else 3)) := by unfold Hid; rw [HZ.out, if_neg (by decide)]; rfl
   go_wp2_with fail
   refine HI1.out.mono ?_
   rintro e w4 ⟨rfl, hb4⟩
   have hw4 := HW.out.down hb4
   have e5' := hw4.t.1 5 _ rfl
   have f5' := hw4.t.2.1 5 (by simp)
   have HW5 := Lib.hid (hw4.set (i := 5) (.bool false) (by simp))
   have hr5 := (HR1.out.below hb4).far (N := T) (i := 5) (by have := HW.out.bN; have := HW.out.NT; omega) (.bool false)
   have HR5 := Lib.hid hr5
   have HI3 := Lib.hid (HI2.out _ hr5)
   clear hb4 hw4 hr5 HI1 HI2 e0 e1 e2 e3 e4 e5 e6 e7
   go_wp2_with fail
   refine HI3.out.mono ?_
   rintro e w6 ⟨rfl, hb6⟩
   have HW6 := Lib.hid (HW5.out.down hb6)
   have HGV := Lib.hid (give_any b p1 _ F all r 3 w6 (by decide) hn HL1.out (HR5.out.below hb6))
   clear hb6 HI3 e5' f5'
   go_wp2_with fail
   refine HGV.out.mono ?_
   rintro e w7 ⟨ch, rfl, HCH, hb7⟩
   have G7 := Lib.hid ((HW6.out.down hb7).gr)
   clear hb7
   go_wp2_with fail
   refine ⟨rfl, ?_⟩
   rw [HZ2.out]
   exact ⟨by rw [HCH.out], G7.out⟩
theorem test_not_p (n : Nat) (dI : Int) (d m b k : Nat) (v : Value) (F : Dom) (all l r : List Tok) (w : World) (hdI : dI = d) (hm : d + m = 8) (hn : all.length ≤ 100000) (h : RL w b v F all l) (hTab : Tabs w b) (IH : TestN n) (hln : l.length < n + 1)
    (hg : ¬ (6 < d ∧ l ≠ [])) (hw : wordP tstTab l = .ok (k, r)) (hk : k = 3) :
    Calls Tryz.prog 133 #[.pointer (some ⟨b, 0, none⟩), .int .i64 dI] w (Ans (TstR m w.heap.size) b v F all w (testP (n + 1) d l)) := by
 obtain ⟨Rz, hRz⟩ : ∃ Rz, Rz = testP (n + 1) d l := ⟨_, rfl⟩
 rw [← hRz]
 rw [testP, if_neg hg, hw] at hRz
 have HRZ : Hid (Rz = testK (testP n (d + 1)) k r) := hRz
 have hl0 : l ≠ [] := by rintro rfl; cases hw
 have hd6 : d ≤ 6 := by
  by_cases e : 6 < d
  ·exact absurd ⟨e, hl0⟩ hg
  ·omega
 obtain ⟨m', rfl⟩ : ∃ m', m = m' + 1 := ⟨m - 1, by omega⟩
 have hal := ba (Below.refl w.heap.size w) (.cells #[.int .i64 0, .int .i64 0, .int .i64 0, .slice none 0 0, .slice none 0 0, .bool false, .int .i64 0, .slice none 0 0] 158)
 have HAL := Lib.hid hal
 have hbl := h.lt
 have hres := Has.alloc w [.int .i64 0, .int .i64 0, .int .i64 0, .slice none 0 0, .slice none 0 0, .bool false, .int .i64 0, .slice none 0 0] 158
 have HRS := Lib.hid hres
 have h1 := h.below hal
 have hrln := h1.len
 have hTab1 := hTab.down (Nat.le_of_lt hbl) hal
 obtain ⟨p, hl1, hr1⟩ := h1
 obtain ⟨G, cap, rfl, hlen, -⟩ := hr1.facts hl1
 have c0 := hr1.c0
 have c1 := hr1.c1
 have hpos : (0 : Int) ≤ p := by omega
 have hwt := fun W (hb : Below (w.alloc (.cells #[.int .i64 0, .int .i64 0, .int .i64 0, .slice none 0 0, .slice none 0 0, .bool false, .int .i64 0, .slice none 0 0] 158)).heap.size (w.alloc (.cells #[.int .i64 0, .int .i64 0, .int .i64 0, .slice none 0 0, .slice none 0 0, .bool false, .int .i64 0, .slice none 0 0] 158)) W) => word_tok b 3 tstTab 11 (.slice G all.length cap) F all l W hn ⟨p, hl1, hr1.below hb⟩ ((hTab1.down (Nat.le_of_lt hr1.lt) hb).t) hTab.low.1 rfl (by decide)
 have hls := less_word tstTab l
 rw [hw] at hwt hls
 have hrl : r.length + 1 ≤ l.length := hls
 have HWT := Lib.hid hwt
 have HTAB := Lib.hid hTab
 have q1 : decide (6 < dI) = false := decide_eq_false (by omega)
 have HDI := Lib.hid hdI
 clear hRz hal h hl1 hr1 hlen hg hw hwt hls hres hTab hTab1 hl0 hdI
 have HIH := Lib.hid (IH (dI + 1) (d + 1) m' b (.slice G all.length cap) F all r)
 have hdr : r.length < n := by omega
 clear IH
 subst hk
 go_enter Tryz.func133, Tryz.ntmps133
 go_wp2_with fail
 go_quiet (fail)
 go_wp2_with fail
 refine (HWT.out _ (belowDrewN _ nq)).mono ?_
 intro e w2 hp
 obtain ⟨he, hr2, g2⟩ := hp
 have he' : e = .returned (.int .i64 3) := he
 subst he'
 have H0 : Hid (RB w (w2.alloc (.cells #[.int .i64 3, .int .i64 0, .int .i64 0, .slice none 0 0, .slice none 0 0, .bool false, .int .i64 0, .slice none 0 0] 158)) b w2.heap.size w.heap.size (.slice G all.length cap) F all r [.int .i64 3, .int .i64 0, .int .i64 0, .slice none 0 0, .slice none 0 0, .bool false, .int .i64 0, .slice none 0 0]) := by
  have hb2 := ba (Below.refl w2.heap.size w2) (.cells #[.int .i64 3, .int .i64 0, .int .i64 0, .slice none 0 0, .slice none 0 0, .bool false, .int .i64 0, .slice none 0 0] 158)
  have g3 := Go.Lib.grownBy_trans (gBelow (bt HAL.out (belowDrewN _ nq)) b) g2
  have hs2 := g2.size
  have hr9 : Has w2 w.heap.size res8 := (HRS.out.down (belowDrewN _ nq)).kept g2 (fun e => by have := Option.some.inj e; omega)
  exact ⟨hr2.below hb2, Has.alloc w2 _ _, hr9.down hb2, Go.Lib.grownBy_below g3 hb2, hbl, hr9.2.2, Nat.le_refl _⟩
 clear he hr2 g2 HWT HAL HRS c0 c1
 go_upto_region 4 with fail
 refine wp_at (R := fun W => RB w W b w2.heap.size w.heap.size (.slice G all.length cap) F all r [.int .i64 3, .int .i64 0, .int .i64 0, .slice none 0 0, .slice none 0 0, .bool false, .int .i64 0, .slice none 0 0]) H0.out (fun W hW => ?_)
 clear H0
 generalize w2.heap.size = T at hW ⊢
 obtain ⟨N, hN⟩ : ∃ N, N = w.heap.size := ⟨_, rfl⟩
 rw [← hN] at hW ⊢
 have HN := Lib.hid hN
 clear hN
 obtain ⟨e0, e1, e2, e3, e4, e5, e6, e7⟩ := has_oct' hW.t
 have HW := Lib.hid hW
 clear hW
 have HC := Lib.hid (HIH.out W (by have := HDI.out; omega) (by omega) hn HW.out.rd (HTAB.out.below (grown_low HW.out.gr (Nat.le_of_lt hbl))) hdr)
 have HZ : Hid (Rz = bnd (testP n (d + 1) r) fun t r => .ok (⟨3, 0, 0, [], [], false, 0, [t]⟩, r)) := HRZ.out
 have hdw : IntKind.i64.wrap (dI + 1) = dI + 1 := IntWalk.i64_in _ (by have := HDI.out; omega)
 have hd0 : 0 ≤ dI := by have := HDI.out; omega
 have hd9 : dI ≤ 6 := by have := HDI.out; omega
 clear HRZ HIH
 cases hx : testP n (d + 1) r with
 | error p =>
  obtain ⟨kk, c⟩ := p
  rw [hx] at HC HZ
  clear hx
  go_wp2_with fail
  refine HC.out.mono ?_
  intro e w9 hp
  obtain ⟨ch, rfl, HCH, g9⟩ := hp.err
  have G9 := Lib.hid (Go.Lib.grownBy_trans HW.out.gr g9)
  clear g9 hp
  go_wp2_with fail
  refine ⟨rfl, ?_⟩
  rw [HZ.out]
  exact ⟨by rw [HCH.out], G9.out⟩
 | ok p =>
  obtain ⟨t, r5⟩ := p
  rw [hx] at HC HZ
  have HZ3 : Hid (Rz = .ok (⟨3, 0, 0, [], [], false, 0, [t]⟩, r5)) := HZ.out
  clear hx HZ
  go_wp2_with fail
  refine HC.out.mono ?_
  intro e w5 hp
  obtain ⟨⟨vs, rfl, hrep⟩, hr5, g5⟩ := hp
  obtain ⟨k1, m1, p1, G1, n1, c1', G2, n2, c2', o1, l1, G3, n3, c3', rfl⟩ := oct_form hrep
  have hal5 := ba (Below.refl w5.heap.size w5) (.cells #[.int .i64 k1, .int .i64 m1, .int .i64 p1, .slice G1 n1 c1', .slice G2 n2 c2', .bool o1, .int .i64 l1, .slice G3 n3 c3'] 158)
  have hw5 := (HW.out.next hr5 g5).down hal5
  have e7' := hw5.t.1 7 _ rfl
  have f7' := hw5.t.2.1 7 (by simp)
  have hTW := HW.out.TW
  have hTW5 : W.heap.size ≤ w5.heap.size := g5.size
  have hsa : SAt (cTst m') (w5.alloc (.cells #[.int .i64 k1, .int .i64 m1, .int .i64 p1, .slice G1 n1 c1', .slice G2 n2 c2', .bool o1, .int .i64 l1, .slice G3 n3 c3'] 158)) (fun x => W.heap.size ≤ x) (.slice (some ⟨w5.heap.size, 0, none⟩) 1 1) [t] :=
   (sat_one_tst (ty := 158) (tst_bd m' hrep)).mono (fun x hx => by rcases hx with hx | hx <;> omega)
  have HW9 := Lib.hid (hw5.set (i := 7) (.slice (some ⟨w5.heap.size, 0, none⟩) 1 1) (by simp))
  have HREP : Hid ((cTst (m' + 1)).rep ((w5.alloc (.cells #[.int .i64 k1, .int .i64 m1, .int .i64 p1, .slice G1 n1 c1', .slice G2 n2 c2', .bool o1, .int .i64 l1, .slice G3 n3 c3'] 158)).setCell ⟨T, 7, none⟩ (.slice (some ⟨w5.heap.size, 0, none⟩) 1 1)) (fun x => w.heap.size ≤ x ∧ x ≠ N) ⟨3, 0, 0, [], [], false, 0, [t]⟩ [.int .i64 3, .int .i64 0, .int .i64 0, .slice none 0 0, .slice none 0 0, .bool false, .int .i64 0, .slice (some ⟨w5.heap.size, 0, none⟩) 1 1]) := ⟨_, _, _, rfl, SAt.nil _ _ _, SAt.nil _ _ _, sat_new (sat_set hsa hTW _) (by have := HW.out.NT; omega) HW.out.N0⟩
  clear hrep hr5 g5 hal5 hw5 hsa hTW HC e0 e1 e2 e3 e4 e5 e6 e7
  go_upto_region 28 with fail
  generalize w5.heap.size = X at HW9 HREP ⊢
  clear e7' f7'
  obtain ⟨e0, e1, e2, e3, e4, e5, e6, e7⟩ := has_oct' HW9.out.t
  obtain ⟨r0, r1, r2, r3, r4, r5, r6, r7⟩ := has_oct' HW9.out.res
  have f0 := HW9.out.res.2.1 0 (by simp [res8]); have f1 := HW9.out.res.2.1 1 (by simp [res8]); have f2 := HW9.out.res.2.1 2 (by simp [res8]); have f3 := HW9.out.res.2.1 3 (by simp [res8])
  have f4 := HW9.out.res.2.1 4 (by simp [res8]); have f5 := HW9.out.res.2.1 5 (by simp [res8]); have f6 := HW9.out.res.2.1 6 (by simp [res8]); have f7 := HW9.out.res.2.1 7 (by simp [res8])
  have hfin := agg_put8 HW9.out HREP.out
  obtain ⟨x0, x1, x2, x3, x4, x5, x6, x7⟩ := has_oct' hfin.1
  have HANS := Lib.hid hfin.2
  unfold put8 at x0 x1 x2 x3 x4 x5 x6 x7 HANS
  clear hfin
  go_wp2_with fail
  refine bodyPost_ret (v := .agg #[.int .i64 3, .int .i64 0, .int .i64 0, .slice none 0 0, .slice none 0 0, .bool false, .int .i64 0, .slice (some ⟨X, 0, none⟩) 1 1]) ?_ rfl ?_
  ·simp [results, Tryz.results133, go_sem, x0, x1, x2, x3, x4, x5, x6, x7]
  ·rw [HZ3.out]; exact HANS.out
end Go.Proofs.YtmkppkjikifdlaaGreatDoor.Sc
