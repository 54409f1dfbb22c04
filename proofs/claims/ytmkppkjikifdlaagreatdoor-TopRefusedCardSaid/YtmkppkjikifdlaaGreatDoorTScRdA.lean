/- On the way. -/
import Derived.Test.YtmkppkjikifdlaaGreatDoorTScRd8
set_option linter.unusedVariables false
set_option linter.unusedSimpArgs false
set_option maxHeartbeats 8000000
set_option maxRecDepth 20000
namespace Go.Proofs.YtmkppkjikifdlaaGreatDoor.Sc
open Go.RowKit
open Tk (Tok)
theorem share {p q : Prop} (h : p → q) (hp : p) : q := h hp
theorem aQ : (∀ (a : Act) (d : Option Tmp) (v : Value), a.put d v = match d with | some d => { a with tmps := a.tmps.setIfInBounds d v } | none => a) ∧ (∀ (l : List Value) (i : Nat) (x : Value), l.toArray.setIfInBounds i x = (l.set i x).toArray) ∧ (∀ (x y : Value) (l : List Value), (x :: l).set 0 y = y :: l) ∧ ∀ (x y : Value) (l : List Value) (i : Nat), (x :: l).set (i + 1) y = x :: l.set i y := ⟨fun _ _ _ => rfl, fun _ _ _ => List.setIfInBounds_toArray .., fun _ _ _ => rfl, fun _ _ _ _ => rfl⟩
theorem tkA {P : Program} {md : Region.Mode} {ops : Array Oper} {Q : Exit → Act → World → Prop} (i : Nat) {oi : Oper} {v : Value} {fuel : Nat} {listed : Array Bool} {a a' : Act} {w : World} (hi : ops[i]? = some oi) (h : wpAny P md ops Q fuel (listed.setIfInBounds i true) a' w)
    (hy : ∀ w, (execOp a.eval oi).run P w = .ok (.value v) w := by intro w'; (go_simp) <;> with_reducible rfl) (hs : Region.noSelect ops = true := by kernel_rfl) (hf : Region.free md ops listed i = true := by kernel_rfl) (hr : (Region.ready md ops listed).contains i = true := by kernel_rfl)
    (hQ : ∀ c a w, Q (.panic c) (a.put oi.dst v) w → Q (.panic c) a w := by intro _ _ _ h; exact h) (hw : Region.wanted oi (yielded ops a.tmps) = true := by rfl) (ha : a.put oi.dst v = a' := by (try simp only [aQ]); rfl) : wpAny P md ops Q (fuel + 1) listed a w := wpAny_take hi hs hf hr hQ (Or.inl ⟨hw, hy⟩) (ha ▸ h)
theorem rdA {P : Program} {md : Region.Mode} {ops : Array Oper} {Q : Exit → Act → World → Prop} (rs : List Nat) {fuel : Nat} {listed : Array Bool} {a : Act} {w : World} (h : AllReady P md ops Q fuel listed a w rs) (hr : Region.ready md ops listed = rs := by kernel_rfl) (hne : rs ≠ [] := by simp) : wpAny P md ops Q (fuel + 1) listed a w := wpAny_ready hr hne h
theorem lsA {P : Program} {md : Region.Mode} {ops : Array Oper} {Q : Exit → Act → World → Prop} {fuel : Nat} {listed : Array Bool} {a : Act} {w : World} (l : Array Bool) (h : wpAny P md ops Q fuel l a w) (hl : l = listed := by kernel_rfl) : wpAny P md ops Q fuel listed a w := hl ▸ h
theorem Ans.split {α : Type} {R : α → World → Ending → Prop} {b : Nat} {v : Value} {F : Dom} {all : List Tok} {w w' : World} {x : PR α} {e : Ending} (h : Ans R b v F all w x e w') :
    (∃ k c ch, x = .error (k, c) ∧ e = .panicked ch ∧ Hid (ch = wrongC all k c) ∧ w.grownBy w' (some b)) ∨ ∃ a r, x = .ok (a, r) ∧ R a w' e ∧ RL w' b v F all r ∧ w.grownBy w' (some b) := by
 cases x with
 | error p => exact .inl ⟨_, _, _, rfl, h.1, rfl, h.2⟩
 | ok p => exact .inr ⟨_, _, rfl, h⟩
theorem bnd_bad {α β : Type} {z : PR β} {x : PR α} {f : α → List Tok → PR β} {p : Nat × Int} (hz : z = bnd x f) (hx : x = .error p) : z = .error p := by rw [hz, hx]; rfl
theorem new_tst (V : World) {s : Nat} (h : s ≤ V.heap.size) : ∃ X, X = V.heap.size ∧ Below V.heap.size V (V.alloc (.cells #[.int .i64 0, .int .i64 0, .int .i64 0, .slice none 0 0, .slice none 0 0, .bool false, .int .i64 0, .slice none 0 0] 158)) ∧ Has (V.alloc (.cells #[.int .i64 0, .int .i64 0, .int .i64 0, .slice none 0 0, .slice none 0 0, .bool false, .int .i64 0, .slice none 0 0] 158)) X [.int .i64 0, .int .i64 0, .int .i64 0, .slice none 0 0, .slice none 0 0, .bool false, .int .i64 0, .slice none 0 0] ∧ s ≤ X := ⟨_, rfl, ba (Below.refl V.heap.size V) _, Has.alloc V _ _, h⟩
theorem test_all_p (n : Nat) (dI : Int) (d m b k : Nat) (v : Value) (F : Dom) (all l r : List Tok) (w : World) (hdI : dI = d) (hm : d + m = 8) (hn : all.length ≤ 100000) (h : RL w b v F all l) (hTab : Tabs w b) (IH : TestN n) (hln : l.length < n + 1)
    (hg : ¬ (6 < d ∧ l ≠ [])) (hw : wordP tstTab l = .ok (k, r)) (hk : k = 4 ∨ k = 5) :
    Calls Tryz.prog 133 #[.pointer (some ⟨b, 0, none⟩), .int .i64 dI] w (Ans (TstR m w.heap.size) b v F all w (testP (n + 1) d l)) := by
 obtain ⟨Rz, hRz⟩ : ∃ Rz, Rz = testP (n + 1) d l := ⟨_, rfl⟩
 rw [← hRz]
 rw [testP, if_neg hg, hw] at hRz
 have HRZ : Hid (Rz = testK (testP n (d + 1)) k r) := hRz
 have hl0 : l ≠ [] := by rintro rfl; cases hw
 have hd6 : d ≤ 6 := by
  by_cases e : 6 < d
  ·exact absurd ⟨e, hl0⟩ hg
  ·omega
 obtain ⟨m', rfl⟩ : ∃ m', m = m' + 1 := ⟨m - 1, by omega⟩
 have hal := ba (Below.refl w.heap.size w) (.cells #[.int .i64 0, .int .i64 0, .int .i64 0, .slice none 0 0, .slice none 0 0, .bool false, .int .i64 0, .slice none 0 0] 158)
 have HAL := Lib.hid hal
 have hbl := h.lt
 have hres := Has.alloc w [.int .i64 0, .int .i64 0, .int .i64 0, .slice none 0 0, .slice none 0 0, .bool false, .int .i64 0, .slice none 0 0] 158
 have HRS := Lib.hid hres
 have h1 := h.below hal
 have hrln := h1.len
 have hTab1 := hTab.down (Nat.le_of_lt hbl) hal
 obtain ⟨p, hl1, hr1⟩ := h1
 obtain ⟨G, cap, rfl, hlen, -⟩ := hr1.facts hl1
 have c0 := hr1.c0
 have c1 := hr1.c1
 have hpos : (0 : Int) ≤ p := by omega
 have hwt := fun W (hb : Below (w.alloc (.cells #[.int .i64 0, .int .i64 0, .int .i64 0, .slice none 0 0, .slice none 0 0, .bool false, .int .i64 0, .slice none 0 0] 158)).heap.size (w.alloc (.cells #[.int .i64 0, .int .i64 0, .int .i64 0, .slice none 0 0, .slice none 0 0, .bool false, .int .i64 0, .slice none 0 0] 158)) W) => word_tok b 3 tstTab 11 (.slice G all.length cap) F all l W hn ⟨p, hl1, hr1.below hb⟩ ((hTab1.down (Nat.le_of_lt hr1.lt) hb).t) hTab.low.1 rfl (by decide)
 have hls := less_word tstTab l
 rw [hw] at hwt hls
 have hrl : r.length + 1 ≤ l.length := hls
 have HWT := Lib.hid hwt
 have HTAB := Lib.hid hTab
 have q1 : decide (6 < dI) = false := decide_eq_false (by omega)
 have HDI := Lib.hid hdI
 clear hRz hal h hl1 hr1 hlen hg hw hwt hls hres hTab hTab1 hl0 hdI
 have HIH : Hid (∀ (V : World) (q : List Tok), RL V b (.slice G all.length cap) F all q → w.grownBy V (some b) → q.length < n → Calls Tryz.prog 133 #[.pointer (some ⟨b, 0, none⟩), .int .i64 (dI + 1)] V (Ans (TstR m' V.heap.size) b (.slice G all.length cap) F all V (testP n (d + 1) q))) := fun V q h1 h2 h3 => IH (dI + 1) (d + 1) m' b _ F all q V (by have := HDI.out; omega) (by omega) hn h1 (HTAB.out.below (grown_low h2 (Nat.le_of_lt hbl))) h3
 have hdr : r.length < n := by omega
 clear IH
 have hdw : IntKind.i64.wrap (dI + 1) = dI + 1 := IntWalk.i64_in _ (by have := HDI.out; omega)
 have hd0 : 0 ≤ dI := by have := HDI.out; omega
 have hd9 : dI ≤ 6 := by have := HDI.out; omega
 obtain ⟨i0, hi, hz0, hz1, hz2⟩ := info_three info_tst
 have HI0 := Lib.hid hi; have HZ0 := Lib.hid hz0; have HZ1 := Lib.hid hz1; have HZ2 := Lib.hid hz2
 clear hi hz0 hz1 hz2
 obtain ⟨K, hKe⟩ : ∃ K : Int, K = k := ⟨_, rfl⟩
 have HZ : Hid (Rz = bnd (mustP 40 r) fun _ r => bnd (testP n (d + 1) r) fun t r => bnd (moreT (testP n (d + 1)) r.length r) fun ts r => bnd (mustP 41 r) fun _ r => .ok (⟨K, 0, 0, [], [], false, 0, t :: ts⟩, r)) := by
  unfold Hid; rw [HRZ.out, hKe]; unfold testK; rw [if_neg (by omega), if_pos (by omega)]
 clear HRZ
 have HKE : Hid (∀ j : Int, (k : Int) = j → K = j) := fun j h => hKe.trans h
 clear hKe
 rcases hk with rfl | rfl
 all_goals
  have k1 : (K == 1) = false := by rw [HKE.out _ rfl]; rfl
  have k2 : (K == 2) = false := by rw [HKE.out _ rfl]; rfl
  have k3 : (K == 3) = false := by rw [HKE.out _ rfl]; rfl
  first
   | (have k4 : (K == 4) = true := by rw [HKE.out _ rfl]; rfl)
   | (have k4 : (K == 4) = false := by rw [HKE.out _ rfl]; rfl
      have k5 : (K == 5) = true := by rw [HKE.out _ rfl]; rfl)
  go_enter Tryz.func133, Tryz.ntmps133
  go_wp2_with fail
  go_quiet (fail)
  go_wp2_with fail
  refine (HWT.out _ (belowDrewN _ nq)).mono ?_
  intro e w2 hp
  obtain ⟨he, hr2, g2⟩ := hp
  first
   | (have he' : e = .returned (.int .i64 4) := he; subst he')
   | (have he' : e = .returned (.int .i64 5) := he; subst he')
  have H0 : Hid (∀ j : Int, K = j → RB w (w2.alloc (.cells #[.int .i64 j, .int .i64 0, .int .i64 0, .slice none 0 0, .slice none 0 0, .bool false, .int .i64 0, .slice none 0 0] 158)) b w2.heap.size w.heap.size (.slice G all.length cap) F all r [.int .i64 K, .int .i64 0, .int .i64 0, .slice none 0 0, .slice none 0 0, .bool false, .int .i64 0, .slice none 0 0]) := by
   rintro j rfl
   have hb2 := ba (Below.refl w2.heap.size w2) (.cells #[.int .i64 K, .int .i64 0, .int .i64 0, .slice none 0 0, .slice none 0 0, .bool false, .int .i64 0, .slice none 0 0] 158)
   have g3 := Go.Lib.grownBy_trans (gBelow (bt HAL.out (belowDrewN _ nq)) b) g2
   have hs2 := g2.size
   have hr9 : Has w2 w.heap.size res8 := (HRS.out.down (belowDrewN _ nq)).kept g2 (fun e => by have := Option.some.inj e; omega)
   exact ⟨hr2.below hb2, Has.alloc w2 _ _, hr9.down hb2, Go.Lib.grownBy_below g3 hb2, hbl, hr9.2.2, Nat.le_refl _⟩
  clear he hr2 g2 HWT HAL HRS c0 c1
  go_upto_region 4 with fail
  refine wp_at (R := fun W => RB w W b w2.heap.size w.heap.size (.slice G all.length cap) F all r [.int .i64 K, .int .i64 0, .int .i64 0, .slice none 0 0, .slice none 0 0, .bool false, .int .i64 0, .slice none 0 0]) (H0.out _ (HKE.out _ rfl)) (fun W hW => ?_)
  clear H0
  generalize w2.heap.size = T at hW ⊢
  obtain ⟨N, hN⟩ : ∃ N, N = w.heap.size := ⟨_, rfl⟩
  rw [← hN] at hW ⊢
  have HN := Lib.hid hN
  clear hN
  obtain ⟨e0, e1, e2, e3, e4, e5, e6, e7⟩ := has_oct' hW.t
  have HW := Lib.hid hW
  clear hW
  have HMU := Lib.hid (must_any b (.slice G all.length cap) F all r 40 W hn HW.out.rd)
  have hlm := less_must 40 r
  cases hx : mustP 40 r with
  | error p =>
   obtain ⟨kk, c⟩ := p
   rw [hx] at HMU HZ
   clear hx hlm
   go_wp2_with fail
   refine HMU.out.mono ?_
   intro e w9 hp
   obtain ⟨ch, rfl, HCH, g9⟩ := hp.err
   have G9 := Lib.hid (Go.Lib.grownBy_trans HW.out.gr g9)
   clear g9 hp
   go_wp2_with fail
   refine ⟨rfl, ?_⟩
   rw [HZ.out]
   exact ⟨by rw [HCH.out], G9.out⟩
  | ok p =>
   obtain ⟨u, r1⟩ := p
   rw [hx] at HMU HZ hlm
   have hr1l : r1.length + 1 ≤ r.length := hlm
   have HZ1' : Hid (Rz = bnd (testP n (d + 1) r1) fun t r => bnd (moreT (testP n (d + 1)) r.length r) fun ts r => bnd (mustP 41 r) fun _ r => .ok (⟨K, 0, 0, [], [], false, 0, t :: ts⟩, r)) := HZ.out
   clear hx hlm HZ
   go_wp2_with fail
   refine HMU.out.mono ?_
   intro e w3 hp
   obtain ⟨rfl, hr3, g3⟩ := hp
   have HW3 := Lib.hid (HW.out.next hr3 g3)
   have HW0 : Hid (0 < w3.heap.size) := by unfold Hid; have := HW3.out.TW; omega
   have HW1 : Hid (T + 1 ≤ w3.heap.size) := HW3.out.TW
   have HBT : Hid (b < T) := by unfold Hid; have := HW.out.bN; have := HW.out.NT; omega
   clear hr3 g3 HMU e0 e1 e2 e3 e4 e5 e6 e7
   obtain ⟨Gt, hG0⟩ : ∃ Gt : Option Addr, Gt = none := ⟨_, rfl⟩
   obtain ⟨ct, hC0⟩ : ∃ ct : Nat, ct = 0 := ⟨_, rfl⟩
   obtain ⟨ps, hps⟩ : ∃ ps : Held Tst, ps = [] := ⟨_, rfl⟩
   have HP : Hid (P1 w w3 w3 b T N m' (.slice G all.length cap) F all r1 [.int .i64 K, .int .i64 0, .int .i64 0, .slice none 0 0, .slice none 0 0, .bool false, .int .i64 0, .slice Gt ps.length ct] (.slice Gt ps.length ct) ps) := by rw [hps, hG0, hC0]; exact ⟨HW3.out, ORow.nil _ _ _ _ _, Nat.le_refl _⟩
   have HVW : Hid (∀ x, (Value.slice Gt ps.length ct).ownBlock = some x → x < w3.heap.size) := fun x e => by rw [hG0] at e; cases e
   have HPL : Hid ((hcells ps).length = ps.length * 8) := HP.out.row.1.1 ▸ rfl
   have HPS := Lib.hid hps
   have hpl : ps.length ≤ 100001 := by rw [hps]; exact Nat.zero_le _
   clear hG0 hC0 hps
   have hls := less_test n (d + 1) r1
   have HC : Hid (∀ V, RL V b (.slice G all.length cap) F all r1 → w.grownBy V (some b) → Calls Tryz.prog 133 #[.pointer (some ⟨b, 0, none⟩), .int .i64 (dI + 1)] V (Ans (TstR m' V.heap.size) b (.slice G all.length cap) F all V (testP n (d + 1) r1))) := fun V h1 h2 => HIH.out V r1 h1 h2 (by omega)
   go_upto_region 10 with fail
   go_cut [] (fun wx => ∃ (t : Tst) (r2 : List Tok) (Gq : Option Addr) (cq : Nat) (pq : Held Tst), Hid (testP n (d + 1) r1 = .ok (t, r2)) ∧ RB w wx b T N (.slice G all.length cap) F all r2 [.int .i64 K, .int .i64 0, .int .i64 0, .slice none 0 0, .slice none 0 0, .bool false, .int .i64 0, .slice Gq pq.length cq] ∧ ORow (cTst m') 158 wx (T + 1) (DmB (T + 1) wx (.slice Gq pq.length cq)) (.slice Gq pq.length cq) pq ∧ pq.map Prod.fst = [t])
   case' first =>
    refine wp_region_panic (fun c w' => Ans (TstR (m' + 1) w.heap.size) b (.slice G all.length cap) F all w Rz (.panicked c) w') (fun c a w' hd h => ⟨hd, h⟩) ?_
    refine wp_region_any (by kernel_rfl) ?_
    refine tkA 0 ix0 ?_
    refine tkA 2 ix2 ?_
    refine tkA 3 ix3 ?_
    refine tkA 4 ix4 ?_
    apply share
    ·intro FIN
     refine any_at (R := fun V => P1 w w3 V b T N m' (.slice G all.length cap) F all r1 [.int .i64 K, .int .i64 0, .int .i64 0, .slice none 0 0, .slice none 0 0, .bool false, .int .i64 0, .slice Gt ps.length ct] (.slice Gt ps.length ct) ps) (HP.out.down (Below.drew (Below.refl _ _))) (fun V0 hV => ?_)
     refine rdA [1, 5, 7] ?_
     refine .cons ix1 (fun K' hK => ?_) ?_
     ·have e7' := hV.rb.t.1 7 _ rfl
      go_simp
      clear e7'
      refine hK _ _ ?_
      clear hK K'
      try simp only [aQ]
      refine tkA 6 ix6 ?_
      refine rdA [5, 7] ?_
      refine .cons ix5 (fun K' hK => ?_) ?_
      ·go_simp
       go_at_call 133
       refine ((HC.out _ hV.rb.rd (hV.rb.gr)).mono ?_)
       intro e w5 hp
       rcases hp.split with ⟨kk, c, ch, hx, rfl, HCH, g5⟩ | ⟨t, r2, hx, ⟨vs, rfl, hrep⟩, hr5, g5⟩
       ·have G5 := Lib.hid (Go.Lib.grownBy_trans hV.rb.gr g5)
        have HZX := Lib.hid (bnd_bad HZ1'.out hx)
        clear g5 hp hx
        go_wp2_with fail
        refine ⟨rfl, ?_⟩
        rw [HZX.out]
        exact ⟨by rw [HCH.out], G5.out⟩
       have HX := Lib.hid hx
       obtain ⟨k1, m1, p1, G1, n1, c1', G2, n2, c2', o1, l1, G3, n3, c3', rfl⟩ := oct_form hrep
       have hE0 : ElAt w3 w5 m' t [.int .i64 k1, .int .i64 m1, .int .i64 p1, .slice G1 n1 c1', .slice G2 n2 c2', .bool o1, .int .i64 l1, .slice G3 n3 c3'] := (cTst m').mono (tst_bd m' hrep) (fun x hx => ⟨Nat.le_trans hV.sz hx.1, hx.2⟩)
       have hV5 := hV.next hr5 g5
       clear hrep hr5 hx hp
       go_wp2_with fail
       try simp only [aQ]
       refine any_at (R := fun V => P1 w w3 V b T N m' (.slice G all.length cap) F all r2 [.int .i64 K, .int .i64 0, .int .i64 0, .slice none 0 0, .slice none 0 0, .bool false, .int .i64 0, .slice Gt ps.length ct] (.slice Gt ps.length ct) ps ∧ ElAt w3 V m' t [.int .i64 k1, .int .i64 m1, .int .i64 p1, .slice G1 n1 c1', .slice G2 n2 c2', .bool o1, .int .i64 l1, .slice G3 n3 c3']) ⟨hV5, hE0⟩ (fun V2 hV' => ?_)
       clear hV hV5 hE0 g5
       obtain ⟨hV, hE⟩ := hV'
       refine rdA [7] ?_
       refine .cons ix7 (fun K' hK => ?_) ?_
       ·go_simp
        refine hK _ _ ?_
        clear hK K'
        try simp only [aQ]
        obtain ⟨X, hXe, hal, hX0⟩ := new_tst V2 hV.sz
        rw [← hXe]
        refine any_at (R := fun V => P1 w w3 V b T N m' (.slice G all.length cap) F all r2 [.int .i64 K, .int .i64 0, .int .i64 0, .slice none 0 0, .slice none 0 0, .bool false, .int .i64 0, .slice Gt ps.length ct] (.slice Gt ps.length ct) ps ∧ ElAt w3 V m' t [.int .i64 k1, .int .i64 m1, .int .i64 p1, .slice G1 n1 c1', .slice G2 n2 c2', .bool o1, .int .i64 l1, .slice G3 n3 c3'] ∧ Has V X [.int .i64 0, .int .i64 0, .int .i64 0, .slice none 0 0, .slice none 0 0, .bool false, .int .i64 0, .slice none 0 0] ∧ w3.heap.size ≤ X) ⟨hV.down hal, hE.down hal HW0.out, hX0⟩ (fun V3 hV' => ?_)
        clear hal hX0 hXe hV hE
        obtain ⟨hV, hE, hX, hXW⟩ := hV'
        refine lsA #[true, true, true, true, true, true, true, true, false, false, false, false, false] ?_
        revert HX hV hE hX hXW
        revert t r2 k1 m1 p1 G1 n1 c1' G2 n2 c2' o1 l1 G3 n3 c3' X V3
        exact FIN
       exact .nil
      refine .cons ix7 (fun K' hK => ?_) ?_
      ·go_simp
       refine hK _ _ ?_
       clear hK K'
       try simp only [aQ]
       obtain ⟨X, hXe, hal, hX0⟩ := new_tst V0 hV.sz
       rw [← hXe]
       refine any_at (R := fun V => P1 w w3 V b T N m' (.slice G all.length cap) F all r1 [.int .i64 K, .int .i64 0, .int .i64 0, .slice none 0 0, .slice none 0 0, .bool false, .int .i64 0, .slice Gt ps.length ct] (.slice Gt ps.length ct) ps ∧ Has V X [.int .i64 0, .int .i64 0, .int .i64 0, .slice none 0 0, .slice none 0 0, .bool false, .int .i64 0, .slice none 0 0] ∧ w3.heap.size ≤ X) ⟨hV.down hal, hX0⟩ (fun V4 hV' => ?_)
       clear hal hX0 hXe hV
       obtain ⟨hV, hX, hXW⟩ := hV'
       refine rdA [5] ?_
       refine .cons ix5 (fun K' hK => ?_) ?_
       ·go_simp
        go_at_call 133
        refine ((HC.out _ hV.rb.rd (hV.rb.gr)).mono ?_)
        intro e w5 hp
        rcases hp.split with ⟨kk, c, ch, hx, rfl, HCH, g5⟩ | ⟨t, r2, hx, ⟨vs, rfl, hrep⟩, hr5, g5⟩
        ·have G5 := Lib.hid (Go.Lib.grownBy_trans hV.rb.gr g5)
         have HZX := Lib.hid (bnd_bad HZ1'.out hx)
         clear g5 hp hx
         go_wp2_with fail
         refine ⟨rfl, ?_⟩
         rw [HZX.out]
         exact ⟨by rw [HCH.out], G5.out⟩
        have HX := Lib.hid hx
        obtain ⟨k1, m1, p1, G1, n1, c1', G2, n2, c2', o1, l1, G3, n3, c3', rfl⟩ := oct_form hrep
        have hE0 : ElAt w3 w5 m' t [.int .i64 k1, .int .i64 m1, .int .i64 p1, .slice G1 n1 c1', .slice G2 n2 c2', .bool o1, .int .i64 l1, .slice G3 n3 c3'] := (cTst m').mono (tst_bd m' hrep) (fun x hx => ⟨Nat.le_trans hV.sz hx.1, hx.2⟩)
        have hV5 := hV.next hr5 g5
        have hX5 := hX.kept g5 (fun e => by have := Option.some.inj e; have := HW1.out; have := HBT.out; omega)
        clear hrep hr5 hx hp
        go_wp2_with fail
        try simp only [aQ]
        refine any_at (R := fun V => P1 w w3 V b T N m' (.slice G all.length cap) F all r2 [.int .i64 K, .int .i64 0, .int .i64 0, .slice none 0 0, .slice none 0 0, .bool false, .int .i64 0, .slice Gt ps.length ct] (.slice Gt ps.length ct) ps ∧ ElAt w3 V m' t [.int .i64 k1, .int .i64 m1, .int .i64 p1, .slice G1 n1 c1', .slice G2 n2 c2', .bool o1, .int .i64 l1, .slice G3 n3 c3'] ∧ Has V X [.int .i64 0, .int .i64 0, .int .i64 0, .slice none 0 0, .slice none 0 0, .bool false, .int .i64 0, .slice none 0 0] ∧ w3.heap.size ≤ X) ⟨hV5, hE0, hX5, hXW⟩ (fun V5 hV' => ?_)
        clear hV hV5 hE0 g5 hX hX5 hXW
        obtain ⟨hV, hE, hX, hXW⟩ := hV'
        refine lsA #[true, true, true, true, true, true, true, true, false, false, false, false, false] ?_
        apply FIN <;> assumption
       exact .nil
      exact .nil
     refine .cons ix5 (fun K' hK => ?_) ?_
     ·go_simp
      go_at_call 133
      refine ((HC.out _ hV.rb.rd (hV.rb.gr)).mono ?_)
      intro e w5 hp
      rcases hp.split with ⟨kk, c, ch, hx, rfl, HCH, g5⟩ | ⟨t, r2, hx, ⟨vs, rfl, hrep⟩, hr5, g5⟩
      ·have G5 := Lib.hid (Go.Lib.grownBy_trans hV.rb.gr g5)
       have HZX := Lib.hid (bnd_bad HZ1'.out hx)
       clear g5 hp hx
       go_wp2_with fail
       refine ⟨rfl, ?_⟩
       rw [HZX.out]
       exact ⟨by rw [HCH.out], G5.out⟩
      have HX := Lib.hid hx
      obtain ⟨k1, m1, p1, G1, n1, c1', G2, n2, c2', o1, l1, G3, n3, c3', rfl⟩ := oct_form hrep
      have hE0 : ElAt w3 w5 m' t [.int .i64 k1, .int .i64 m1, .int .i64 p1, .slice G1 n1 c1', .slice G2 n2 c2', .bool o1, .int .i64 l1, .slice G3 n3 c3'] := (cTst m').mono (tst_bd m' hrep) (fun x hx => ⟨Nat.le_trans hV.sz hx.1, hx.2⟩)
      have hV5 := hV.next hr5 g5
      clear hrep hr5 hx hp
      go_wp2_with fail
      try simp only [aQ]
      refine any_at (R := fun V => P1 w w3 V b T N m' (.slice G all.length cap) F all r2 [.int .i64 K, .int .i64 0, .int .i64 0, .slice none 0 0, .slice none 0 0, .bool false, .int .i64 0, .slice Gt ps.length ct] (.slice Gt ps.length ct) ps ∧ ElAt w3 V m' t [.int .i64 k1, .int .i64 m1, .int .i64 p1, .slice G1 n1 c1', .slice G2 n2 c2', .bool o1, .int .i64 l1, .slice G3 n3 c3']) ⟨hV5, hE0⟩ (fun V6 hV' => ?_)
      clear hV hV5 hE0 g5
      obtain ⟨hV, hE⟩ := hV'
      refine rdA [1, 7] ?_
      refine .cons ix1 (fun K' hK => ?_) ?_
      ·have e7' := hV.rb.t.1 7 _ rfl
       go_simp
       clear e7'
       refine hK _ _ ?_
       clear hK K'
       try simp only [aQ]
       refine tkA 6 ix6 ?_
       refine rdA [7] ?_
       refine .cons ix7 (fun K' hK => ?_) ?_
       ·go_simp
        refine hK _ _ ?_
        clear hK K'
        try simp only [aQ]
        obtain ⟨X, hXe, hal, hX0⟩ := new_tst V6 hV.sz
        rw [← hXe]
        refine any_at (R := fun V => P1 w w3 V b T N m' (.slice G all.length cap) F all r2 [.int .i64 K, .int .i64 0, .int .i64 0, .slice none 0 0, .slice none 0 0, .bool false, .int .i64 0, .slice Gt ps.length ct] (.slice Gt ps.length ct) ps ∧ ElAt w3 V m' t [.int .i64 k1, .int .i64 m1, .int .i64 p1, .slice G1 n1 c1', .slice G2 n2 c2', .bool o1, .int .i64 l1, .slice G3 n3 c3'] ∧ Has V X [.int .i64 0, .int .i64 0, .int .i64 0, .slice none 0 0, .slice none 0 0, .bool false, .int .i64 0, .slice none 0 0] ∧ w3.heap.size ≤ X) ⟨hV.down hal, hE.down hal HW0.out, hX0⟩ (fun V8 hV' => ?_)
        clear hal hX0 hXe hV hE
        obtain ⟨hV, hE, hX, hXW⟩ := hV'
        refine lsA #[true, true, true, true, true, true, true, true, false, false, false, false, false] ?_
        apply FIN <;> assumption
       exact .nil
      refine .cons ix7 (fun K' hK => ?_) ?_
      ·go_simp
       refine hK _ _ ?_
       clear hK K'
       try simp only [aQ]
       obtain ⟨X, hXe, hal, hX0⟩ := new_tst V6 hV.sz
       rw [← hXe]
       refine any_at (R := fun V => P1 w w3 V b T N m' (.slice G all.length cap) F all r2 [.int .i64 K, .int .i64 0, .int .i64 0, .slice none 0 0, .slice none 0 0, .bool false, .int .i64 0, .slice Gt ps.length ct] (.slice Gt ps.length ct) ps ∧ ElAt w3 V m' t [.int .i64 k1, .int .i64 m1, .int .i64 p1, .slice G1 n1 c1', .slice G2 n2 c2', .bool o1, .int .i64 l1, .slice G3 n3 c3'] ∧ Has V X [.int .i64 0, .int .i64 0, .int .i64 0, .slice none 0 0, .slice none 0 0, .bool false, .int .i64 0, .slice none 0 0] ∧ w3.heap.size ≤ X) ⟨hV.down hal, hE.down hal HW0.out, hX0⟩ (fun V9 hV' => ?_)
       clear hal hX0 hXe hV hE
       obtain ⟨hV, hE, hX, hXW⟩ := hV'
       refine rdA [1] ?_
       refine .cons ix1 (fun K' hK => ?_) ?_
       ·have e7' := hV.rb.t.1 7 _ rfl
        go_simp
        clear e7'
        refine hK _ _ ?_
        clear hK K'
        try simp only [aQ]
        refine tkA 6 ix6 ?_
        refine lsA #[true, true, true, true, true, true, true, true, false, false, false, false, false] ?_
        apply FIN <;> assumption
       exact .nil
      exact .nil
     refine .cons ix7 (fun K' hK => ?_) ?_
     ·go_simp
      refine hK _ _ ?_
      clear hK K'
      try simp only [aQ]
      obtain ⟨X, hXe, hal, hX0⟩ := new_tst V0 hV.sz
      rw [← hXe]
      refine any_at (R := fun V => P1 w w3 V b T N m' (.slice G all.length cap) F all r1 [.int .i64 K, .int .i64 0, .int .i64 0, .slice none 0 0, .slice none 0 0, .bool false, .int .i64 0, .slice Gt ps.length ct] (.slice Gt ps.length ct) ps ∧ Has V X [.int .i64 0, .int .i64 0, .int .i64 0, .slice none 0 0, .slice none 0 0, .bool false, .int .i64 0, .slice none 0 0] ∧ w3.heap.size ≤ X) ⟨hV.down hal, hX0⟩ (fun V11 hV' => ?_)
      clear hal hX0 hXe hV
      obtain ⟨hV, hX, hXW⟩ := hV'
      refine rdA [1, 5] ?_
      refine .cons ix1 (fun K' hK => ?_) ?_
      ·have e7' := hV.rb.t.1 7 _ rfl
       go_simp
       clear e7'
       refine hK _ _ ?_
       clear hK K'
       try simp only [aQ]
       refine tkA 6 ix6 ?_
       refine rdA [5] ?_
       refine .cons ix5 (fun K' hK => ?_) ?_
       ·go_simp
        go_at_call 133
        refine ((HC.out _ hV.rb.rd (hV.rb.gr)).mono ?_)
        intro e w5 hp
        rcases hp.split with ⟨kk, c, ch, hx, rfl, HCH, g5⟩ | ⟨t, r2, hx, ⟨vs, rfl, hrep⟩, hr5, g5⟩
        ·have G5 := Lib.hid (Go.Lib.grownBy_trans hV.rb.gr g5)
         have HZX := Lib.hid (bnd_bad HZ1'.out hx)
         clear g5 hp hx
         go_wp2_with fail
         refine ⟨rfl, ?_⟩
         rw [HZX.out]
         exact ⟨by rw [HCH.out], G5.out⟩
        have HX := Lib.hid hx
        obtain ⟨k1, m1, p1, G1, n1, c1', G2, n2, c2', o1, l1, G3, n3, c3', rfl⟩ := oct_form hrep
        have hE0 : ElAt w3 w5 m' t [.int .i64 k1, .int .i64 m1, .int .i64 p1, .slice G1 n1 c1', .slice G2 n2 c2', .bool o1, .int .i64 l1, .slice G3 n3 c3'] := (cTst m').mono (tst_bd m' hrep) (fun x hx => ⟨Nat.le_trans hV.sz hx.1, hx.2⟩)
        have hV5 := hV.next hr5 g5
        have hX5 := hX.kept g5 (fun e => by have := Option.some.inj e; have := HW1.out; have := HBT.out; omega)
        clear hrep hr5 hx hp
        go_wp2_with fail
        try simp only [aQ]
        refine any_at (R := fun V => P1 w w3 V b T N m' (.slice G all.length cap) F all r2 [.int .i64 K, .int .i64 0, .int .i64 0, .slice none 0 0, .slice none 0 0, .bool false, .int .i64 0, .slice Gt ps.length ct] (.slice Gt ps.length ct) ps ∧ ElAt w3 V m' t [.int .i64 k1, .int .i64 m1, .int .i64 p1, .slice G1 n1 c1', .slice G2 n2 c2', .bool o1, .int .i64 l1, .slice G3 n3 c3'] ∧ Has V X [.int .i64 0, .int .i64 0, .int .i64 0, .slice none 0 0, .slice none 0 0, .bool false, .int .i64 0, .slice none 0 0] ∧ w3.heap.size ≤ X) ⟨hV5, hE0, hX5, hXW⟩ (fun V13 hV' => ?_)
        clear hV hV5 hE0 g5 hX hX5 hXW
        obtain ⟨hV, hE, hX, hXW⟩ := hV'
        refine lsA #[true, true, true, true, true, true, true, true, false, false, false, false, false] ?_
        apply FIN <;> assumption
       exact .nil
      refine .cons ix5 (fun K' hK => ?_) ?_
      ·go_simp
       go_at_call 133
       refine ((HC.out _ hV.rb.rd (hV.rb.gr)).mono ?_)
       intro e w5 hp
       rcases hp.split with ⟨kk, c, ch, hx, rfl, HCH, g5⟩ | ⟨t, r2, hx, ⟨vs, rfl, hrep⟩, hr5, g5⟩
       ·have G5 := Lib.hid (Go.Lib.grownBy_trans hV.rb.gr g5)
        have HZX := Lib.hid (bnd_bad HZ1'.out hx)
        clear g5 hp hx
        go_wp2_with fail
        refine ⟨rfl, ?_⟩
        rw [HZX.out]
        exact ⟨by rw [HCH.out], G5.out⟩
       have HX := Lib.hid hx
       obtain ⟨k1, m1, p1, G1, n1, c1', G2, n2, c2', o1, l1, G3, n3, c3', rfl⟩ := oct_form hrep
       have hE0 : ElAt w3 w5 m' t [.int .i64 k1, .int .i64 m1, .int .i64 p1, .slice G1 n1 c1', .slice G2 n2 c2', .bool o1, .int .i64 l1, .slice G3 n3 c3'] := (cTst m').mono (tst_bd m' hrep) (fun x hx => ⟨Nat.le_trans hV.sz hx.1, hx.2⟩)
       have hV5 := hV.next hr5 g5
       have hX5 := hX.kept g5 (fun e => by have := Option.some.inj e; have := HW1.out; have := HBT.out; omega)
       clear hrep hr5 hx hp
       go_wp2_with fail
       try simp only [aQ]
       refine any_at (R := fun V => P1 w w3 V b T N m' (.slice G all.length cap) F all r2 [.int .i64 K, .int .i64 0, .int .i64 0, .slice none 0 0, .slice none 0 0, .bool false, .int .i64 0, .slice Gt ps.length ct] (.slice Gt ps.length ct) ps ∧ ElAt w3 V m' t [.int .i64 k1, .int .i64 m1, .int .i64 p1, .slice G1 n1 c1', .slice G2 n2 c2', .bool o1, .int .i64 l1, .slice G3 n3 c3'] ∧ Has V X [.int .i64 0, .int .i64 0, .int .i64 0, .slice none 0 0, .slice none 0 0, .bool false, .int .i64 0, .slice none 0 0] ∧ w3.heap.size ≤ X) ⟨hV5, hE0, hX5, hXW⟩ (fun V14 hV' => ?_)
       clear hV hV5 hE0 g5 hX hX5 hXW
       obtain ⟨hV, hE, hX, hXW⟩ := hV'
       refine rdA [1] ?_
       refine .cons ix1 (fun K' hK => ?_) ?_
       ·have e7' := hV.rb.t.1 7 _ rfl
        go_simp
        clear e7'
        refine hK _ _ ?_
        clear hK K'
        try simp only [aQ]
        refine tkA 6 ix6 ?_
        refine lsA #[true, true, true, true, true, true, true, true, false, false, false, false, false] ?_
        apply FIN <;> assumption
       exact .nil
      exact .nil
     exact .nil
    ·intro t r2 k1 m1 p1 G1 n1 c1' G2 n2 c2' o1 l1 G3 n3 c3' X V9 HX hV hE hX hXW
     refine rdA [8] ?_
     refine .cons ix8 (fun K' hK => ?_) .nil
     have HNW : Hid (∀ j u, ([.int .i64 0, .int .i64 0, .int .i64 0, .slice none 0 0, .slice none 0 0, .bool false, .int .i64 0, .slice none 0 0] : List Value)[j]? = some u → V9.cell? (Addr.add ⟨X, 0, none⟩ j) = some u) := fun j u hu => by rw [Addr.add_lit, Nat.zero_add]; exact hX.1 j u hu
     have HV := Lib.hid hV; have HE := Lib.hid hE
     have HTV : Hid (T + 1 ≤ V9.heap.size) := hV.rb.TW
     clear hV hE hX hXW
     refine step_append_lies _ (by rfl) _ _ _ (by rfl) (T + 1) 158 i0 _ 8 112 Tryz.underlying156 HI0.out HZ0.out HZ1.out HZ2.out rfl (by omega) (.slice Gt ps.length ct) ps.length (hcells ps) (by rfl) HV.out.row.1 ⟨X, 0, none⟩ 1 1 [.int .i64 0, .int .i64 0, .int .i64 0, .slice none 0 0, .slice none 0 0, .bool false, .int .i64 0, .slice none 0 0] (by rfl) (by rfl) HNW.out (by simp [Value.oneCell']) (by omega) (by unfold maxLen; omega) (by omega) HTV.out V9.heap.size rfl ?_
     intro g6 cap6 w6 hown6 hgrow6 hat6 hlt6
     refine hK _ _ ?_
     clear hK K'
     try simp only [aQ]
     refine any_at (R := fun V => S2 w V9 V b T N (.slice G all.length cap) F all r2 [.int .i64 K, .int .i64 0, .int .i64 0, .slice none 0 0, .slice none 0 0, .bool false, .int .i64 0, .slice Gt ps.length ct] (.slice Gt ps.length ct) g6 ps.length cap6 (hcells ps ++ [.int .i64 0, .int .i64 0, .int .i64 0, .slice none 0 0, .slice none 0 0, .bool false, .int .i64 0, .slice none 0 0])) (S2.start HV.out.rb HTV.out (fun b e => (HV.out.row.1.lt b e).1) hown6 hgrow6 hat6) (fun U0 hU => ?_)
     have HAT := Lib.hid hat6
     have hgT : T < g6 := hU.gT
     clear hown6 hgrow6 hat6 hlt6 HNW
     have hlt9 : (ps.length : Int) < (ps.length : Int) + 1 := by omega
     refine tkA 9 ix9 ?_
     refine tkA 11 ix11 ?_
     clear hlt9
     refine rdA [10, 12] ?_
     refine .cons ix10 (fun K' hK => ?_) ?_
     ·obtain ⟨y0, y1, y2, y3, y4, y5, y6, y7, z0, z1, z2, z3, z4, z5, z6, z7⟩ := hU.cells8 HPL.out
      go_simp
      clear y0 y1 y2 y3 y4 y5 y6 y7 z0 z1 z2 z3 z4 z5 z6 z7
      refine hK _ _ ?_
      clear hK K'
      try simp only [aQ]
      refine any_at (R := fun V => S2 w V9 V b T N (.slice G all.length cap) F all r2 [.int .i64 K, .int .i64 0, .int .i64 0, .slice none 0 0, .slice none 0 0, .bool false, .int .i64 0, .slice Gt ps.length ct] (.slice Gt ps.length ct) g6 ps.length cap6 (hcells ps ++ [.int .i64 k1, .int .i64 m1, .int .i64 p1, .slice G1 n1 c1', .slice G2 n2 c2', .bool o1, .int .i64 l1, .slice G3 n3 c3'])) (hU.st8 HPL.out HAT.out _ _ _ _ _ _ _ _) (fun U1 hU' => ?_)
      clear hU
      have hU := hU'
      clear hU'
      refine rdA [12] ?_
      refine .cons ix12 (fun K' hK => ?_) ?_
      ·have e7' := hU.rb.t.1 7 _ rfl
       have f7' := hU.rb.t.2.1 7 (by simp)
       go_simp
       clear e7' f7'
       refine hK _ _ ?_
       clear hK K'
       try simp only [aQ]
       refine any_at (R := fun V => S2 w V9 V b T N (.slice G all.length cap) F all r2 [.int .i64 K, .int .i64 0, .int .i64 0, .slice none 0 0, .slice none 0 0, .bool false, .int .i64 0, .slice (some ⟨g6, 0, none⟩) (ps.length + 1) cap6] (.slice Gt ps.length ct) g6 ps.length cap6 (hcells ps ++ [.int .i64 k1, .int .i64 m1, .int .i64 p1, .slice G1 n1 c1', .slice G2 n2 c2', .bool o1, .int .i64 l1, .slice G3 n3 c3'])) (hU.setT _ (by simp)) (fun U12 hU' => ?_)
       clear hU
       have hU := hU'
       clear hU'
       refine wpAny_done (by kernel_rfl) ?_ _
       have hrow9 := row_fin (W := w3) HV.out.row HV.out.sz HE.out HVW.out HW1.out hU.own HAT.out hU.same hU.sz
       have HROW9 := Lib.hid hrow9; have HRB9 := Lib.hid hU.rb
       clear hrow9 hU HV HE HAT HTV
       refine PanicOr.normal ?_
       go_wp2_with fail
       go_meet
       case rel => exact ⟨t, r2, some ⟨g6, 0, none⟩, cap6, ps ++ [(t, [.int .i64 k1, .int .i64 m1, .int .i64 p1, .slice G1 n1 c1', .slice G2 n2 c2', .bool o1, .int .i64 l1, .slice G3 n3 c3'])], HX, (by rw [List.length_append]; exact HRB9.out), (by rw [List.length_append]; exact HROW9.out), (by rw [HPS.out]; rfl)⟩
      exact .nil
     refine .cons ix12 (fun K' hK => ?_) ?_
     ·have e7' := hU.rb.t.1 7 _ rfl
      have f7' := hU.rb.t.2.1 7 (by simp)
      go_simp
      clear e7' f7'
      refine hK _ _ ?_
      clear hK K'
      try simp only [aQ]
      refine any_at (R := fun V => S2 w V9 V b T N (.slice G all.length cap) F all r2 [.int .i64 K, .int .i64 0, .int .i64 0, .slice none 0 0, .slice none 0 0, .bool false, .int .i64 0, .slice (some ⟨g6, 0, none⟩) (ps.length + 1) cap6] (.slice Gt ps.length ct) g6 ps.length cap6 (hcells ps ++ [.int .i64 0, .int .i64 0, .int .i64 0, .slice none 0 0, .slice none 0 0, .bool false, .int .i64 0, .slice none 0 0])) (hU.setT _ (by simp)) (fun U1 hU' => ?_)
      clear hU
      have hU := hU'
      clear hU'
      refine rdA [10] ?_
      refine .cons ix10 (fun K' hK => ?_) ?_
      ·obtain ⟨y0, y1, y2, y3, y4, y5, y6, y7, z0, z1, z2, z3, z4, z5, z6, z7⟩ := hU.cells8 HPL.out
       go_simp
       clear y0 y1 y2 y3 y4 y5 y6 y7 z0 z1 z2 z3 z4 z5 z6 z7
       refine hK _ _ ?_
       clear hK K'
       try simp only [aQ]
       refine any_at (R := fun V => S2 w V9 V b T N (.slice G all.length cap) F all r2 [.int .i64 K, .int .i64 0, .int .i64 0, .slice none 0 0, .slice none 0 0, .bool false, .int .i64 0, .slice (some ⟨g6, 0, none⟩) (ps.length + 1) cap6] (.slice Gt ps.length ct) g6 ps.length cap6 (hcells ps ++ [.int .i64 k1, .int .i64 m1, .int .i64 p1, .slice G1 n1 c1', .slice G2 n2 c2', .bool o1, .int .i64 l1, .slice G3 n3 c3'])) (hU.st8 HPL.out HAT.out _ _ _ _ _ _ _ _) (fun U12 hU' => ?_)
       clear hU
       have hU := hU'
       clear hU'
       refine wpAny_done (by kernel_rfl) ?_ _
       have hrow9 := row_fin (W := w3) HV.out.row HV.out.sz HE.out HVW.out HW1.out hU.own HAT.out hU.same hU.sz
       have HROW9 := Lib.hid hrow9; have HRB9 := Lib.hid hU.rb
       clear hrow9 hU HV HE HAT HTV
       refine PanicOr.normal ?_
       go_wp2_with fail
       go_meet
       case rel => exact ⟨t, r2, some ⟨g6, 0, none⟩, cap6, ps ++ [(t, [.int .i64 k1, .int .i64 m1, .int .i64 p1, .slice G1 n1 c1', .slice G2 n2 c2', .bool o1, .int .i64 l1, .slice G3 n3 c3'])], HX, (by rw [List.length_append]; exact HRB9.out), (by rw [List.length_append]; exact HROW9.out), (by rw [HPS.out]; rfl)⟩
      exact .nil
     exact .nil
   case rest =>
    obtain ⟨t, r2, Gq, cq, pq, HX, hrbq, hrowq, hpq⟩ := hcut
    have hx := HX.out
    rw [hx] at hls
    have hr2l : r2.length + 1 ≤ r1.length := hls
    have HZX : Hid (Rz = bnd (moreT (testP n (d + 1)) r2.length r2) fun ts r => bnd (mustP 41 r) fun _ r => .ok (⟨K, 0, 0, [], [], false, 0, t :: ts⟩, r)) := by unfold Hid; rw [HZ1'.out, hx]; rfl
    clear hx hls HZ1' HX
    have HRBQ := Lib.hid hrbq; have HROWQ := Lib.hid hrowq; have HPQ := Lib.hid hpq
    have hpq1 : pq.length = 1 := by have := congrArg List.length hpq; rwa [List.length_map] at this
    have HPQ1 := Lib.hid hpq1
    have HZY : Hid (Rz = bnd (moreT (testP n (d + 1)) r2.length r2) fun ts r => bnd (mustP 41 r) fun _ r => .ok (⟨K, 0, 0, [], [], false, 0, [t] ++ ts⟩, r)) := HZX.out
    clear hrbq hrowq hpq hpq1 HZX HC HP HVW HPL HPS HW3 HW0 HW1
    go_wp2_with fail
    go_loopw [54] (fun _ wr => ∃ (Gt : Option Addr) (ct : Nat) (ps : Held Tst) (rr : List Tok) (mm : Nat), RB w wr b T N (.slice G all.length cap) F all rr [.int .i64 K, .int .i64 0, .int .i64 0, .slice none 0 0, .slice none 0 0, .bool false, .int .i64 0, .slice Gt ps.length ct] ∧ ORow (cTst m') 158 wr (T + 1) (DmB (T + 1) wr (.slice Gt ps.length ct)) (.slice Gt ps.length ct) ps ∧ 1 ≤ ps.length ∧ rr.length ≤ mm ∧ ps.length + rr.length ≤ 100001 ∧ rr.length < n ∧ Hid (Rz = bnd (moreT (testP n (d + 1)) mm rr) fun ts r => bnd (mustP 41 r) fun _ r => .ok (⟨K, 0, 0, [], [], false, 0, ps.map Prod.fst ++ ts⟩, r))) (fun _ wr => all.length - posT wr b)
    case atStart => exact ⟨Gq, cq, pq, r2, r2.length, HRBQ.out, HROWQ.out, by rw [HPQ1.out]; exact Nat.le_refl _, Nat.le_refl _, by rw [HPQ1.out]; omega, by omega, by rw [HPQ.out]; exact HZY.out⟩
    case round =>
     obtain ⟨Gt, ct, ps, rr, mm, hrb, hrow, hp1, hmm, hpr, hrn, HQ⟩ := hrel
     have HRB := Lib.hid hrb; have HROW := Lib.hid hrow
     have HE := Lib.hid (eat_any b (.slice G all.length cap) F all rr 44 wr hn hrb.rd)
     clear hrb hrow
     go_wp2_with fail
     refine HE.out.mono ?_
     rintro e w4 (⟨r4, hr4, rfl, h4, g4⟩ | ⟨hr4, rfl, h4, hb4⟩)
     ·have hlt4 := eat_lt hr4
      obtain ⟨m1', rfl⟩ : ∃ m1', mm = m1' + 1 := ⟨mm - 1, by omega⟩
      have HQ2 := Lib.hid HQ.out
      rw [bnd_more hr4] at HQ2
      have hrb4 := HRB.out.next h4 g4
      have hP : P1 w wr w4 b T N m' (.slice G all.length cap) F all r4 [.int .i64 K, .int .i64 0, .int .i64 0, .slice none 0 0, .slice none 0 0, .bool false, .int .i64 0, .slice Gt ps.length ct] (.slice Gt ps.length ct) ps := P1.next ⟨HRB.out, HROW.out, Nat.le_refl _⟩ h4 g4
      have HP : Hid (P1 w w4 w4 b T N m' (.slice G all.length cap) F all r4 [.int .i64 K, .int .i64 0, .int .i64 0, .slice none 0 0, .slice none 0 0, .bool false, .int .i64 0, .slice Gt ps.length ct] (.slice Gt ps.length ct) ps) := ⟨hP.rb, ⟨hP.row.1, fun p hp => (cTst m').mono (hP.row.2.1 p hp) (fun x hx => ⟨hx.1, Nat.lt_of_lt_of_le hx.2.1 g4.size, hx.2.2⟩), fun x hx hh => hh.2.2 hx⟩, Nat.le_refl _⟩
      have HVW : Hid (∀ x, (Value.slice Gt ps.length ct).ownBlock = some x → x < w4.heap.size) := fun x e => (hP.row.1.lt x e).2
      have HPL : Hid ((hcells ps).length = ps.length * 8) := hP.row.1.1
      have HW0 : Hid (0 < w4.heap.size) := by unfold Hid; have := hrb4.TW; omega
      have HW1 : Hid (T + 1 ≤ w4.heap.size) := hrb4.TW
      have hpl : ps.length ≤ 100001 := by omega
      have hls := less_test n (d + 1) r4
      have HC : Hid (∀ V, RL V b (.slice G all.length cap) F all r4 → w.grownBy V (some b) → Calls Tryz.prog 133 #[.pointer (some ⟨b, 0, none⟩), .int .i64 (dI + 1)] V (Ans (TstR m' V.heap.size) b (.slice G all.length cap) F all V (testP n (d + 1) r4))) := fun V h1 h2 => HIH.out V r4 h1 h2 (by omega)
      clear hr4 h4 g4 hrb4 hP HE HQ
      go_upto_region 12 with fail
      refine wp_region_panic (fun c w' => Ans (TstR (m' + 1) w.heap.size) b (.slice G all.length cap) F all w Rz (.panicked c) w') (fun c a w' hd h => ⟨hd, h⟩) ?_
      refine wp_region_any (by kernel_rfl) ?_
      refine tkA 0 ix0 ?_
      refine tkA 2 ix2 ?_
      refine tkA 3 ix3 ?_
      refine tkA 4 ix4 ?_
      apply share
      ·intro FIN
       refine any_at (R := fun V => P1 w w4 V b T N m' (.slice G all.length cap) F all r4 [.int .i64 K, .int .i64 0, .int .i64 0, .slice none 0 0, .slice none 0 0, .bool false, .int .i64 0, .slice Gt ps.length ct] (.slice Gt ps.length ct) ps) (HP.out.down (Below.drew (Below.refl _ _))) (fun V0 hV => ?_)
       refine rdA [1, 5, 7] ?_
       refine .cons ix1 (fun K' hK => ?_) ?_
       ·have e7' := hV.rb.t.1 7 _ rfl
        go_simp
        clear e7'
        refine hK _ _ ?_
        clear hK K'
        try simp only [aQ]
        refine tkA 6 ix6 ?_
        refine rdA [5, 7] ?_
        refine .cons ix5 (fun K' hK => ?_) ?_
        ·go_simp
         go_at_call 133
         refine ((HC.out _ hV.rb.rd (hV.rb.gr)).mono ?_)
         intro e w5 hp
         rcases hp.split with ⟨kk, c, ch, hx, rfl, HCH, g5⟩ | ⟨t, r5, hx, ⟨vs, rfl, hrep⟩, hr5, g5⟩
         ·have G5 := Lib.hid (Go.Lib.grownBy_trans hV.rb.gr g5)
          have HZX := Lib.hid (bnd_bad HQ2.out hx)
          clear g5 hp hx
          go_wp2_with fail
          refine ⟨rfl, ?_⟩
          rw [HZX.out]
          exact ⟨by rw [HCH.out], G5.out⟩
         have HX := Lib.hid hx
         obtain ⟨k1, m1, p1, G1, n1, c1', G2, n2, c2', o1, l1, G3, n3, c3', rfl⟩ := oct_form hrep
         have hE0 : ElAt w4 w5 m' t [.int .i64 k1, .int .i64 m1, .int .i64 p1, .slice G1 n1 c1', .slice G2 n2 c2', .bool o1, .int .i64 l1, .slice G3 n3 c3'] := (cTst m').mono (tst_bd m' hrep) (fun x hx => ⟨Nat.le_trans hV.sz hx.1, hx.2⟩)
         have hV5 := hV.next hr5 g5
         clear hrep hr5 hx hp
         go_wp2_with fail
         try simp only [aQ]
         refine any_at (R := fun V => P1 w w4 V b T N m' (.slice G all.length cap) F all r5 [.int .i64 K, .int .i64 0, .int .i64 0, .slice none 0 0, .slice none 0 0, .bool false, .int .i64 0, .slice Gt ps.length ct] (.slice Gt ps.length ct) ps ∧ ElAt w4 V m' t [.int .i64 k1, .int .i64 m1, .int .i64 p1, .slice G1 n1 c1', .slice G2 n2 c2', .bool o1, .int .i64 l1, .slice G3 n3 c3']) ⟨hV5, hE0⟩ (fun V2 hV' => ?_)
         clear hV hV5 hE0 g5
         obtain ⟨hV, hE⟩ := hV'
         refine rdA [7] ?_
         refine .cons ix7 (fun K' hK => ?_) ?_
         ·go_simp
          refine hK _ _ ?_
          clear hK K'
          try simp only [aQ]
          obtain ⟨X, hXe, hal, hX0⟩ := new_tst V2 hV.sz
          rw [← hXe]
          refine any_at (R := fun V => P1 w w4 V b T N m' (.slice G all.length cap) F all r5 [.int .i64 K, .int .i64 0, .int .i64 0, .slice none 0 0, .slice none 0 0, .bool false, .int .i64 0, .slice Gt ps.length ct] (.slice Gt ps.length ct) ps ∧ ElAt w4 V m' t [.int .i64 k1, .int .i64 m1, .int .i64 p1, .slice G1 n1 c1', .slice G2 n2 c2', .bool o1, .int .i64 l1, .slice G3 n3 c3'] ∧ Has V X [.int .i64 0, .int .i64 0, .int .i64 0, .slice none 0 0, .slice none 0 0, .bool false, .int .i64 0, .slice none 0 0] ∧ w4.heap.size ≤ X) ⟨hV.down hal, hE.down hal HW0.out, hX0⟩ (fun V3 hV' => ?_)
          clear hal hX0 hXe hV hE
          obtain ⟨hV, hE, hX, hXW⟩ := hV'
          refine lsA #[true, true, true, true, true, true, true, true, false, false, false, false, false] ?_
          revert HX hV hE hX hXW
          revert t r5 k1 m1 p1 G1 n1 c1' G2 n2 c2' o1 l1 G3 n3 c3' X V3
          exact FIN
         exact .nil
        refine .cons ix7 (fun K' hK => ?_) ?_
        ·go_simp
         refine hK _ _ ?_
         clear hK K'
         try simp only [aQ]
         obtain ⟨X, hXe, hal, hX0⟩ := new_tst V0 hV.sz
         rw [← hXe]
         refine any_at (R := fun V => P1 w w4 V b T N m' (.slice G all.length cap) F all r4 [.int .i64 K, .int .i64 0, .int .i64 0, .slice none 0 0, .slice none 0 0, .bool false, .int .i64 0, .slice Gt ps.length ct] (.slice Gt ps.length ct) ps ∧ Has V X [.int .i64 0, .int .i64 0, .int .i64 0, .slice none 0 0, .slice none 0 0, .bool false, .int .i64 0, .slice none 0 0] ∧ w4.heap.size ≤ X) ⟨hV.down hal, hX0⟩ (fun V4 hV' => ?_)
         clear hal hX0 hXe hV
         obtain ⟨hV, hX, hXW⟩ := hV'
         refine rdA [5] ?_
         refine .cons ix5 (fun K' hK => ?_) ?_
         ·go_simp
          go_at_call 133
          refine ((HC.out _ hV.rb.rd (hV.rb.gr)).mono ?_)
          intro e w5 hp
          rcases hp.split with ⟨kk, c, ch, hx, rfl, HCH, g5⟩ | ⟨t, r5, hx, ⟨vs, rfl, hrep⟩, hr5, g5⟩
          ·have G5 := Lib.hid (Go.Lib.grownBy_trans hV.rb.gr g5)
           have HZX := Lib.hid (bnd_bad HQ2.out hx)
           clear g5 hp hx
           go_wp2_with fail
           refine ⟨rfl, ?_⟩
           rw [HZX.out]
           exact ⟨by rw [HCH.out], G5.out⟩
          have HX := Lib.hid hx
          obtain ⟨k1, m1, p1, G1, n1, c1', G2, n2, c2', o1, l1, G3, n3, c3', rfl⟩ := oct_form hrep
          have hE0 : ElAt w4 w5 m' t [.int .i64 k1, .int .i64 m1, .int .i64 p1, .slice G1 n1 c1', .slice G2 n2 c2', .bool o1, .int .i64 l1, .slice G3 n3 c3'] := (cTst m').mono (tst_bd m' hrep) (fun x hx => ⟨Nat.le_trans hV.sz hx.1, hx.2⟩)
          have hV5 := hV.next hr5 g5
          have hX5 := hX.kept g5 (fun e => by have := Option.some.inj e; have := HW1.out; have := HBT.out; omega)
          clear hrep hr5 hx hp
          go_wp2_with fail
          try simp only [aQ]
          refine any_at (R := fun V => P1 w w4 V b T N m' (.slice G all.length cap) F all r5 [.int .i64 K, .int .i64 0, .int .i64 0, .slice none 0 0, .slice none 0 0, .bool false, .int .i64 0, .slice Gt ps.length ct] (.slice Gt ps.length ct) ps ∧ ElAt w4 V m' t [.int .i64 k1, .int .i64 m1, .int .i64 p1, .slice G1 n1 c1', .slice G2 n2 c2', .bool o1, .int .i64 l1, .slice G3 n3 c3'] ∧ Has V X [.int .i64 0, .int .i64 0, .int .i64 0, .slice none 0 0, .slice none 0 0, .bool false, .int .i64 0, .slice none 0 0] ∧ w4.heap.size ≤ X) ⟨hV5, hE0, hX5, hXW⟩ (fun V5 hV' => ?_)
          clear hV hV5 hE0 g5 hX hX5 hXW
          obtain ⟨hV, hE, hX, hXW⟩ := hV'
          refine lsA #[true, true, true, true, true, true, true, true, false, false, false, false, false] ?_
          apply FIN <;> assumption
         exact .nil
        exact .nil
       refine .cons ix5 (fun K' hK => ?_) ?_
       ·go_simp
        go_at_call 133
        refine ((HC.out _ hV.rb.rd (hV.rb.gr)).mono ?_)
        intro e w5 hp
        rcases hp.split with ⟨kk, c, ch, hx, rfl, HCH, g5⟩ | ⟨t, r5, hx, ⟨vs, rfl, hrep⟩, hr5, g5⟩
        ·have G5 := Lib.hid (Go.Lib.grownBy_trans hV.rb.gr g5)
         have HZX := Lib.hid (bnd_bad HQ2.out hx)
         clear g5 hp hx
         go_wp2_with fail
         refine ⟨rfl, ?_⟩
         rw [HZX.out]
         exact ⟨by rw [HCH.out], G5.out⟩
        have HX := Lib.hid hx
        obtain ⟨k1, m1, p1, G1, n1, c1', G2, n2, c2', o1, l1, G3, n3, c3', rfl⟩ := oct_form hrep
        have hE0 : ElAt w4 w5 m' t [.int .i64 k1, .int .i64 m1, .int .i64 p1, .slice G1 n1 c1', .slice G2 n2 c2', .bool o1, .int .i64 l1, .slice G3 n3 c3'] := (cTst m').mono (tst_bd m' hrep) (fun x hx => ⟨Nat.le_trans hV.sz hx.1, hx.2⟩)
        have hV5 := hV.next hr5 g5
        clear hrep hr5 hx hp
        go_wp2_with fail
        try simp only [aQ]
        refine any_at (R := fun V => P1 w w4 V b T N m' (.slice G all.length cap) F all r5 [.int .i64 K, .int .i64 0, .int .i64 0, .slice none 0 0, .slice none 0 0, .bool false, .int .i64 0, .slice Gt ps.length ct] (.slice Gt ps.length ct) ps ∧ ElAt w4 V m' t [.int .i64 k1, .int .i64 m1, .int .i64 p1, .slice G1 n1 c1', .slice G2 n2 c2', .bool o1, .int .i64 l1, .slice G3 n3 c3']) ⟨hV5, hE0⟩ (fun V6 hV' => ?_)
        clear hV hV5 hE0 g5
        obtain ⟨hV, hE⟩ := hV'
        refine rdA [1, 7] ?_
        refine .cons ix1 (fun K' hK => ?_) ?_
        ·have e7' := hV.rb.t.1 7 _ rfl
         go_simp
         clear e7'
         refine hK _ _ ?_
         clear hK K'
         try simp only [aQ]
         refine tkA 6 ix6 ?_
         refine rdA [7] ?_
         refine .cons ix7 (fun K' hK => ?_) ?_
         ·go_simp
          refine hK _ _ ?_
          clear hK K'
          try simp only [aQ]
          obtain ⟨X, hXe, hal, hX0⟩ := new_tst V6 hV.sz
          rw [← hXe]
          refine any_at (R := fun V => P1 w w4 V b T N m' (.slice G all.length cap) F all r5 [.int .i64 K, .int .i64 0, .int .i64 0, .slice none 0 0, .slice none 0 0, .bool false, .int .i64 0, .slice Gt ps.length ct] (.slice Gt ps.length ct) ps ∧ ElAt w4 V m' t [.int .i64 k1, .int .i64 m1, .int .i64 p1, .slice G1 n1 c1', .slice G2 n2 c2', .bool o1, .int .i64 l1, .slice G3 n3 c3'] ∧ Has V X [.int .i64 0, .int .i64 0, .int .i64 0, .slice none 0 0, .slice none 0 0, .bool false, .int .i64 0, .slice none 0 0] ∧ w4.heap.size ≤ X) ⟨hV.down hal, hE.down hal HW0.out, hX0⟩ (fun V8 hV' => ?_)
          clear hal hX0 hXe hV hE
          obtain ⟨hV, hE, hX, hXW⟩ := hV'
          refine lsA #[true, true, true, true, true, true, true, true, false, false, false, false, false] ?_
          apply FIN <;> assumption
         exact .nil
        refine .cons ix7 (fun K' hK => ?_) ?_
        ·go_simp
         refine hK _ _ ?_
         clear hK K'
         try simp only [aQ]
         obtain ⟨X, hXe, hal, hX0⟩ := new_tst V6 hV.sz
         rw [← hXe]
         refine any_at (R := fun V => P1 w w4 V b T N m' (.slice G all.length cap) F all r5 [.int .i64 K, .int .i64 0, .int .i64 0, .slice none 0 0, .slice none 0 0, .bool false, .int .i64 0, .slice Gt ps.length ct] (.slice Gt ps.length ct) ps ∧ ElAt w4 V m' t [.int .i64 k1, .int .i64 m1, .int .i64 p1, .slice G1 n1 c1', .slice G2 n2 c2', .bool o1, .int .i64 l1, .slice G3 n3 c3'] ∧ Has V X [.int .i64 0, .int .i64 0, .int .i64 0, .slice none 0 0, .slice none 0 0, .bool false, .int .i64 0, .slice none 0 0] ∧ w4.heap.size ≤ X) ⟨hV.down hal, hE.down hal HW0.out, hX0⟩ (fun V9 hV' => ?_)
         clear hal hX0 hXe hV hE
         obtain ⟨hV, hE, hX, hXW⟩ := hV'
         refine rdA [1] ?_
         refine .cons ix1 (fun K' hK => ?_) ?_
         ·have e7' := hV.rb.t.1 7 _ rfl
          go_simp
          clear e7'
          refine hK _ _ ?_
          clear hK K'
          try simp only [aQ]
          refine tkA 6 ix6 ?_
          refine lsA #[true, true, true, true, true, true, true, true, false, false, false, false, false] ?_
          apply FIN <;> assumption
         exact .nil
        exact .nil
       refine .cons ix7 (fun K' hK => ?_) ?_
       ·go_simp
        refine hK _ _ ?_
        clear hK K'
        try simp only [aQ]
        obtain ⟨X, hXe, hal, hX0⟩ := new_tst V0 hV.sz
        rw [← hXe]
        refine any_at (R := fun V => P1 w w4 V b T N m' (.slice G all.length cap) F all r4 [.int .i64 K, .int .i64 0, .int .i64 0, .slice none 0 0, .slice none 0 0, .bool false, .int .i64 0, .slice Gt ps.length ct] (.slice Gt ps.length ct) ps ∧ Has V X [.int .i64 0, .int .i64 0, .int .i64 0, .slice none 0 0, .slice none 0 0, .bool false, .int .i64 0, .slice none 0 0] ∧ w4.heap.size ≤ X) ⟨hV.down hal, hX0⟩ (fun V11 hV' => ?_)
        clear hal hX0 hXe hV
        obtain ⟨hV, hX, hXW⟩ := hV'
        refine rdA [1, 5] ?_
        refine .cons ix1 (fun K' hK => ?_) ?_
        ·have e7' := hV.rb.t.1 7 _ rfl
         go_simp
         clear e7'
         refine hK _ _ ?_
         clear hK K'
         try simp only [aQ]
         refine tkA 6 ix6 ?_
         refine rdA [5] ?_
         refine .cons ix5 (fun K' hK => ?_) ?_
         ·go_simp
          go_at_call 133
          refine ((HC.out _ hV.rb.rd (hV.rb.gr)).mono ?_)
          intro e w5 hp
          rcases hp.split with ⟨kk, c, ch, hx, rfl, HCH, g5⟩ | ⟨t, r5, hx, ⟨vs, rfl, hrep⟩, hr5, g5⟩
          ·have G5 := Lib.hid (Go.Lib.grownBy_trans hV.rb.gr g5)
           have HZX := Lib.hid (bnd_bad HQ2.out hx)
           clear g5 hp hx
           go_wp2_with fail
           refine ⟨rfl, ?_⟩
           rw [HZX.out]
           exact ⟨by rw [HCH.out], G5.out⟩
          have HX := Lib.hid hx
          obtain ⟨k1, m1, p1, G1, n1, c1', G2, n2, c2', o1, l1, G3, n3, c3', rfl⟩ := oct_form hrep
          have hE0 : ElAt w4 w5 m' t [.int .i64 k1, .int .i64 m1, .int .i64 p1, .slice G1 n1 c1', .slice G2 n2 c2', .bool o1, .int .i64 l1, .slice G3 n3 c3'] := (cTst m').mono (tst_bd m' hrep) (fun x hx => ⟨Nat.le_trans hV.sz hx.1, hx.2⟩)
          have hV5 := hV.next hr5 g5
          have hX5 := hX.kept g5 (fun e => by have := Option.some.inj e; have := HW1.out; have := HBT.out; omega)
          clear hrep hr5 hx hp
          go_wp2_with fail
          try simp only [aQ]
          refine any_at (R := fun V => P1 w w4 V b T N m' (.slice G all.length cap) F all r5 [.int .i64 K, .int .i64 0, .int .i64 0, .slice none 0 0, .slice none 0 0, .bool false, .int .i64 0, .slice Gt ps.length ct] (.slice Gt ps.length ct) ps ∧ ElAt w4 V m' t [.int .i64 k1, .int .i64 m1, .int .i64 p1, .slice G1 n1 c1', .slice G2 n2 c2', .bool o1, .int .i64 l1, .slice G3 n3 c3'] ∧ Has V X [.int .i64 0, .int .i64 0, .int .i64 0, .slice none 0 0, .slice none 0 0, .bool false, .int .i64 0, .slice none 0 0] ∧ w4.heap.size ≤ X) ⟨hV5, hE0, hX5, hXW⟩ (fun V13 hV' => ?_)
          clear hV hV5 hE0 g5 hX hX5 hXW
          obtain ⟨hV, hE, hX, hXW⟩ := hV'
          refine lsA #[true, true, true, true, true, true, true, true, false, false, false, false, false] ?_
          apply FIN <;> assumption
         exact .nil
        refine .cons ix5 (fun K' hK => ?_) ?_
        ·go_simp
         go_at_call 133
         refine ((HC.out _ hV.rb.rd (hV.rb.gr)).mono ?_)
         intro e w5 hp
         rcases hp.split with ⟨kk, c, ch, hx, rfl, HCH, g5⟩ | ⟨t, r5, hx, ⟨vs, rfl, hrep⟩, hr5, g5⟩
         ·have G5 := Lib.hid (Go.Lib.grownBy_trans hV.rb.gr g5)
          have HZX := Lib.hid (bnd_bad HQ2.out hx)
          clear g5 hp hx
          go_wp2_with fail
          refine ⟨rfl, ?_⟩
          rw [HZX.out]
          exact ⟨by rw [HCH.out], G5.out⟩
         have HX := Lib.hid hx
         obtain ⟨k1, m1, p1, G1, n1, c1', G2, n2, c2', o1, l1, G3, n3, c3', rfl⟩ := oct_form hrep
         have hE0 : ElAt w4 w5 m' t [.int .i64 k1, .int .i64 m1, .int .i64 p1, .slice G1 n1 c1', .slice G2 n2 c2', .bool o1, .int .i64 l1, .slice G3 n3 c3'] := (cTst m').mono (tst_bd m' hrep) (fun x hx => ⟨Nat.le_trans hV.sz hx.1, hx.2⟩)
         have hV5 := hV.next hr5 g5
         have hX5 := hX.kept g5 (fun e => by have := Option.some.inj e; have := HW1.out; have := HBT.out; omega)
         clear hrep hr5 hx hp
         go_wp2_with fail
         try simp only [aQ]
         refine any_at (R := fun V => P1 w w4 V b T N m' (.slice G all.length cap) F all r5 [.int .i64 K, .int .i64 0, .int .i64 0, .slice none 0 0, .slice none 0 0, .bool false, .int .i64 0, .slice Gt ps.length ct] (.slice Gt ps.length ct) ps ∧ ElAt w4 V m' t [.int .i64 k1, .int .i64 m1, .int .i64 p1, .slice G1 n1 c1', .slice G2 n2 c2', .bool o1, .int .i64 l1, .slice G3 n3 c3'] ∧ Has V X [.int .i64 0, .int .i64 0, .int .i64 0, .slice none 0 0, .slice none 0 0, .bool false, .int .i64 0, .slice none 0 0] ∧ w4.heap.size ≤ X) ⟨hV5, hE0, hX5, hXW⟩ (fun V14 hV' => ?_)
         clear hV hV5 hE0 g5 hX hX5 hXW
         obtain ⟨hV, hE, hX, hXW⟩ := hV'
         refine rdA [1] ?_
         refine .cons ix1 (fun K' hK => ?_) ?_
         ·have e7' := hV.rb.t.1 7 _ rfl
          go_simp
          clear e7'
          refine hK _ _ ?_
          clear hK K'
          try simp only [aQ]
          refine tkA 6 ix6 ?_
          refine lsA #[true, true, true, true, true, true, true, true, false, false, false, false, false] ?_
          apply FIN <;> assumption
         exact .nil
        exact .nil
       exact .nil
      ·intro t r5 k1 m1 p1 G1 n1 c1' G2 n2 c2' o1 l1 G3 n3 c3' X V9 HX hV hE hX hXW
       refine rdA [8] ?_
       refine .cons ix8 (fun K' hK => ?_) .nil
       have HNW : Hid (∀ j u, ([.int .i64 0, .int .i64 0, .int .i64 0, .slice none 0 0, .slice none 0 0, .bool false, .int .i64 0, .slice none 0 0] : List Value)[j]? = some u → V9.cell? (Addr.add ⟨X, 0, none⟩ j) = some u) := fun j u hu => by rw [Addr.add_lit, Nat.zero_add]; exact hX.1 j u hu
       have HV := Lib.hid hV; have HE := Lib.hid hE
       have HTV : Hid (T + 1 ≤ V9.heap.size) := hV.rb.TW
       clear hV hE hX hXW
       refine step_append_lies _ (by rfl) _ _ _ (by rfl) (T + 1) 158 i0 _ 8 112 Tryz.underlying156 HI0.out HZ0.out HZ1.out HZ2.out rfl (by omega) (.slice Gt ps.length ct) ps.length (hcells ps) (by rfl) HV.out.row.1 ⟨X, 0, none⟩ 1 1 [.int .i64 0, .int .i64 0, .int .i64 0, .slice none 0 0, .slice none 0 0, .bool false, .int .i64 0, .slice none 0 0] (by rfl) (by rfl) HNW.out (by simp [Value.oneCell']) (by omega) (by unfold maxLen; omega) (by omega) HTV.out V9.heap.size rfl ?_
       intro g6 cap6 w6 hown6 hgrow6 hat6 hlt6
       refine hK _ _ ?_
       clear hK K'
       try simp only [aQ]
       refine any_at (R := fun V => S2 w V9 V b T N (.slice G all.length cap) F all r5 [.int .i64 K, .int .i64 0, .int .i64 0, .slice none 0 0, .slice none 0 0, .bool false, .int .i64 0, .slice Gt ps.length ct] (.slice Gt ps.length ct) g6 ps.length cap6 (hcells ps ++ [.int .i64 0, .int .i64 0, .int .i64 0, .slice none 0 0, .slice none 0 0, .bool false, .int .i64 0, .slice none 0 0])) (S2.start HV.out.rb HTV.out (fun b e => (HV.out.row.1.lt b e).1) hown6 hgrow6 hat6) (fun U0 hU => ?_)
       have HAT := Lib.hid hat6
       have hgT : T < g6 := hU.gT
       clear hown6 hgrow6 hat6 hlt6 HNW
       have hlt9 : (ps.length : Int) < (ps.length : Int) + 1 := by omega
       refine tkA 9 ix9 ?_
       refine tkA 11 ix11 ?_
       clear hlt9
       refine rdA [10, 12] ?_
       refine .cons ix10 (fun K' hK => ?_) ?_
       ·obtain ⟨y0, y1, y2, y3, y4, y5, y6, y7, z0, z1, z2, z3, z4, z5, z6, z7⟩ := hU.cells8 HPL.out
        go_simp
        clear y0 y1 y2 y3 y4 y5 y6 y7 z0 z1 z2 z3 z4 z5 z6 z7
        refine hK _ _ ?_
        clear hK K'
        try simp only [aQ]
        refine any_at (R := fun V => S2 w V9 V b T N (.slice G all.length cap) F all r5 [.int .i64 K, .int .i64 0, .int .i64 0, .slice none 0 0, .slice none 0 0, .bool false, .int .i64 0, .slice Gt ps.length ct] (.slice Gt ps.length ct) g6 ps.length cap6 (hcells ps ++ [.int .i64 k1, .int .i64 m1, .int .i64 p1, .slice G1 n1 c1', .slice G2 n2 c2', .bool o1, .int .i64 l1, .slice G3 n3 c3'])) (hU.st8 HPL.out HAT.out _ _ _ _ _ _ _ _) (fun U1 hU' => ?_)
        clear hU
        have hU := hU'
        clear hU'
        refine rdA [12] ?_
        refine .cons ix12 (fun K' hK => ?_) ?_
        ·have e7' := hU.rb.t.1 7 _ rfl
         have f7' := hU.rb.t.2.1 7 (by simp)
         go_simp
         clear e7' f7'
         refine hK _ _ ?_
         clear hK K'
         try simp only [aQ]
         refine any_at (R := fun V => S2 w V9 V b T N (.slice G all.length cap) F all r5 [.int .i64 K, .int .i64 0, .int .i64 0, .slice none 0 0, .slice none 0 0, .bool false, .int .i64 0, .slice (some ⟨g6, 0, none⟩) (ps.length + 1) cap6] (.slice Gt ps.length ct) g6 ps.length cap6 (hcells ps ++ [.int .i64 k1, .int .i64 m1, .int .i64 p1, .slice G1 n1 c1', .slice G2 n2 c2', .bool o1, .int .i64 l1, .slice G3 n3 c3'])) (hU.setT _ (by simp)) (fun U12 hU' => ?_)
         clear hU
         have hU := hU'
         clear hU'
         refine wpAny_done (by kernel_rfl) ?_ _
         have hrow9 := row_fin (W := w4) HV.out.row HV.out.sz HE.out HVW.out HW1.out hU.own HAT.out hU.same hU.sz
         have HROW9 := Lib.hid hrow9; have HRB9 := Lib.hid hU.rb
         clear hrow9 hU HV HE HAT HTV
         refine PanicOr.normal ?_
         have hx := HX.out
         rw [hx] at hls
         have hr5l : r5.length + 1 ≤ r4.length := hls
         have HZX : Hid (Rz = bnd (moreT (testP n (d + 1)) m1' r5) fun ts r => bnd (mustP 41 r) fun _ r => .ok (⟨K, 0, 0, [], [], false, 0, ps.map Prod.fst ++ (t :: ts)⟩, r)) := by unfold Hid; rw [HQ2.out, hx]; rfl
         clear hx hls HX
         go_wp2_with fail
         go_roundw
         case rel => exact ⟨some ⟨g6, 0, none⟩, cap6, ps ++ [(t, [.int .i64 k1, .int .i64 m1, .int .i64 p1, .slice G1 n1 c1', .slice G2 n2 c2', .bool o1, .int .i64 l1, .slice G3 n3 c3'])], r5, m1', (by rw [List.length_append]; exact HRB9.out), (by rw [List.length_append]; exact HROW9.out), (by rw [List.length_append]; omega), (by omega), (by rw [List.length_append]; show ps.length + 1 + _ ≤ _; omega), (by omega), (by unfold Hid; simp only [List.map_append, List.append_assoc]; exact HZX.out)⟩
         case measure => exact HRB.out.rd.meas HRB9.out.rd (by omega)
        exact .nil
       refine .cons ix12 (fun K' hK => ?_) ?_
       ·have e7' := hU.rb.t.1 7 _ rfl
        have f7' := hU.rb.t.2.1 7 (by simp)
        go_simp
        clear e7' f7'
        refine hK _ _ ?_
        clear hK K'
        try simp only [aQ]
        refine any_at (R := fun V => S2 w V9 V b T N (.slice G all.length cap) F all r5 [.int .i64 K, .int .i64 0, .int .i64 0, .slice none 0 0, .slice none 0 0, .bool false, .int .i64 0, .slice (some ⟨g6, 0, none⟩) (ps.length + 1) cap6] (.slice Gt ps.length ct) g6 ps.length cap6 (hcells ps ++ [.int .i64 0, .int .i64 0, .int .i64 0, .slice none 0 0, .slice none 0 0, .bool false, .int .i64 0, .slice none 0 0])) (hU.setT _ (by simp)) (fun U1 hU' => ?_)
        clear hU
        have hU := hU'
        clear hU'
        refine rdA [10] ?_
        refine .cons ix10 (fun K' hK => ?_) ?_
        ·obtain ⟨y0, y1, y2, y3, y4, y5, y6, y7, z0, z1, z2, z3, z4, z5, z6, z7⟩ := hU.cells8 HPL.out
         go_simp
         clear y0 y1 y2 y3 y4 y5 y6 y7 z0 z1 z2 z3 z4 z5 z6 z7
         refine hK _ _ ?_
         clear hK K'
         try simp only [aQ]
         refine any_at (R := fun V => S2 w V9 V b T N (.slice G all.length cap) F all r5 [.int .i64 K, .int .i64 0, .int .i64 0, .slice none 0 0, .slice none 0 0, .bool false, .int .i64 0, .slice (some ⟨g6, 0, none⟩) (ps.length + 1) cap6] (.slice Gt ps.length ct) g6 ps.length cap6 (hcells ps ++ [.int .i64 k1, .int .i64 m1, .int .i64 p1, .slice G1 n1 c1', .slice G2 n2 c2', .bool o1, .int .i64 l1, .slice G3 n3 c3'])) (hU.st8 HPL.out HAT.out _ _ _ _ _ _ _ _) (fun U12 hU' => ?_)
         clear hU
         have hU := hU'
         clear hU'
         refine wpAny_done (by kernel_rfl) ?_ _
         have hrow9 := row_fin (W := w4) HV.out.row HV.out.sz HE.out HVW.out HW1.out hU.own HAT.out hU.same hU.sz
         have HROW9 := Lib.hid hrow9; have HRB9 := Lib.hid hU.rb
         clear hrow9 hU HV HE HAT HTV
         refine PanicOr.normal ?_
         have hx := HX.out
         rw [hx] at hls
         have hr5l : r5.length + 1 ≤ r4.length := hls
         have HZX : Hid (Rz = bnd (moreT (testP n (d + 1)) m1' r5) fun ts r => bnd (mustP 41 r) fun _ r => .ok (⟨K, 0, 0, [], [], false, 0, ps.map Prod.fst ++ (t :: ts)⟩, r)) := by unfold Hid; rw [HQ2.out, hx]; rfl
         clear hx hls HX
         go_wp2_with fail
         go_roundw
         case rel => exact ⟨some ⟨g6, 0, none⟩, cap6, ps ++ [(t, [.int .i64 k1, .int .i64 m1, .int .i64 p1, .slice G1 n1 c1', .slice G2 n2 c2', .bool o1, .int .i64 l1, .slice G3 n3 c3'])], r5, m1', (by rw [List.length_append]; exact HRB9.out), (by rw [List.length_append]; exact HROW9.out), (by rw [List.length_append]; omega), (by omega), (by rw [List.length_append]; show ps.length + 1 + _ ≤ _; omega), (by omega), (by unfold Hid; simp only [List.map_append, List.append_assoc]; exact HZX.out)⟩
         case measure => exact HRB.out.rd.meas HRB9.out.rd (by omega)
        exact .nil
       exact .nil
     ·have HQ2 : Hid (Rz = bnd (mustP 41 rr) fun _ r => .ok (⟨K, 0, 0, [], [], false, 0, ps.map Prod.fst⟩, r)) := by
       unfold Hid; rw [HQ.out, moreT_none hr4]; show bnd (mustP 41 rr) _ = _; rw [List.append_nil]
      have hP4 := P1.down ⟨HRB.out, HROW.out, Nat.le_refl _⟩ hb4
      have HP4 := Lib.hid hP4
      have HMU := Lib.hid (must_any b (.slice G all.length cap) F all rr 41 w4 hn h4)
      clear hr4 h4 hb4 hP4 HE HQ
      cases hx : mustP 41 rr with
      | error p =>
       obtain ⟨kk, c⟩ := p
       rw [hx] at HMU HQ2
       clear hx
       go_wp2_with fail
       refine HMU.out.mono ?_
       intro e w9 hp
       obtain ⟨ch, rfl, HCH, g9⟩ := hp.err
       have G9 := Lib.hid (Go.Lib.grownBy_trans HP4.out.rb.gr g9)
       clear g9 hp
       go_wp2_with fail
       refine ⟨rfl, ?_⟩
       rw [HQ2.out]
       exact ⟨by rw [HCH.out], G9.out⟩
      | ok p =>
       obtain ⟨u5, r5⟩ := p
       rw [hx] at HMU HQ2
       have HZ3 : Hid (Rz = .ok (⟨K, 0, 0, [], [], false, 0, ps.map Prod.fst⟩, r5)) := HQ2.out
       clear hx HQ2
       go_wp2_with fail
       refine HMU.out.mono ?_
       intro e w5 hp
       obtain ⟨rfl, hr5, g5⟩ := hp
       have hP5 := HP4.out.next hr5 g5
       have hlen9 : (ps.map Prod.fst).length = ps.length := List.length_map _
       have hsat := ORow.sat (F := fun x => w.heap.size ≤ x ∧ x ≠ N) hP5.row (fun x hx => by have := HRB.out.NT; have := HRB.out.N0; omega) (fun x hx => by have := hx.1; have := HRB.out.NT; have := HRB.out.N0; omega)
       have HREP : Hid ((cTst (m' + 1)).rep w5 (fun x => w.heap.size ≤ x ∧ x ≠ N) ⟨K, 0, 0, [], [], false, 0, ps.map Prod.fst⟩ [.int .i64 K, .int .i64 0, .int .i64 0, .slice none 0 0, .slice none 0 0, .bool false, .int .i64 0, .slice Gt ps.length ct]) := ⟨_, _, _, rfl, SAt.nil _ _ _, SAt.nil _ _ _, hsat⟩
       have HW9 := Lib.hid hP5.rb
       clear hr5 g5 hP5 hsat hlen9 HMU HP4
       go_upto_region 28 with fail
       obtain ⟨e0, e1, e2, e3, e4, e5, e6, e7⟩ := has_oct' HW9.out.t
       obtain ⟨r0, r1, r2, r3, r4, r5, r6, r7⟩ := has_oct' HW9.out.res
       have f0 := HW9.out.res.2.1 0 (by simp [res8]); have f1 := HW9.out.res.2.1 1 (by simp [res8]); have f2 := HW9.out.res.2.1 2 (by simp [res8]); have f3 := HW9.out.res.2.1 3 (by simp [res8])
       have f4 := HW9.out.res.2.1 4 (by simp [res8]); have f5 := HW9.out.res.2.1 5 (by simp [res8]); have f6 := HW9.out.res.2.1 6 (by simp [res8]); have f7 := HW9.out.res.2.1 7 (by simp [res8])
       have hfin := agg_put8 HW9.out HREP.out
       obtain ⟨x0, x1, x2, x3, x4, x5, x6, x7⟩ := has_oct' hfin.1
       have HANS := Lib.hid hfin.2
       unfold put8 at x0 x1 x2 x3 x4 x5 x6 x7 HANS
       clear hfin
       go_wp2_with fail
       refine bodyPost_ret (v := .agg #[.int .i64 K, .int .i64 0, .int .i64 0, .slice none 0 0, .slice none 0 0, .bool false, .int .i64 0, .slice Gt ps.length ct]) ?_ rfl ?_
       ·simp [results, Tryz.results133, go_sem, x0, x1, x2, x3, x4, x5, x6, x7]
       ·rw [HZ3.out]; exact HANS.out
end Go.Proofs.YtmkppkjikifdlaaGreatDoor.Sc
