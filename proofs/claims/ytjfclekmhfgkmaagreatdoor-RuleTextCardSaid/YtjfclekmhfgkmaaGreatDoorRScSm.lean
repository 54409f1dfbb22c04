/- On the way. -/
import Derived.Test.YtjfclekmhfgkmaaGreatDoorRScStkMem
import Derived.Test.YtjfclekmhfgkmaaGreatDoorRScTst4
import Derived.Lib.BufferOwn
import Derived.Deep.QuietTactic
import Derived.Deep.CutBlock
import Derived.BigQuiet
import Derived.Handy
import Derived.Deep.RegionLaw
import Derived.Deep.RegionHeld3
set_option linter.unusedVariables false
set_option linter.unusedSimpArgs false
set_option maxHeartbeats 8000000
set_option maxRecDepth 20000
namespace Go.Proofs.YtjfclekmhfgkmaaGreatDoor.Sc
open Go.RowKit
theorem wpAs {P : Program} {c : Code} {Q : Exit → Act → World → Prop} {a : Act} {w : World} (R : World → Prop) (hR : R w) (h : ∀ V, R V → c.wp P Q a V) : c.wp P Q a w := h w hR
theorem has_8 {w : World} {b : Nat} {a0 a1 a2 a3 a4 a5 a6 a7 : Value} (h : Has w b [a0, a1, a2, a3, a4, a5, a6, a7]) : w.cell? ⟨b, 0, none⟩ = some a0 ∧ w.cell? ⟨b, 1, none⟩ = some a1 ∧ w.cell? ⟨b, 2, none⟩ = some a2 ∧ w.cell? ⟨b, 3, none⟩ = some a3 ∧ w.cell? ⟨b, 4, none⟩ = some a4 ∧ w.cell? ⟨b, 5, none⟩ = some a5 ∧ w.cell? ⟨b, 6, none⟩ = some a6 ∧ w.cell? ⟨b, 7, none⟩ = some a7 :=
 ⟨h.1 0 _ rfl, h.1 1 _ rfl, h.1 2 _ rfl, h.1 3 _ rfl, h.1 4 _ rfl, h.1 5 _ rfl, h.1 6 _ rfl, h.1 7 _ rfl⟩
theorem downN {w W : World} (h : Below w.heap.size w W) (k : Nat) : Below w.heap.size w (W.drewN k) := ⟨h.os, h.tape, h.output, h.size, h.block⟩
theorem sameTexts_same (l : List Str) (va vb : Value) (Fa Fb : Dom) (w : World) (ha : SAt cStr w Fa va l) (hb : SAt cStr w Fb vb l) (hlen : l.length ≤ 1000000) :
    Calls Tryz.prog 23 #[va, vb] w fun e w' => e = .returned (.bool true) ∧ Below w.heap.size w w' := by
 obtain ⟨G, c, rfl, -⟩ := ha.form
 obtain ⟨H, d, rfl, -⟩ := hb.form
 have HA := Lib.hid ha; have HB := Lib.hid hb
 have hq : (l.length != l.length) = false := by simp
 have hq2 : ((l.length : Int) != (l.length : Int)) = false := by simp
 clear ha hb
 go_enter Tryz.func23, Tryz.ntmps23
 go_wp2_with fail
 go_loopw [5] (fun v wr => ∃ j : Nat, v = .int .i64 j ∧ j ≤ l.length ∧ Below w.heap.size w wr) (fun v _ => l.length - (intOf v).toNat)
 case atStart => exact ⟨0, rfl, Nat.zero_le _, Below.refl _ _⟩
 case round =>
  obtain ⟨j, rfl, hj, hbl⟩ := hrel
  have HBL := Lib.hid hbl
  by_cases hlt : j < l.length
  ·obtain ⟨g, o, rfl, e1⟩ := str_get HA.out (Same.of_below hbl) hbl.size j hlt
   obtain ⟨g2, o2, rfl, e2⟩ := str_get HB.out (Same.of_below hbl) hbl.size j hlt
   have hn1 : decide ((j : Int) < (l.length : Int)) = true := decide_eq_true (by omega)
   have hn2 : decide (j < l.length) = true := decide_eq_true hlt
   have HLT := Lib.hid hlt
   generalize l[j] = s at e1 e2
   have hs : ((⟨s.toArray⟩ : ByteArray).toList != (⟨s.toArray⟩ : ByteArray).toList) = false := by simp
   clear hbl hj
   go_wp2_with fail
   go_quiet (fail)
   go_wp2_with fail
   go_roundw
   case rel => exact ⟨j + 1, by go_num, HLT.out, downN HBL.out _⟩
   case measure => have := HLT.out; simp [intOf]; omega
  ·obtain rfl : j = l.length := by omega
   have hn1 : decide ((l.length : Int) < (l.length : Int)) = false := decide_eq_false (by omega)
   clear hbl
   go_wp2_with fail
   go_ret
   exact ⟨rfl, HBL.out⟩
def SmallT (t : Tst) : Prop := t.names.length ≤ 1000000 ∧ t.keys.length ≤ 1000000 ∧ t.tests.length ≤ 1000000 ∧ ∀ s ∈ t.tests, FormT s ∧ (wT s).length ≤ 1000000
theorem SmallT.form {t : Tst} (h : FormT t) (hl : (wT t).length ≤ 1000000) : SmallT t := by
 have hs := wT_subs h
 exact ⟨by omega, by omega, by omega, fun s hm => ⟨h.all s hm, by have := hs.2.2.2 s hm; omega⟩⟩
theorem SmallT.zero : SmallT T0 := ⟨Nat.zero_le _, Nat.zero_le _, Nat.zero_le _, fun _ h => by cases h⟩
def SameT (K : Nat) : Prop := ∀ (t : Tst) (K' : Nat) (us vs : List Value) (Fa Fb : Dom) (w : World), (cTst K).rep w Fa t us → (cTst K').rep w Fb t vs → SmallT t →
    Calls Tryz.prog 24 #[.agg us.toArray, .agg vs.toArray] w fun e w' => e = .returned (.bool true) ∧ Below w.heap.size w w'
theorem sameT_succ (K : Nat) (IH : SameT K) : SameT (K + 1) := by
 intro t K' us vs Fa Fb w ha hb hF
 obtain ⟨m, Gn, cn, Gk, ck, Gt, ct, hm, rfl, hn, hk, ht⟩ := tst_open ha
 obtain ⟨m', Hn, dn, Hk, dk, Ht, dt, -, rfl, hn', hk', ht'⟩ := tst_open hb
 obtain rfl : m = K := by omega
 obtain ⟨hl1, hl2, hl3, hl4⟩ := hF
 have HN := Lib.hid (fun w' (hw : Below w.heap.size w w') => sameTexts_same t.names _ _ Fa Fb w' (hn.stable (Same.of_below hw) hw.size) (hn'.stable (Same.of_below hw) hw.size) hl1)
 have HK := Lib.hid (fun w' (hw : Below w.heap.size w w') => sameTexts_same t.keys _ _ Fa Fb w' (hk.stable (Same.of_below hw) hw.size) (hk'.stable (Same.of_below hw) hw.size) hl2)
 have HT := Lib.hid ht; have HT' := Lib.hid ht'
 have HSUB := Lib.hid hl4
 have htl := hl3
 have HB0 := Lib.hid (ba (ba (Below.refl w.heap.size w) (.cells (tstC t (.slice Gn t.names.length cn) (.slice Gk t.keys.length ck) (.slice Gt t.tests.length ct)).toArray 38)) (.cells (tstC t (.slice Hn t.names.length dn) (.slice Hk t.keys.length dk) (.slice Ht t.tests.length dt)).toArray 38))
 have hA0 := (Has.alloc w (tstC t (.slice Gn t.names.length cn) (.slice Gk t.keys.length ck) (.slice Gt t.tests.length ct)) 38).down (ba (Below.refl _ _) (.cells (tstC t (.slice Hn t.names.length dn) (.slice Hk t.keys.length dk) (.slice Ht t.tests.length dt)).toArray 38))
 have hB0 := Has.alloc (w.alloc (.cells (tstC t (.slice Gn t.names.length cn) (.slice Gk t.keys.length ck) (.slice Gt t.tests.length ct)).toArray 38)) (tstC t (.slice Hn t.names.length dn) (.slice Hk t.keys.length dk) (.slice Ht t.tests.length dt)) 38
 rw [World.size_alloc] at hB0
 have HA0 := Lib.hid hA0; have HBB := Lib.hid hB0
 clear ha hb hl1 hl2 hl3 hl4 hn hk ht hn' hk' ht' hm hA0 hB0
 unfold tstC at *
 obtain ⟨k, hk⟩ : ∃ k, k = t.kind := ⟨_, rfl⟩
 obtain ⟨nn, hnn⟩ : ∃ n, n = t.names.length := ⟨_, rfl⟩
 obtain ⟨nk, hnk⟩ : ∃ n, n = t.keys.length := ⟨_, rfl⟩
 obtain ⟨nt, hnt⟩ : ∃ n, n = t.tests.length := ⟨_, rfl⟩
 generalize t.mat = mt at *
 generalize t.part = pt at *
 generalize t.over = ov at *
 generalize t.limit = lm at *
 rw [← hk, ← hnn, ← hnk, ← hnt] at HA0 HBB HB0 ⊢
 rw [← hnn] at HN
 rw [← hnk] at HK
 rw [← hnt] at HT HT' htl
 have HNT := Lib.hid hnt
 clear hk hnn hnk hnt
 go_enter Tryz.func24, Tryz.ntmps24
 go_upto_region 1 with fail
 refine wpAs (R := fun W => Has W w.heap.size [.int .i64 k, .int .i64 mt, .int .i64 pt, .slice Gn nn cn, .slice Gk nk ck, .bool ov, .int .i64 lm, .slice Gt nt ct] ∧ Has W (w.heap.size + 1) [.int .i64 k, .int .i64 mt, .int .i64 pt, .slice Hn nn dn, .slice Hk nk dk, .bool ov, .int .i64 lm, .slice Ht nt dt] ∧ Below w.heap.size w W) ⟨HA0.out, HBB.out, HB0.out⟩ (fun W hW => ?_)
 clear HA0 HBB HB0
 obtain ⟨hX, hY, hb⟩ := hW
 obtain ⟨x0, x1, x2, x3, x4, x5, x6, x7⟩ := has_8 hX
 obtain ⟨y0, y1, y2, y3, y4, y5, y6, y7⟩ := has_8 hY
 have HX := Lib.hid hX; have HY := Lib.hid hY; have HB := Lib.hid hb
 clear hX hY hb
 go_wp2_with fail
 refine (HN.out _ HB.out).mono ?_
 rintro e W1 ⟨rfl, hb1⟩
 have HX1 := Lib.hid (HX.out.down hb1); have HY1 := Lib.hid (HY.out.down hb1); have HB1 := Lib.hid (bt HB.out hb1)
 clear x0 x1 x2 x3 x4 x5 x6 x7 y0 y1 y2 y3 y4 y5 y6 y7 hb1 HX HY HB HN
 obtain ⟨x0, x1, x2, x3, x4, x5, x6, x7⟩ := has_8 HX1.out
 obtain ⟨y0, y1, y2, y3, y4, y5, y6, y7⟩ := has_8 HY1.out
 go_wp2_with fail
 refine (HK.out _ HB1.out).mono ?_
 rintro e W2 ⟨rfl, hb2⟩
 have HX2 := Lib.hid (HX1.out.down hb2); have HY2 := Lib.hid (HY1.out.down hb2); have HB2 := Lib.hid (bt HB1.out hb2)
 clear x0 x1 x2 x3 x4 x5 x6 x7 y0 y1 y2 y3 y4 y5 y6 y7 hb2 HX1 HY1 HB1 HK
 obtain ⟨x0, x1, x2, x3, x4, x5, x6, x7⟩ := has_8 HX2.out
 obtain ⟨y0, y1, y2, y3, y4, y5, y6, y7⟩ := has_8 HY2.out
 go_wp2_with fail
 clear x0 x1 x2 x3 x4 x5 x6 x7 y0 y1 y2 y3 y4 y5 y6 y7
 obtain ⟨b, hbe⟩ : ∃ b, b = w.heap.size := ⟨_, rfl⟩
 rw [← hbe] at HX2 HY2 ⊢
 clear hbe
 go_loopw [5] (fun v wr => ∃ j : Nat, v = .int .i64 j ∧ j ≤ nt ∧ Has wr b [.int .i64 k, .int .i64 mt, .int .i64 pt, .slice Gn nn cn, .slice Gk nk ck, .bool ov, .int .i64 lm, .slice Gt nt ct] ∧ Has wr (b + 1) [.int .i64 k, .int .i64 mt, .int .i64 pt, .slice Hn nn dn, .slice Hk nk dk, .bool ov, .int .i64 lm, .slice Ht nt dt] ∧ Below w.heap.size w wr) (fun v _ => nt - (intOf v).toNat)
 case atStart => exact ⟨0, rfl, Nat.zero_le _, HX2.out, HY2.out, HB2.out⟩
 case round =>
  obtain ⟨j, rfl, hj, hX, hY, hbl⟩ := hrel
  have x7 := hX.1 7 _ rfl
  have y7 := hY.1 7 _ rfl
  have HX := Lib.hid hX; have HY := Lib.hid hY; have HBL := Lib.hid hbl
  clear hX hY HX2 HY2 HB2
  by_cases hlt : j < nt
  ·have hjt : j < t.tests.length := by rw [← HNT.out]; exact hlt
   obtain ⟨g, o, Pn, an, Pk, ak, Pt, at', rfl, hr, a0, a1, a2, a3, a4, a5, a6, a7⟩ := tst_get HT.out (Same.of_below hbl) hbl.size j hjt
   obtain ⟨g2, o2, Qn, bn, Qk, bk, Qt, bt', rfl, hr', b0, b1, b2, b3, b4, b5, b6, b7⟩ := tst_get HT'.out (Same.of_below hbl) hbl.size j hjt
   have hs := HSUB.out _ (List.getElem_mem hjt)
   generalize t.tests[j] = s at hr hr' hs a0 a1 a2 a3 a4 a5 a6 a7 b0 b1 b2 b3 b4 b5 b6 b7
   have HC := Lib.hid (fun w' (hw : Below wr.heap.size wr w') => IH s m' _ _ Fa Fb w' ((cTst m).stable hr (Same.of_below hw) hw.size) ((cTst m').stable hr' (Same.of_below hw) hw.size) (SmallT.form hs.1 hs.2))
   unfold tstC at HC
   have hn1 : decide ((j : Int) < (nt : Int)) = true := decide_eq_true (by omega)
   have hn2 : decide (j < nt) = true := decide_eq_true hlt
   have HLT := Lib.hid hlt
   clear hr hr' hs hbl hj hjt
   go_upto_region 6 with fail
   refine wp_region_noPanic ?_
   go_region_law (go_simp; go_at_call 24; refine (HC.out _ (Below.drew (Below.refl _ _))).mono ?_; rintro e w3 ⟨rfl, hb3⟩)
   all_goals
    refine NoPanic.normal ?_
    have HX3 := Lib.hid ((HX.out.down (Below.drew (Below.refl _ _))).down hb3)
    have HY3 := Lib.hid ((HY.out.down (Below.drew (Below.refl _ _))).down hb3)
    have HB3 := Lib.hid (bt (bt HBL.out (Below.drew (Below.refl _ _))) hb3)
    clear hb3 x7 y7 a0 a1 a2 a3 a4 a5 a6 a7 b0 b1 b2 b3 b4 b5 b6 b7 HC
    go_wp2_with fail
    go_roundw
    case rel => exact ⟨j + 1, by go_num, HLT.out, HX3.out, HY3.out, HB3.out⟩
    case measure => have := HLT.out; simp [intOf]; omega
  ·obtain rfl : j = nt := by omega
   have hn1 : decide ((j : Int) < (j : Int)) = false := decide_eq_false (by omega)
   clear hbl
   go_wp2_with fail
   go_ret
   exact ⟨rfl, HBL.out⟩
theorem sameT_every : ∀ K, SameT K
 | 0 => fun _ _ _ _ _ _ _ h _ _ => h.elim
 | K + 1 => sameT_succ K (sameT_every K)
theorem cmd_parts {n : Nat} {w : World} {F : Dom} {c : Cmd} {vx a b d vh ve : Value} (h : (cCmd n).rep w F c (cmdC c vx (tstC c.test a b d) vh ve)) : ∃ m, n = m + 1 ∧ SAt cStr w F vx c.texts ∧ (cTst (m + 1)).rep w F c.test (tstC c.test a b d) ∧ SAt (cCmd m) w F vh c.thn ∧ SAt (cCmd m) w F ve c.els := by
 cases n with
 | zero => exact h.elim
 | succ m =>
  obtain ⟨vx', ts, vh', ve', hv, h1, h2, h3, h4⟩ := h
  obtain ⟨_, Gn, cn, Gk, ck, Gt, ct, -, rfl, -⟩ := tst_open h2
  simp [cmdC, tstC] at hv
  obtain ⟨rfl, rfl, rfl, rfl, rfl, rfl⟩ := hv
  exact ⟨m, rfl, h1, h2, h3, h4⟩
def SameC (K : Nat) : Prop := ∀ (cs : List Cmd) (K' : Nat) (va vb : Value) (Fa Fb : Dom) (w : World), SAt (cCmd K) w Fa va cs → SAt (cCmd K') w Fb vb cs → (∀ c ∈ cs, FormC c) → (cs.flatMap wC).length ≤ 1000000 →
    Calls Tryz.prog 8 #[va, vb] w fun e w' => e = .returned (.bool true) ∧ Below w.heap.size w w'
theorem small_cmd {c : Cmd} (h : FormC c) (hl : (wC c).length ≤ 1000000) : SmallT c.test ∧ c.texts.length ≤ 1000000 ∧ (∀ x ∈ c.thn, FormC x) ∧ (∀ x ∈ c.els, FormC x) ∧ (c.thn.flatMap wC).length ≤ 1000000 ∧ (c.els.flatMap wC).length ≤ 1000000 := by
 have hs := wC_subs h
 obtain ⟨-, h2⟩ := (FormC.iff c).1 h
 rcases h2 with ⟨hk, hT, h3, h4⟩ | ⟨-, e1, e2, e3⟩
 ·have := hs.2 hk
  exact ⟨SmallT.form hT (by omega), by omega, h3, h4, by omega, by omega⟩
 ·rw [e1, e2, e3]
  exact ⟨SmallT.zero, by omega, (fun _ h => by cases h), (fun _ h => by cases h), Nat.zero_le _, Nat.zero_le _⟩
theorem sameC_nil (G H : Option Addr) (c d : Nat) (w : World) :
    Calls Tryz.prog 8 #[.slice G 0 c, .slice H 0 d] w fun e w' => e = .returned (.bool true) ∧ Below w.heap.size w w' := by
 go_enter Tryz.func8, Tryz.ntmps8
 go_wp2_with fail
 go_loopw [5] (fun v wr => v = .int .i64 0 ∧ Below w.heap.size w wr) (fun _ _ => 0)
 case atStart => exact ⟨rfl, Below.refl _ _⟩
 case round =>
  obtain ⟨rfl, hb⟩ := hrel
  have HB := Lib.hid hb
  clear hb
  go_wp2_with fail
  go_ret
  exact ⟨rfl, HB.out⟩
theorem sameC_succ (K : Nat) (IH : SameC K) : SameC (K + 1) := by
 intro cs K' va vb Fa Fb w ha hb hF hlen
 obtain ⟨G, c, rfl, -⟩ := ha.form
 obtain ⟨H, d, rfl, -⟩ := hb.form
 have hfl := flatC_len cs
 have HA := Lib.hid ha; have HB := Lib.hid hb
 have HSM : Hid (∀ c ∈ cs, SmallT c.test ∧ c.texts.length ≤ 1000000 ∧ (∀ x ∈ c.thn, FormC x) ∧ (∀ x ∈ c.els, FormC x) ∧ (c.thn.flatMap wC).length ≤ 1000000 ∧ (c.els.flatMap wC).length ≤ 1000000) := fun c hc => small_cmd (hF c hc) (by have := hfl.2 c hc; omega)
 have hcl : cs.length ≤ 1000000 := by omega
 have hq : (cs.length != cs.length) = false := by simp
 clear ha hb hF hlen hfl
 go_enter Tryz.func8, Tryz.ntmps8
 go_wp2_with fail
 go_loopw [5] (fun v wr => ∃ j : Nat, v = .int .i64 j ∧ j ≤ cs.length ∧ Below w.heap.size w wr) (fun v _ => cs.length - (intOf v).toNat)
 case atStart => exact ⟨0, rfl, Nat.zero_le _, Below.refl _ _⟩
 case round =>
  obtain ⟨j, rfl, hj, hbl⟩ := hrel
  have HBL := Lib.hid hbl
  by_cases hlt : j < cs.length
  ·obtain ⟨g, o, Gx, cx, Gn, cn, Gk, ck, Gt, ct, Gh, ch, Ge, ce, rfl, hr, a0, a1, ⟨a2, a3, a4, a5, a6, a7, a8, a9⟩, a10, a11⟩ := cmd_get HA.out (Same.of_below hbl) hbl.size j hlt
   obtain ⟨g2, o2, Hx, dx, Hn, dn, Hk, dk, Ht, dt, Hh, dh, He, de, rfl, hr', b0, b1, ⟨b2, b3, b4, b5, b6, b7, b8, b9⟩, b10, b11⟩ := cmd_get HB.out (Same.of_below hbl) hbl.size j hlt
   have hs := HSM.out _ (List.getElem_mem hlt)
   generalize cs[j] = s at hr hr' hs a0 a1 a2 a3 a4 a5 a6 a7 a8 a9 a10 a11 b0 b1 b2 b3 b4 b5 b6 b7 b8 b9 b10 b11
   obtain ⟨m, hm, p1, p2, p3, p4⟩ := cmd_parts hr
   obtain ⟨m', -, q1, q2, q3, q4⟩ := cmd_parts hr'
   obtain rfl : m = K := by omega
   have HTX := Lib.hid (fun w' (hw : Below wr.heap.size wr w') => sameTexts_same s.texts _ _ Fa Fb w' (p1.stable (Same.of_below hw) hw.size) (q1.stable (Same.of_below hw) hw.size) hs.2.1)
   have HTE := Lib.hid (fun w' (hw : Below wr.heap.size wr w') => sameT_every (m + 1) s.test (m' + 1) _ _ Fa Fb w' ((cTst (m + 1)).stable p2 (Same.of_below hw) hw.size) ((cTst (m' + 1)).stable q2 (Same.of_below hw) hw.size) hs.1)
   have HTH := Lib.hid (fun w' (hw : Below wr.heap.size wr w') => IH s.thn m' _ _ Fa Fb w' (p3.stable (Same.of_below hw) hw.size) (q3.stable (Same.of_below hw) hw.size) hs.2.2.1 hs.2.2.2.2.1)
   have HEL := Lib.hid (fun w' (hw : Below wr.heap.size wr w') => IH s.els m' _ _ Fa Fb w' (p4.stable (Same.of_below hw) hw.size) (q4.stable (Same.of_below hw) hw.size) hs.2.2.2.1 hs.2.2.2.2.2)
   unfold tstC at HTE
   have HS : Hid (∀ w', Below wr.heap.size wr w' → w'.cell? ⟨g, o + j * 12, none⟩ = some (.int .i64 s.kind) ∧ w'.cell? ⟨g, o + j * 12 + 1, none⟩ = some (.slice Gx s.texts.length cx) ∧ w'.cell? ⟨g, o + j * 12 + 2, none⟩ = some (.int .i64 s.test.kind) ∧ w'.cell? ⟨g, o + j * 12 + 3, none⟩ = some (.int .i64 s.test.mat) ∧ w'.cell? ⟨g, o + j * 12 + 4, none⟩ = some (.int .i64 s.test.part) ∧ w'.cell? ⟨g, o + j * 12 + 5, none⟩ = some (.slice Gn s.test.names.length cn) ∧ w'.cell? ⟨g, o + j * 12 + 6, none⟩ = some (.slice Gk s.test.keys.length ck) ∧ w'.cell? ⟨g, o + j * 12 + 7, none⟩ = some (.bool s.test.over) ∧ w'.cell? ⟨g, o + j * 12 + 8, none⟩ = some (.int .i64 s.test.limit) ∧ w'.cell? ⟨g, o + j * 12 + 9, none⟩ = some (.slice Gt s.test.tests.length ct) ∧ w'.cell? ⟨g, o + j * 12 + 10, none⟩ = some (.slice Gh s.thn.length ch) ∧ w'.cell? ⟨g, o + j * 12 + 11, none⟩ = some (.slice Ge s.els.length ce) ∧ w'.cell? ⟨g2, o2 + j * 12, none⟩ = some (.int .i64 s.kind) ∧ w'.cell? ⟨g2, o2 + j * 12 + 1, none⟩ = some (.slice Hx s.texts.length dx) ∧ w'.cell? ⟨g2, o2 + j * 12 + 2, none⟩ = some (.int .i64 s.test.kind) ∧ w'.cell? ⟨g2, o2 + j * 12 + 3, none⟩ = some (.int .i64 s.test.mat) ∧ w'.cell? ⟨g2, o2 + j * 12 + 4, none⟩ = some (.int .i64 s.test.part) ∧ w'.cell? ⟨g2, o2 + j * 12 + 5, none⟩ = some (.slice Hn s.test.names.length dn) ∧ w'.cell? ⟨g2, o2 + j * 12 + 6, none⟩ = some (.slice Hk s.test.keys.length dk) ∧ w'.cell? ⟨g2, o2 + j * 12 + 7, none⟩ = some (.bool s.test.over) ∧ w'.cell? ⟨g2, o2 + j * 12 + 8, none⟩ = some (.int .i64 s.test.limit) ∧ w'.cell? ⟨g2, o2 + j * 12 + 9, none⟩ = some (.slice Ht s.test.tests.length dt) ∧ w'.cell? ⟨g2, o2 + j * 12 + 10, none⟩ = some (.slice Hh s.thn.length dh) ∧ w'.cell? ⟨g2, o2 + j * 12 + 11, none⟩ = some (.slice He s.els.length de)) := fun w' hw => ⟨moved a0 hw (Nat.le_refl _), moved a1 hw (Nat.le_refl _), moved a2 hw (Nat.le_refl _), moved a3 hw (Nat.le_refl _), moved a4 hw (Nat.le_refl _), moved a5 hw (Nat.le_refl _), moved a6 hw (Nat.le_refl _), moved a7 hw (Nat.le_refl _), moved a8 hw (Nat.le_refl _), moved a9 hw (Nat.le_refl _), moved a10 hw (Nat.le_refl _), moved a11 hw (Nat.le_refl _), moved b0 hw (Nat.le_refl _), moved b1 hw (Nat.le_refl _), moved b2 hw (Nat.le_refl _), moved b3 hw (Nat.le_refl _), moved b4 hw (Nat.le_refl _), moved b5 hw (Nat.le_refl _), moved b6 hw (Nat.le_refl _), moved b7 hw (Nat.le_refl _), moved b8 hw (Nat.le_refl _), moved b9 hw (Nat.le_refl _), moved b10 hw (Nat.le_refl _), moved b11 hw (Nat.le_refl _)⟩
   have hn1 : decide ((j : Int) < (cs.length : Int)) = true := decide_eq_true (by omega)
   have hn2 : decide (j < cs.length) = true := decide_eq_true hlt
   have HLT := Lib.hid hlt
   clear hr hr' hs hbl hj hm p1 p2 p3 p4 q1 q2 q3 q4 a0 a1 a2 a3 a4 a5 a6 a7 a8 a9 a10 a11 b0 b1 b2 b3 b4 b5 b6 b7 b8 b9 b10 b11
   generalize s.kind = kk at *
   generalize s.test.kind = tk at *
   generalize s.test.mat = tm at *
   generalize s.test.part = tp at *
   generalize s.test.over = tov at *
   generalize s.test.limit = tl at *
   go_upto_region 6 with fail
   simp only [List.append_eq, List.cons_append, List.nil_append]
   refine wp_region_noPanic ?_
   go_region_held3 (fun w' => w'.cell? ⟨g, o + j * 12, none⟩ = some (.int .i64 kk) ∧ w'.cell? ⟨g, o + j * 12 + 1, none⟩ = some (.slice Gx s.texts.length cx) ∧ w'.cell? ⟨g, o + j * 12 + 2, none⟩ = some (.int .i64 tk) ∧ w'.cell? ⟨g, o + j * 12 + 3, none⟩ = some (.int .i64 tm) ∧ w'.cell? ⟨g, o + j * 12 + 4, none⟩ = some (.int .i64 tp) ∧ w'.cell? ⟨g, o + j * 12 + 5, none⟩ = some (.slice Gn s.test.names.length cn) ∧ w'.cell? ⟨g, o + j * 12 + 6, none⟩ = some (.slice Gk s.test.keys.length ck) ∧ w'.cell? ⟨g, o + j * 12 + 7, none⟩ = some (.bool tov) ∧ w'.cell? ⟨g, o + j * 12 + 8, none⟩ = some (.int .i64 tl) ∧ w'.cell? ⟨g, o + j * 12 + 9, none⟩ = some (.slice Gt s.test.tests.length ct) ∧ w'.cell? ⟨g, o + j * 12 + 10, none⟩ = some (.slice Gh s.thn.length ch) ∧ w'.cell? ⟨g, o + j * 12 + 11, none⟩ = some (.slice Ge s.els.length ce) ∧ w'.cell? ⟨g2, o2 + j * 12, none⟩ = some (.int .i64 kk) ∧ w'.cell? ⟨g2, o2 + j * 12 + 1, none⟩ = some (.slice Hx s.texts.length dx) ∧ w'.cell? ⟨g2, o2 + j * 12 + 2, none⟩ = some (.int .i64 tk) ∧ w'.cell? ⟨g2, o2 + j * 12 + 3, none⟩ = some (.int .i64 tm) ∧ w'.cell? ⟨g2, o2 + j * 12 + 4, none⟩ = some (.int .i64 tp) ∧ w'.cell? ⟨g2, o2 + j * 12 + 5, none⟩ = some (.slice Hn s.test.names.length dn) ∧ w'.cell? ⟨g2, o2 + j * 12 + 6, none⟩ = some (.slice Hk s.test.keys.length dk) ∧ w'.cell? ⟨g2, o2 + j * 12 + 7, none⟩ = some (.bool tov) ∧ w'.cell? ⟨g2, o2 + j * 12 + 8, none⟩ = some (.int .i64 tl) ∧ w'.cell? ⟨g2, o2 + j * 12 + 9, none⟩ = some (.slice Ht s.test.tests.length dt) ∧ w'.cell? ⟨g2, o2 + j * 12 + 10, none⟩ = some (.slice Hh s.thn.length dh) ∧ w'.cell? ⟨g2, o2 + j * 12 + 11, none⟩ = some (.slice He s.els.length de)) (first | exact HS.out _ hcur | exact HS.out _ (Below.drew (Below.refl _ _)) | go_keep) (first
    | (go_at_call 23; refine (HTX.out _ (by first | exact hcur | exact Below.drew (Below.refl _ _))).mono ?_; rintro e w5 ⟨rfl, hb5⟩; have hcur : Below wr.heap.size wr w5 := (by first | exact bt hcur hb5 | exact bt (Below.drew (Below.refl _ _)) hb5); clear hb5)
    | (go_at_call 24; refine (HTE.out _ (by first | exact hcur | exact Below.drew (Below.refl _ _))).mono ?_; rintro e w6 ⟨rfl, hb5⟩; have hcur : Below wr.heap.size wr w6 := (by first | exact bt hcur hb5 | exact bt (Below.drew (Below.refl _ _)) hb5); clear hb5)
    | (go_at_call 8; (first | (with_reducible refine (HTH.out _ (by first | exact hcur | exact Below.drew (Below.refl _ _))).mono ?_) | (with_reducible refine (HEL.out _ (by first | exact hcur | exact Below.drew (Below.refl _ _))).mono ?_)); rintro e w7 ⟨rfl, hb5⟩; have hcur : Below wr.heap.size wr w7 := (by first | exact bt hcur hb5 | exact bt (Below.drew (Below.refl _ _)) hb5); clear hb5))
   all_goals
    refine NoPanic.normal ?_
    have HB9 := Lib.hid (bt HBL.out hcur)
    clear hcur HTX HTE HTH HEL HS
    go_wp2_with fail
    go_roundw
    case rel => exact ⟨j + 1, by go_num, HLT.out, HB9.out⟩
    case measure => have := HLT.out; simp [intOf]; omega
  ·obtain rfl : j = cs.length := by omega
   have hn1 : decide ((cs.length : Int) < (cs.length : Int)) = false := decide_eq_false (by omega)
   clear hbl
   go_wp2_with fail
   go_ret
   exact ⟨rfl, HBL.out⟩
theorem sameC_every : ∀ K, SameC K
 | 0 => fun cs K' va vb Fa Fb w ha hb hF hlen => by
  cases cs with
  | nil =>
   obtain ⟨G, c, rfl, -⟩ := ha.form
   obtain ⟨H, d, rfl, -⟩ := hb.form
   exact sameC_nil G H c d w
  | cons c l =>
   obtain ⟨_, _, _, _, hf⟩ := ha
   obtain ⟨_, _, _, _, _, _, h, _⟩ := hf 0 c rfl
   exact h.elim
 | K + 1 => sameC_succ K (sameC_every K)
end Go.Proofs.YtjfclekmhfgkmaaGreatDoor.Sc
