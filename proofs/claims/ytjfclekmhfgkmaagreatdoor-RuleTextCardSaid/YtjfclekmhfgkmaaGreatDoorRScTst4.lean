/- On the way. -/
import Derived.Test.YtjfclekmhfgkmaaGreatDoorRScTstH
import Derived.Deep.DeepCutAuto
import Derived.Deep.CutBlock
import Derived.IntWalk
set_option linter.unusedVariables false
set_option linter.unusedSimpArgs false
set_option maxHeartbeats 8000000
set_option maxRecDepth 20000
namespace Go.Proofs.YtjfclekmhfgkmaaGreatDoor.Sc
open Go.RowKit
open Tk (Tok)
theorem SAt.bd {α : Type} {c : Cod α} {w : World} {F : Dom} {v : Value} {xs : List α} (hr : ∀ x vs, c.rep w F x vs → c.rep w (fun b => F b ∧ b < w.heap.size) x vs) (h : SAt c w F v xs) : SAt c w (fun b => F b ∧ b < w.heap.size) v xs := by
 obtain ⟨G, cap, hv, hc, hf⟩ := h
 refine ⟨G, cap, hv, hc, fun i x hi => ?_⟩
 obtain ⟨g, off, hG, hF, hg, vs, h1, h2⟩ := hf i x hi
 exact ⟨g, off, hG, ⟨hF, hg⟩, hg, vs, hr x vs h1, h2⟩
theorem tst_bd : ∀ (n : Nat) {w : World} {F : Dom} {t : Tst} {vs : List Value}, (cTst n).rep w F t vs → (cTst n).rep w (fun b => F b ∧ b < w.heap.size) t vs
 | 0, _, _, _, _, h => h.elim
 | n + 1, _, _, _, _, ⟨vn, vk, vt, h, h1, h2, h3⟩ => ⟨vn, vk, vt, h, sat_lt h1, sat_lt h2, SAt.bd (fun _ _ hr => tst_bd n hr) h3⟩
theorem TB.other {w wx : World} {S I : Nat} {xs ts : List Value} (h : TB w wx S xs ts) (hI : S + 1 + 1 < I) (hS : w.heap.size ≤ S) (i : Nat) (u : Value) : TB w (wx.setCell ⟨I, i, none⟩ u) S xs ts :=
 ⟨h.stick.else' (by omega) u, h.res.else' (by omega) u, h.tst.else' (by omega) u, h.bel.setCell (by show w.heap.size ≤ I; omega) u⟩
theorem zero64 : (-9223372036854775808 : Int) ≤ 0 ∧ (0 : Int) ≤ 9223372036854775807 := ⟨by decide, by decide⟩
theorem notS_get (x : Stk) (h : 0 < x.subs.length) : notS x = x.subs[0] := by
 obtain ⟨k, a, b, s, t, subs⟩ := x
 cases subs with
 | nil => exact absurd h (Nat.lt_irrefl 0)
 | cons y r => rfl
def TestsAt (m K : Nat) (d : Int) : Prop := ∀ (n : Nat) (y : Stk) (vs : List Value) (F : Dom) (w' : World), (cStk n).rep w' F y vs → Calls Tryz.prog 44 #[.agg vs.toArray, .int .i64 d] w' (TestPost (testS m y) K w')
def SubNew (w : World) (S K : Nat) (xs : List Value) (lf : Tst) (wx : World) : Prop := ∃ (k : Int) (G : Option Addr) (c : Nat) (ts : List Tst),
 TB w wx S xs [.int .i64 k, .int .i64 0, .int .i64 0, .slice none 0 0, .slice none 0 0, .bool false, .int .i64 0, .slice G ts.length c] ∧ SAt (cTst K) wx (fun b => S + 1 + 1 < b) (.slice G ts.length c) ts ∧ lf = ⟨k, 0, 0, [], [], false, 0, ts⟩
theorem sub_end {S : Nat} {t : Tst} {K : Nat} {k : Int} {vt : Value} {ts : List Tst} {xs us : List Value} {a : Act} {W w : World} (ht : a.tmps.getD 4 undef = .pointer (some ⟨S + 1, 0, none⟩)) (hd : a.defers = []) (h : TB w W S xs us) (hS : w.heap.size ≤ S)
    (hk : SAt (cTst K) W (fun b => S + 1 + 1 < b) vt ts) (he : t = ⟨k, 0, 0, [], [], false, 0, ts⟩) :
    bodyPost Tryz.prog Tryz.f44 (TestPost t (K + 1) w) .ret a (put8 W (S + 1) (.int .i64 k) (.int .i64 0) (.int .i64 0) (.slice none 0 0) (.slice none 0 0) (.bool false) (.int .i64 0) vt) := by
 subst he
 have hsm : Same (fun b => S + 1 + 1 < b) W (put8 W (S + 1) (.int .i64 k) (.int .i64 0) (.int .i64 0) (.slice none 0 0) (.slice none 0 0) (.bool false) (.int .i64 0) vt) := fun b hb _ => put8_same (by omega) _ _ _ _ _ _ _ _
 have hsz := put8_size (W := W) (R := S + 1) (.int .i64 k) (.int .i64 0) (.int .i64 0) (.slice none 0 0) (.slice none 0 0) (.bool false) (.int .i64 0) vt
 refine test_end ht hd (put8_has h.res _ _ _ _ _ _ _ _) ?_ (put8_below h.bel (by omega) _ _ _ _ _ _ _ _)
 exact ⟨_, _, _, rfl, SAt.nil _ _ _, SAt.nil _ _ _, (hk.stable hsm hsz).mono (fun b hb => by omega)⟩
theorem sat_one_tst {w : World} {F : Dom} {K : Nat} {t : Tst} {vs : List Value} {ty : TypeId} (h : (cTst K).rep w F t vs) : SAt (cTst K) (w.alloc (.cells vs.toArray ty)) (fun b => F b ∨ b = w.heap.size) (.slice (some ⟨w.heap.size, 0, none⟩) 1 1) [t] := by
 refine ⟨_, 1, rfl, Nat.le_refl _, fun i y hi => ?_⟩
 have h0 : i = 0 := by have := (List.getElem?_eq_some_iff.1 hi).1; simp at this; omega
 subst h0
 obtain rfl : t = y := Option.some.inj hi
 refine ⟨w.heap.size, 0, rfl, .inr rfl, by simp, vs, (cTst K).mono ((cTst K).stable h (Same.of_below (ba (Below.refl _ _) _)) (by simp)) (fun b hb => .inl hb), fun j u hj => ?_⟩
 have := (Has.alloc w vs ty).1 j u hj
 simpa using this
theorem oct_form {K : Nat} {w : World} {F : Dom} {t : Tst} {vs : List Value} (h : (cTst K).rep w F t vs) : ∃ k m p G1 n1 c1 G2 n2 c2 o l G3 n3 c3, vs = [.int .i64 k, .int .i64 m, .int .i64 p, .slice G1 n1 c1, .slice G2 n2 c2, .bool o, .int .i64 l, .slice G3 n3 c3] := by
 obtain ⟨_, G1, c1, G2, c2, G3, c3, -, rfl, -⟩ := tst_open h
 exact ⟨_, _, _, _, _, _, _, _, _, _, _, _, _, _, rfl⟩
theorem test_not (m K n : Nat) (x : Stk) (v : Value) (d : Int) (F : Dom) (w : World) (hIH : TestsAt m K (d + 1)) (hv : SAt (cStk n) w F v x.subs) (hb : Bd x) (h : kindS x = 3) (hd : 1 ≤ d ∧ d ≤ 2) :
    Calls Tryz.prog 44 #[.agg (stkC x v).toArray, .int .i64 d] w (TestPost (testS (m + 1) x) (K + 1) w) := by
 have HPK : Hid (∀ w, Calls Tryz.prog 43 #[.int .i64 x.kind, .int .i64 10] w fun e w' => e = .returned (.int .i64 (pick x.kind 10)) ∧ w = w') := fun w => picked_any x.kind 10 w hb.k.1 hb.k.2 (by omega) (by omega)
 have hlf : testS (m + 1) x = ⟨3, 0, 0, [], [], false, 0, [testS m (notS x)]⟩ := by rw [testS, if_pos h]
 have hp := pick_lt_int x.kind 10 (by omega)
 unfold kindS at h
 obtain ⟨p, hpp⟩ : ∃ p, p = pick x.kind 10 := ⟨_, rfl⟩
 rw [← hpp] at HPK hp h
 obtain ⟨lf, hlf2⟩ : ∃ lf, lf = testS (m + 1) x := ⟨_, rfl⟩
 rw [← hlf2] at hlf ⊢
 have HLF := Lib.hid hlf; have HB := Lib.hid hb; have HIH := Lib.hid hIH
 have HTS := Lib.hid (fun (ts : List Value) => tb_start w (stkC x v) ts 72 38 38)
 obtain ⟨G, c, rfl, -⟩ := hv.form
 have hin : (x.subs.length = 0 ∧ notS x = ⟨x.a, 0, 0, [], [], []⟩) ∨ (0 < x.subs.length ∧ ∃ g off G' c' y, G = some ⟨g, off, none⟩ ∧ g < w.heap.size ∧ notS x = y ∧ ∀ wr, Below w.heap.size w wr → (cStk n).rep wr F y (stkC y (.slice G' y.subs.length c')) ∧ wr.cell? ⟨g, off, none⟩ = some (.int .i64 y.kind) ∧ wr.cell? ⟨g, off + 1, none⟩ = some (.int .i64 y.a) ∧ wr.cell? ⟨g, off + 2, none⟩ = some (.int .i64 y.b) ∧
     wr.cell? ⟨g, off + 3, none⟩ = some (.string ⟨y.s.toArray⟩) ∧ wr.cell? ⟨g, off + 4, none⟩ = some (.string ⟨y.t.toArray⟩) ∧ wr.cell? ⟨g, off + 5, none⟩ = some (.slice G' y.subs.length c')) := by
  rcases Nat.eq_zero_or_pos x.subs.length with h0 | h0
  ·left
   refine ⟨h0, ?_⟩
   unfold notS
   rw [List.eq_nil_of_length_eq_zero h0]
  ·right
   obtain ⟨g, off, vs, hG, hF, hg, hr, hc⟩ := hv.get 0 h0
   obtain ⟨_, G', c', -, rfl, -⟩ := stk_open hr
   refine ⟨h0, g, off, G', c', x.subs[0], hG, hg, ?_, fun wr hbw => ?_⟩
   ·exact notS_get x h0
   ·obtain ⟨g2, off2, G2, c2, hG2, hr2, d0, d1, d2, d3, d4, d5⟩ := stk_get hv (Same.of_below hbw) hbw.size 0 h0
    obtain ⟨rfl, rfl⟩ : g = g2 ∧ off = off2 := by rw [hG] at hG2; cases hG2; exact ⟨rfl, rfl⟩
    have hcc := (Same.of_below hbw (F := F)).cell hF (hc 5 _ rfl)
    have e5 : (Value.slice G' x.subs[0].subs.length c') = .slice G2 x.subs[0].subs.length c2 := by
     have h1 : wr.cell? ⟨g, off + 0 * (cStk n).size + 5, none⟩ = some (.slice G2 x.subs[0].subs.length c2) := d5
     rw [hcc] at h1; exact Option.some.inj h1
    rw [e5]
    simp only [Nat.zero_mul, Nat.add_zero] at d0 d1 d2 d3 d4 d5
    exact ⟨hr2, d0, d1, d2, d3, d4, d5⟩
 have HIN := Lib.hid hin
 obtain ⟨xk, xa, xb, xs, xt, xsub⟩ := x
 simp only [stkC] at *
 obtain rfl : p = 2 := by omega
 clear hpp hp h hb hlf hlf2 hIH hv hin
 obtain ⟨hd1, hd3⟩ := hd
 have hdd : decide ((3 : Int) ≤ d) = false := decide_eq_false (by omega)
 obtain ⟨S, hSe⟩ : ∃ S, S = w.heap.size := ⟨_, rfl⟩
 rw [← hSe] at HTS
 have HSE := Lib.hid hSe.symm
 clear hSe
 go_enter Tryz.func44, Tryz.ntmps44
 go_upto_region 2 with (go_at_call 43; refine (HPK.out _).mono ?_; rintro e w' ⟨rfl, rfl⟩)
 go_upto_block 0 with fail
 rw [HSE.out]
 go_cut [] (fun wx => SubNew w S K [.int .i64 xk, .int .i64 xa, .int .i64 xb, .string ⟨xs.toArray⟩, .string ⟨xt.toArray⟩, .slice G xsub.length c] lf wx)
 case rest =>
  have hS2 : w.heap.size ≤ S := by rw [HSE.out]; exact Nat.le_refl _
  obtain ⟨k', G', c', ts', hT', hN', hE'⟩ := hcut
  obtain ⟨e0, e1, e2, e3, e4, e5, e6, e7⟩ := has_oct' hT'.tst
  obtain ⟨r0, r1, r2, r3, r4, r5, r6, r7⟩ := has_oct' hT'.res
  have g0 := hT'.res.2.1 0 (by simp [res8])
  have g1 := hT'.res.2.1 1 (by simp [res8])
  have g2 := hT'.res.2.1 2 (by simp [res8])
  have g3 := hT'.res.2.1 3 (by simp [res8])
  have g4 := hT'.res.2.1 4 (by simp [res8])
  have g5 := hT'.res.2.1 5 (by simp [res8])
  have g6 := hT'.res.2.1 6 (by simp [res8])
  have g7 := hT'.res.2.1 7 (by simp [res8])
  have HT' := Lib.hid hT'; have HN' := Lib.hid hN'; have HE' := Lib.hid hE'
  clear hT' hN' hE'
  go_wp2_with fail
  refine sub_end ?_ ?_ HT'.out hS2 HN'.out ?_
  ·rfl
  ·rfl
  ·exact HE'.out
 case first =>
  have hS2 : w.heap.size ≤ S := by rw [HSE.out]; exact Nat.le_refl _
  go_upto_region 7 with fail
  refine wp_at (R := fun W => TB w W S _ _) (HTS.out _) (fun W hW => ?_)
  obtain ⟨c0, c1, c2, c3, c4, c5⟩ := has_six hW.stick
  have HW := Lib.hid hW
  clear hW
  go_upto_region 8 with fail
  have hal := ba (Below.refl W.heap.size W) (.cells #[.int .i64 xa, .int .i64 0, .int .i64 0, .string ⟨#[]⟩, .string ⟨#[]⟩, .slice none 0 0] 72)
  refine wp_at (R := fun W2 => TB w W2 S [.int .i64 xk, .int .i64 xa, .int .i64 xb, .string ⟨xs.toArray⟩, .string ⟨xt.toArray⟩, .slice G xsub.length c] [.int .i64 3, .int .i64 0, .int .i64 0, .slice none 0 0, .slice none 0 0, .bool false, .int .i64 0, .slice none 0 0] ∧ Has W2 W.heap.size [.int .i64 xa, .int .i64 0, .int .i64 0, .string ⟨#[]⟩, .string ⟨#[]⟩, .slice none 0 0]) ⟨HW.out.down hal, Has.alloc W _ _⟩ (fun W2 hW2 => ?_)
  have hSI : S + 1 + 1 < W.heap.size := HW.out.tst.2.2
  generalize W.heap.size = I at hSI hW2 ⊢
  obtain ⟨hW2, hI2⟩ := hW2
  clear HW hal c0 c1 c2 c3 c4 c5
  obtain ⟨-, -, -, -, -, c5⟩ := has_six hW2.stick
  rcases HIN.out with ⟨h0, hns⟩ | ⟨h0, g, off, G', c', y, rfl, hgw, hns, hy⟩
  ·have hn0 : ¬ 0 < xsub.length := by omega
   have hbx := HB.out.a
   have hct := HIH.out 1 ⟨xa, 0, 0, [], [], []⟩ (stkC ⟨xa, 0, 0, [], [], []⟩ (.slice none 0 0)) (fun _ => True) W2 ⟨⟨_, rfl, SAt.nil _ _ _⟩, ⟨hbx, zero64, zero64, Nat.zero_le _, Nat.zero_le _, Nat.zero_le _⟩⟩
   have HCT : Hid (Calls Tryz.prog 44 #[.agg #[.int .i64 xa, .int .i64 0, .int .i64 0, .string ⟨#[]⟩, .string ⟨#[]⟩, .slice none 0 0], .int .i64 (d + 1)] W2 (TestPost (testS m ⟨xa, 0, 0, [], [], []⟩) K W2)) := hct
   have HW3 := Lib.hid hW2; have HI3 := Lib.hid hI2; have HNS := Lib.hid hns
   clear hW2 hI2 hns h0 HIN hct hbx
   obtain ⟨W3, hW3⟩ : ∃ W3, W3 = W2 := ⟨_, rfl⟩
   rw [← hW3] at HCT HW3 HI3 c5 ⊢
   clear hW3
   go_upto_region 10 with fail
   obtain ⟨e0, e1, e2, e3, e4, e5, e6, e7⟩ := has_oct' HW3.out.tst
   have f7 := HW3.out.tst.2.1 7 (by simp)
   obtain ⟨q0, q1, q2, q3, q4, q5⟩ := HI3.out.six
   have hdw : IntKind.i64.wrap (d + 1) = d + 1 := IntWalk.i64_in _ (by omega)
   go_wp2_with fail
   refine HCT.out.mono ?_
   intro e w4 hp
   obtain ⟨vs1, rfl, hr1, hb4⟩ := hp
   obtain ⟨k1, m1, p1, G1, n1, c1, G2, n2, c2, o1, l1, G3, n3, c3, rfl⟩ := oct_form hr1
   have hW4 := HW3.out.down hb4
   have hsz4 : W3.heap.size ≤ w4.heap.size := hb4.size
   have hal4 := ba (Below.refl w4.heap.size w4) (.cells #[.int .i64 k1, .int .i64 m1, .int .i64 p1, .slice G1 n1 c1, .slice G2 n2 c2, .bool o1, .int .i64 l1, .slice G3 n3 c3] 38)
   have hW5 := hW4.down hal4
   have y7 := hW5.tst.1 7 _ rfl
   have z7 := hW5.tst.2.1 7 (by simp)
   have hsa := sat_one_tst (ty := 38) (tst_bd K hr1)
   have hs3 : S + 1 + 1 < W3.heap.size := HW3.out.tst.2.2
   have HW5 := Lib.hid hW5; have HSA := Lib.hid hsa; have HS3 := Lib.hid (show S + 1 + 1 < W3.heap.size ∧ W3.heap.size ≤ w4.heap.size from ⟨hs3, hsz4⟩)
   clear hr1 hb4 hW4 hal4 hW5 hsa hs3 hsz4 e0 e1 e2 e3 e4 e5 e6 e7 f7 q0 q1 q2 q3 q4 q5
   go_wp2_with fail
   go_meet
   case rel =>
    refine ⟨3, some ⟨w4.heap.size, 0, none⟩, 1, [testS m (notS ⟨xk, xa, xb, xs, xt, xsub⟩)], HW5.out.put _ (by simp) hS2, ?_, HLF.out⟩
    rw [HNS.out]
    exact sat_else (HSA.out.mono (fun b hb => by have := HS3.out; rcases hb with hb | hb <;> omega)) _ (Nat.le_refl _)
  ·obtain ⟨-, d0, d1, d2, d3, d4, d5⟩ := hy W2 hW2.bel
   obtain ⟨q0, q1, q2, q3, q4, q5⟩ := hI2.six
   obtain ⟨f0, f1, f2, f3, f4, f5⟩ := hI2.six_free
   have hgI : g ≠ I := by have := hS2; omega
   have h3 : Has ((((((W2.setCell ⟨I, 0, none⟩ (.int .i64 y.kind)).setCell ⟨I, 1, none⟩ (.int .i64 y.a)).setCell ⟨I, 2, none⟩ (.int .i64 y.b)).setCell ⟨I, 3, none⟩ (.string ⟨y.s.toArray⟩)).setCell ⟨I, 4, none⟩ (.string ⟨y.t.toArray⟩)).setCell ⟨I, 5, none⟩ (.slice G' y.subs.length c')) I [.int .i64 y.kind, .int .i64 y.a, .int .i64 y.b, .string ⟨y.s.toArray⟩, .string ⟨y.t.toArray⟩, .slice G' y.subs.length c'] :=
    (((((hI2.set' (i := 0) _ (by simp)).set' (i := 1) _ (by simp)).set' (i := 2) _ (by simp)).set' (i := 3) _ (by simp)).set' (i := 4) _ (by simp)).set' (i := 5) _ (by simp)
   have ht3 := (((((hW2.other hSI hS2 0 (.int .i64 y.kind)).other hSI hS2 1 (.int .i64 y.a)).other hSI hS2 2 (.int .i64 y.b)).other hSI hS2 3 (.string ⟨y.s.toArray⟩)).other hSI hS2 4 (.string ⟨y.t.toArray⟩)).other hSI hS2 5 (.slice G' y.subs.length c')
   have H3 := Lib.hid (⟨ht3, h3⟩ : _ ∧ _); have HY := Lib.hid hy; have HNS := Lib.hid hns
   clear hy hns h3 ht3 HIN hW2 hI2
   go_upto_region 10 with fail
   refine wp_at (R := fun W3 => TB w W3 S _ _ ∧ Has W3 I _) H3.out (fun W3 hW3 => ?_)
   obtain ⟨hW3, hI3⟩ := hW3
   have hct := HIH.out n y _ F W3 (HY.out W3 hW3.bel).1
   have HCT : Hid (Calls Tryz.prog 44 #[.agg #[.int .i64 y.kind, .int .i64 y.a, .int .i64 y.b, .string ⟨y.s.toArray⟩, .string ⟨y.t.toArray⟩, .slice G' y.subs.length c'], .int .i64 (d + 1)] W3 (TestPost (testS m y) K W3)) := hct
   have HW3 := Lib.hid hW3; have HI3 := Lib.hid hI3
   clear hct hW3 hI3 H3 HY d0 d1 d2 d3 d4 d5 q0 q1 q2 q3 q4 q5 f0 f1 f2 f3 f4 f5 c5
   obtain ⟨e0, e1, e2, e3, e4, e5, e6, e7⟩ := has_oct' HW3.out.tst
   have f7 := HW3.out.tst.2.1 7 (by simp)
   obtain ⟨q0, q1, q2, q3, q4, q5⟩ := HI3.out.six
   have hdw : IntKind.i64.wrap (d + 1) = d + 1 := IntWalk.i64_in _ (by omega)
   go_wp2_with fail
   refine HCT.out.mono ?_
   intro e w4 hp
   obtain ⟨vs1, rfl, hr1, hb4⟩ := hp
   obtain ⟨k1, m1, p1, G1, n1, c1, G2, n2, c2, o1, l1, G3, n3, c3, rfl⟩ := oct_form hr1
   have hW4 := HW3.out.down hb4
   have hsz4 : W3.heap.size ≤ w4.heap.size := hb4.size
   have hal4 := ba (Below.refl w4.heap.size w4) (.cells #[.int .i64 k1, .int .i64 m1, .int .i64 p1, .slice G1 n1 c1, .slice G2 n2 c2, .bool o1, .int .i64 l1, .slice G3 n3 c3] 38)
   have hW5 := hW4.down hal4
   have y7 := hW5.tst.1 7 _ rfl
   have z7 := hW5.tst.2.1 7 (by simp)
   have hsa := sat_one_tst (ty := 38) (tst_bd K hr1)
   have hs3 : S + 1 + 1 < W3.heap.size := HW3.out.tst.2.2
   have HW5 := Lib.hid hW5; have HSA := Lib.hid hsa; have HS3 := Lib.hid (show S + 1 + 1 < W3.heap.size ∧ W3.heap.size ≤ w4.heap.size from ⟨hs3, hsz4⟩)
   clear hr1 hb4 hW4 hal4 hW5 hsa hs3 hsz4 e0 e1 e2 e3 e4 e5 e6 e7 f7 q0 q1 q2 q3 q4 q5
   go_wp2_with fail
   go_meet
   case rel =>
    refine ⟨3, some ⟨w4.heap.size, 0, none⟩, 1, [testS m (notS ⟨xk, xa, xb, xs, xt, xsub⟩)], HW5.out.put _ (by simp) hS2, ?_, HLF.out⟩
    rw [HNS.out]
    exact sat_else (HSA.out.mono (fun b hb => by have := HS3.out; rcases hb with hb | hb <;> omega)) _ (Nat.le_refl _)
end Go.Proofs.YtjfclekmhfgkmaaGreatDoor.Sc
