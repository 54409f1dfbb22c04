/-
  DERIVED. Of: ScTst4, ScTst5.
-/
import Derived.Test.YtpfbkdbblpppdaaGreatDoorDScT
import Derived.Test.YtpfbkdbblpppdaaGreatDoorFScX0
import Derived.Deep.DeepCutAuto
import Derived.Deep.CutBlock
import Derived.IntWalk
set_option linter.unusedVariables false
set_option linter.unusedSimpArgs false
namespace Go.Proofs.YtpfbkdbblpppdaaGreatDoor.Sc
open Go.RowKit
open Tk (Tok)

theorem TB.other {w wx : World} {S I : Nat} {xs ts : List Value} (h : TB w wx S xs ts) (hI : S + 1 + 1 < I) (hS : w.heap.size ≤ S) (i : Nat) (u : Value) : TB w (wx.setCell ⟨I, i, none⟩ u) S xs ts :=
  ⟨h.stick.else' (by omega) u, h.res.else' (by omega) u, h.tst.else' (by omega) u, h.bel.setCell (by show w.heap.size ≤ I; omega) u⟩
theorem zero64 : (-9223372036854775808 : Int) ≤ 0 ∧ (0 : Int) ≤ 9223372036854775807 := ⟨by decide, by decide⟩
theorem notS_get (x : Stk) (h : 0 < x.subs.length) : notS x = x.subs[0] := by
  obtain ⟨k, a, b, s, t, subs⟩ := x
  cases subs with
  | nil => exact absurd h (Nat.lt_irrefl 0)
  | cons y r => rfl
/-- what Test does at a depth, for whatever stick -/
def TestsAt (m K : Nat) (d : Int) : Prop := ∀ (n : Nat) (y : Stk) (vs : List Value) (F : Dom) (w' : World), (cStk n).rep w' F y vs → Calls Tryz.prog 16 #[.agg vs.toArray, .int .i64 d] w' (TestPost (testS m y) K w')
/-- the test's variable holds the answer: a test that asks for others -/
def SubNew (w : World) (S K : Nat) (xs : List Value) (lf : Tst) (wx : World) : Prop := ∃ (k : Int) (G : Option Addr) (c : Nat) (ts : List Tst),
  TB w wx S xs [.int .i64 k, .int .i64 0, .int .i64 0, .slice none 0 0, .slice none 0 0, .bool false, .int .i64 0, .slice G ts.length c] ∧ SAt (cTst K) wx (fun b => S + 1 + 1 < b) (.slice G ts.length c) ts ∧ lf = ⟨k, 0, 0, [], [], false, 0, ts⟩
theorem sub_end {S : Nat} {t : Tst} {K : Nat} {k : Int} {vt : Value} {ts : List Tst} {xs us : List Value} {a : Act} {W w : World} (ht : a.tmps.getD 4 undef = .pointer (some ⟨S + 1, 0, none⟩)) (hd : a.defers = []) (h : TB w W S xs us) (hS : w.heap.size ≤ S)
    (hk : SAt (cTst K) W (fun b => S + 1 + 1 < b) vt ts) (he : t = ⟨k, 0, 0, [], [], false, 0, ts⟩) :
    bodyPost Tryz.prog Tryz.f16 (TestPost t (K + 1) w) .ret a (put8 W (S + 1) (.int .i64 k) (.int .i64 0) (.int .i64 0) (.slice none 0 0) (.slice none 0 0) (.bool false) (.int .i64 0) vt) := by
  subst he
  have hsm : Same (fun b => S + 1 + 1 < b) W (put8 W (S + 1) (.int .i64 k) (.int .i64 0) (.int .i64 0) (.slice none 0 0) (.slice none 0 0) (.bool false) (.int .i64 0) vt) := fun b hb _ => put8_same (by omega) _ _ _ _ _ _ _ _
  have hsz := put8_size (W := W) (R := S + 1) (.int .i64 k) (.int .i64 0) (.int .i64 0) (.slice none 0 0) (.slice none 0 0) (.bool false) (.int .i64 0) vt
  refine test_end ht hd (put8_has h.res _ _ _ _ _ _ _ _) ?_ (put8_below h.bel (by omega) _ _ _ _ _ _ _ _)
  exact ⟨_, _, _, rfl, SAt.nil _ _ _, SAt.nil _ _ _, (hk.stable hsm hsz).mono (fun b hb => by omega)⟩
/-- a test in a block of its own, as a slice of one -/
theorem sat_one_tst {w : World} {F : Dom} {K : Nat} {t : Tst} {vs : List Value} {ty : TypeId} (h : (cTst K).rep w F t vs) : SAt (cTst K) (w.alloc (.cells vs.toArray ty)) (fun b => F b ∨ b = w.heap.size) (.slice (some ⟨w.heap.size, 0, none⟩) 1 1) [t] := by
  refine ⟨_, 1, rfl, Nat.le_refl _, fun i y hi => ?_⟩
  have h0 : i = 0 := by have := (List.getElem?_eq_some_iff.1 hi).1; simp at this; omega
  subst h0
  obtain rfl : t = y := Option.some.inj hi
  refine ⟨w.heap.size, 0, rfl, .inr rfl, by simp, vs, (cTst K).mono ((cTst K).stable h (Same.of_below (ba (Below.refl _ _) _)) (by simp)) (fun b hb => .inl hb), fun j u hj => ?_⟩
  have := (Has.alloc w vs ty).1 j u hj
  simpa using this
theorem oct_form {K : Nat} {w : World} {F : Dom} {t : Tst} {vs : List Value} (h : (cTst K).rep w F t vs) : ∃ k m p G1 n1 c1 G2 n2 c2 o l G3 n3 c3, vs = [.int .i64 k, .int .i64 m, .int .i64 p, .slice G1 n1 c1, .slice G2 n2 c2, .bool o, .int .i64 l, .slice G3 n3 c3] := by
  obtain ⟨_, G1, c1, G2, c2, G3, c3, -, rfl, -⟩ := tst_open h
  exact ⟨_, _, _, _, _, _, _, _, _, _, _, _, _, _, rfl⟩

set_option maxHeartbeats 8000000 in
set_option maxRecDepth 20000 in
theorem test_not (m K n : Nat) (x : Stk) (v : Value) (d : Int) (F : Dom) (w : World) (hIH : TestsAt m K (d + 1)) (hv : SAt (cStk n) w F v x.subs) (hb : Bd x) (h : kindS x = 3) (hd : 1 ≤ d ∧ d ≤ 2) :
    Calls Tryz.prog 16 #[.agg (stkC x v).toArray, .int .i64 d] w (TestPost (testS (m + 1) x) (K + 1) w) := by
  have HPK : Hid (∀ w, Calls Tryz.prog 15 #[.int .i64 x.kind, .int .i64 10] w fun e w' => e = .returned (.int .i64 (pick x.kind 10)) ∧ w = w') := fun w => picked_any x.kind 10 w hb.k.1 hb.k.2 (by omega) (by omega)
  have hlf : testS (m + 1) x = ⟨3, 0, 0, [], [], false, 0, [testS m (notS x)]⟩ := by rw [testS, if_pos h]
  have hp := pick_lt_int x.kind 10 (by omega)
  unfold kindS at h
  obtain ⟨p, hpp⟩ : ∃ p, p = pick x.kind 10 := ⟨_, rfl⟩
  rw [← hpp] at HPK hp h
  obtain ⟨lf, hlf2⟩ : ∃ lf, lf = testS (m + 1) x := ⟨_, rfl⟩
  rw [← hlf2] at hlf ⊢
  have HLF := Lib.hid hlf; have HB := Lib.hid hb; have HIH := Lib.hid hIH
  have HTS := Lib.hid (fun (ts : List Value) => tb_start w (stkC x v) ts 29 40 40)
  obtain ⟨G, c, rfl, -⟩ := hv.form
  -- the stick that is asked, as it lies
  have hin : (x.subs.length = 0 ∧ notS x = ⟨x.a, 0, 0, [], [], []⟩) ∨ (0 < x.subs.length ∧ ∃ g off G' c' y, G = some ⟨g, off, none⟩ ∧ g < w.heap.size ∧ notS x = y ∧ ∀ wr, Below w.heap.size w wr → (cStk n).rep wr F y (stkC y (.slice G' y.subs.length c')) ∧ wr.cell? ⟨g, off, none⟩ = some (.int .i64 y.kind) ∧ wr.cell? ⟨g, off + 1, none⟩ = some (.int .i64 y.a) ∧ wr.cell? ⟨g, off + 2, none⟩ = some (.int .i64 y.b) ∧
      wr.cell? ⟨g, off + 3, none⟩ = some (.string ⟨y.s.toArray⟩) ∧ wr.cell? ⟨g, off + 4, none⟩ = some (.string ⟨y.t.toArray⟩) ∧ wr.cell? ⟨g, off + 5, none⟩ = some (.slice G' y.subs.length c')) := by
    rcases Nat.eq_zero_or_pos x.subs.length with h0 | h0
    · left
      refine ⟨h0, ?_⟩
      unfold notS
      rw [List.eq_nil_of_length_eq_zero h0]
    · right
      obtain ⟨g, off, vs, hG, hF, hg, hr, hc⟩ := hv.get 0 h0
      obtain ⟨_, G', c', -, rfl, -⟩ := stk_open hr
      refine ⟨h0, g, off, G', c', x.subs[0], hG, hg, ?_, fun wr hbw => ?_⟩
      · exact notS_get x h0
      · obtain ⟨g2, off2, G2, c2, hG2, hr2, d0, d1, d2, d3, d4, d5⟩ := stk_get hv (Same.of_below hbw) hbw.size 0 h0
        obtain ⟨rfl, rfl⟩ : g = g2 ∧ off = off2 := by rw [hG] at hG2; cases hG2; exact ⟨rfl, rfl⟩
        have hcc := (Same.of_below hbw (F := F)).cell hF (hc 5 _ rfl)
        have e5 : (Value.slice G' x.subs[0].subs.length c') = .slice G2 x.subs[0].subs.length c2 := by
          have h1 : wr.cell? ⟨g, off + 0 * (cStk n).size + 5, none⟩ = some (.slice G2 x.subs[0].subs.length c2) := d5
          rw [hcc] at h1; exact Option.some.inj h1
        rw [e5]
        simp only [Nat.zero_mul, Nat.add_zero] at d0 d1 d2 d3 d4 d5
        exact ⟨hr2, d0, d1, d2, d3, d4, d5⟩
  have HIN := Lib.hid hin
  obtain ⟨xk, xa, xb, xs, xt, xsub⟩ := x
  simp only [stkC] at *
  obtain rfl : p = 2 := by omega
  clear hpp hp h hb hlf hlf2 hIH hv hin
  obtain ⟨hd1, hd3⟩ := hd
  have hdd : decide ((3 : Int) ≤ d) = false := decide_eq_false (by omega)
  obtain ⟨S, hSe⟩ : ∃ S, S = w.heap.size := ⟨_, rfl⟩
  rw [← hSe] at HTS
  have HSE := Lib.hid hSe.symm
  clear hSe
  go_enter Tryz.func16, Tryz.ntmps16
  go_upto_region 2 with (go_at_call 15; refine (HPK.out _).mono ?_; rintro e w' ⟨rfl, rfl⟩)
  go_upto_block 0 with fail
  rw [HSE.out]
  go_cut [] (fun wx => SubNew w S K [.int .i64 xk, .int .i64 xa, .int .i64 xb, .string ⟨xs.toArray⟩, .string ⟨xt.toArray⟩, .slice G xsub.length c] lf wx)
  case rest =>
    have hS2 : w.heap.size ≤ S := by rw [HSE.out]; exact Nat.le_refl _
    obtain ⟨k', G', c', ts', hT', hN', hE'⟩ := hcut
    obtain ⟨e0, e1, e2, e3, e4, e5, e6, e7⟩ := has_oct' hT'.tst
    obtain ⟨r0, r1, r2, r3, r4, r5, r6, r7⟩ := has_oct' hT'.res
    have g0 := hT'.res.2.1 0 (by simp [res8])
    have g1 := hT'.res.2.1 1 (by simp [res8])
    have g2 := hT'.res.2.1 2 (by simp [res8])
    have g3 := hT'.res.2.1 3 (by simp [res8])
    have g4 := hT'.res.2.1 4 (by simp [res8])
    have g5 := hT'.res.2.1 5 (by simp [res8])
    have g6 := hT'.res.2.1 6 (by simp [res8])
    have g7 := hT'.res.2.1 7 (by simp [res8])
    have HT' := Lib.hid hT'; have HN' := Lib.hid hN'; have HE' := Lib.hid hE'
    clear hT' hN' hE'
    go_wp2_with fail
    refine sub_end ?_ ?_ HT'.out hS2 HN'.out ?_
    · rfl
    · rfl
    · exact HE'.out
  case first =>
    have hS2 : w.heap.size ≤ S := by rw [HSE.out]; exact Nat.le_refl _
    go_upto_region 7 with fail
    refine wp_at (R := fun W => TB w W S _ _) (HTS.out _) (fun W hW => ?_)
    obtain ⟨c0, c1, c2, c3, c4, c5⟩ := has_six hW.stick
    have HW := Lib.hid hW
    clear hW
    go_upto_region 8 with fail
    have hal := ba (Below.refl W.heap.size W) (.cells #[.int .i64 xa, .int .i64 0, .int .i64 0, .string ⟨#[]⟩, .string ⟨#[]⟩, .slice none 0 0] 29)
    refine wp_at (R := fun W2 => TB w W2 S [.int .i64 xk, .int .i64 xa, .int .i64 xb, .string ⟨xs.toArray⟩, .string ⟨xt.toArray⟩, .slice G xsub.length c] [.int .i64 3, .int .i64 0, .int .i64 0, .slice none 0 0, .slice none 0 0, .bool false, .int .i64 0, .slice none 0 0] ∧ Has W2 W.heap.size [.int .i64 xa, .int .i64 0, .int .i64 0, .string ⟨#[]⟩, .string ⟨#[]⟩, .slice none 0 0]) ⟨HW.out.down hal, Has.alloc W _ _⟩ (fun W2 hW2 => ?_)
    have hSI : S + 1 + 1 < W.heap.size := HW.out.tst.2.2
    generalize W.heap.size = I at hSI hW2 ⊢
    obtain ⟨hW2, hI2⟩ := hW2
    clear HW hal c0 c1 c2 c3 c4 c5
    obtain ⟨-, -, -, -, -, c5⟩ := has_six hW2.stick
    rcases HIN.out with ⟨h0, hns⟩ | ⟨h0, g, off, G', c', y, rfl, hgw, hns, hy⟩
    · have hn0 : ¬ 0 < xsub.length := by omega
      have hbx := HB.out.a
      have hct := HIH.out 1 ⟨xa, 0, 0, [], [], []⟩ (stkC ⟨xa, 0, 0, [], [], []⟩ (.slice none 0 0)) (fun _ => True) W2 ⟨⟨_, rfl, SAt.nil _ _ _⟩, ⟨hbx, zero64, zero64, Nat.zero_le _, Nat.zero_le _, Nat.zero_le _⟩⟩
      have HCT : Hid (Calls Tryz.prog 16 #[.agg #[.int .i64 xa, .int .i64 0, .int .i64 0, .string ⟨#[]⟩, .string ⟨#[]⟩, .slice none 0 0], .int .i64 (d + 1)] W2 (TestPost (testS m ⟨xa, 0, 0, [], [], []⟩) K W2)) := hct
      have HW3 := Lib.hid hW2; have HI3 := Lib.hid hI2; have HNS := Lib.hid hns
      clear hW2 hI2 hns h0 HIN hct hbx
      obtain ⟨W3, hW3⟩ : ∃ W3, W3 = W2 := ⟨_, rfl⟩
      rw [← hW3] at HCT HW3 HI3 c5 ⊢
      clear hW3
      go_upto_region 10 with fail
      obtain ⟨e0, e1, e2, e3, e4, e5, e6, e7⟩ := has_oct' HW3.out.tst
      have f7 := HW3.out.tst.2.1 7 (by simp)
      obtain ⟨q0, q1, q2, q3, q4, q5⟩ := HI3.out.six
      have hdw : IntKind.i64.wrap (d + 1) = d + 1 := IntWalk.i64_in _ (by omega)
      go_wp2_with fail
      refine HCT.out.mono ?_
      intro e w4 hp
      obtain ⟨vs1, rfl, hr1, hb4⟩ := hp
      obtain ⟨k1, m1, p1, G1, n1, c1, G2, n2, c2, o1, l1, G3, n3, c3, rfl⟩ := oct_form hr1
      have hW4 := HW3.out.down hb4
      have hsz4 : W3.heap.size ≤ w4.heap.size := hb4.size
      have hal4 := ba (Below.refl w4.heap.size w4) (.cells #[.int .i64 k1, .int .i64 m1, .int .i64 p1, .slice G1 n1 c1, .slice G2 n2 c2, .bool o1, .int .i64 l1, .slice G3 n3 c3] 40)
      have hW5 := hW4.down hal4
      have y7 := hW5.tst.1 7 _ rfl
      have z7 := hW5.tst.2.1 7 (by simp)
      have hsa := sat_one_tst (ty := 40) (tst_bd K hr1)
      have hs3 : S + 1 + 1 < W3.heap.size := HW3.out.tst.2.2
      have HW5 := Lib.hid hW5; have HSA := Lib.hid hsa; have HS3 := Lib.hid (show S + 1 + 1 < W3.heap.size ∧ W3.heap.size ≤ w4.heap.size from ⟨hs3, hsz4⟩)
      clear hr1 hb4 hW4 hal4 hW5 hsa hs3 hsz4 e0 e1 e2 e3 e4 e5 e6 e7 f7 q0 q1 q2 q3 q4 q5
      go_wp2_with fail
      go_meet
      case rel =>
        refine ⟨3, some ⟨w4.heap.size, 0, none⟩, 1, [testS m (notS ⟨xk, xa, xb, xs, xt, xsub⟩)], HW5.out.put _ (by simp) hS2, ?_, HLF.out⟩
        rw [HNS.out]
        exact sat_else (HSA.out.mono (fun b hb => by have := HS3.out; rcases hb with hb | hb <;> omega)) _ (Nat.le_refl _)
    · obtain ⟨-, d0, d1, d2, d3, d4, d5⟩ := hy W2 hW2.bel
      obtain ⟨q0, q1, q2, q3, q4, q5⟩ := hI2.six
      obtain ⟨f0, f1, f2, f3, f4, f5⟩ := hI2.six_free
      have hgI : g ≠ I := by have := hS2; omega
      have h3 : Has ((((((W2.setCell ⟨I, 0, none⟩ (.int .i64 y.kind)).setCell ⟨I, 1, none⟩ (.int .i64 y.a)).setCell ⟨I, 2, none⟩ (.int .i64 y.b)).setCell ⟨I, 3, none⟩ (.string ⟨y.s.toArray⟩)).setCell ⟨I, 4, none⟩ (.string ⟨y.t.toArray⟩)).setCell ⟨I, 5, none⟩ (.slice G' y.subs.length c')) I [.int .i64 y.kind, .int .i64 y.a, .int .i64 y.b, .string ⟨y.s.toArray⟩, .string ⟨y.t.toArray⟩, .slice G' y.subs.length c'] :=
        (((((hI2.set' (i := 0) _ (by simp)).set' (i := 1) _ (by simp)).set' (i := 2) _ (by simp)).set' (i := 3) _ (by simp)).set' (i := 4) _ (by simp)).set' (i := 5) _ (by simp)
      have ht3 := (((((hW2.other hSI hS2 0 (.int .i64 y.kind)).other hSI hS2 1 (.int .i64 y.a)).other hSI hS2 2 (.int .i64 y.b)).other hSI hS2 3 (.string ⟨y.s.toArray⟩)).other hSI hS2 4 (.string ⟨y.t.toArray⟩)).other hSI hS2 5 (.slice G' y.subs.length c')
      have H3 := Lib.hid (⟨ht3, h3⟩ : _ ∧ _); have HY := Lib.hid hy; have HNS := Lib.hid hns
      clear hy hns h3 ht3 HIN hW2 hI2
      go_upto_region 10 with fail
      refine wp_at (R := fun W3 => TB w W3 S _ _ ∧ Has W3 I _) H3.out (fun W3 hW3 => ?_)
      obtain ⟨hW3, hI3⟩ := hW3
      have hct := HIH.out n y _ F W3 (HY.out W3 hW3.bel).1
      have HCT : Hid (Calls Tryz.prog 16 #[.agg #[.int .i64 y.kind, .int .i64 y.a, .int .i64 y.b, .string ⟨y.s.toArray⟩, .string ⟨y.t.toArray⟩, .slice G' y.subs.length c'], .int .i64 (d + 1)] W3 (TestPost (testS m y) K W3)) := hct
      have HW3 := Lib.hid hW3; have HI3 := Lib.hid hI3
      clear hct hW3 hI3 H3 HY d0 d1 d2 d3 d4 d5 q0 q1 q2 q3 q4 q5 f0 f1 f2 f3 f4 f5 c5
      obtain ⟨e0, e1, e2, e3, e4, e5, e6, e7⟩ := has_oct' HW3.out.tst
      have f7 := HW3.out.tst.2.1 7 (by simp)
      obtain ⟨q0, q1, q2, q3, q4, q5⟩ := HI3.out.six
      have hdw : IntKind.i64.wrap (d + 1) = d + 1 := IntWalk.i64_in _ (by omega)
      go_wp2_with fail
      refine HCT.out.mono ?_
      intro e w4 hp
      obtain ⟨vs1, rfl, hr1, hb4⟩ := hp
      obtain ⟨k1, m1, p1, G1, n1, c1, G2, n2, c2, o1, l1, G3, n3, c3, rfl⟩ := oct_form hr1
      have hW4 := HW3.out.down hb4
      have hsz4 : W3.heap.size ≤ w4.heap.size := hb4.size
      have hal4 := ba (Below.refl w4.heap.size w4) (.cells #[.int .i64 k1, .int .i64 m1, .int .i64 p1, .slice G1 n1 c1, .slice G2 n2 c2, .bool o1, .int .i64 l1, .slice G3 n3 c3] 40)
      have hW5 := hW4.down hal4
      have y7 := hW5.tst.1 7 _ rfl
      have z7 := hW5.tst.2.1 7 (by simp)
      have hsa := sat_one_tst (ty := 40) (tst_bd K hr1)
      have hs3 : S + 1 + 1 < W3.heap.size := HW3.out.tst.2.2
      have HW5 := Lib.hid hW5; have HSA := Lib.hid hsa; have HS3 := Lib.hid (show S + 1 + 1 < W3.heap.size ∧ W3.heap.size ≤ w4.heap.size from ⟨hs3, hsz4⟩)
      clear hr1 hb4 hW4 hal4 hW5 hsa hs3 hsz4 e0 e1 e2 e3 e4 e5 e6 e7 f7 q0 q1 q2 q3 q4 q5
      go_wp2_with fail
      go_meet
      case rel =>
        refine ⟨3, some ⟨w4.heap.size, 0, none⟩, 1, [testS m (notS ⟨xk, xa, xb, xs, xt, xsub⟩)], HW5.out.put _ (by simp) hS2, ?_, HLF.out⟩
        rw [HNS.out]
        exact sat_else (HSA.out.mono (fun b hb => by have := HS3.out; rcases hb with hb | hb <;> omega)) _ (Nat.le_refl _)
end Go.Proofs.YtpfbkdbblpppdaaGreatDoor.Sc
namespace Go.Proofs.YtpfbkdbblpppdaaGreatDoor.Sc
open Go.RowKit
open Tk (Tok)

theorem info_tst : (Tryz.prog.info? 40).map (fun i => (i.zero, i.size, i.bytes)) = some (some (.agg #[.int .i64 0, .int .i64 0, .int .i64 0, .slice none 0 0, .slice none 0 0, .bool false, .int .i64 0, .slice none 0 0]), 8, 112) := by kernel_rfl
theorem below_far {B : Nat} {w wz wy : World} {o : Option Nat} (h : Below B w wz) (g : wz.grownBy wy o) (ho : ∀ b, o = some b → B ≤ b) (hB : B ≤ wz.heap.size) : Below B w wy :=
  ⟨g.os.trans h.os, g.tape.trans h.tape, g.output.trans h.output, Nat.le_trans h.size g.size, fun k hk => (g.block k (by omega) (fun e => by have := ho k e.symm; omega)).trans (h.block k hk)⟩
theorem TB.far {w wz wy : World} {S : Nat} {xs ts : List Value} {o : Option Nat} (h : TB w wz S xs ts) (g : wz.grownBy wy o) (ho : ∀ b, o = some b → S + 1 + 1 < b) (hS : w.heap.size ≤ S) : TB w wy S xs ts :=
  ⟨has_far h.stick g (fun e => by have := ho _ e.symm; omega), has_far h.res g (fun e => by have := ho _ e.symm; omega), has_far h.tst g (fun e => by have := ho _ e.symm; omega), below_far h.bel g (fun b e => by have := ho b e; omega) h.bel.size⟩
/-- where the parts of the tests so far may lie -/
def Dm (S : Nat) (wr : World) (v : Value) : Dom := fun b => S + 1 + 1 < b ∧ b < wr.heap.size ∧ v.ownBlock ≠ some b
/-- one test more -/
theorem row_more {K S H g cap : Nat} {wr w1 w5 : World} {v : Value} {ps : Held Tst} {t : Tst} {vs : List Value} (h : ORow (cTst K) 40 w1 (S + 1 + 1 + 1) (Dm S wr v) v ps) (hz : wr.heap.size ≤ w1.heap.size) (hx : (cTst K).rep w1 (fun b => wr.heap.size ≤ b ∧ b < w1.heap.size) t vs) (hv : ∀ b, v.ownBlock = some b → b < wr.heap.size) (hSw : S + 1 + 1 < wr.heap.size)
    (hH : w1.heap.size ≤ H) (hown : w5.ownsRow (S + 1 + 1 + 1) 40 8 (.slice (some ⟨g, 0, none⟩) (ps.length + 1) cap) (ps.length + 1) (hcells ps ++ vs)) (hg : w1.grownBy w5 v.ownBlock) (hat : v.ownBlock = some g ∨ g = H) (hsz : w1.heap.size ≤ w5.heap.size) :
    ORow (cTst K) 40 w5 (S + 1 + 1 + 1) (Dm S w5 (.slice (some ⟨g, 0, none⟩) (ps.length + 1) cap)) (.slice (some ⟨g, 0, none⟩) (ps.length + 1) cap) (ps ++ [(t, vs)]) := by
  have hT : ORow (cTst K) 40 w5 (S + 1 + 1 + 1) (Dm S w1 v) (.slice (some ⟨g, 0, none⟩) (ps.length + 1) cap) (ps ++ [(t, vs)]) :=
    ORow.snoc (T := Dm S w1 v) (H := H) h (fun b hb => ⟨hb.1, by have := hb.2.1; omega, hb.2.2⟩) ((cTst K).mono hx (fun b hb => ⟨by omega, hb.2, fun e => by have := hv b e; omega⟩)) (fun b hb => by have := hb.2.1; omega) (fun b hb hh => hh.2.2 hb) hown hg hat
  refine ⟨hT.1, fun p hp => (cTst K).mono (hT.2.1 p hp) (fun b hb => ⟨hb.1, by have := hb.2.1; omega, fun e => ?_⟩), fun b hb hh => hh.2.2 hb⟩
  obtain rfl : g = b := Option.some.inj e
  rcases hat with h1 | h1
  · exact hb.2.2 h1
  · have := hb.2.1; omega
/-- a cell of the test's variable is written -/
theorem row_put {K S i : Nat} {w : World} {v u : Value} {ps : Held Tst} (h : ORow (cTst K) 40 w (S + 1 + 1 + 1) (Dm S w v) v ps) : ORow (cTst K) 40 (w.setCell ⟨S + 1 + 1, i, none⟩ u) (S + 1 + 1 + 1) (Dm S (w.setCell ⟨S + 1 + 1, i, none⟩ u) v) v ps := by
  have hk : ORow (cTst K) 40 (w.setCell ⟨S + 1 + 1, i, none⟩ u) (S + 1 + 1 + 1) (Dm S w v) v ps := by
    refine h.kept (o := some (S + 1 + 1)) (Go.Lib.grownBy_setB (World.grownBy.refl w (some (S + 1 + 1))) i u) ?_ (fun b e hb => by obtain rfl := Option.some.inj e; have := hb.1; omega)
    cases hv : v.ownBlock with
    | none => exact .inl rfl
    | some b => exact .inr (fun e => by have := (h.1.lt b hv).1; have := Option.some.inj e; omega)
  exact ⟨hk.1, fun p hp => (cTst K).mono (hk.2.1 p hp) (fun b hb => ⟨hb.1, by have := hb.2.1; simpa [World.setCell] using this, hb.2.2⟩), fun b hb hh => hh.2.2 hb⟩
theorem take_more {α β : Type} (f : α → β) (l : List α) (j : Nat) (hj : j < l.length) (ps : List β) (h : ps = (l.take j).map f) : ps ++ [f l[j]] = (l.take (j + 1)).map f := by
  rw [h, List.take_succ_eq_append_getElem hj, List.map_append]; rfl

set_option maxHeartbeats 8000000 in
set_option maxRecDepth 20000 in
theorem test_of (m K n : Nat) (k : Int) (x : Stk) (v : Value) (d : Int) (F : Dom) (w : World) (hIH : TestsAt m (K + 1) (d + 1)) (hv : SAt (cStk n) w F v x.subs) (hb : Bd x) (hk : k = 4 ∨ k = 5) (h : kindS x = k) (hd : 1 ≤ d ∧ d ≤ 2) :
    Calls Tryz.prog 16 #[.agg (stkC x v).toArray, .int .i64 d] w (TestPost (testS (m + 1) x) (K + 2) w) := by
  have HPK : Hid (∀ w, Calls Tryz.prog 15 #[.int .i64 x.kind, .int .i64 10] w fun e w' => e = .returned (.int .i64 (pick x.kind 10)) ∧ w = w') := fun w => picked_any x.kind 10 w hb.k.1 hb.k.2 (by omega) (by omega)
  have HPA : Hid (∀ w, Calls Tryz.prog 15 #[.int .i64 x.a, .int .i64 2] w fun e w' => e = .returned (.int .i64 (pick x.a 2)) ∧ w = w') := fun w => picked_any x.a 2 w hb.a.1 hb.a.2 (by omega) (by omega)
  have hlf : testS (m + 1) x = ⟨k, 0, 0, [], [], false, 0, if x.subs = [] then [zeroT (1 + (pick x.a 2 : Nat))] else (x.subs.take 3).map (testS m)⟩ := by rw [testS, if_neg (by omega), if_pos (by omega), h]
  have hp := pick_lt_int x.kind 10 (by omega)
  have hpa2 := pick_lt_int x.a 2 (by omega)
  obtain ⟨pa, hpa⟩ : ∃ pa, pa = pick x.a 2 := ⟨_, rfl⟩
  rw [← hpa] at HPA hlf hpa2
  unfold kindS at h
  obtain ⟨p, hpp⟩ : ∃ p, p = pick x.kind 10 := ⟨_, rfl⟩
  rw [← hpp] at HPK hp h
  obtain ⟨lf, hlf2⟩ : ∃ lf, lf = testS (m + 1) x := ⟨_, rfl⟩
  rw [← hlf2] at hlf ⊢
  have HLF := Lib.hid hlf; have HIH := Lib.hid hIH
  have HTS := Lib.hid (fun (ts : List Value) => tb_start w (stkC x v) ts 29 40 40)
  have hlen := hb.n
  obtain ⟨G, c, rfl, hlc⟩ := hv.form
  have HV := Lib.hid hv
  obtain ⟨i0, hi, hz0, hz1, hz2⟩ := info_three info_tst
  have HI0 := Lib.hid hi; have HZ0 := Lib.hid hz0; have HZ1 := Lib.hid hz1; have HZ2 := Lib.hid hz2
  obtain ⟨xk, xa, xb, xs, xt, xsub⟩ := x
  simp only [stkC] at *
  have key : (p = 3 ∧ k = 4) ∨ (p = 4 ∧ k = 5) := by omega
  clear hpp hp h hb hlf hlf2 hIH hv hpa hk hi hz0 hz1 hz2
  obtain ⟨hd1, hd3⟩ := hd
  have hdd : decide ((3 : Int) ≤ d) = false := decide_eq_false (by omega)
  obtain ⟨S, hSe⟩ : ∃ S, S = w.heap.size := ⟨_, rfl⟩
  rw [← hSe] at HTS
  have HSE := Lib.hid hSe.symm
  clear hSe
  rcases key with ⟨rfl, rfl⟩ | ⟨rfl, rfl⟩
  all_goals
    go_enter Tryz.func16, Tryz.ntmps16
    go_upto_region 2 with (go_at_call 15; refine (HPK.out _).mono ?_; rintro e w' ⟨rfl, rfl⟩)
    go_upto_block 0 with fail
    rw [HSE.out]
    go_cut [] (fun wx => SubNew w S (K + 1) [.int .i64 xk, .int .i64 xa, .int .i64 xb, .string ⟨xs.toArray⟩, .string ⟨xt.toArray⟩, .slice G xsub.length c] lf wx)
    case rest =>
      have hS2 : w.heap.size ≤ S := by rw [HSE.out]; exact Nat.le_refl _
      obtain ⟨k', G', c', ts', hT', hN', hE'⟩ := hcut
      obtain ⟨e0, e1, e2, e3, e4, e5, e6, e7⟩ := has_oct' hT'.tst
      obtain ⟨r0, r1, r2, r3, r4, r5, r6, r7⟩ := has_oct' hT'.res
      have g0 := hT'.res.2.1 0 (by simp [res8])
      have g1 := hT'.res.2.1 1 (by simp [res8])
      have g2 := hT'.res.2.1 2 (by simp [res8])
      have g3 := hT'.res.2.1 3 (by simp [res8])
      have g4 := hT'.res.2.1 4 (by simp [res8])
      have g5 := hT'.res.2.1 5 (by simp [res8])
      have g6 := hT'.res.2.1 6 (by simp [res8])
      have g7 := hT'.res.2.1 7 (by simp [res8])
      have HT' := Lib.hid hT'; have HN' := Lib.hid hN'; have HE' := Lib.hid hE'
      clear hT' hN' hE'
      go_wp2_with fail
      refine sub_end ?_ ?_ HT'.out hS2 HN'.out ?_
      · rfl
      · rfl
      · exact HE'.out
    case' first =>
      have hS2 : w.heap.size ≤ S := by rw [HSE.out]; exact Nat.le_refl _
      go_upto_region 13 with fail
      refine wp_at (R := fun W => TB w W S _ _) (HTS.out _) (fun W hW => ?_)
      have HW := Lib.hid hW
      have hSW : S + 1 + 1 < W.heap.size := hW.tst.2.2
      clear hW
      go_wp2_with fail
  all_goals
    go_loopw [8] (fun i wr => ∃ (j : Nat) (kk : Int) (vt : Value) (ps : Held Tst), i = .int .i64 j ∧ j ≤ 3 ∧ j ≤ xsub.length ∧ lf.kind = kk ∧ TB w wr S [.int .i64 xk, .int .i64 xa, .int .i64 xb, .string ⟨xs.toArray⟩, .string ⟨xt.toArray⟩, .slice G xsub.length c] [.int .i64 kk, .int .i64 0, .int .i64 0, .slice none 0 0, .slice none 0 0, .bool false, .int .i64 0, vt] ∧ ORow (cTst (K + 1)) 40 wr (S + 1 + 1 + 1) (Dm S wr vt) vt ps ∧ ps.map Prod.fst = (xsub.take j).map (testS m)) (fun i _ => 3 - (intOf i).toNat)
    case atStart => exact ⟨0, _, .slice none 0 0, [], rfl, Nat.zero_le _, Nat.zero_le _, by rw [HLF.out], HW.out, ORow.nil _ _ _ _ _, rfl⟩
    case round =>
      obtain ⟨j, kk, vt, ps, rfl, hj3, hjl, hkk, hT, hrow, hps⟩ := hrel
      obtain ⟨Gt, ct, rfl⟩ := ORow.shape hrow
      have hpl : ps.length = j := by have := congrArg List.length hps; rw [List.length_map, List.length_map, List.length_take] at this; omega
      have hp3 : ps.length ≤ 3 := by omega
      have HPL := Lib.hid hpl
      obtain ⟨c0, c1, c2, c3, c4, c5⟩ := has_six hT.stick
      obtain ⟨e0, e1, e2, e3, e4, e5, e6, e7⟩ := has_oct' hT.tst
      have hSr : S + 1 + 1 < wr.heap.size := hT.tst.2.2
      have HT := Lib.hid hT; have HROW := Lib.hid hrow; have HPS := Lib.hid hps; have HKK := Lib.hid hkk
      by_cases hlt : j < xsub.length ∧ j < 3
      · obtain ⟨hl1, hl2⟩ := hlt
        obtain ⟨g, off, G', c', rfl, hrep, d0, d1, d2, d3, d4, d5⟩ := stk_get HV.out (Same.of_below hT.bel) hT.bel.size j hl1
        have hmore := take_more (testS m) xsub j hl1 (ps.map Prod.fst) hps
        have hct := HIH.out n xsub[j] _ F wr hrep
        obtain ⟨y, hy⟩ : ∃ y, y = xsub[j] := ⟨_, rfl⟩
        rw [← hy] at d0 d1 d2 d3 d4 d5 hct hmore
        have HCT : Hid (Calls Tryz.prog 16 #[.agg #[.int .i64 y.kind, .int .i64 y.a, .int .i64 y.b, .string ⟨y.s.toArray⟩, .string ⟨y.t.toArray⟩, .slice G' y.subs.length c'], .int .i64 (d + 1)] wr (TestPost (testS m y) (K + 1) wr)) := hct
        have HMORE := Lib.hid hmore
        obtain ⟨yk, ya, yb, ys, yt, yv, hyv⟩ : ∃ (yk ya yb : Int) (ys yt : Str) (yv : Value), yk = y.kind ∧ ya = y.a ∧ yb = y.b ∧ ys = y.s ∧ yt = y.t ∧ yv = .slice G' y.subs.length c' := ⟨_, _, _, _, _, _, rfl, rfl, rfl, rfl, rfl, rfl⟩
        have jl : (0 : Int) ≤ j := by omega
        have jh : (j : Int) < xsub.length := by omega
        have jn3 : (j : Int) < 3 := by omega
        have hdw : IntKind.i64.wrap (d + 1) = d + 1 := IntWalk.i64_in _ (by omega)
        clear hT hrow hps hkk hrep hct hmore hy hyv hpl
        go_wp2_with fail
        refine HCT.out.mono ?_
        intro e w4 hp
        obtain ⟨vs1, rfl, hr1, hb4⟩ := hp
        obtain ⟨k1, m1, p1, G1, n1, c1', G2, n2, c2', o1, l1, G3, n3, c3', rfl⟩ := oct_form hr1
        have hal4 := ba (Below.refl w4.heap.size w4) (.cells #[.int .i64 k1, .int .i64 m1, .int .i64 p1, .slice G1 n1 c1', .slice G2 n2 c2', .bool o1, .int .i64 l1, .slice G3 n3 c3'] 40)
        have hb5 := bt hb4 hal4
        have H5 : Hid (TB w (w4.alloc (.cells #[.int .i64 k1, .int .i64 m1, .int .i64 p1, .slice G1 n1 c1', .slice G2 n2 c2', .bool o1, .int .i64 l1, .slice G3 n3 c3'] 40)) S [.int .i64 xk, .int .i64 xa, .int .i64 xb, .string ⟨xs.toArray⟩, .string ⟨xt.toArray⟩, .slice (some ⟨g, off, none⟩) xsub.length c] [.int .i64 kk, .int .i64 0, .int .i64 0, .slice none 0 0, .slice none 0 0, .bool false, .int .i64 0, .slice Gt ps.length ct] ∧ Has (w4.alloc (.cells #[.int .i64 k1, .int .i64 m1, .int .i64 p1, .slice G1 n1 c1', .slice G2 n2 c2', .bool o1, .int .i64 l1, .slice G3 n3 c3'] 40)) w4.heap.size [.int .i64 k1, .int .i64 m1, .int .i64 p1, .slice G1 n1 c1', .slice G2 n2 c2', .bool o1, .int .i64 l1, .slice G3 n3 c3'] ∧ ORow (cTst (K + 1)) 40 (w4.alloc (.cells #[.int .i64 k1, .int .i64 m1, .int .i64 p1, .slice G1 n1 c1', .slice G2 n2 c2', .bool o1, .int .i64 l1, .slice G3 n3 c3'] 40)) (S + 1 + 1 + 1) (Dm S wr (.slice Gt ps.length ct)) (.slice Gt ps.length ct) ps ∧
          (cTst (K + 1)).rep (w4.alloc (.cells #[.int .i64 k1, .int .i64 m1, .int .i64 p1, .slice G1 n1 c1', .slice G2 n2 c2', .bool o1, .int .i64 l1, .slice G3 n3 c3'] 40)) (fun b => wr.heap.size ≤ b ∧ b < w4.heap.size) (testS m y) [.int .i64 k1, .int .i64 m1, .int .i64 p1, .slice G1 n1 c1', .slice G2 n2 c2', .bool o1, .int .i64 l1, .slice G3 n3 c3'] ∧ wr.heap.size ≤ w4.heap.size ∧ w4.heap.size < (w4.alloc (.cells #[.int .i64 k1, .int .i64 m1, .int .i64 p1, .slice G1 n1 c1', .slice G2 n2 c2', .bool o1, .int .i64 l1, .slice G3 n3 c3'] 40)).heap.size) :=
          ⟨HT.out.down hb5, Has.alloc w4 _ _, HROW.out.down hb5, (cTst (K + 1)).stable (tst_bd _ hr1) (Same.of_below hal4) (by simp), hb4.size, by simp⟩
        clear hr1 hb4 hal4 hb5 c0 c1 c2 c3 c4 c5 e0 e1 e2 e3 e4 e5 e6 e7 d0 d1 d2 d3 d4 d5 HCT
        go_upto_region 17 with fail
        refine wp_at (R := fun W5 => TB w W5 S _ _ ∧ Has W5 w4.heap.size _ ∧ ORow (cTst (K + 1)) 40 W5 (S + 1 + 1 + 1) (Dm S wr (.slice Gt ps.length ct)) (.slice Gt ps.length ct) ps ∧ (cTst (K + 1)).rep W5 (fun b => wr.heap.size ≤ b ∧ b < w4.heap.size) (testS m y) _ ∧ wr.heap.size ≤ w4.heap.size ∧ w4.heap.size < W5.heap.size) H5.out (fun W5 h5 => ?_)
        clear H5
        generalize w4.heap.size = I at h5 ⊢
        obtain ⟨hT5, hI5, hR5, hx5, hi1, hi2⟩ := h5
        have hal5 := ba (Below.refl W5.heap.size W5) (.cells #[.int .i64 k1, .int .i64 m1, .int .i64 p1, .slice G1 n1 c1', .slice G2 n2 c2', .bool o1, .int .i64 l1, .slice G3 n3 c3'] 40)
        obtain ⟨e0, e1, e2, e3, e4, e5, e6, e7⟩ := has_oct' hT5.tst
        obtain ⟨q0, q1, q2, q3, q4, q5, q6, q7⟩ := has_oct' hI5
        have hR6 := hR5.down hal5
        have hT6 := hT5.down hal5
        have hx6 : (cTst (K + 1)).rep (W5.alloc (.cells #[.int .i64 k1, .int .i64 m1, .int .i64 p1, .slice G1 n1 c1', .slice G2 n2 c2', .bool o1, .int .i64 l1, .slice G3 n3 c3'] 40)) (fun b => wr.heap.size ≤ b ∧ b < (W5.alloc (.cells #[.int .i64 k1, .int .i64 m1, .int .i64 p1, .slice G1 n1 c1', .slice G2 n2 c2', .bool o1, .int .i64 l1, .slice G3 n3 c3'] 40)).heap.size) (testS m y) [.int .i64 k1, .int .i64 m1, .int .i64 p1, .slice G1 n1 c1', .slice G2 n2 c2', .bool o1, .int .i64 l1, .slice G3 n3 c3'] := (cTst (K + 1)).mono ((cTst (K + 1)).stable hx5 (Same.of_below hal5) hal5.size) (fun b hb => ⟨hb.1, by rw [World.size_alloc]; have := hb.2; omega⟩)
        have hown : World.ownsRow (W5.alloc (.cells #[.int .i64 k1, .int .i64 m1, .int .i64 p1, .slice G1 n1 c1', .slice G2 n2 c2', .bool o1, .int .i64 l1, .slice G3 n3 c3'] 40)) (S + 1 + 1 + 1) 40 8 (.slice Gt ps.length ct) ps.length (hcells ps) := hR6.1
        have hzz : wr.heap.size ≤ W5.heap.size := by omega
        have HT6 := Lib.hid hT6; have HR6 := Lib.hid hR6; have HX6 := Lib.hid hx6; have HOWN := Lib.hid hown; have HAL := Lib.hid hal5
        clear hT5 hI5 hR5 hx5 hal5 hR6 hT6 hx6 hown
        go_wp2_with (at_builtin; refine wpList_append_lies _ (by rfl) _ _ _ (by rfl) (S + 1 + 1 + 1) 40 i0 _ 8 112 Tryz.underlying38 HI0.out HZ0.out HZ1.out HZ2.out rfl (by omega) (.slice Gt ps.length ct) ps.length (hcells ps) (by rfl) HOWN.out ⟨W5.heap.size, 0, none⟩ 1 1 [.int .i64 k1, .int .i64 m1, .int .i64 p1, .slice G1 n1 c1', .slice G2 n2 c2', .bool o1, .int .i64 l1, .slice G3 n3 c3'] (by rfl) (by rfl) (news_of W5 _ _) (by simp [Value.oneCell']) (by omega) (by unfold maxLen; omega) (by omega) (by simp; omega) (W5.heap.size + 1) (by simp) ?_)
        intro g5 cap5 w5 hown5 hgrow5 hat5 hlt5
        have hbase : ∀ b, (Value.slice Gt ps.length ct).ownBlock = some b → S + 1 + 1 < b := fun b e => by have := (HROW.out.1.lt b e).1; omega
        have hrow5 := row_more (wr := wr) HR6.out (by rw [World.size_alloc]; omega) HX6.out (fun b e => (HROW.out.1.lt b e).2) hSr (H := W5.heap.size + 1) (by simp) hown5 hgrow5 hat5 hgrow5.size
        have hT7 := HT6.out.far hgrow5 hbase hS2
        have y7 := hT7.tst.1 7 _ rfl
        have z7 := hT7.tst.2.1 7 (by simp)
        have HT7 := Lib.hid hT7; have HROW5 := Lib.hid hrow5
        clear hown5 hgrow5 hat5 hlt5 hbase hrow5 hT7 e0 e1 e2 e3 e4 e5 e6 e7 q0 q1 q2 q3 q4 q5 q6 q7 HOWN HAL HX6 HT6 HR6
        go_wp2_with fail
        go_roundw
        case rel => exact ⟨j + 1, kk, .slice (some ⟨g5, 0, none⟩) (ps.length + 1) cap5, ps ++ [(testS m y, _)], by go_num, by omega, by omega, HKK.out, HT7.out.put _ (by simp) hS2, row_put HROW5.out, by rw [List.map_append]; exact HMORE.out⟩
        case measure => simp [intOf]; omega
      · rcases Nat.eq_zero_or_pos xsub.length with h0 | h0
        · have hp0 : ps.length = 0 := by omega
          have hj0 : j = 0 := by omega
          have hz : xsub = [] := List.eq_nil_of_length_eq_zero h0
          have hLF := HLF.out
          rw [if_pos hz] at hLF
          have HLF2 := Lib.hid hLF
          have hal := ba (Below.refl wr.heap.size wr) (.cells #[.int .i64 (1 + (pa : Int)), .int .i64 0, .int .i64 0, .slice none 0 0, .slice none 0 0, .bool false, .int .i64 0, .slice none 0 0] 40)
          have hT1 := HT.out.down hal
          have y7 := hT1.tst.1 7 _ rfl
          have z7 := hT1.tst.2.1 7 (by simp)
          have HT1 := Lib.hid hT1
          have HSA := Lib.hid (sat_one_tst (ty := 40) (tst_bd (K + 1) (zero_rep K wr (fun b => wr.heap.size ≤ b) (1 + (pa : Int)))))
          have hn1 : ¬ j < xsub.length := by omega
          have HSR := Lib.hid hSr
          clear hT hrow hps hkk hal hT1 hLF hlt hz h0 hpl hSr
          subst hj0
          go_wp2_with (go_at_call 15; refine (HPA.out _).mono ?_; rintro e w' ⟨rfl, rfl⟩)
          go_meet
          case rel =>
            have hkk := HKK.out
            rw [HLF2.out] at hkk
            exact ⟨kk, some ⟨wr.heap.size, 0, none⟩, 1, [zeroT (1 + (pa : Int))], HT1.out.put _ (by simp) hS2, sat_else (HSA.out.mono (fun b hb => by have := HSR.out; rcases hb with hb | hb <;> omega)) _ (Nat.le_refl _), by rw [HLF2.out, ← hkk]⟩
        · have hp1 : ¬ ps.length = 0 := by omega
          have hne : xsub ≠ [] := fun e => by rw [e] at h0; exact Nat.lt_irrefl 0 h0
          have htk : xsub.take j = xsub.take 3 := by
            by_cases h3 : j = 3
            · rw [h3]
            · rw [List.take_of_length_le (by omega), List.take_of_length_le (by omega)]
          have hE : SubNew w S (K + 1) [.int .i64 xk, .int .i64 xa, .int .i64 xb, .string ⟨xs.toArray⟩, .string ⟨xt.toArray⟩, .slice G xsub.length c] lf wr := by
            refine ⟨kk, Gt, ct, ps.map Prod.fst, by rw [List.length_map]; exact hT, ?_, ?_⟩
            · have := ORow.sat hrow (F := fun b => S + 1 + 1 < b) (fun b hb => by omega) (fun b hb => hb.1)
              rw [List.length_map]; exact this
            · have hLF := HLF.out
              rw [if_neg hne] at hLF
              rw [hLF] at hkk
              rw [hLF, hps, htk, ← hkk]
          have HE := Lib.hid hE
          have hex : (¬ j < xsub.length) ∨ j = 3 := by omega
          clear hT hrow hps hkk hlt hE hne htk hpl
          rcases hex with hn1 | rfl
          · go_wp2_with fail
            go_meet
            case rel => exact HE.out
          · go_wp2_with fail
            all_goals
              go_meet
              case rel => exact HE.out
end Go.Proofs.YtpfbkdbblpppdaaGreatDoor.Sc
