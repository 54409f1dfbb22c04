/- On the way. -/
import Derived.Test.YtjfclekmhfgkmaaGreatDoorRScTst4
set_option linter.unusedVariables false
set_option linter.unusedSimpArgs false
set_option maxHeartbeats 8000000
set_option maxRecDepth 20000
namespace Go.Proofs.YtjfclekmhfgkmaaGreatDoor.Sc
open Go.RowKit
open Tk (Tok)
theorem info_tst : (Tryz.prog.info? 38).map (fun i => (i.zero, i.size, i.bytes)) = some (some (.agg #[.int .i64 0, .int .i64 0, .int .i64 0, .slice none 0 0, .slice none 0 0, .bool false, .int .i64 0, .slice none 0 0]), 8, 112) := by kernel_rfl
theorem below_far {B : Nat} {w wz wy : World} {o : Option Nat} (h : Below B w wz) (g : wz.grownBy wy o) (ho : ∀ b, o = some b → B ≤ b) (hB : B ≤ wz.heap.size) : Below B w wy :=
 ⟨g.os.trans h.os, g.tape.trans h.tape, g.output.trans h.output, Nat.le_trans h.size g.size, fun k hk => (g.block k (by omega) (fun e => by have := ho k e.symm; omega)).trans (h.block k hk)⟩
theorem TB.far {w wz wy : World} {S : Nat} {xs ts : List Value} {o : Option Nat} (h : TB w wz S xs ts) (g : wz.grownBy wy o) (ho : ∀ b, o = some b → S + 1 + 1 < b) (hS : w.heap.size ≤ S) : TB w wy S xs ts :=
 ⟨has_far h.stick g (fun e => by have := ho _ e.symm; omega), has_far h.res g (fun e => by have := ho _ e.symm; omega), has_far h.tst g (fun e => by have := ho _ e.symm; omega), below_far h.bel g (fun b e => by have := ho b e; omega) h.bel.size⟩
def Dm (S : Nat) (wr : World) (v : Value) : Dom := fun b => S + 1 + 1 < b ∧ b < wr.heap.size ∧ v.ownBlock ≠ some b
theorem ORow.shape {α : Type} {c : Cod α} {e : TypeId} {w : World} {base : Nat} {D : Dom} {v : Value} {ps : Held α} (h : ORow c e w base D v ps) : ∃ G cap, v = .slice G ps.length cap := by
 rcases h.1.2 with ⟨rfl, h0⟩ | ⟨g, cap, cur, rfl, _⟩
 ·exact ⟨none, 0, by rw [h0]⟩
 ·exact ⟨_, _, rfl⟩
theorem row_more {K S H g cap : Nat} {wr w1 w5 : World} {v : Value} {ps : Held Tst} {t : Tst} {vs : List Value} (h : ORow (cTst K) 38 w1 (S + 1 + 1 + 1) (Dm S wr v) v ps) (hz : wr.heap.size ≤ w1.heap.size) (hx : (cTst K).rep w1 (fun b => wr.heap.size ≤ b ∧ b < w1.heap.size) t vs) (hv : ∀ b, v.ownBlock = some b → b < wr.heap.size) (hSw : S + 1 + 1 < wr.heap.size)
    (hH : w1.heap.size ≤ H) (hown : w5.ownsRow (S + 1 + 1 + 1) 38 8 (.slice (some ⟨g, 0, none⟩) (ps.length + 1) cap) (ps.length + 1) (hcells ps ++ vs)) (hg : w1.grownBy w5 v.ownBlock) (hat : v.ownBlock = some g ∨ g = H) (hsz : w1.heap.size ≤ w5.heap.size) :
    ORow (cTst K) 38 w5 (S + 1 + 1 + 1) (Dm S w5 (.slice (some ⟨g, 0, none⟩) (ps.length + 1) cap)) (.slice (some ⟨g, 0, none⟩) (ps.length + 1) cap) (ps ++ [(t, vs)]) := by
 have hT : ORow (cTst K) 38 w5 (S + 1 + 1 + 1) (Dm S w1 v) (.slice (some ⟨g, 0, none⟩) (ps.length + 1) cap) (ps ++ [(t, vs)]) :=
  ORow.snoc (T := Dm S w1 v) (H := H) h (fun b hb => ⟨hb.1, by have := hb.2.1; omega, hb.2.2⟩) ((cTst K).mono hx (fun b hb => ⟨by omega, hb.2, fun e => by have := hv b e; omega⟩)) (fun b hb => by have := hb.2.1; omega) (fun b hb hh => hh.2.2 hb) hown hg hat
 refine ⟨hT.1, fun p hp => (cTst K).mono (hT.2.1 p hp) (fun b hb => ⟨hb.1, by have := hb.2.1; omega, fun e => ?_⟩), fun b hb hh => hh.2.2 hb⟩
 obtain rfl : g = b := Option.some.inj e
 rcases hat with h1 | h1
 ·exact hb.2.2 h1
 ·have := hb.2.1; omega
theorem row_put {K S i : Nat} {w : World} {v u : Value} {ps : Held Tst} (h : ORow (cTst K) 38 w (S + 1 + 1 + 1) (Dm S w v) v ps) : ORow (cTst K) 38 (w.setCell ⟨S + 1 + 1, i, none⟩ u) (S + 1 + 1 + 1) (Dm S (w.setCell ⟨S + 1 + 1, i, none⟩ u) v) v ps := by
 have hk : ORow (cTst K) 38 (w.setCell ⟨S + 1 + 1, i, none⟩ u) (S + 1 + 1 + 1) (Dm S w v) v ps := by
  refine h.kept (o := some (S + 1 + 1)) (Go.Lib.grownBy_setB (World.grownBy.refl w (some (S + 1 + 1))) i u) ?_ (fun b e hb => by obtain rfl := Option.some.inj e; have := hb.1; omega)
  cases hv : v.ownBlock with
  | none => exact .inl rfl
  | some b => exact .inr (fun e => by have := (h.1.lt b hv).1; have := Option.some.inj e; omega)
 exact ⟨hk.1, fun p hp => (cTst K).mono (hk.2.1 p hp) (fun b hb => ⟨hb.1, by have := hb.2.1; simpa [World.setCell] using this, hb.2.2⟩), fun b hb hh => hh.2.2 hb⟩
theorem take_more {α β : Type} (f : α → β) (l : List α) (j : Nat) (hj : j < l.length) (ps : List β) (h : ps = (l.take j).map f) : ps ++ [f l[j]] = (l.take (j + 1)).map f := by
 rw [h, List.take_succ_eq_append_getElem hj, List.map_append]; rfl
theorem test_of (m K n : Nat) (k : Int) (x : Stk) (v : Value) (d : Int) (F : Dom) (w : World) (hIH : TestsAt m (K + 1) (d + 1)) (hv : SAt (cStk n) w F v x.subs) (hb : Bd x) (hk : k = 4 ∨ k = 5) (h : kindS x = k) (hd : 1 ≤ d ∧ d ≤ 2) :
    Calls Tryz.prog 44 #[.agg (stkC x v).toArray, .int .i64 d] w (TestPost (testS (m + 1) x) (K + 2) w) := by
 have HPK : Hid (∀ w, Calls Tryz.prog 43 #[.int .i64 x.kind, .int .i64 10] w fun e w' => e = .returned (.int .i64 (pick x.kind 10)) ∧ w = w') := fun w => picked_any x.kind 10 w hb.k.1 hb.k.2 (by omega) (by omega)
 have HPA : Hid (∀ w, Calls Tryz.prog 43 #[.int .i64 x.a, .int .i64 2] w fun e w' => e = .returned (.int .i64 (pick x.a 2)) ∧ w = w') := fun w => picked_any x.a 2 w hb.a.1 hb.a.2 (by omega) (by omega)
 have hlf : testS (m + 1) x = ⟨k, 0, 0, [], [], false, 0, if x.subs = [] then [zeroT (1 + (pick x.a 2 : Nat))] else (x.subs.take 3).map (testS m)⟩ := by rw [testS, if_neg (by omega), if_pos (by omega), h]
 have hp := pick_lt_int x.kind 10 (by omega)
 have hpa2 := pick_lt_int x.a 2 (by omega)
 obtain ⟨pa, hpa⟩ : ∃ pa, pa = pick x.a 2 := ⟨_, rfl⟩
 rw [← hpa] at HPA hlf hpa2
 unfold kindS at h
 obtain ⟨p, hpp⟩ : ∃ p, p = pick x.kind 10 := ⟨_, rfl⟩
 rw [← hpp] at HPK hp h
 obtain ⟨lf, hlf2⟩ : ∃ lf, lf = testS (m + 1) x := ⟨_, rfl⟩
 rw [← hlf2] at hlf ⊢
 have HLF := Lib.hid hlf; have HIH := Lib.hid hIH
 have HTS := Lib.hid (fun (ts : List Value) => tb_start w (stkC x v) ts 72 38 38)
 have hlen := hb.n
 obtain ⟨G, c, rfl, hlc⟩ := hv.form
 have HV := Lib.hid hv
 obtain ⟨i0, hi, hz0, hz1, hz2⟩ := info_three info_tst
 have HI0 := Lib.hid hi; have HZ0 := Lib.hid hz0; have HZ1 := Lib.hid hz1; have HZ2 := Lib.hid hz2
 obtain ⟨xk, xa, xb, xs, xt, xsub⟩ := x
 simp only [stkC] at *
 have key : (p = 3 ∧ k = 4) ∨ (p = 4 ∧ k = 5) := by omega
 clear hpp hp h hb hlf hlf2 hIH hv hpa hk hi hz0 hz1 hz2
 obtain ⟨hd1, hd3⟩ := hd
 have hdd : decide ((3 : Int) ≤ d) = false := decide_eq_false (by omega)
 obtain ⟨S, hSe⟩ : ∃ S, S = w.heap.size := ⟨_, rfl⟩
 rw [← hSe] at HTS
 have HSE := Lib.hid hSe.symm
 clear hSe
 rcases key with ⟨rfl, rfl⟩ | ⟨rfl, rfl⟩
 all_goals
  go_enter Tryz.func44, Tryz.ntmps44
  go_upto_region 2 with (go_at_call 43; refine (HPK.out _).mono ?_; rintro e w' ⟨rfl, rfl⟩)
  go_upto_block 0 with fail
  rw [HSE.out]
  go_cut [] (fun wx => SubNew w S (K + 1) [.int .i64 xk, .int .i64 xa, .int .i64 xb, .string ⟨xs.toArray⟩, .string ⟨xt.toArray⟩, .slice G xsub.length c] lf wx)
  case rest =>
   have hS2 : w.heap.size ≤ S := by rw [HSE.out]; exact Nat.le_refl _
   obtain ⟨k', G', c', ts', hT', hN', hE'⟩ := hcut
   obtain ⟨e0, e1, e2, e3, e4, e5, e6, e7⟩ := has_oct' hT'.tst
   obtain ⟨r0, r1, r2, r3, r4, r5, r6, r7⟩ := has_oct' hT'.res
   have g0 := hT'.res.2.1 0 (by simp [res8])
   have g1 := hT'.res.2.1 1 (by simp [res8])
   have g2 := hT'.res.2.1 2 (by simp [res8])
   have g3 := hT'.res.2.1 3 (by simp [res8])
   have g4 := hT'.res.2.1 4 (by simp [res8])
   have g5 := hT'.res.2.1 5 (by simp [res8])
   have g6 := hT'.res.2.1 6 (by simp [res8])
   have g7 := hT'.res.2.1 7 (by simp [res8])
   have HT' := Lib.hid hT'; have HN' := Lib.hid hN'; have HE' := Lib.hid hE'
   clear hT' hN' hE'
   go_wp2_with fail
   refine sub_end ?_ ?_ HT'.out hS2 HN'.out ?_
   ·rfl
   ·rfl
   ·exact HE'.out
  case' first =>
   have hS2 : w.heap.size ≤ S := by rw [HSE.out]; exact Nat.le_refl _
   go_upto_region 13 with fail
   refine wp_at (R := fun W => TB w W S _ _) (HTS.out _) (fun W hW => ?_)
   have HW := Lib.hid hW
   have hSW : S + 1 + 1 < W.heap.size := hW.tst.2.2
   clear hW
   go_wp2_with fail
 all_goals
  go_loopw [8] (fun i wr => ∃ (j : Nat) (kk : Int) (vt : Value) (ps : Held Tst), i = .int .i64 j ∧ j ≤ 3 ∧ j ≤ xsub.length ∧ lf.kind = kk ∧ TB w wr S [.int .i64 xk, .int .i64 xa, .int .i64 xb, .string ⟨xs.toArray⟩, .string ⟨xt.toArray⟩, .slice G xsub.length c] [.int .i64 kk, .int .i64 0, .int .i64 0, .slice none 0 0, .slice none 0 0, .bool false, .int .i64 0, vt] ∧ ORow (cTst (K + 1)) 38 wr (S + 1 + 1 + 1) (Dm S wr vt) vt ps ∧ ps.map Prod.fst = (xsub.take j).map (testS m)) (fun i _ => 3 - (intOf i).toNat)
  case atStart => exact ⟨0, _, .slice none 0 0, [], rfl, Nat.zero_le _, Nat.zero_le _, by rw [HLF.out], HW.out, ORow.nil _ _ _ _ _, rfl⟩
  case round =>
   obtain ⟨j, kk, vt, ps, rfl, hj3, hjl, hkk, hT, hrow, hps⟩ := hrel
   obtain ⟨Gt, ct, rfl⟩ := ORow.shape hrow
   have hpl : ps.length = j := by have := congrArg List.length hps; rw [List.length_map, List.length_map, List.length_take] at this; omega
   have hp3 : ps.length ≤ 3 := by omega
   have HPL := Lib.hid hpl
   obtain ⟨c0, c1, c2, c3, c4, c5⟩ := has_six hT.stick
   obtain ⟨e0, e1, e2, e3, e4, e5, e6, e7⟩ := has_oct' hT.tst
   have hSr : S + 1 + 1 < wr.heap.size := hT.tst.2.2
   have HT := Lib.hid hT; have HROW := Lib.hid hrow; have HPS := Lib.hid hps; have HKK := Lib.hid hkk
   by_cases hlt : j < xsub.length ∧ j < 3
   ·obtain ⟨hl1, hl2⟩ := hlt
    obtain ⟨g, off, G', c', rfl, hrep, d0, d1, d2, d3, d4, d5⟩ := stk_get HV.out (Same.of_below hT.bel) hT.bel.size j hl1
    have hmore := take_more (testS m) xsub j hl1 (ps.map Prod.fst) hps
    have hct := HIH.out n xsub[j] _ F wr hrep
    obtain ⟨y, hy⟩ : ∃ y, y = xsub[j] := ⟨_, rfl⟩
    rw [← hy] at d0 d1 d2 d3 d4 d5 hct hmore
    have HCT : Hid (Calls Tryz.prog 44 #[.agg #[.int .i64 y.kind, .int .i64 y.a, .int .i64 y.b, .string ⟨y.s.toArray⟩, .string ⟨y.t.toArray⟩, .slice G' y.subs.length c'], .int .i64 (d + 1)] wr (TestPost (testS m y) (K + 1) wr)) := hct
    have HMORE := Lib.hid hmore
    obtain ⟨yk, ya, yb, ys, yt, yv, hyv⟩ : ∃ (yk ya yb : Int) (ys yt : Str) (yv : Value), yk = y.kind ∧ ya = y.a ∧ yb = y.b ∧ ys = y.s ∧ yt = y.t ∧ yv = .slice G' y.subs.length c' := ⟨_, _, _, _, _, _, rfl, rfl, rfl, rfl, rfl, rfl⟩
    have jl : (0 : Int) ≤ j := by omega
    have jh : (j : Int) < xsub.length := by omega
    have jn3 : (j : Int) < 3 := by omega
    have hdw : IntKind.i64.wrap (d + 1) = d + 1 := IntWalk.i64_in _ (by omega)
    clear hT hrow hps hkk hrep hct hmore hy hyv hpl
    go_wp2_with fail
    refine HCT.out.mono ?_
    intro e w4 hp
    obtain ⟨vs1, rfl, hr1, hb4⟩ := hp
    obtain ⟨k1, m1, p1, G1, n1, c1', G2, n2, c2', o1, l1, G3, n3, c3', rfl⟩ := oct_form hr1
    have hal4 := ba (Below.refl w4.heap.size w4) (.cells #[.int .i64 k1, .int .i64 m1, .int .i64 p1, .slice G1 n1 c1', .slice G2 n2 c2', .bool o1, .int .i64 l1, .slice G3 n3 c3'] 38)
    have hb5 := bt hb4 hal4
    have H5 : Hid (TB w (w4.alloc (.cells #[.int .i64 k1, .int .i64 m1, .int .i64 p1, .slice G1 n1 c1', .slice G2 n2 c2', .bool o1, .int .i64 l1, .slice G3 n3 c3'] 38)) S [.int .i64 xk, .int .i64 xa, .int .i64 xb, .string ⟨xs.toArray⟩, .string ⟨xt.toArray⟩, .slice (some ⟨g, off, none⟩) xsub.length c] [.int .i64 kk, .int .i64 0, .int .i64 0, .slice none 0 0, .slice none 0 0, .bool false, .int .i64 0, .slice Gt ps.length ct] ∧ Has (w4.alloc (.cells #[.int .i64 k1, .int .i64 m1, .int .i64 p1, .slice G1 n1 c1', .slice G2 n2 c2', .bool o1, .int .i64 l1, .slice G3 n3 c3'] 38)) w4.heap.size [.int .i64 k1, .int .i64 m1, .int .i64 p1, .slice G1 n1 c1', .slice G2 n2 c2', .bool o1, .int .i64 l1, .slice G3 n3 c3'] ∧ ORow (cTst (K + 1)) 38 (w4.alloc (.cells #[.int .i64 k1, .int .i64 m1, .int .i64 p1, .slice G1 n1 c1', .slice G2 n2 c2', .bool o1, .int .i64 l1, .slice G3 n3 c3'] 38)) (S + 1 + 1 + 1) (Dm S wr (.slice Gt ps.length ct)) (.slice Gt ps.length ct) ps ∧
     (cTst (K + 1)).rep (w4.alloc (.cells #[.int .i64 k1, .int .i64 m1, .int .i64 p1, .slice G1 n1 c1', .slice G2 n2 c2', .bool o1, .int .i64 l1, .slice G3 n3 c3'] 38)) (fun b => wr.heap.size ≤ b ∧ b < w4.heap.size) (testS m y) [.int .i64 k1, .int .i64 m1, .int .i64 p1, .slice G1 n1 c1', .slice G2 n2 c2', .bool o1, .int .i64 l1, .slice G3 n3 c3'] ∧ wr.heap.size ≤ w4.heap.size ∧ w4.heap.size < (w4.alloc (.cells #[.int .i64 k1, .int .i64 m1, .int .i64 p1, .slice G1 n1 c1', .slice G2 n2 c2', .bool o1, .int .i64 l1, .slice G3 n3 c3'] 38)).heap.size) :=
     ⟨HT.out.down hb5, Has.alloc w4 _ _, HROW.out.down hb5, (cTst (K + 1)).stable (tst_bd _ hr1) (Same.of_below hal4) (by simp), hb4.size, by simp⟩
    clear hr1 hb4 hal4 hb5 c0 c1 c2 c3 c4 c5 e0 e1 e2 e3 e4 e5 e6 e7 d0 d1 d2 d3 d4 d5 HCT
    go_upto_region 17 with fail
    refine wp_at (R := fun W5 => TB w W5 S _ _ ∧ Has W5 w4.heap.size _ ∧ ORow (cTst (K + 1)) 38 W5 (S + 1 + 1 + 1) (Dm S wr (.slice Gt ps.length ct)) (.slice Gt ps.length ct) ps ∧ (cTst (K + 1)).rep W5 (fun b => wr.heap.size ≤ b ∧ b < w4.heap.size) (testS m y) _ ∧ wr.heap.size ≤ w4.heap.size ∧ w4.heap.size < W5.heap.size) H5.out (fun W5 h5 => ?_)
    clear H5
    generalize w4.heap.size = I at h5 ⊢
    obtain ⟨hT5, hI5, hR5, hx5, hi1, hi2⟩ := h5
    have hal5 := ba (Below.refl W5.heap.size W5) (.cells #[.int .i64 k1, .int .i64 m1, .int .i64 p1, .slice G1 n1 c1', .slice G2 n2 c2', .bool o1, .int .i64 l1, .slice G3 n3 c3'] 38)
    obtain ⟨e0, e1, e2, e3, e4, e5, e6, e7⟩ := has_oct' hT5.tst
    obtain ⟨q0, q1, q2, q3, q4, q5, q6, q7⟩ := has_oct' hI5
    have hR6 := hR5.down hal5
    have hT6 := hT5.down hal5
    have hx6 : (cTst (K + 1)).rep (W5.alloc (.cells #[.int .i64 k1, .int .i64 m1, .int .i64 p1, .slice G1 n1 c1', .slice G2 n2 c2', .bool o1, .int .i64 l1, .slice G3 n3 c3'] 38)) (fun b => wr.heap.size ≤ b ∧ b < (W5.alloc (.cells #[.int .i64 k1, .int .i64 m1, .int .i64 p1, .slice G1 n1 c1', .slice G2 n2 c2', .bool o1, .int .i64 l1, .slice G3 n3 c3'] 38)).heap.size) (testS m y) [.int .i64 k1, .int .i64 m1, .int .i64 p1, .slice G1 n1 c1', .slice G2 n2 c2', .bool o1, .int .i64 l1, .slice G3 n3 c3'] := (cTst (K + 1)).mono ((cTst (K + 1)).stable hx5 (Same.of_below hal5) hal5.size) (fun b hb => ⟨hb.1, by rw [World.size_alloc]; have := hb.2; omega⟩)
    have hown : World.ownsRow (W5.alloc (.cells #[.int .i64 k1, .int .i64 m1, .int .i64 p1, .slice G1 n1 c1', .slice G2 n2 c2', .bool o1, .int .i64 l1, .slice G3 n3 c3'] 38)) (S + 1 + 1 + 1) 38 8 (.slice Gt ps.length ct) ps.length (hcells ps) := hR6.1
    have hzz : wr.heap.size ≤ W5.heap.size := by omega
    have HT6 := Lib.hid hT6; have HR6 := Lib.hid hR6; have HX6 := Lib.hid hx6; have HOWN := Lib.hid hown; have HAL := Lib.hid hal5
    clear hT5 hI5 hR5 hx5 hal5 hR6 hT6 hx6 hown
    go_wp2_with (at_builtin; refine wpList_append_lies _ (by rfl) _ _ _ (by rfl) (S + 1 + 1 + 1) 38 i0 _ 8 112 Tryz.underlying36 HI0.out HZ0.out HZ1.out HZ2.out rfl (by omega) (.slice Gt ps.length ct) ps.length (hcells ps) (by rfl) HOWN.out ⟨W5.heap.size, 0, none⟩ 1 1 [.int .i64 k1, .int .i64 m1, .int .i64 p1, .slice G1 n1 c1', .slice G2 n2 c2', .bool o1, .int .i64 l1, .slice G3 n3 c3'] (by rfl) (by rfl) (news_of W5 _ _) (by simp [Value.oneCell']) (by omega) (by unfold maxLen; omega) (by omega) (by simp; omega) (W5.heap.size + 1) (by simp) ?_)
    intro g5 cap5 w5 hown5 hgrow5 hat5 hlt5
    have hbase : ∀ b, (Value.slice Gt ps.length ct).ownBlock = some b → S + 1 + 1 < b := fun b e => by have := (HROW.out.1.lt b e).1; omega
    have hrow5 := row_more (wr := wr) HR6.out (by rw [World.size_alloc]; omega) HX6.out (fun b e => (HROW.out.1.lt b e).2) hSr (H := W5.heap.size + 1) (by simp) hown5 hgrow5 hat5 hgrow5.size
    have hT7 := HT6.out.far hgrow5 hbase hS2
    have y7 := hT7.tst.1 7 _ rfl
    have z7 := hT7.tst.2.1 7 (by simp)
    have HT7 := Lib.hid hT7; have HROW5 := Lib.hid hrow5
    clear hown5 hgrow5 hat5 hlt5 hbase hrow5 hT7 e0 e1 e2 e3 e4 e5 e6 e7 q0 q1 q2 q3 q4 q5 q6 q7 HOWN HAL HX6 HT6 HR6
    go_wp2_with fail
    go_roundw
    case rel => exact ⟨j + 1, kk, .slice (some ⟨g5, 0, none⟩) (ps.length + 1) cap5, ps ++ [(testS m y, _)], by go_num, by omega, by omega, HKK.out, HT7.out.put _ (by simp) hS2, row_put HROW5.out, by rw [List.map_append]; exact HMORE.out⟩
    case measure => simp [intOf]; omega
   ·rcases Nat.eq_zero_or_pos xsub.length with h0 | h0
    ·have hp0 : ps.length = 0 := by omega
     have hj0 : j = 0 := by omega
     have hz : xsub = [] := List.eq_nil_of_length_eq_zero h0
     have hLF := HLF.out
     rw [if_pos hz] at hLF
     have HLF2 := Lib.hid hLF
     have hal := ba (Below.refl wr.heap.size wr) (.cells #[.int .i64 (1 + (pa : Int)), .int .i64 0, .int .i64 0, .slice none 0 0, .slice none 0 0, .bool false, .int .i64 0, .slice none 0 0] 38)
     have hT1 := HT.out.down hal
     have y7 := hT1.tst.1 7 _ rfl
     have z7 := hT1.tst.2.1 7 (by simp)
     have HT1 := Lib.hid hT1
     have HSA := Lib.hid (sat_one_tst (ty := 38) (tst_bd (K + 1) (zero_rep K wr (fun b => wr.heap.size ≤ b) (1 + (pa : Int)))))
     have hn1 : ¬ j < xsub.length := by omega
     have HSR := Lib.hid hSr
     clear hT hrow hps hkk hal hT1 hLF hlt hz h0 hpl hSr
     subst hj0
     go_wp2_with (go_at_call 43; refine (HPA.out _).mono ?_; rintro e w' ⟨rfl, rfl⟩)
     go_meet
     case rel =>
      have hkk := HKK.out
      rw [HLF2.out] at hkk
      exact ⟨kk, some ⟨wr.heap.size, 0, none⟩, 1, [zeroT (1 + (pa : Int))], HT1.out.put _ (by simp) hS2, sat_else (HSA.out.mono (fun b hb => by have := HSR.out; rcases hb with hb | hb <;> omega)) _ (Nat.le_refl _), by rw [HLF2.out, ← hkk]⟩
    ·have hp1 : ¬ ps.length = 0 := by omega
     have hne : xsub ≠ [] := fun e => by rw [e] at h0; exact Nat.lt_irrefl 0 h0
     have htk : xsub.take j = xsub.take 3 := by
      by_cases h3 : j = 3
      ·rw [h3]
      ·rw [List.take_of_length_le (by omega), List.take_of_length_le (by omega)]
     have hE : SubNew w S (K + 1) [.int .i64 xk, .int .i64 xa, .int .i64 xb, .string ⟨xs.toArray⟩, .string ⟨xt.toArray⟩, .slice G xsub.length c] lf wr := by
      refine ⟨kk, Gt, ct, ps.map Prod.fst, by rw [List.length_map]; exact hT, ?_, ?_⟩
      ·have := ORow.sat hrow (F := fun b => S + 1 + 1 < b) (fun b hb => by omega) (fun b hb => hb.1)
       rw [List.length_map]; exact this
      ·have hLF := HLF.out
       rw [if_neg hne] at hLF
       rw [hLF] at hkk
       rw [hLF, hps, htk, ← hkk]
     have HE := Lib.hid hE
     have hex : (¬ j < xsub.length) ∨ j = 3 := by omega
     clear hT hrow hps hkk hlt hE hne htk hpl
     rcases hex with hn1 | rfl
     ·go_wp2_with fail
      go_meet
      case rel => exact HE.out
     ·go_wp2_with fail
      all_goals
       go_meet
       case rel => exact HE.out
end Go.Proofs.YtjfclekmhfgkmaaGreatDoor.Sc
