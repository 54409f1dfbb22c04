/- On the way. -/
import Derived.Test.YtjfclekmhfgkmaaGreatDoorRScTstH
import Derived.Test.YtjfclekmhfgkmaaGreatDoorRHeldBy
import Derived.IntWalk
import Derived.Deep.DeepCutAuto
import Derived.Deep.CutBlock
set_option linter.unusedVariables false
set_option linter.unusedSimpArgs false
set_option maxHeartbeats 8000000
set_option maxRecDepth 20000
namespace Go.Proofs.YtjfclekmhfgkmaaGreatDoor.Sc
open Go.RowKit
open Tk (Tok)
theorem test_size (x : Stk) (v : Value) (d : Int) (w : World) (hb : Bd x) (h : kindS x = 10) (hd : 1 ≤ d ∧ d ≤ 3) :
    Calls Tryz.prog 44 #[.agg (stkC x v).toArray, .int .i64 d] w (TestPost (leafS 10 x) 4 w) := by
 have HPK : Hid (∀ w, Calls Tryz.prog 43 #[.int .i64 x.kind, .int .i64 10] w fun e w' => e = .returned (.int .i64 (pick x.kind 10)) ∧ w = w') := fun w => picked_any x.kind 10 w hb.k.1 hb.k.2 (by omega) (by omega)
 have hp := pick_lt_int x.kind 10 (by omega)
 unfold kindS at h
 obtain ⟨p, hpp⟩ : ∃ p, p = pick x.kind 10 := ⟨_, rfl⟩
 rw [← hpp] at HPK hp h
 have HPA : Hid (∀ w, Calls Tryz.prog 43 #[.int .i64 x.a, .int .i64 2] w fun e w' => e = .returned (.int .i64 (pick x.a 2)) ∧ w = w') := fun w => picked_any x.a 2 w hb.a.1 hb.a.2 (by omega) (by omega)
 have HPB : Hid (∀ w, Calls Tryz.prog 43 #[.int .i64 x.b, .int .i64 400] w fun e w' => e = .returned (.int .i64 (pick x.b 400)) ∧ w = w') := fun w => picked_any x.b 400 w hb.b.1 hb.b.2 (by omega) (by omega)
 have hS : w.heap.size ≤ w.heap.size := Nat.le_refl _
 have HTS := Lib.hid (fun (ts : List Value) => tb_start w (stkC x v) ts 72 38 38)
 obtain ⟨lf, hlf⟩ : ∃ lf, lf = leafS 10 x := ⟨_, rfl⟩
 rw [← hlf]
 have ha2 := pick_lt_int x.a 2 (by omega)
 have hlf2 : lf = ⟨10, 0, 0, [], [], pick x.a 2 == 1, (pick x.b 400 : Nat), []⟩ := by rw [hlf]; rfl
 have hbb : ((pick x.a 2 : Int) == 1) = (pick x.a 2 == 1) := by
  have : pick x.a 2 = 0 ∨ pick x.a 2 = 1 := by omega
  rcases this with e | e <;> rw [e] <;> rfl
 rw [← hbb] at hlf2
 obtain ⟨pa, hpa⟩ : ∃ pa, pa = pick x.a 2 := ⟨_, rfl⟩
 obtain ⟨pb, hpb⟩ : ∃ pb, pb = pick x.b 400 := ⟨_, rfl⟩
 rw [← hpa, ← hpb] at hlf2
 rw [← hpa] at HPA
 rw [← hpb] at HPB
 have HLF := Lib.hid hlf2
 obtain ⟨xk, xa, xb, xs, xt, xsub⟩ := x
 simp only [stkC] at *
 obtain rfl : p = 9 := by omega
 clear hpp hp h hb hlf hlf2 hpa hpb ha2 hbb
 obtain ⟨hd1, hd3⟩ := hd
 obtain ⟨S, hSe⟩ : ∃ S, S = w.heap.size := ⟨_, rfl⟩
 rw [← hSe] at HTS
 have HSE := Lib.hid hSe.symm
 clear hSe hS
 go_enter Tryz.func44, Tryz.ntmps44
 go_upto_region 2 with (go_at_call 43; refine (HPK.out _).mono ?_; rintro e w' ⟨rfl, rfl⟩)
 go_upto_region 35 with fail
 all_goals
  rw [HSE.out]
  refine wp_at (R := fun W => TB w W S _ _) (HTS.out _) (fun W hW => ?_)
  obtain ⟨c0, c1, c2, c3, c4, c5⟩ := has_six hW.stick
  obtain ⟨e0, e1, e2, e3, e4, e5, e6, e7⟩ := has_oct' hW.tst
  have f5 := hW.tst.2.1 5 (by simp)
  have HW := Lib.hid hW
  have hS2 : w.heap.size ≤ S := by rw [HSE.out]; exact Nat.le_refl _
  clear hW
  go_upto_region 36 with (go_at_call 43; refine (HPA.out _).mono ?_; rintro e w' ⟨rfl, rfl⟩)
  refine wp_at (R := fun W => TB w W S _ _) (HW.out.put (.bool ((pa : Int) == 1)) (by simp) hS2) (fun W2 hW => ?_)
  clear c0 c1 c2 c3 c4 c5 e0 e1 e2 e3 e4 e5 e6 e7 f5 HW
  obtain ⟨c0, c1, c2, c3, c4, c5⟩ := has_six hW.stick
  obtain ⟨e0, e1, e2, e3, e4, e5, e6, e7⟩ := has_oct' hW.tst
  have f6 := hW.tst.2.1 6 (by simp)
  obtain ⟨r0, r1, r2, r3, r4, r5, r6, r7⟩ := has_oct' hW.res
  have g0 := hW.res.2.1 0 (by simp [res8])
  have g1 := hW.res.2.1 1 (by simp [res8])
  have g2 := hW.res.2.1 2 (by simp [res8])
  have g3 := hW.res.2.1 3 (by simp [res8])
  have g4 := hW.res.2.1 4 (by simp [res8])
  have g5 := hW.res.2.1 5 (by simp [res8])
  have g6 := hW.res.2.1 6 (by simp [res8])
  have g7 := hW.res.2.1 7 (by simp [res8])
  have HW := Lib.hid hW
  clear hW
  obtain ⟨bo, hbo⟩ : ∃ bo : Bool, bo = ((pa : Int) == 1) := ⟨_, rfl⟩
  rw [← hbo] at HW HLF e5
  clear hbo
  go_wp2_with (go_at_call 43; refine (HPB.out _).mono ?_; rintro e w' ⟨rfl, rfl⟩)
  refine leaf_end ?_ ?_ (HW.out.put _ (by simp) hS2) hS2 (SAt.nil _ _ _) (SAt.nil _ _ _) ?_
  ·rfl
  ·rfl
  ·exact HLF.out
theorem sat_take2 {w : World} {F : Dom} {B : Nat} {a b : Str} (h : Has w B [.string ⟨a.toArray⟩, .string ⟨b.toArray⟩]) (hF : F B) (k : Nat) (hk : k ≤ 2) : SAt cStr w F (.slice (some ⟨B, 0, none⟩) k 2) ([a, b].take k) := by
 refine ⟨_, 2, by rw [List.length_take]; show _ = Value.slice _ (min k 2) 2; rw [Nat.min_eq_left hk], by rw [List.length_take]; show min k 2 ≤ 2; omega, fun i y hi => ?_⟩
 refine ⟨B, 0, rfl, hF, h.2.2, strC y, rfl, fun j u hj => ?_⟩
 have h0 : j = 0 := by have := (List.getElem?_eq_some_iff.1 hj).1; simp [strC] at this; omega
 subst h0
 obtain rfl : Value.string ⟨y.toArray⟩ = u := Option.some.inj hj
 rw [List.getElem?_take] at hi
 split at hi
 ·have hx : 0 + i * cStr.size + 0 = i := by show 0 + i * 1 + 0 = i; omega
  rw [hx]
  match i, hi with
  | 0, hi => obtain rfl := Option.some.inj hi; exact h.1 0 _ rfl
  | 1, hi => obtain rfl := Option.some.inj hi; exact h.1 1 _ rfl
  | i + 2, hi => simp at hi
 ·cases hi
theorem exists_end {w V : World} {S B pb : Nat} {xs : List Value} {NA wl : Str} {lf : Tst} (hT : TB w V S xs [.int .i64 9, .int .i64 0, .int .i64 0, .slice none 0 0, .slice none 0 0, .bool false, .int .i64 0, .slice none 0 0]) (hB : S + 1 + 1 < B) (hNm : Has V B [.string ⟨NA.toArray⟩, .string ⟨wl.toArray⟩]) (hS : w.heap.size ≤ S) (hpb : pb < 2) (hlf : lf = ⟨9, 0, 0, [NA, wl].take (1 + pb), [], false, 0, []⟩) :
    KeyNew w S xs lf (V.setCell ⟨S + 1 + 1, 3, none⟩ (.slice (some ⟨B, 0, none⟩) (1 + pb) 2)) := by
 have hl : ([NA, wl].take (1 + pb)).length = 1 + pb := by rw [List.length_take]; show min (1 + pb) 2 = _; omega
 refine ⟨9, 0, 0, some ⟨B, 0, none⟩, 2, [NA, wl].take (1 + pb), none, 0, [], ?_, ?_, SAt.nil _ _ _, hlf⟩
 ·rw [hl]; exact hT.put (.slice (some ⟨B, 0, none⟩) (1 + pb) 2) (by simp) hS
 ·rw [hl]; exact sat_else (sat_take2 hNm hB (1 + pb) (by omega)) _ (Nat.le_refl _)
theorem test_exists (x : Stk) (v : Value) (d : Int) (w : World) (hb : Bd x) (h : kindS x = 9) (hd : 1 ≤ d ∧ d ≤ 3) :
    Calls Tryz.prog 44 #[.agg (stkC x v).toArray, .int .i64 d] w (TestPost (leafS 9 x) 4 w) := by
 have HPK : Hid (∀ w, Calls Tryz.prog 43 #[.int .i64 x.kind, .int .i64 10] w fun e w' => e = .returned (.int .i64 (pick x.kind 10)) ∧ w = w') := fun w => picked_any x.kind 10 w hb.k.1 hb.k.2 (by omega) (by omega)
 have hp := pick_lt_int x.kind 10 (by omega)
 unfold kindS at h
 obtain ⟨p, hpp⟩ : ∃ p, p = pick x.kind 10 := ⟨_, rfl⟩
 rw [← hpp] at HPK hp h
 have HPA : Hid (∀ w, Calls Tryz.prog 43 #[.int .i64 x.a, .int .i64 3] w fun e w' => e = .returned (.int .i64 (pick x.a 3)) ∧ w = w') := fun w => picked_any x.a 3 w hb.a.1 hb.a.2 (by omega) (by omega)
 have HPB : Hid (∀ w, Calls Tryz.prog 43 #[.int .i64 x.b, .int .i64 2] w fun e w' => e = .returned (.int .i64 (pick x.b 2)) ∧ w = w') := fun w => picked_any x.b 2 w hb.b.1 hb.b.2 (by omega) (by omega)
 have HTS := Lib.hid (fun (ts : List Value) => tb_start w (stkC x v) ts 72 38 38)
 obtain ⟨lf, hlf⟩ : ∃ lf, lf = leafS 9 x := ⟨_, rfl⟩
 rw [← hlf]
 have ha3 := pick_lt_int x.a 3 (by omega)
 have hb2 := pick_lt_int x.b 2 (by omega)
 have hlf2 : lf = ⟨9, 0, 0, [nm9.getD (pick x.a 3) [], wordL x.s].take (1 + pick x.b 2), [], false, 0, []⟩ := by rw [hlf]; rfl
 obtain ⟨pa, hpa⟩ : ∃ pa, pa = pick x.a 3 := ⟨_, rfl⟩
 obtain ⟨pb, hpb⟩ : ∃ pb, pb = pick x.b 2 := ⟨_, rfl⟩
 rw [← hpa, ← hpb] at hlf2
 rw [← hpa] at HPA ha3
 rw [← hpb] at HPB hb2
 have HWD : Hid (∀ w, Calls Tryz.prog 71 #[.string ⟨x.s.toArray⟩] w fun e w' => e = .returned (.string ⟨(wordL x.s).toArray⟩) ∧ Below w.heap.size w w') := fun w => word_any ⟨x.s.toArray⟩ w hb.s
 obtain ⟨wl, hwl⟩ : ∃ wl, wl = wordL x.s := ⟨_, rfl⟩
 rw [← hwl] at HWD hlf2
 have HLF := Lib.hid hlf2
 obtain ⟨xk, xa, xb, xs, xt, xsub⟩ := x
 simp only [stkC] at *
 obtain rfl : p = 8 := by omega
 clear hpp hp h hb hlf hlf2 hpa hpb hwl
 obtain ⟨hd1, hd3⟩ := hd
 obtain ⟨S, hSe⟩ : ∃ S, S = w.heap.size := ⟨_, rfl⟩
 rw [← hSe] at HTS
 have HSE := Lib.hid hSe.symm
 clear hSe
 go_enter Tryz.func44, Tryz.ntmps44
 go_upto_region 2 with (go_at_call 43; refine (HPK.out _).mono ?_; rintro e w' ⟨rfl, rfl⟩)
 go_cut [23] (fun b wx => b = .bool false ∧ wx = (w.alloc (.cells #[.int .i64 xk, .int .i64 xa, .int .i64 xb, .string ⟨xs.toArray⟩, .string ⟨xt.toArray⟩, v] 72)).alloc (.cells #[.int .i64 0, .int .i64 0, .int .i64 0, .slice none 0 0, .slice none 0 0, .bool false, .int .i64 0, .slice none 0 0] 38))
 case first =>
  go_wp2_with fail
  all_goals
   go_meet
   case rel => exact ⟨rfl, rfl⟩
 case' rest =>
  obtain ⟨rfl, rfl⟩ := hcut
  go_upto_block 0 with fail
  rw [HSE.out]
  go_cut [] (fun wx => KeyNew w S [.int .i64 xk, .int .i64 xa, .int .i64 xb, .string ⟨xs.toArray⟩, .string ⟨xt.toArray⟩, v] lf wx)
 case rest =>
  have hS2 : w.heap.size ≤ S := by rw [HSE.out]; exact Nat.le_refl _
  obtain ⟨k', m', p', Gn', cn', nm', Gk', ck', ks', hT', hN', hK', hE'⟩ := hcut
  obtain ⟨e0, e1, e2, e3, e4, e5, e6, e7⟩ := has_oct' hT'.tst
  obtain ⟨r0, r1, r2, r3, r4, r5, r6, r7⟩ := has_oct' hT'.res
  have g0 := hT'.res.2.1 0 (by simp [res8])
  have g1 := hT'.res.2.1 1 (by simp [res8])
  have g2 := hT'.res.2.1 2 (by simp [res8])
  have g3 := hT'.res.2.1 3 (by simp [res8])
  have g4 := hT'.res.2.1 4 (by simp [res8])
  have g5 := hT'.res.2.1 5 (by simp [res8])
  have g6 := hT'.res.2.1 6 (by simp [res8])
  have g7 := hT'.res.2.1 7 (by simp [res8])
  have HT' := Lib.hid hT'; have HN' := Lib.hid hN'; have HK' := Lib.hid hK'; have HE' := Lib.hid hE'
  clear hT' hN' hK' hE'
  go_wp2_with fail
  refine leaf_end ?_ ?_ HT'.out hS2 HN'.out HK'.out ?_
  ·rfl
  ·rfl
  ·exact HE'.out
 case' first =>
  go_upto_region 33 with fail
  refine wp_at (R := fun W => TB w W S _ _) (HTS.out _) (fun W hW => ?_)
  have hS2 : w.heap.size ≤ S := by rw [HSE.out]; exact Nat.le_refl _
  have i1 : (0 : Int) ≤ 1 + pb := by omega
  have i2 : 1 + (pb : Int) ≤ 2 := by omega
  have i3 : IntKind.i64.wrap (1 + (pb : Int)) = 1 + (pb : Int) := IntWalk.i64_in _ (by omega)
  have i5 : (1 + (pb : Int)).toNat = 1 + pb := by omega
  have hpb1 : pb < 2 := by omega
  have j1 : (0 : Int) ≤ pa := by omega
  have j2 : (pa : Int) < 3 := by omega
  have HG9 : Hid (∀ (wx : World) (N : Nat), Has wx N (strs nm9) → wx.cell? ⟨N, pa, none⟩ = some (.string ⟨(nm9.getD pa []).toArray⟩)) := fun wx N h => h.1 pa _ (strs_at nm9 pa (by show pa < 3; omega))
  obtain ⟨NA, hNA⟩ : ∃ NA, NA = nm9.getD pa [] := ⟨_, rfl⟩
  rw [← hNA] at HG9 HLF
  have hT := hW
  clear hW ha3 hb2 hNA
  refine wp_region_noPanic ?_
  refine wp_region_held_drew (S := fun wx => Has wx S [.int .i64 xk, .int .i64 xa, .int .i64 xb, .string ⟨xs.toArray⟩, .string ⟨xt.toArray⟩, v]) (by kernel_rfl) (hT.stick.down (Below.drew (Below.refl _ _))) (fun hHeld => ?_)
  refine heldTo (fun X => TB w X S [.int .i64 xk, .int .i64 xa, .int .i64 xb, .string ⟨xs.toArray⟩, .string ⟨xt.toArray⟩, v] [.int .i64 9, .int .i64 0, .int .i64 0, .slice none 0 0, .slice none 0 0, .bool false, .int .i64 0, .slice none 0 0]) (fun wx => Has wx S [.int .i64 xk, .int .i64 xa, .int .i64 xb, .string ⟨xs.toArray⟩, .string ⟨xt.toArray⟩, v]) (hT.down (Below.drew (Below.refl _ _))) (fun X h => h.stick) (fun _ h => h) (fun V0 hT hHeld => ?_)
  refine tkP 1 (gB rfl) ?_
  refine tkH 2 (v := ?_) (gB rfl) ?_ ?_
  rotate_left 1
  ·intro w' hSw; obtain ⟨c0, c1, c2, c3, c4, c5⟩ := has_six hSw; (go_simp) <;> with_reducible rfl
  refine tkP 6 (gB rfl) ?_
  refine tkH 7 (v := ?_) (gB rfl) ?_ ?_
  rotate_left 1
  ·intro w' hSw; obtain ⟨c0, c1, c2, c3, c4, c5⟩ := has_six hSw; (go_simp) <;> with_reducible rfl
  refine tkP 10 (gB rfl) ?_
  refine tkH 11 (v := ?_) (gB rfl) ?_ ?_
  rotate_left 1
  ·intro w' hSw; obtain ⟨c0, c1, c2, c3, c4, c5⟩ := has_six hSw; (go_simp) <;> with_reducible rfl
  refine rdH [0, 3] ?_
  refine aC (gB rfl) (fun K hK => ?_) ?_
  ·go_simp
   refine hK.out _ _ ?_ (fun hHeld => ?_)
   ·exact hHeld.down (ba (Below.refl _ _) _)
   clear hK K
   try simp only [aP]
   refine heldTo (fun V1 => TB w V1 S [.int .i64 xk, .int .i64 xa, .int .i64 xb, .string ⟨xs.toArray⟩, .string ⟨xt.toArray⟩, v] [.int .i64 9, .int .i64 0, .int .i64 0, .slice none 0 0, .slice none 0 0, .bool false, .int .i64 0, .slice none 0 0] ∧ Has V1 V0.heap.size (strs nm9)) (fun wx => Has wx S [.int .i64 xk, .int .i64 xa, .int .i64 xb, .string ⟨xs.toArray⟩, .string ⟨xt.toArray⟩, v] ∧ Has wx V0.heap.size (strs nm9)) ⟨hT.down (ba (Below.refl _ _) _), Has.alloc V0 (strs nm9) _⟩ (fun V1 h => ⟨h.1.stick, h.2⟩) (fun _ h => h.1) (fun V1 hR hHeld => ?_)
   have hN0 : S + 1 + 1 < V0.heap.size := hT.tst.2.2
   obtain ⟨hT, hTb⟩ := hR
   generalize V0.heap.size = N at hN0 hTb hHeld ⊢
   refine rdH [3] ?_
   refine aC (gB rfl) (fun K hK => ?_) ?_
   ·go_simp
    go_at_call 43
    refine (HPA.out _).mono ?_
    rintro e w' ⟨rfl, rfl⟩
    try (go_wp2_with fail)
    refine hK.out _ _ ?_ (fun hHeld => ?_)
    ·exact hHeld
    clear hK K
    try simp only [aP]
    refine tkP 4 (gB rfl) ?_
    refine tkH 5 (v := ?_) (gB rfl) ?_ ?_
    rotate_left 1
    ·intro w' hSw; obtain ⟨hSw, hTw⟩ := hSw; have g := HG9.out _ _ hTw; (go_simp) <;> with_reducible rfl
    refine rdH [8] ?_
    refine aC (gB rfl) (fun K hK => ?_) ?_
    ·go_simp
     go_at_call 71
     refine (HWD.out _).mono ?_
     rintro e w4 ⟨rfl, hb4⟩
     try (go_wp2_with fail)
     refine hK.out _ _ ?_ (fun hHeld => ?_)
     ·exact ⟨hHeld.1.down hb4, hHeld.2.down hb4⟩
     clear hK K
     try simp only [aP]
     refine heldTo (fun V2 => TB w V2 S [.int .i64 xk, .int .i64 xa, .int .i64 xb, .string ⟨xs.toArray⟩, .string ⟨xt.toArray⟩, v] [.int .i64 9, .int .i64 0, .int .i64 0, .slice none 0 0, .slice none 0 0, .bool false, .int .i64 0, .slice none 0 0] ∧ Has V2 N (strs nm9)) (fun wx => Has wx S [.int .i64 xk, .int .i64 xa, .int .i64 xb, .string ⟨xs.toArray⟩, .string ⟨xt.toArray⟩, v] ∧ Has wx N (strs nm9)) ⟨hT.down hb4, hTb.down hb4⟩ (fun V2 h => ⟨h.1.stick, h.2⟩) (fun _ h => h) (fun V2 hR hHeld => ?_)
     obtain ⟨hT, hTb⟩ := hR
     clear hb4
     refine rdH [9, 12] ?_
     refine aC (gB rfl) (fun K hK => ?_) ?_
     ·go_simp
      refine hK.out _ _ ?_ (fun hHeld => ?_)
      ·exact ⟨hHeld.1.down (ba (Below.refl _ _) _), hHeld.2.down (ba (Below.refl _ _) _)⟩
      clear hK K
      try simp only [aP]
      refine heldTo (fun V3 => TB w V3 S [.int .i64 xk, .int .i64 xa, .int .i64 xb, .string ⟨xs.toArray⟩, .string ⟨xt.toArray⟩, v] [.int .i64 9, .int .i64 0, .int .i64 0, .slice none 0 0, .slice none 0 0, .bool false, .int .i64 0, .slice none 0 0] ∧ Has V3 V2.heap.size [.string ⟨NA.toArray⟩, .string ⟨wl.toArray⟩] ∧ Has V3 N (strs nm9)) (fun wx => Has wx S [.int .i64 xk, .int .i64 xa, .int .i64 xb, .string ⟨xs.toArray⟩, .string ⟨xt.toArray⟩, v] ∧ Has wx N (strs nm9)) ⟨hT.down (ba (Below.refl _ _) _), Has.alloc V2 [.string ⟨NA.toArray⟩, .string ⟨wl.toArray⟩] _, hTb.down (ba (Below.refl _ _) _)⟩ (fun V3 h => ⟨h.1.stick, h.2.2⟩) (fun _ h => h) (fun V3 hR hHeld => ?_)
      have hB0 : S + 1 + 1 < V2.heap.size := hT.tst.2.2
      obtain ⟨hT, hNm, hTb⟩ := hR
      generalize V2.heap.size = B at hB0 hNm ⊢
      refine rdH [12] ?_
      refine aC (gB rfl) (fun K hK => ?_) ?_
      ·go_simp
       go_at_call 43
       refine (HPB.out _).mono ?_
       rintro e w' ⟨rfl, rfl⟩
       try (go_wp2_with fail)
       refine hK.out _ _ ?_ (fun hHeld => ?_)
       ·exact hHeld
       clear hK K
       try simp only [aP]
       refine tkP 13 (gB rfl) ?_
       refine tkP 14 (gB rfl) ?_
       refine tkP 15 (gB rfl) ?_
       refine rdH [16] ?_
       refine aC (gB rfl) (fun K hK => ?_) ?_
       ·have e3 := hT.tst.1 3 _ rfl
        have f3 := hT.tst.2.1 3 (by simp)
        go_simp
        refine hK.out _ _ ?_ (fun hHeld => ?_)
        ·exact ⟨hHeld.1.else' (by omega) _, hHeld.2.else' (by omega) _⟩
        clear hK K
        try simp only [aP]
        refine wpAnyH_done (by kernel_rfl) ?_ _
        refine NoPanic.normal ?_
        go_wp2_with fail
        go_meet
        case rel => exact exists_end hT hB0 hNm hS2 hpb1 HLF.out
       exact .nil
      exact .nil
     refine aC (gB rfl) (fun K hK => ?_) ?_
     ·go_simp
      go_at_call 43
      refine (HPB.out _).mono ?_
      rintro e w' ⟨rfl, rfl⟩
      try (go_wp2_with fail)
      refine hK.out _ _ ?_ (fun hHeld => ?_)
      ·exact hHeld
      clear hK K
      try simp only [aP]
      refine tkP 13 (gB rfl) ?_
      refine rdH [9] ?_
      refine aC (gB rfl) (fun K hK => ?_) ?_
      ·go_simp
       refine hK.out _ _ ?_ (fun hHeld => ?_)
       ·exact ⟨hHeld.1.down (ba (Below.refl _ _) _), hHeld.2.down (ba (Below.refl _ _) _)⟩
       clear hK K
       try simp only [aP]
       refine heldTo (fun V3 => TB w V3 S [.int .i64 xk, .int .i64 xa, .int .i64 xb, .string ⟨xs.toArray⟩, .string ⟨xt.toArray⟩, v] [.int .i64 9, .int .i64 0, .int .i64 0, .slice none 0 0, .slice none 0 0, .bool false, .int .i64 0, .slice none 0 0] ∧ Has V3 V2.heap.size [.string ⟨NA.toArray⟩, .string ⟨wl.toArray⟩] ∧ Has V3 N (strs nm9)) (fun wx => Has wx S [.int .i64 xk, .int .i64 xa, .int .i64 xb, .string ⟨xs.toArray⟩, .string ⟨xt.toArray⟩, v] ∧ Has wx N (strs nm9)) ⟨hT.down (ba (Below.refl _ _) _), Has.alloc V2 [.string ⟨NA.toArray⟩, .string ⟨wl.toArray⟩] _, hTb.down (ba (Below.refl _ _) _)⟩ (fun V3 h => ⟨h.1.stick, h.2.2⟩) (fun _ h => h) (fun V3 hR hHeld => ?_)
       have hB0 : S + 1 + 1 < V2.heap.size := hT.tst.2.2
       obtain ⟨hT, hNm, hTb⟩ := hR
       generalize V2.heap.size = B at hB0 hNm ⊢
       refine tkP 14 (gB rfl) ?_
       refine tkP 15 (gB rfl) ?_
       refine rdH [16] ?_
       refine aC (gB rfl) (fun K hK => ?_) ?_
       ·have e3 := hT.tst.1 3 _ rfl
        have f3 := hT.tst.2.1 3 (by simp)
        go_simp
        refine hK.out _ _ ?_ (fun hHeld => ?_)
        ·exact ⟨hHeld.1.else' (by omega) _, hHeld.2.else' (by omega) _⟩
        clear hK K
        try simp only [aP]
        refine wpAnyH_done (by kernel_rfl) ?_ _
        refine NoPanic.normal ?_
        go_wp2_with fail
        go_meet
        case rel => exact exists_end hT hB0 hNm hS2 hpb1 HLF.out
       exact .nil
      exact .nil
     exact .nil
    exact .nil
   exact .nil
  refine aC (gB rfl) (fun K hK => ?_) ?_
  ·go_simp
   go_at_call 43
   refine (HPA.out _).mono ?_
   rintro e w' ⟨rfl, rfl⟩
   try (go_wp2_with fail)
   refine hK.out _ _ ?_ (fun hHeld => ?_)
   ·exact hHeld
   clear hK K
   try simp only [aP]
   refine rdH [0, 8] ?_
   refine aC (gB rfl) (fun K hK => ?_) ?_
   ·go_simp
    refine hK.out _ _ ?_ (fun hHeld => ?_)
    ·exact hHeld.down (ba (Below.refl _ _) _)
    clear hK K
    try simp only [aP]
    refine heldTo (fun V1 => TB w V1 S [.int .i64 xk, .int .i64 xa, .int .i64 xb, .string ⟨xs.toArray⟩, .string ⟨xt.toArray⟩, v] [.int .i64 9, .int .i64 0, .int .i64 0, .slice none 0 0, .slice none 0 0, .bool false, .int .i64 0, .slice none 0 0] ∧ Has V1 V0.heap.size (strs nm9)) (fun wx => Has wx S [.int .i64 xk, .int .i64 xa, .int .i64 xb, .string ⟨xs.toArray⟩, .string ⟨xt.toArray⟩, v] ∧ Has wx V0.heap.size (strs nm9)) ⟨hT.down (ba (Below.refl _ _) _), Has.alloc V0 (strs nm9) _⟩ (fun V1 h => ⟨h.1.stick, h.2⟩) (fun _ h => h.1) (fun V1 hR hHeld => ?_)
    have hN0 : S + 1 + 1 < V0.heap.size := hT.tst.2.2
    obtain ⟨hT, hTb⟩ := hR
    generalize V0.heap.size = N at hN0 hTb hHeld ⊢
    refine tkP 4 (gB rfl) ?_
    refine tkH 5 (v := ?_) (gB rfl) ?_ ?_
    rotate_left 1
    ·intro w' hSw; obtain ⟨hSw, hTw⟩ := hSw; have g := HG9.out _ _ hTw; (go_simp) <;> with_reducible rfl
    refine rdH [8] ?_
    refine aC (gB rfl) (fun K hK => ?_) ?_
    ·go_simp
     go_at_call 71
     refine (HWD.out _).mono ?_
     rintro e w4 ⟨rfl, hb4⟩
     try (go_wp2_with fail)
     refine hK.out _ _ ?_ (fun hHeld => ?_)
     ·exact ⟨hHeld.1.down hb4, hHeld.2.down hb4⟩
     clear hK K
     try simp only [aP]
     refine heldTo (fun V2 => TB w V2 S [.int .i64 xk, .int .i64 xa, .int .i64 xb, .string ⟨xs.toArray⟩, .string ⟨xt.toArray⟩, v] [.int .i64 9, .int .i64 0, .int .i64 0, .slice none 0 0, .slice none 0 0, .bool false, .int .i64 0, .slice none 0 0] ∧ Has V2 N (strs nm9)) (fun wx => Has wx S [.int .i64 xk, .int .i64 xa, .int .i64 xb, .string ⟨xs.toArray⟩, .string ⟨xt.toArray⟩, v] ∧ Has wx N (strs nm9)) ⟨hT.down hb4, hTb.down hb4⟩ (fun V2 h => ⟨h.1.stick, h.2⟩) (fun _ h => h) (fun V2 hR hHeld => ?_)
     obtain ⟨hT, hTb⟩ := hR
     clear hb4
     refine rdH [9, 12] ?_
     refine aC (gB rfl) (fun K hK => ?_) ?_
     ·go_simp
      refine hK.out _ _ ?_ (fun hHeld => ?_)
      ·exact ⟨hHeld.1.down (ba (Below.refl _ _) _), hHeld.2.down (ba (Below.refl _ _) _)⟩
      clear hK K
      try simp only [aP]
      refine heldTo (fun V3 => TB w V3 S [.int .i64 xk, .int .i64 xa, .int .i64 xb, .string ⟨xs.toArray⟩, .string ⟨xt.toArray⟩, v] [.int .i64 9, .int .i64 0, .int .i64 0, .slice none 0 0, .slice none 0 0, .bool false, .int .i64 0, .slice none 0 0] ∧ Has V3 V2.heap.size [.string ⟨NA.toArray⟩, .string ⟨wl.toArray⟩] ∧ Has V3 N (strs nm9)) (fun wx => Has wx S [.int .i64 xk, .int .i64 xa, .int .i64 xb, .string ⟨xs.toArray⟩, .string ⟨xt.toArray⟩, v] ∧ Has wx N (strs nm9)) ⟨hT.down (ba (Below.refl _ _) _), Has.alloc V2 [.string ⟨NA.toArray⟩, .string ⟨wl.toArray⟩] _, hTb.down (ba (Below.refl _ _) _)⟩ (fun V3 h => ⟨h.1.stick, h.2.2⟩) (fun _ h => h) (fun V3 hR hHeld => ?_)
      have hB0 : S + 1 + 1 < V2.heap.size := hT.tst.2.2
      obtain ⟨hT, hNm, hTb⟩ := hR
      generalize V2.heap.size = B at hB0 hNm ⊢
      refine rdH [12] ?_
      refine aC (gB rfl) (fun K hK => ?_) ?_
      ·go_simp
       go_at_call 43
       refine (HPB.out _).mono ?_
       rintro e w' ⟨rfl, rfl⟩
       try (go_wp2_with fail)
       refine hK.out _ _ ?_ (fun hHeld => ?_)
       ·exact hHeld
       clear hK K
       try simp only [aP]
       refine tkP 13 (gB rfl) ?_
       refine tkP 14 (gB rfl) ?_
       refine tkP 15 (gB rfl) ?_
       refine rdH [16] ?_
       refine aC (gB rfl) (fun K hK => ?_) ?_
       ·have e3 := hT.tst.1 3 _ rfl
        have f3 := hT.tst.2.1 3 (by simp)
        go_simp
        refine hK.out _ _ ?_ (fun hHeld => ?_)
        ·exact ⟨hHeld.1.else' (by omega) _, hHeld.2.else' (by omega) _⟩
        clear hK K
        try simp only [aP]
        refine wpAnyH_done (by kernel_rfl) ?_ _
        refine NoPanic.normal ?_
        go_wp2_with fail
        go_meet
        case rel => exact exists_end hT hB0 hNm hS2 hpb1 HLF.out
       exact .nil
      exact .nil
     refine aC (gB rfl) (fun K hK => ?_) ?_
     ·go_simp
      go_at_call 43
      refine (HPB.out _).mono ?_
      rintro e w' ⟨rfl, rfl⟩
      try (go_wp2_with fail)
      refine hK.out _ _ ?_ (fun hHeld => ?_)
      ·exact hHeld
      clear hK K
      try simp only [aP]
      refine tkP 13 (gB rfl) ?_
      refine rdH [9] ?_
      refine aC (gB rfl) (fun K hK => ?_) ?_
      ·go_simp
       refine hK.out _ _ ?_ (fun hHeld => ?_)
       ·exact ⟨hHeld.1.down (ba (Below.refl _ _) _), hHeld.2.down (ba (Below.refl _ _) _)⟩
       clear hK K
       try simp only [aP]
       refine heldTo (fun V3 => TB w V3 S [.int .i64 xk, .int .i64 xa, .int .i64 xb, .string ⟨xs.toArray⟩, .string ⟨xt.toArray⟩, v] [.int .i64 9, .int .i64 0, .int .i64 0, .slice none 0 0, .slice none 0 0, .bool false, .int .i64 0, .slice none 0 0] ∧ Has V3 V2.heap.size [.string ⟨NA.toArray⟩, .string ⟨wl.toArray⟩] ∧ Has V3 N (strs nm9)) (fun wx => Has wx S [.int .i64 xk, .int .i64 xa, .int .i64 xb, .string ⟨xs.toArray⟩, .string ⟨xt.toArray⟩, v] ∧ Has wx N (strs nm9)) ⟨hT.down (ba (Below.refl _ _) _), Has.alloc V2 [.string ⟨NA.toArray⟩, .string ⟨wl.toArray⟩] _, hTb.down (ba (Below.refl _ _) _)⟩ (fun V3 h => ⟨h.1.stick, h.2.2⟩) (fun _ h => h) (fun V3 hR hHeld => ?_)
       have hB0 : S + 1 + 1 < V2.heap.size := hT.tst.2.2
       obtain ⟨hT, hNm, hTb⟩ := hR
       generalize V2.heap.size = B at hB0 hNm ⊢
       refine tkP 14 (gB rfl) ?_
       refine tkP 15 (gB rfl) ?_
       refine rdH [16] ?_
       refine aC (gB rfl) (fun K hK => ?_) ?_
       ·have e3 := hT.tst.1 3 _ rfl
        have f3 := hT.tst.2.1 3 (by simp)
        go_simp
        refine hK.out _ _ ?_ (fun hHeld => ?_)
        ·exact ⟨hHeld.1.else' (by omega) _, hHeld.2.else' (by omega) _⟩
        clear hK K
        try simp only [aP]
        refine wpAnyH_done (by kernel_rfl) ?_ _
        refine NoPanic.normal ?_
        go_wp2_with fail
        go_meet
        case rel => exact exists_end hT hB0 hNm hS2 hpb1 HLF.out
       exact .nil
      exact .nil
     exact .nil
    exact .nil
   refine aC (gB rfl) (fun K hK => ?_) ?_
   ·go_simp
    go_at_call 71
    refine (HWD.out _).mono ?_
    rintro e w4 ⟨rfl, hb4⟩
    try (go_wp2_with fail)
    refine hK.out _ _ ?_ (fun hHeld => ?_)
    ·exact hHeld.down hb4
    clear hK K
    try simp only [aP]
    refine heldTo (fun V1 => TB w V1 S [.int .i64 xk, .int .i64 xa, .int .i64 xb, .string ⟨xs.toArray⟩, .string ⟨xt.toArray⟩, v] [.int .i64 9, .int .i64 0, .int .i64 0, .slice none 0 0, .slice none 0 0, .bool false, .int .i64 0, .slice none 0 0]) (fun wx => Has wx S [.int .i64 xk, .int .i64 xa, .int .i64 xb, .string ⟨xs.toArray⟩, .string ⟨xt.toArray⟩, v]) (hT.down hb4) (fun V1 h => h.stick) (fun _ h => h) (fun V1 hR hHeld => ?_)
    have hT := hR
    clear hb4
    refine rdH [0, 12] ?_
    refine aC (gB rfl) (fun K hK => ?_) ?_
    ·go_simp
     refine hK.out _ _ ?_ (fun hHeld => ?_)
     ·exact hHeld.down (ba (Below.refl _ _) _)
     clear hK K
     try simp only [aP]
     refine heldTo (fun V2 => TB w V2 S [.int .i64 xk, .int .i64 xa, .int .i64 xb, .string ⟨xs.toArray⟩, .string ⟨xt.toArray⟩, v] [.int .i64 9, .int .i64 0, .int .i64 0, .slice none 0 0, .slice none 0 0, .bool false, .int .i64 0, .slice none 0 0] ∧ Has V2 V1.heap.size (strs nm9)) (fun wx => Has wx S [.int .i64 xk, .int .i64 xa, .int .i64 xb, .string ⟨xs.toArray⟩, .string ⟨xt.toArray⟩, v] ∧ Has wx V1.heap.size (strs nm9)) ⟨hT.down (ba (Below.refl _ _) _), Has.alloc V1 (strs nm9) _⟩ (fun V2 h => ⟨h.1.stick, h.2⟩) (fun _ h => h.1) (fun V2 hR hHeld => ?_)
     have hN0 : S + 1 + 1 < V1.heap.size := hT.tst.2.2
     obtain ⟨hT, hTb⟩ := hR
     generalize V1.heap.size = N at hN0 hTb hHeld ⊢
     refine tkP 4 (gB rfl) ?_
     refine tkH 5 (v := ?_) (gB rfl) ?_ ?_
     rotate_left 1
     ·intro w' hSw; obtain ⟨hSw, hTw⟩ := hSw; have g := HG9.out _ _ hTw; (go_simp) <;> with_reducible rfl
     refine rdH [9, 12] ?_
     refine aC (gB rfl) (fun K hK => ?_) ?_
     ·go_simp
      refine hK.out _ _ ?_ (fun hHeld => ?_)
      ·exact ⟨hHeld.1.down (ba (Below.refl _ _) _), hHeld.2.down (ba (Below.refl _ _) _)⟩
      clear hK K
      try simp only [aP]
      refine heldTo (fun V3 => TB w V3 S [.int .i64 xk, .int .i64 xa, .int .i64 xb, .string ⟨xs.toArray⟩, .string ⟨xt.toArray⟩, v] [.int .i64 9, .int .i64 0, .int .i64 0, .slice none 0 0, .slice none 0 0, .bool false, .int .i64 0, .slice none 0 0] ∧ Has V3 V2.heap.size [.string ⟨NA.toArray⟩, .string ⟨wl.toArray⟩] ∧ Has V3 N (strs nm9)) (fun wx => Has wx S [.int .i64 xk, .int .i64 xa, .int .i64 xb, .string ⟨xs.toArray⟩, .string ⟨xt.toArray⟩, v] ∧ Has wx N (strs nm9)) ⟨hT.down (ba (Below.refl _ _) _), Has.alloc V2 [.string ⟨NA.toArray⟩, .string ⟨wl.toArray⟩] _, hTb.down (ba (Below.refl _ _) _)⟩ (fun V3 h => ⟨h.1.stick, h.2.2⟩) (fun _ h => h) (fun V3 hR hHeld => ?_)
      have hB0 : S + 1 + 1 < V2.heap.size := hT.tst.2.2
      obtain ⟨hT, hNm, hTb⟩ := hR
      generalize V2.heap.size = B at hB0 hNm ⊢
      refine rdH [12] ?_
      refine aC (gB rfl) (fun K hK => ?_) ?_
      ·go_simp
       go_at_call 43
       refine (HPB.out _).mono ?_
       rintro e w' ⟨rfl, rfl⟩
       try (go_wp2_with fail)
       refine hK.out _ _ ?_ (fun hHeld => ?_)
       ·exact hHeld
       clear hK K
       try simp only [aP]
       refine tkP 13 (gB rfl) ?_
       refine tkP 14 (gB rfl) ?_
       refine tkP 15 (gB rfl) ?_
       refine rdH [16] ?_
       refine aC (gB rfl) (fun K hK => ?_) ?_
       ·have e3 := hT.tst.1 3 _ rfl
        have f3 := hT.tst.2.1 3 (by simp)
        go_simp
        refine hK.out _ _ ?_ (fun hHeld => ?_)
        ·exact ⟨hHeld.1.else' (by omega) _, hHeld.2.else' (by omega) _⟩
        clear hK K
        try simp only [aP]
        refine wpAnyH_done (by kernel_rfl) ?_ _
        refine NoPanic.normal ?_
        go_wp2_with fail
        go_meet
        case rel => exact exists_end hT hB0 hNm hS2 hpb1 HLF.out
       exact .nil
      exact .nil
     refine aC (gB rfl) (fun K hK => ?_) ?_
     ·go_simp
      go_at_call 43
      refine (HPB.out _).mono ?_
      rintro e w' ⟨rfl, rfl⟩
      try (go_wp2_with fail)
      refine hK.out _ _ ?_ (fun hHeld => ?_)
      ·exact hHeld
      clear hK K
      try simp only [aP]
      refine tkP 13 (gB rfl) ?_
      refine rdH [9] ?_
      refine aC (gB rfl) (fun K hK => ?_) ?_
      ·go_simp
       refine hK.out _ _ ?_ (fun hHeld => ?_)
       ·exact ⟨hHeld.1.down (ba (Below.refl _ _) _), hHeld.2.down (ba (Below.refl _ _) _)⟩
       clear hK K
       try simp only [aP]
       refine heldTo (fun V3 => TB w V3 S [.int .i64 xk, .int .i64 xa, .int .i64 xb, .string ⟨xs.toArray⟩, .string ⟨xt.toArray⟩, v] [.int .i64 9, .int .i64 0, .int .i64 0, .slice none 0 0, .slice none 0 0, .bool false, .int .i64 0, .slice none 0 0] ∧ Has V3 V2.heap.size [.string ⟨NA.toArray⟩, .string ⟨wl.toArray⟩] ∧ Has V3 N (strs nm9)) (fun wx => Has wx S [.int .i64 xk, .int .i64 xa, .int .i64 xb, .string ⟨xs.toArray⟩, .string ⟨xt.toArray⟩, v] ∧ Has wx N (strs nm9)) ⟨hT.down (ba (Below.refl _ _) _), Has.alloc V2 [.string ⟨NA.toArray⟩, .string ⟨wl.toArray⟩] _, hTb.down (ba (Below.refl _ _) _)⟩ (fun V3 h => ⟨h.1.stick, h.2.2⟩) (fun _ h => h) (fun V3 hR hHeld => ?_)
       have hB0 : S + 1 + 1 < V2.heap.size := hT.tst.2.2
       obtain ⟨hT, hNm, hTb⟩ := hR
       generalize V2.heap.size = B at hB0 hNm ⊢
       refine tkP 14 (gB rfl) ?_
       refine tkP 15 (gB rfl) ?_
       refine rdH [16] ?_
       refine aC (gB rfl) (fun K hK => ?_) ?_
       ·have e3 := hT.tst.1 3 _ rfl
        have f3 := hT.tst.2.1 3 (by simp)
        go_simp
        refine hK.out _ _ ?_ (fun hHeld => ?_)
        ·exact ⟨hHeld.1.else' (by omega) _, hHeld.2.else' (by omega) _⟩
        clear hK K
        try simp only [aP]
        refine wpAnyH_done (by kernel_rfl) ?_ _
        refine NoPanic.normal ?_
        go_wp2_with fail
        go_meet
        case rel => exact exists_end hT hB0 hNm hS2 hpb1 HLF.out
       exact .nil
      exact .nil
     exact .nil
    refine aC (gB rfl) (fun K hK => ?_) ?_
    ·go_simp
     go_at_call 43
     refine (HPB.out _).mono ?_
     rintro e w' ⟨rfl, rfl⟩
     try (go_wp2_with fail)
     refine hK.out _ _ ?_ (fun hHeld => ?_)
     ·exact hHeld
     clear hK K
     try simp only [aP]
     refine tkP 13 (gB rfl) ?_
     refine rdH [0] ?_
     refine aC (gB rfl) (fun K hK => ?_) ?_
     ·go_simp
      refine hK.out _ _ ?_ (fun hHeld => ?_)
      ·exact hHeld.down (ba (Below.refl _ _) _)
      clear hK K
      try simp only [aP]
      refine heldTo (fun V2 => TB w V2 S [.int .i64 xk, .int .i64 xa, .int .i64 xb, .string ⟨xs.toArray⟩, .string ⟨xt.toArray⟩, v] [.int .i64 9, .int .i64 0, .int .i64 0, .slice none 0 0, .slice none 0 0, .bool false, .int .i64 0, .slice none 0 0] ∧ Has V2 V1.heap.size (strs nm9)) (fun wx => Has wx S [.int .i64 xk, .int .i64 xa, .int .i64 xb, .string ⟨xs.toArray⟩, .string ⟨xt.toArray⟩, v] ∧ Has wx V1.heap.size (strs nm9)) ⟨hT.down (ba (Below.refl _ _) _), Has.alloc V1 (strs nm9) _⟩ (fun V2 h => ⟨h.1.stick, h.2⟩) (fun _ h => h.1) (fun V2 hR hHeld => ?_)
      have hN0 : S + 1 + 1 < V1.heap.size := hT.tst.2.2
      obtain ⟨hT, hTb⟩ := hR
      generalize V1.heap.size = N at hN0 hTb hHeld ⊢
      refine tkP 4 (gB rfl) ?_
      refine tkH 5 (v := ?_) (gB rfl) ?_ ?_
      rotate_left 1
      ·intro w' hSw; obtain ⟨hSw, hTw⟩ := hSw; have g := HG9.out _ _ hTw; (go_simp) <;> with_reducible rfl
      refine rdH [9] ?_
      refine aC (gB rfl) (fun K hK => ?_) ?_
      ·go_simp
       refine hK.out _ _ ?_ (fun hHeld => ?_)
       ·exact ⟨hHeld.1.down (ba (Below.refl _ _) _), hHeld.2.down (ba (Below.refl _ _) _)⟩
       clear hK K
       try simp only [aP]
       refine heldTo (fun V3 => TB w V3 S [.int .i64 xk, .int .i64 xa, .int .i64 xb, .string ⟨xs.toArray⟩, .string ⟨xt.toArray⟩, v] [.int .i64 9, .int .i64 0, .int .i64 0, .slice none 0 0, .slice none 0 0, .bool false, .int .i64 0, .slice none 0 0] ∧ Has V3 V2.heap.size [.string ⟨NA.toArray⟩, .string ⟨wl.toArray⟩] ∧ Has V3 N (strs nm9)) (fun wx => Has wx S [.int .i64 xk, .int .i64 xa, .int .i64 xb, .string ⟨xs.toArray⟩, .string ⟨xt.toArray⟩, v] ∧ Has wx N (strs nm9)) ⟨hT.down (ba (Below.refl _ _) _), Has.alloc V2 [.string ⟨NA.toArray⟩, .string ⟨wl.toArray⟩] _, hTb.down (ba (Below.refl _ _) _)⟩ (fun V3 h => ⟨h.1.stick, h.2.2⟩) (fun _ h => h) (fun V3 hR hHeld => ?_)
       have hB0 : S + 1 + 1 < V2.heap.size := hT.tst.2.2
       obtain ⟨hT, hNm, hTb⟩ := hR
       generalize V2.heap.size = B at hB0 hNm ⊢
       refine tkP 14 (gB rfl) ?_
       refine tkP 15 (gB rfl) ?_
       refine rdH [16] ?_
       refine aC (gB rfl) (fun K hK => ?_) ?_
       ·have e3 := hT.tst.1 3 _ rfl
        have f3 := hT.tst.2.1 3 (by simp)
        go_simp
        refine hK.out _ _ ?_ (fun hHeld => ?_)
        ·exact ⟨hHeld.1.else' (by omega) _, hHeld.2.else' (by omega) _⟩
        clear hK K
        try simp only [aP]
        refine wpAnyH_done (by kernel_rfl) ?_ _
        refine NoPanic.normal ?_
        go_wp2_with fail
        go_meet
        case rel => exact exists_end hT hB0 hNm hS2 hpb1 HLF.out
       exact .nil
      exact .nil
     exact .nil
    exact .nil
   exact .nil
  exact .nil
end Go.Proofs.YtjfclekmhfgkmaaGreatDoor.Sc
