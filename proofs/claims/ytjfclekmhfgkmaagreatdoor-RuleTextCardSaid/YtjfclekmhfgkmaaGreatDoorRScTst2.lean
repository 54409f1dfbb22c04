/- On the way. -/
import Derived.Test.YtjfclekmhfgkmaaGreatDoorRScTstH
import Derived.Deep.DeepCutAuto
import Derived.Deep.CutBlock
set_option linter.unusedVariables false
set_option linter.unusedSimpArgs false
set_option maxHeartbeats 8000000
set_option maxRecDepth 20000
namespace Go.Proofs.YtjfclekmhfgkmaaGreatDoor.Sc
open Go.RowKit
open Tk (Tok)
theorem sat_one {w : World} {F : Dom} {v : Value} {x : Str} (h : SAt cStr w F v [x]) : ∃ G c, v = .slice G 1 c := by
 obtain ⟨G, c, h, -⟩ := h
 exact ⟨G, c, h⟩
theorem test_header (k : Int) (x : Stk) (v : Value) (d : Int) (w : World) (hb : Bd x) (hk : k = 6 ∨ k = 7 ∨ k = 8) (h : kindS x = k) (hd : 1 ≤ d ∧ d ≤ 3) :
    Calls Tryz.prog 44 #[.agg (stkC x v).toArray, .int .i64 d] w (TestPost (leafS k x) 4 w) := by
 have HPK : Hid (∀ w, Calls Tryz.prog 43 #[.int .i64 x.kind, .int .i64 10] w fun e w' => e = .returned (.int .i64 (pick x.kind 10)) ∧ w = w') := fun w => picked_any x.kind 10 w hb.k.1 hb.k.2 (by omega) (by omega)
 have hp := pick_lt_int x.kind 10 (by omega)
 unfold kindS at h
 obtain ⟨p, hpp⟩ : ∃ p, p = pick x.kind 10 := ⟨_, rfl⟩
 rw [← hpp] at HPK hp h
 have HB := Lib.hid hb
 have HPA : Hid (∀ (m : Int) w, 1 ≤ m → m ≤ 1000 → Calls Tryz.prog 43 #[.int .i64 x.a, .int .i64 m] w fun e w' => e = .returned (.int .i64 (pick x.a m)) ∧ w = w') := fun m w h1 h2 => picked_any x.a m w hb.a.1 hb.a.2 h1 (by omega)
 have HPB : Hid (∀ (m : Int) w, 1 ≤ m → m ≤ 1000 → Calls Tryz.prog 43 #[.int .i64 x.b, .int .i64 m] w fun e w' => e = .returned (.int .i64 (pick x.b m)) ∧ w = w') := fun m w h1 h2 => picked_any x.b m w hb.b.1 hb.b.2 h1 (by omega)
 have hS : w.heap.size ≤ w.heap.size := Nat.le_refl _
 have HTS := Lib.hid (fun (ts : List Value) => tb_start w (stkC x v) ts 72 38 38)
 obtain ⟨lf, hlf⟩ : ∃ lf, lf = leafS k x := ⟨_, rfl⟩
 rw [← hlf]
 have HLF := Lib.hid hlf
 have ha3 := pick_lt_int x.a 3 (by omega)
 obtain ⟨pa, hpa⟩ : ∃ pa, pa = pick x.a 3 := ⟨_, rfl⟩
 rw [← hpa] at ha3
 have HPAE := Lib.hid hpa
 obtain ⟨xk, xa, xb, xs, xt, xsub⟩ := x
 simp only [stkC] at *
 have key : (p = 5 ∧ k = 6) ∨ (p = 6 ∧ k = 7) ∨ (p = 7 ∧ k = 8) := by omega
 clear hpp hp hk h hb hlf hpa
 obtain ⟨hd1, hd3⟩ := hd
 obtain ⟨S, hSe⟩ : ∃ S, S = w.heap.size := ⟨_, rfl⟩
 rw [← hSe] at HTS
 have HSE := Lib.hid hSe.symm
 clear hSe hS
 rcases key with ⟨rfl, rfl⟩ | ⟨rfl, rfl⟩ | ⟨rfl, rfl⟩
 all_goals
  go_enter Tryz.func44, Tryz.ntmps44
  go_upto_region 2 with (go_at_call 43; refine (HPK.out _).mono ?_; rintro e w' ⟨rfl, rfl⟩)
  go_cut [23] (fun b wx => b = .bool false ∧ wx = (w.alloc (.cells #[.int .i64 xk, .int .i64 xa, .int .i64 xb, .string ⟨xs.toArray⟩, .string ⟨xt.toArray⟩, v] 72)).alloc (.cells #[.int .i64 0, .int .i64 0, .int .i64 0, .slice none 0 0, .slice none 0 0, .bool false, .int .i64 0, .slice none 0 0] 38))
  case first =>
   go_wp2_with fail
   all_goals
    go_meet
    case rel => exact ⟨rfl, rfl⟩
  case' rest =>
   obtain ⟨rfl, rfl⟩ := hcut
   go_upto_block 0 with fail
   rw [HSE.out]
   go_cut [] (fun wx => KeyNew w S [.int .i64 xk, .int .i64 xa, .int .i64 xb, .string ⟨xs.toArray⟩, .string ⟨xt.toArray⟩, v] lf wx)
  case rest =>
   have hS2 : w.heap.size ≤ S := by rw [HSE.out]; exact Nat.le_refl _
   obtain ⟨k', m', p', Gn', cn', nm', Gk', ck', ks', hT', hN', hK', hE'⟩ := hcut
   obtain ⟨e0, e1, e2, e3, e4, e5, e6, e7⟩ := has_oct' hT'.tst
   obtain ⟨r0, r1, r2, r3, r4, r5, r6, r7⟩ := has_oct' hT'.res
   have g0 := hT'.res.2.1 0 (by simp [res8])
   have g1 := hT'.res.2.1 1 (by simp [res8])
   have g2 := hT'.res.2.1 2 (by simp [res8])
   have g3 := hT'.res.2.1 3 (by simp [res8])
   have g4 := hT'.res.2.1 4 (by simp [res8])
   have g5 := hT'.res.2.1 5 (by simp [res8])
   have g6 := hT'.res.2.1 6 (by simp [res8])
   have g7 := hT'.res.2.1 7 (by simp [res8])
   have HT' := Lib.hid hT'; have HN' := Lib.hid hN'; have HK' := Lib.hid hK'; have HE' := Lib.hid hE'
   clear hT' hN' hK' hE'
   go_wp2_with fail
   refine leaf_end ?_ ?_ HT'.out hS2 HN'.out HK'.out ?_
   ·rfl
   ·rfl
   ·exact HE'.out
  case' first =>
   go_upto_region 23 with fail
 all_goals
  refine wp_at (R := fun W => TB w W S _ _) (HTS.out _) (fun W hW => ?_)
  obtain ⟨c0, c1, c2, c3, c4, c5⟩ := has_six hW.stick
  obtain ⟨e0, e1, e2, e3, e4, e5, e6, e7⟩ := has_oct' hW.tst
  have f1 := hW.tst.2.1 1 (by simp)
  have HW := Lib.hid hW
  clear hW
  go_upto_region 24 with (go_at_call 43; refine (HPA.out 3 _ (by omega) (by omega)).mono ?_; rintro e w' ⟨rfl, rfl⟩; rw [← HPAE.out])
 all_goals
  have hS2 : w.heap.size ≤ S := by rw [HSE.out]; exact Nat.le_refl _
  refine wp_at (R := fun W => TB w W S _ _) (HW.out.put (.int .i64 (1 + (pa : Int))) (by simp) hS2) (fun W hW => ?_)
  clear c0 c1 c2 c3 c4 c5 e0 e1 e2 e3 e4 e5 e6 e7 f1 HW
  have hb4 : pick xb 4 < 4 := by have := pick_lt_int xb 4 (by omega); omega
  obtain ⟨pb, hpb⟩ : ∃ pb, pb = pick xb 4 := ⟨_, rfl⟩
  rw [← hpb] at hb4
  have hal : Below W.heap.size W (W.alloc (.cells #[.string ⟨#[115, 117, 98, 106, 101, 99, 116]⟩, .string ⟨#[116, 111]⟩, .string ⟨#[102, 114, 111, 109]⟩, .string ⟨#[120]⟩] 9)) := ba (Below.refl _ _) _
  have gA : (W.alloc (.cells #[.string ⟨#[115, 117, 98, 106, 101, 99, 116]⟩, .string ⟨#[116, 111]⟩, .string ⟨#[102, 114, 111, 109]⟩, .string ⟨#[120]⟩] 9)).cell? ⟨W.heap.size, pb, none⟩ = some (.string ⟨(nm6.getD pb []).toArray⟩) := (Has.alloc W (strs nm6) 9).1 pb _ (strs_at nm6 pb hb4)
  obtain ⟨NA, hNA⟩ : ∃ NA, NA = nm6.getD pb [] := ⟨_, rfl⟩
  rw [← hNA] at gA
  obtain ⟨-, -, c2, -, -, -⟩ := has_six (hW.down hal).stick
  have hal2 : Below (W.alloc (.cells #[.string ⟨#[115, 117, 98, 106, 101, 99, 116]⟩, .string ⟨#[116, 111]⟩, .string ⟨#[102, 114, 111, 109]⟩, .string ⟨#[120]⟩] 9)).heap.size (W.alloc (.cells #[.string ⟨#[115, 117, 98, 106, 101, 99, 116]⟩, .string ⟨#[116, 111]⟩, .string ⟨#[102, 114, 111, 109]⟩, .string ⟨#[120]⟩] 9)) ((W.alloc (.cells #[.string ⟨#[115, 117, 98, 106, 101, 99, 116]⟩, .string ⟨#[116, 111]⟩, .string ⟨#[102, 114, 111, 109]⟩, .string ⟨#[120]⟩] 9)).alloc (.cells #[.string ⟨NA.toArray⟩] 9)) := ba (Below.refl _ _) _
  have hW2 := (hW.down hal).down hal2
  have hN := Has.alloc (W.alloc (.cells #[.string ⟨#[115, 117, 98, 106, 101, 99, 116]⟩, .string ⟨#[116, 111]⟩, .string ⟨#[102, 114, 111, 109]⟩, .string ⟨#[120]⟩] 9)) [.string ⟨NA.toArray⟩] 9
  rw [World.size_alloc] at hN
  have e3 := hW2.tst.1 3 _ rfl
  have f3 := hW2.tst.2.1 3 (by simp)
  have hWs : S + 1 + 1 < W.heap.size := hW.tst.2.2
  have i1 : (0 : Int) ≤ pb := by omega
  have i2 : (pb : Int) < 4 := by omega
  have HW := Lib.hid hW2; have HPBE := Lib.hid hpb; have HNA := Lib.hid hNA; have HN := Lib.hid hN
  clear hW hal hal2 hW2 hpb hNA hb4 hN
  go_upto_region 25 with (go_at_call 43; refine (HPB.out 4 _ (by omega) (by omega)).mono ?_; rintro e w' ⟨rfl, rfl⟩; rw [← HPBE.out])
 all_goals
  have hHN := (HN.out.else' (i := 3) (c := S + 1 + 1) (by omega) (.slice (some ⟨W.heap.size + 1, 0, none⟩) 1 1))
  refine wp_at (R := fun W' => TB w W' S _ _ ∧ SAt cStr W' (fun b => S + 1 + 1 < b) (.slice (some ⟨W.heap.size + 1, 0, none⟩) 1 1) [NA]) ⟨HW.out.put (.slice (some ⟨W.heap.size + 1, 0, none⟩) 1 1) (by simp) hS2, sat_str hHN (by show S + 1 + 1 < W.heap.size + 1; omega)⟩ (fun W2 hW => ?_)
  obtain ⟨vn, hvn⟩ : ∃ vn : Value, vn = .slice (some ⟨W.heap.size + 1, 0, none⟩) 1 1 := ⟨_, rfl⟩
  rw [← hvn] at hW
  clear gA c2 e3 f3 HW HN hHN hWs hvn
  obtain ⟨hW, hNm⟩ := hW
  have HW := Lib.hid hW; have HNm := Lib.hid hNm
  clear hW hNm
 rotate_left 2
 iterate 1
  case' _ =>
   obtain ⟨-, -, c2, -, -, -⟩ := has_six HW.out.stick
   have e2 := HW.out.tst.1 2 _ rfl
   have f2 := HW.out.tst.2.1 2 (by simp)
   have hb3 : pick xb 3 < 3 := by have := pick_lt_int xb 3 (by omega); omega
   obtain ⟨pc, hpc⟩ : ∃ pc, pc = pick xb 3 := ⟨_, rfl⟩
   rw [← hpc] at hb3
   have HPCE := Lib.hid hpc
   have hpc3 : (pc : Int) < 3 := by omega
   clear hpc hb3
   go_upto_region 28 with (go_at_call 43; refine (HPB.out 3 _ (by omega) (by omega)).mono ?_; rintro e w' ⟨rfl, rfl⟩; rw [← HPCE.out])
   refine wp_at (R := fun W' => TB w W' S _ _) (HW.out.put (.int .i64 (1 + (pc : Int))) (by simp) hS2) (fun W3 hW => ?_)
   have HPC2 := Lib.hid (⟨HPCE.out, hpc3⟩ : pc = pick xb 3 ∧ (pc : Int) < 3)
   clear c2 e2 f2 HW HNm hpc3 HPCE
   have hb2 : pick xb 2 < 2 := by have := pick_lt_int xb 2 (by omega); omega
   obtain ⟨pb2, hpb2⟩ : ∃ pb2, pb2 = pick xb 2 := ⟨_, rfl⟩
   rw [← hpb2] at hb2
   have hal : Below W3.heap.size W3 (W3.alloc (.cells #[.string ⟨#[102, 114, 111, 109]⟩, .string ⟨#[116, 111]⟩] 9)) := ba (Below.refl _ _) _
   have gA : (W3.alloc (.cells #[.string ⟨#[102, 114, 111, 109]⟩, .string ⟨#[116, 111]⟩] 9)).cell? ⟨W3.heap.size, pb2, none⟩ = some (.string ⟨(nm8.getD pb2 []).toArray⟩) := (Has.alloc W3 (strs nm8) 9).1 pb2 _ (strs_at nm8 pb2 hb2)
   obtain ⟨NB, hNB⟩ : ∃ NB, NB = nm8.getD pb2 [] := ⟨_, rfl⟩
   rw [← hNB] at gA
   obtain ⟨-, -, c2, -, -, -⟩ := has_six (hW.down hal).stick
   have hal2 : Below (W3.alloc (.cells #[.string ⟨#[102, 114, 111, 109]⟩, .string ⟨#[116, 111]⟩] 9)).heap.size (W3.alloc (.cells #[.string ⟨#[102, 114, 111, 109]⟩, .string ⟨#[116, 111]⟩] 9)) ((W3.alloc (.cells #[.string ⟨#[102, 114, 111, 109]⟩, .string ⟨#[116, 111]⟩] 9)).alloc (.cells #[.string ⟨NB.toArray⟩] 9)) := ba (Below.refl _ _) _
   have hW2 := (hW.down hal).down hal2
   have hN := Has.alloc (W3.alloc (.cells #[.string ⟨#[102, 114, 111, 109]⟩, .string ⟨#[116, 111]⟩] 9)) [.string ⟨NB.toArray⟩] 9
   rw [World.size_alloc] at hN
   have e3 := hW2.tst.1 3 _ rfl
   have f3 := hW2.tst.2.1 3 (by simp)
   have hWs : S + 1 + 1 < W3.heap.size := hW.tst.2.2
   have j1 : (0 : Int) ≤ pb2 := by omega
   have j2 : (pb2 : Int) < 2 := by omega
   have HW := Lib.hid hW2; have HPB2 := Lib.hid hpb2; have HNB := Lib.hid hNB; have HN := Lib.hid hN
   clear hW hal hal2 hW2 hpb2 hNB hb2 hN
   go_upto_region 29 with (go_at_call 43; refine (HPB.out 2 _ (by omega) (by omega)).mono ?_; rintro e w' ⟨rfl, rfl⟩; rw [← HPB2.out])
   have hHN := (HN.out.else' (i := 3) (c := S + 1 + 1) (by omega) (.slice (some ⟨W3.heap.size + 1, 0, none⟩) 1 1))
   have HT : Hid (leafS 8 ⟨xk, xa, xb, xs, xt, xsub⟩ = ⟨8, 1 + (pa : Int), 1 + (pc : Int), [NB], keysS ⟨xk, xa, xb, xs, xt, xsub⟩, false, 0, []⟩) := by
    unfold Hid; rw [HNB.out, HPB2.out, HPAE.out, HPC2.out.1]; rfl
   refine wp_at (R := fun W' => TB w W' S _ _ ∧ SAt cStr W' (fun b => S + 1 + 1 < b) _ _) ⟨HW.out.put (.slice (some ⟨W3.heap.size + 1, 0, none⟩) 1 1) (by simp) hS2, sat_str hHN (by show S + 1 + 1 < W3.heap.size + 1; omega)⟩ (fun W2 hW => ?_)
   clear gA c2 e3 f3 HW HN hHN hWs HPC2 HPB2 HNB j1 j2 i1 i2 HNA HPBE
  rotate_left 1
 iterate 1
  case' _ =>
   have HT : Hid (leafS 6 ⟨xk, xa, xb, xs, xt, xsub⟩ = ⟨6, 1 + (pa : Int), 0, [NA], keysS ⟨xk, xa, xb, xs, xt, xsub⟩, false, 0, []⟩) := by
    unfold Hid; rw [HNA.out, HPBE.out, HPAE.out]; rfl
   go_upto_region 29 with fail
   refine wp_at (R := fun W' => TB w W' S _ _ ∧ SAt cStr W' (fun b => S + 1 + 1 < b) _ _) ⟨HW.out, HNm.out⟩ (fun W2 hW => ?_)
   clear HW HNm i1 i2 HNA HPBE
  rotate_left 1
 iterate 1
  case' _ =>
   obtain ⟨-, -, c2, -, -, -⟩ := has_six HW.out.stick
   have e2 := HW.out.tst.1 2 _ rfl
   have f2 := HW.out.tst.2.1 2 (by simp)
   have hb3 : pick xb 3 < 3 := by have := pick_lt_int xb 3 (by omega); omega
   obtain ⟨pc, hpc⟩ : ∃ pc, pc = pick xb 3 := ⟨_, rfl⟩
   rw [← hpc] at hb3
   have HPCE := Lib.hid hpc
   have hpc3 : (pc : Int) < 3 := by omega
   clear hpc hb3
   go_upto_region 29 with (go_at_call 43; refine (HPB.out 3 _ (by omega) (by omega)).mono ?_; rintro e w' ⟨rfl, rfl⟩; rw [← HPCE.out])
   have HT : Hid (leafS 7 ⟨xk, xa, xb, xs, xt, xsub⟩ = ⟨7, 1 + (pa : Int), 1 + (pc : Int), [NA], keysS ⟨xk, xa, xb, xs, xt, xsub⟩, false, 0, []⟩) := by
    unfold Hid; rw [HNA.out, HPBE.out, HPAE.out, HPCE.out]; rfl
   refine wp_at (R := fun W' => TB w W' S _ _ ∧ SAt cStr W' (fun b => S + 1 + 1 < b) _ _) ⟨HW.out.put (.int .i64 (1 + (pc : Int))) (by simp) hS2, sat_else HNm.out _ (by omega)⟩ (fun W2 hW => ?_)
   clear c2 e2 f2 HW HNm HPCE HNA HPBE i1 i2 hpc3
  rotate_left 1
 all_goals
  obtain ⟨hW, hNm⟩ := hW
  have HSH : Hid (∀ w, Calls Tryz.prog 45 #[.string ⟨xs.toArray⟩] w fun e w' => e = .returned (.string ⟨(xs.take 12).toArray⟩) ∧ w = w') := fun w => short_any xs w HB.out.s
  obtain ⟨ks, hks⟩ : ∃ ks, ks = xs.take 12 := ⟨_, rfl⟩
  rw [← hks] at HSH
  have HKS := Lib.hid hks
  have hal : Below W2.heap.size W2 (W2.alloc (.cells #[.string ⟨ks.toArray⟩] 9)) := ba (Below.refl _ _) _
  obtain ⟨-, -, -, c3, -, -⟩ := has_six hW.stick
  have hW2 := hW.down hal
  have hR := World.ownsRow_lit (base := S + 1 + 1 + 1) (e := 9) (size := 1) W2 #[.string ⟨ks.toArray⟩] 1 (by have := hW.tst.2.2; omega) (by decide) rfl
  have e4 := hW2.tst.1 4 _ rfl
  have f4 := hW2.tst.2.1 4 (by simp)
  have hNm2 := (sat_lt hNm).stable (Same.of_below hal) (by simp)
  have HW := Lib.hid hW2; have HNm := Lib.hid hNm2; have HR := Lib.hid hR
  have HWS := Lib.hid hW.tst.2.2
  clear hks hal hW hW2 hNm hNm2 hR
  go_upto_region 30 with (go_at_call 45; refine (HSH.out _).mono ?_; rintro e w' ⟨rfl, rfl⟩)
 all_goals
  have hWs : S + 1 + 1 < W2.heap.size := HWS.out
  refine wp_at (R := fun W' => TB w W' S _ _ ∧ SAt cStr W' (fun b => S + 1 + 1 < b ∧ b < W2.heap.size) _ _ ∧ W'.ownsRow (S + 1 + 1 + 1) 9 1 (.slice (some ⟨W2.heap.size, 0, none⟩) 1 1) 1 (strs [ks])) ⟨HW.out.put (.slice (some ⟨W2.heap.size, 0, none⟩) 1 1) (by simp) hS2, HNm.out.stable (fun x hx _ => Below.heap_setCell _ _ _ _ (by have := hx.1; show x ≠ S + 1 + 1; omega)) (by simp [World.setCell]), row_else HR.out (Nat.lt_succ_self _) _ _⟩ (fun W3 hW => ?_)
  obtain ⟨bk, hbk⟩ : ∃ b, b = W2.heap.size := ⟨_, rfl⟩
  rw [← hbk] at hW hWs
  obtain ⟨hW, hNm, hR⟩ := hW
  have ha2 : pick xa 2 < 2 := by have := pick_lt_int xa 2 (by omega); omega
  obtain ⟨q, hq⟩ : ∃ q, q = pick xa 2 := ⟨_, rfl⟩
  have HPA2 : Hid (∀ w, Calls Tryz.prog 43 #[.int .i64 xa, .int .i64 2] w fun e w' => e = .returned (.int .i64 q) ∧ w = w') := fun w => by rw [hq]; exact HPA.out 2 w (by omega) (by omega)
  have HQ := Lib.hid hq
  rw [← hq] at ha2
  clear hq c3 e4 f4 HW HNm HR HSH hbk
  obtain ⟨-, c1, -, -, c4, -⟩ := has_six hW.stick
  have HW := Lib.hid hW; have HNm := Lib.hid hNm; have HR := Lib.hid hR
  clear hW hNm hR
  have hq2 : q = 0 ∨ q = 1 := by omega
  clear ha2
  try (have hsl := sat_one HNm.out; obtain ⟨Gn, cn, hvn⟩ := hsl; subst hvn)
  rcases hq2 with rfl | rfl
  ·go_wp2_with (go_at_call 43; refine (HPA2.out _).mono ?_; rintro e w' ⟨rfl, rfl⟩)
   go_meet
   case rel =>
    refine ⟨_, _, _, _, _, [_], _, _, [_], HW.out, HNm.out.mono (fun b hb => hb.1), sat_own HR.out rfl (by show S + 1 + 1 < bk; omega), ?_⟩
    rw [HLF.out, HT.out, HKS.out]
    unfold keysS
    simp only [← HQ.out]
    rfl
  ·obtain ⟨i0, hi, hz0, hz1, hz2⟩ := info_three info_str
   have HI0 := Lib.hid hi; have HZ0 := Lib.hid hz0; have HZ1 := Lib.hid hz1; have HZ2 := Lib.hid hz2
   have HST : Hid (∀ w, Calls Tryz.prog 45 #[.string ⟨xt.toArray⟩] w fun e w' => e = .returned (.string ⟨(xt.take 12).toArray⟩) ∧ w = w') := fun w => short_any xt w HB.out.t
   obtain ⟨kt, hkt⟩ : ∃ kt, kt = xt.take 12 := ⟨_, rfl⟩
   rw [← hkt] at HST
   have HKT := Lib.hid hkt
   have hb1 : Below W3.heap.size W3 (W3.drew.alloc (.cells #[.string ⟨kt.toArray⟩] 9)) := ba (Below.drew (Below.refl _ _)) _
   have e4 := HW.out.tst.1 4 _ rfl
   have d4 := moved e4 hb1 (Nat.le_refl _)
   have x4 := moved e4 (ba (Below.refl W3.heap.size W3) (.cells #[.string ⟨kt.toArray⟩] 9)) (Nat.le_refl _)
   have hW1 := HW.out.down hb1
   have hN1 := HNm.out.stable (Same.of_below hb1) hb1.size
   have hR1 := row_down HR.out hb1
   have HW1 := Lib.hid hW1; have HN1 := Lib.hid hN1; have HR1 := Lib.hid hR1
   have hsz3 : S + 1 + 1 < W3.heap.size := HW.out.tst.2.2
   have HSZ := Lib.hid hsz3
   clear hi hz0 hz1 hz2 hkt hb1 hW1 hN1 hR1 hsz3
   go_wp2_with (go_at_call 43; refine (HPA2.out _).mono ?_; rintro e w' ⟨rfl, rfl⟩)
   go_region_law (first
    | (refine step_append_lies _ (by rfl) _ _ _ (by rfl) (S + 1 + 1 + 1) 9 i0 _ 1 16 Tryz.underlying35 HI0.out HZ0.out HZ1.out HZ2.out rfl (by omega) (.slice (some ⟨bk, 0, none⟩) 1 1) 1 (strs [ks]) (by rfl) HR1.out
        ⟨W3.heap.size, 0, none⟩ 1 1 [.string ⟨kt.toArray⟩] (by rfl) (by rfl) (World.news_of_block (cs := #[.string ⟨kt.toArray⟩]) (t := 9) (fr := (0, 0)) (heap_alloc_new W3 _)) (by simp [Value.oneCell'])
        (by omega) (by unfold maxLen; omega) (by omega) (by have := HSZ.out; simp; omega) (W3.heap.size + 1) (by simp) ?_
       intro g5 cap5 w5 hown5 hgrow5 hat5 hlt5
       have hkey := key_grow HW1.out HR1.out hS2 HN1.out hgrow5 hown5
       have HKEY := Lib.hid hkey
       have y4 := hkey.1.tst.1 4 _ rfl
       have z4 := hkey.1.tst.2.1 4 (by simp)
       clear hkey)
    | (go_simp; go_at_call 45; refine (HST.out _).mono ?_; rintro e w' ⟨rfl, rfl⟩))
   all_goals
    go_wp2_with fail
    go_meet
    case rel =>
     refine ⟨_, _, _, _, _, [_], _, _, [_, _], HKEY.out.1.put _ (by simp) hS2, sat_else HKEY.out.2.1 _ (Nat.le_refl _), sat_else HKEY.out.2.2 _ (Nat.le_refl _), ?_⟩
     rw [HLF.out, HT.out, HKS.out, HKT.out]
     unfold keysS
     simp only [← HQ.out]
     rfl
end Go.Proofs.YtjfclekmhfgkmaaGreatDoor.Sc
