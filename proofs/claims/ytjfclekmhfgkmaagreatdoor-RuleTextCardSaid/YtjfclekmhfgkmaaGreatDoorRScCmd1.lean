/- On the way. -/
import Derived.Test.YtjfclekmhfgkmaaGreatDoorRScCmds
import Derived.Test.YtjfclekmhfgkmaaGreatDoorRHeldBy
import Derived.Deep.DeepCutAuto
import Derived.Deep.CutBlock
import Derived.Deep.RegionHeld3
import Derived.IntWalk
set_option linter.unusedVariables false
set_option linter.unusedSimpArgs false
set_option maxHeartbeats 8000000
set_option maxRecDepth 20000
namespace Go.Proofs.YtjfclekmhfgkmaaGreatDoor.Sc
open Go.RowKit
open Tk (Tok)
def res12 : List Value := [.int .i64 0, .slice none 0 0, .int .i64 0, .int .i64 0, .int .i64 0, .slice none 0 0, .slice none 0 0, .bool false, .int .i64 0, .slice none 0 0, .slice none 0 0, .slice none 0 0]
def put12 (W : World) (R : Nat) (a0 a1 a2 a3 a4 a5 a6 a7 a8 a9 a10 a11 : Value) : World := ((((((((((((W.setCell ⟨R, 0, none⟩ a0).setCell ⟨R, 1, none⟩ a1).setCell ⟨R, 2, none⟩ a2).setCell ⟨R, 3, none⟩ a3).setCell ⟨R, 4, none⟩ a4).setCell ⟨R, 5, none⟩ a5).setCell ⟨R, 6, none⟩ a6).setCell ⟨R, 7, none⟩ a7).setCell ⟨R, 8, none⟩ a8).setCell ⟨R, 9, none⟩ a9).setCell ⟨R, 10, none⟩ a10).setCell ⟨R, 11, none⟩ a11)
theorem put12_has {W : World} {R : Nat} (h : Has W R res12) (a0 a1 a2 a3 a4 a5 a6 a7 a8 a9 a10 a11 : Value) : Has (put12 W R a0 a1 a2 a3 a4 a5 a6 a7 a8 a9 a10 a11) R [a0, a1, a2, a3, a4, a5, a6, a7, a8, a9, a10, a11] := by
 have h0 := h.set' (i := 0) a0 (by simp [res12])
 have h1 := h0.set' (i := 1) a1 (by simp [res12])
 have h2 := h1.set' (i := 2) a2 (by simp [res12])
 have h3 := h2.set' (i := 3) a3 (by simp [res12])
 have h4 := h3.set' (i := 4) a4 (by simp [res12])
 have h5 := h4.set' (i := 5) a5 (by simp [res12])
 have h6 := h5.set' (i := 6) a6 (by simp [res12])
 have h7 := h6.set' (i := 7) a7 (by simp [res12])
 have h8 := h7.set' (i := 8) a8 (by simp [res12])
 have h9 := h8.set' (i := 9) a9 (by simp [res12])
 have h10 := h9.set' (i := 10) a10 (by simp [res12])
 have h11 := h10.set' (i := 11) a11 (by simp [res12])
 exact h11
theorem put12_same {W : World} {R b : Nat} (hb : b ≠ R) (a0 a1 a2 a3 a4 a5 a6 a7 a8 a9 a10 a11 : Value) : (put12 W R a0 a1 a2 a3 a4 a5 a6 a7 a8 a9 a10 a11).heap[b]? = W.heap[b]? := by
 unfold put12
 rw [Below.heap_setCell _ _ _ _ hb, Below.heap_setCell _ _ _ _ hb, Below.heap_setCell _ _ _ _ hb, Below.heap_setCell _ _ _ _ hb, Below.heap_setCell _ _ _ _ hb, Below.heap_setCell _ _ _ _ hb, Below.heap_setCell _ _ _ _ hb, Below.heap_setCell _ _ _ _ hb, Below.heap_setCell _ _ _ _ hb, Below.heap_setCell _ _ _ _ hb, Below.heap_setCell _ _ _ _ hb, Below.heap_setCell _ _ _ _ hb]
theorem put12_size {W : World} {R : Nat} (a0 a1 a2 a3 a4 a5 a6 a7 a8 a9 a10 a11 : Value) : W.heap.size ≤ (put12 W R a0 a1 a2 a3 a4 a5 a6 a7 a8 a9 a10 a11).heap.size := by simp [put12, World.setCell]
theorem put12_below {w W : World} {R : Nat} (h : Below w.heap.size w W) (hR : w.heap.size ≤ R) (a0 a1 a2 a3 a4 a5 a6 a7 a8 a9 a10 a11 : Value) : Below w.heap.size w (put12 W R a0 a1 a2 a3 a4 a5 a6 a7 a8 a9 a10 a11) :=
 ((((((((((((h.setCell hR a0).setCell hR a1).setCell hR a2).setCell hR a3).setCell hR a4).setCell hR a5).setCell hR a6).setCell hR a7).setCell hR a8).setCell hR a9).setCell hR a10).setCell hR a11)
structure CB0 (w wx : World) (S : Nat) (xs : List Value) : Prop where
 stick : Has wx S xs
 res : Has wx (S + 1) res12
 bel : Below w.heap.size w wx
theorem CB0.down {w wx wy : World} {S : Nat} {xs : List Value} (h : CB0 w wx S xs) (hb : Below wx.heap.size wx wy) : CB0 w wy S xs := ⟨h.stick.down hb, h.res.down hb, bt h.bel hb⟩
theorem CB0.put {w wx : World} {S C : Nat} {xs : List Value} (h : CB0 w wx S xs) (hC : S + 1 < C) (hS : w.heap.size ≤ S) (i : Nat) (u : Value) : CB0 w (wx.setCell ⟨C, i, none⟩ u) S xs := ⟨h.stick.else' (by omega) u, h.res.else' (by omega) u, h.bel.setCell (by show w.heap.size ≤ C; omega) u⟩
def CmdNew (w : World) (S C n : Nat) (xs : List Value) (c : Cmd) (wx : World) : Prop := ∃ vs : List Value, CB0 w wx S xs ∧ Has wx C vs ∧ (cCmd n).rep wx (fun b => S + 1 < b) c vs
theorem cmd_end {S n : Nat} {c : Cmd} {a0 a1 a2 a3 a4 a5 a6 a7 a8 a9 a10 a11 : Value} {xs : List Value} {a : Act} {W w : World} (ht : a.tmps.getD 4 undef = .pointer (some ⟨S + 1, 0, none⟩)) (hd : a.defers = []) (h : CB0 w W S xs) (hS : w.heap.size ≤ S) (hc : (cCmd n).rep W (fun b => S + 1 < b) c [a0, a1, a2, a3, a4, a5, a6, a7, a8, a9, a10, a11]) :
    bodyPost Tryz.prog Tryz.f25 (CmdPost c n w) .ret a (put12 W (S + 1) a0 a1 a2 a3 a4 a5 a6 a7 a8 a9 a10 a11) := by
 have hh := put12_has h.res a0 a1 a2 a3 a4 a5 a6 a7 a8 a9 a10 a11
 obtain ⟨c0, c1, c2, c3, c4, c5, c6, c7, c8, c9, c10, c11⟩ := has_12 hh
 have hsm : Same (fun b => S + 1 < b) W (put12 W (S + 1) a0 a1 a2 a3 a4 a5 a6 a7 a8 a9 a10 a11) := fun b hb _ => put12_same (by omega) _ _ _ _ _ _ _ _ _ _ _ _
 have hr := (cCmd n).mono ((cCmd n).stable hc hsm (put12_size a0 a1 a2 a3 a4 a5 a6 a7 a8 a9 a10 a11)) (fun b (hb : S + 1 < b) => (show w.heap.size ≤ b by omega))
 refine bodyPost_ret (v := .agg #[a0, a1, a2, a3, a4, a5, a6, a7, a8, a9, a10, a11]) ?_ hd ⟨_, rfl, hr, put12_below h.bel (by omega) a0 a1 a2 a3 a4 a5 a6 a7 a8 a9 a10 a11⟩
 have ht' : a.tmps[4]?.getD undef = .pointer (some ⟨S + 1, 0, none⟩) := by simpa using ht
 simp [results, Tryz.results25, go_sem, ht', c0, c1, c2, c3, c4, c5, c6, c7, c8, c9, c10, c11]
def kTabV : List Value := [.int .i64 3, .int .i64 2, .int .i64 5, .int .i64 2, .int .i64 6, .int .i64 2, .int .i64 4, .int .i64 8, .int .i64 9, .int .i64 7, .int .i64 10, .int .i64 2]
theorem kTabV_at (p : Nat) (h : p < 12) : kTabV[p]? = some (.int .i64 (kTab.getD p 0)) := by
 have : p = 0 ∨ p = 1 ∨ p = 2 ∨ p = 3 ∨ p = 4 ∨ p = 5 ∨ p = 6 ∨ p = 7 ∨ p = 8 ∨ p = 9 ∨ p = 10 ∨ p = 11 := by omega
 rcases this with rfl | rfl | rfl | rfl | rfl | rfl | rfl | rfl | rfl | rfl | rfl | rfl <;> rfl
theorem cb_start (w : World) (xs : List Value) (t1 t2 : TypeId) : CB0 w ((w.alloc (.cells xs.toArray t1)).alloc (.cells res12.toArray t2)) w.heap.size xs := by
 have h1 := Has.alloc w xs t1
 have h2 := Has.alloc (w.alloc (.cells xs.toArray t1)) res12 t2
 rw [World.size_alloc] at h2
 exact ⟨h1.down (ba (Below.refl _ _) _), h2, ba (ba (Below.refl _ _) _) _⟩
theorem rep_text {W : World} {F : Dom} {k : Int} {vt : Value} {l : List Str} (h : SAt cStr W F vt l) : (cCmd 1).rep W F ⟨k, l, T0, [], []⟩ [.int .i64 k, vt, .int .i64 0, .int .i64 0, .int .i64 0, .slice none 0 0, .slice none 0 0, .bool false, .int .i64 0, .slice none 0 0, .slice none 0 0, .slice none 0 0] :=
 ⟨vt, [.int .i64 0, .int .i64 0, .int .i64 0, .slice none 0 0, .slice none 0 0, .bool false, .int .i64 0, .slice none 0 0], .slice none 0 0, .slice none 0 0, rfl, h, ⟨_, _, _, rfl, SAt.nil _ _ _, SAt.nil _ _ _, SAt.nil _ _ _⟩, SAt.nil _ _ _, SAt.nil _ _ _⟩
theorem text_new {w W : World} {S C : Nat} {xs : List Value} {k : Int} {vt : Value} {l : List Str} (h : CB0 w W S xs) (hC : Has W C [.int .i64 k, (.slice none 0 0), .int .i64 0, .int .i64 0, .int .i64 0, .slice none 0 0, .slice none 0 0, .bool false, .int .i64 0, .slice none 0 0, .slice none 0 0, .slice none 0 0]) (hSC : S + 1 < C) (hS : w.heap.size ≤ S) (ht : SAt cStr W (fun b => C < b) vt l) : CmdNew w S C 1 xs ⟨k, l, T0, [], []⟩ (W.setCell ⟨C, 1, none⟩ vt) :=
 ⟨_, h.put hSC hS 1 vt, hC.set' (i := 1) vt (by simp), rep_text ((sat_else ht vt (Nat.le_refl C)).mono (fun b hb => by omega))⟩
theorem plain_new {w W : World} {S C : Nat} {xs : List Value} {k : Int} (h : CB0 w W S xs) (hC : Has W C [.int .i64 k, (.slice none 0 0), .int .i64 0, .int .i64 0, .int .i64 0, .slice none 0 0, .slice none 0 0, .bool false, .int .i64 0, .slice none 0 0, .slice none 0 0, .slice none 0 0]) : CmdNew w S C 1 xs ⟨k, [], T0, [], []⟩ W := ⟨_, h, hC, rep_text (SAt.nil _ _ _)⟩
theorem sat_tab {w : World} {F : Dom} {N : Nat} {l : List Str} (h : Has w N (strs l)) (hF : F N) (k : Nat) (hk : k < l.length) (cap : Nat) (hc : 1 ≤ cap) : SAt cStr w F (.slice (some ⟨N, k, none⟩) 1 cap) [l.getD k []] := by
 refine ⟨_, cap, rfl, hc, fun i y hi => ?_⟩
 have h0 : i = 0 := by have := (List.getElem?_eq_some_iff.1 hi).1; simp at this; omega
 subst h0
 obtain rfl : l.getD k [] = y := Option.some.inj hi
 refine ⟨N, k, rfl, hF, h.2.2, strC _, rfl, fun j u hj => ?_⟩
 have h0 : j = 0 := by have := (List.getElem?_eq_some_iff.1 hj).1; simp [strC] at this; omega
 subst h0
 obtain rfl : Value.string ⟨(l.getD k []).toArray⟩ = u := Option.some.inj hj
 have hx : k + 0 * cStr.size + 0 = k := by omega
 rw [hx]; exact h.1 k _ (strs_at l k hk)
theorem cmd_plain (k : Int) (x : Stk) (v : Value) (d : Int) (w : World) (hb : Bd x) (h : (kindC x = k ∧ k ≠ 2) ∨ (kindC x = 2 ∧ k = 3 ∧ 2 ≤ d)) (hd : 0 ≤ d ∧ d ≤ 2) :
    Calls Tryz.prog 25 #[.agg (stkC x v).toArray, .int .i64 d] w (CmdPost ⟨k, textsS k x, T0, [], []⟩ 1 w) := by
 have HPK : Hid (∀ w, Calls Tryz.prog 43 #[.int .i64 x.kind, .int .i64 12] w fun e w' => e = .returned (.int .i64 (pick x.kind 12)) ∧ w = w') := fun w => picked_any x.kind 12 w hb.k.1 hb.k.2 (by omega) (by omega)
 have hp := pick_lt_int x.kind 12 (by omega)
 have hkc := kindC_ok x
 have hkd : kindC x = kTab.getD (pick x.kind 12) 0 := rfl
 obtain ⟨k0, hk0⟩ : ∃ k0, k0 = kindC x := ⟨_, rfl⟩
 rw [← hk0] at h hkc hkd
 obtain ⟨p, hpp⟩ : ∃ p, p = pick x.kind 12 := ⟨_, rfl⟩
 rw [← hpp] at HPK hp hkd
 have HB := Lib.hid hb
 have HPA : Hid (∀ (m : Int) w, 1 ≤ m → m ≤ 1000 → Calls Tryz.prog 43 #[.int .i64 x.a, .int .i64 m] w fun e w' => e = .returned (.int .i64 (pick x.a m)) ∧ w = w') := fun m w h1 h2 => picked_any x.a m w hb.a.1 hb.a.2 h1 (by omega)
 have HSH : Hid (∀ w, Calls Tryz.prog 45 #[.string ⟨x.s.toArray⟩] w fun e w' => e = .returned (.string ⟨(x.s.take 12).toArray⟩) ∧ w = w') := fun w => short_any x.s w hb.s
 obtain ⟨cc, hcc⟩ : ∃ cc : Cmd, cc = ⟨k, textsS k x, T0, [], []⟩ := ⟨_, rfl⟩
 rw [← hcc]
 have HCC := Lib.hid hcc
 have HCS := Lib.hid (cb_start w (stkC x v) 72 40)
 obtain ⟨xk, xa, xb, xs, xt, xsub⟩ := x
 simp only [stkC] at *
 have i1 : (0 : Int) ≤ p := by omega
 have i2 : (p : Int) < 12 := by omega
 have gK : Hid (∀ W : World, (W.alloc (.cells kTabV.toArray 3)).cell? ⟨W.heap.size, p, none⟩ = some (.int .i64 k0)) := fun W => (Has.alloc W kTabV 3).1 p _ (by rw [hkd]; exact kTabV_at p (by omega))
 obtain ⟨S, hSe⟩ : ∃ S, S = w.heap.size := ⟨_, rfl⟩
 rw [← hSe] at HCS
 have HSE := Lib.hid hSe.symm
 obtain ⟨hd1, hd2⟩ := hd
 clear hSe hpp hp hb hk0 hkd hcc
 go_enter Tryz.func25, Tryz.ntmps25
 go_upto_region 1 with fail
 rw [HSE.out]
 refine wp_at (R := fun W => CB0 w W S _) HCS.out (fun W hW => ?_)
 go_cut [5] (fun kx wx => kx = .int .i64 k0 ∧ CB0 w wx S [.int .i64 xk, .int .i64 xa, .int .i64 xb, .string ⟨xs.toArray⟩, .string ⟨xt.toArray⟩, v])
 case first =>
  have hal := ba (Below.refl W.heap.size W) (.cells kTabV.toArray 3)
  obtain ⟨c0, c1, c2, c3, c4, c5⟩ := has_six (hW.down hal).stick
  have g1 := gK.out W
  have HW := Lib.hid (hW.down hal)
  clear hW hal
  unfold kTabV at c0 c1 c2 c3 c4 c5 g1
  go_wp2_with (go_at_call 43; refine (HPK.out _).mono ?_; rintro e w' ⟨rfl, rfl⟩)
  go_meet
  case rel => exact ⟨rfl, HW.out⟩
 case' rest =>
  obtain ⟨rfl, hW0⟩ := hcut
  clear hW gK HPK i1 i2 HCS
  have hS2 : w.heap.size ≤ S := by rw [HSE.out]; exact Nat.le_refl _
  have hSC : S + 1 < wc.heap.size := hW0.res.2.2
  have HW0 := Lib.hid hW0
  clear hW0
  have key : ∃ kk : Int, k = kk ∧ ((k0 = kk ∧ (kk = 3 ∨ kk = 4 ∨ kk = 5 ∨ kk = 6 ∨ kk = 7 ∨ kk = 8 ∨ kk = 9 ∨ kk = 10)) ∨ (k0 = 2 ∧ kk = 3 ∧ 2 ≤ d)) := by
   rcases h with ⟨h1, h2⟩ | ⟨h1, h2, h3⟩
   ·exact ⟨k, rfl, .inl ⟨h1, by omega⟩⟩
   ·exact ⟨k, rfl, .inr ⟨h1, h2, h3⟩⟩
  clear h hkc
  obtain ⟨kk, rfl, key⟩ := key
  rcases key with ⟨rfl, rfl | rfl | rfl | rfl | rfl | rfl | rfl | rfl⟩ | ⟨rfl, rfl, hd3⟩
 all_goals
  go_upto_block 0 with fail
  refine wp_at (R := fun W => CB0 w W S [.int .i64 xk, .int .i64 xa, .int .i64 xb, .string ⟨xs.toArray⟩, .string ⟨xt.toArray⟩, v] ∧ Has W wc.heap.size _) ⟨HW0.out.down (ba (Below.refl _ _) _), Has.alloc wc _ _⟩ (fun W hW => ?_)
  clear HW0
  generalize wc.heap.size = C at hW hSC ⊢
  have HWC := Lib.hid hW
  clear hW
  go_cut [] (fun wx => CmdNew w S C 1 [.int .i64 xk, .int .i64 xa, .int .i64 xb, .string ⟨xs.toArray⟩, .string ⟨xt.toArray⟩, v] cc wx)
  case rest =>
   obtain ⟨vs, hT', hC', hR'⟩ := hcut
   obtain ⟨k9, G0, n0, c0, k1, m1, p1, G1, n1, c1, G2, n2, c2, o1, l1, G3, n3, c3, G4, n4, c4, G5, n5, c5, rfl⟩ := cmd_form12 hR'
   obtain ⟨e0, e1, e2, e3, e4, e5, e6, e7, e8, e9, e10, e11⟩ := has_12 hC'
   obtain ⟨r0, r1, r2, r3, r4, r5, r6, r7, r8, r9, r10, r11⟩ := has_12 hT'.res
   have g0 := hT'.res.2.1 0 (by simp [res12])
   have g1 := hT'.res.2.1 1 (by simp [res12])
   have g2 := hT'.res.2.1 2 (by simp [res12])
   have g3 := hT'.res.2.1 3 (by simp [res12])
   have g4 := hT'.res.2.1 4 (by simp [res12])
   have g5 := hT'.res.2.1 5 (by simp [res12])
   have g6 := hT'.res.2.1 6 (by simp [res12])
   have g7 := hT'.res.2.1 7 (by simp [res12])
   have g8 := hT'.res.2.1 8 (by simp [res12])
   have g9 := hT'.res.2.1 9 (by simp [res12])
   have g10 := hT'.res.2.1 10 (by simp [res12])
   have g11 := hT'.res.2.1 11 (by simp [res12])
   have HT' := Lib.hid hT'; have HR' := Lib.hid hR'
   clear hT' hC' hR'
   go_wp2_with fail
   refine cmd_end ?_ ?_ HT'.out hS2 HR'.out
   ·rfl
   ·rfl
  case' first =>
   obtain ⟨hT1, hC1⟩ := HWC.out
   obtain ⟨s0, s1, s2, s3, s4, s5⟩ := has_six hT1.stick
   have m1 := hC1.1 1 _ rfl
   have n1 := hC1.2.1 1 (by simp)
   clear hT1 hC1
 any_goals
  (solve
   | (go_wp2_with fail
      go_meet
      case rel => (rw [HCC.out]; exact plain_new HWC.out.1 HWC.out.2)))
 rotate_left 2
 ·-- Reject
  obtain ⟨ks, hks⟩ : ∃ ks, ks = xs.take 12 := ⟨_, rfl⟩
  rw [← hks] at HSH
  have hal := ba (Below.refl W.heap.size W) (.cells #[.string ⟨ks.toArray⟩] 9)
  have hC2 := HWC.out.2.down hal
  have m1' := hC2.1 1 _ rfl
  have n1' := hC2.2.1 1 (by simp)
  have HT2 := Lib.hid (HWC.out.1.down hal); have HC2 := Lib.hid hC2; have HKS := Lib.hid hks
  have HN := Lib.hid (sat_str (F := fun b => C < b) (Has.alloc W [.string ⟨ks.toArray⟩] 9) (show C < W.heap.size from HWC.out.2.2.2))
  clear hal hC2 hks
  go_wp2_with (go_at_call 45; refine (HSH.out _).mono ?_; rintro e w' ⟨rfl, rfl⟩)
  go_meet
  case rel =>
   rw [HCC.out]
   show CmdNew _ _ _ _ _ ⟨7, [xs.take 12], T0, [], []⟩ _
   rw [← HKS.out]
   exact text_new HT2.out HC2.out hSC hS2 HN.out
 rotate_left 2
 ·have hpa := pick_lt_int xa 4 (by omega)
  obtain ⟨pa, hpe⟩ : ∃ pa, pa = pick xa 4 := ⟨_, rfl⟩
  rw [← hpe] at hpa
  have HPE := Lib.hid hpe
  have j1 : (0 : Int) ≤ pa := by omega
  have j2 : (pa : Int) < 4 := by omega
  have hT := Has.alloc W (strs fileW) 9
  have gA : (W.alloc (.cells #[.string ⟨#[73, 78, 66, 79, 88]⟩, .string ⟨#[119, 111, 114, 107]⟩, .string ⟨#[106, 117, 110, 107]⟩, .string ⟨#[110, 101, 119]⟩] 9)).cell? ⟨W.heap.size, pa, none⟩ = some (.string ⟨(fileW.getD pa []).toArray⟩) := hT.1 pa _ (strs_at fileW pa (by show pa < 4; omega))
  obtain ⟨NA, hNA⟩ : ∃ NA, NA = fileW.getD pa [] := ⟨_, rfl⟩
  rw [← hNA] at gA
  have hal := ba (Below.refl W.heap.size W) (.cells #[.string ⟨#[73, 78, 66, 79, 88]⟩, .string ⟨#[119, 111, 114, 107]⟩, .string ⟨#[106, 117, 110, 107]⟩, .string ⟨#[110, 101, 119]⟩] 9)
  obtain ⟨-, s1', -, -, -, -⟩ := has_six (HWC.out.1.down hal).stick
  have hal2 := bt hal (ba (Below.refl _ _) (.cells #[.string ⟨NA.toArray⟩] 9))
  have hC2 := HWC.out.2.down hal2
  have m1' := hC2.1 1 _ rfl
  have n1' := hC2.2.1 1 (by simp)
  have hN := Has.alloc (W.alloc (.cells #[.string ⟨#[73, 78, 66, 79, 88]⟩, .string ⟨#[119, 111, 114, 107]⟩, .string ⟨#[106, 117, 110, 107]⟩, .string ⟨#[110, 101, 119]⟩] 9)) [.string ⟨NA.toArray⟩] 9
  rw [World.size_alloc] at hN
  have HT2 := Lib.hid (HWC.out.1.down hal2); have HC2 := Lib.hid hC2; have HNA := Lib.hid hNA
  have HN := Lib.hid (sat_str (F := fun b => C < b) hN (by have := HWC.out.2.2.2; show C < W.heap.size + 1; omega))
  clear hT hal hal2 hC2 hN hNA hpe hpa
  go_wp2_with (go_at_call 43; refine (HPA.out 4 _ (by omega) (by omega)).mono ?_; rintro e w' ⟨rfl, rfl⟩; rw [← HPE.out])
  go_meet
  case rel =>
   rw [HCC.out]
   show CmdNew _ _ _ _ _ ⟨5, [fileW.getD (pick xa 4) []], T0, [], []⟩ _
   rw [← HPE.out, ← HNA.out]
   exact text_new HT2.out HC2.out hSC hS2 HN.out
 ·have hpa := pick_lt_int xa 3 (by omega)
  obtain ⟨pa, hpe⟩ : ∃ pa, pa = pick xa 3 := ⟨_, rfl⟩
  rw [← hpe] at hpa
  have HPE := Lib.hid hpe
  have j1 : (0 : Int) ≤ pa := by omega
  have j2 : (pa : Int) < 3 := by omega
  have hT := Has.alloc W (strs redirW) 9
  have gA : (W.alloc (.cells #[.string ⟨#[97, 64, 98, 46, 99]⟩, .string ⟨#[65, 110, 110, 32, 60, 97, 110, 110, 64, 120, 46, 121, 62]⟩, .string ⟨#[98, 64, 99]⟩] 9)).cell? ⟨W.heap.size, pa, none⟩ = some (.string ⟨(redirW.getD pa []).toArray⟩) := hT.1 pa _ (strs_at redirW pa (by show pa < 3; omega))
  obtain ⟨NA, hNA⟩ : ∃ NA, NA = redirW.getD pa [] := ⟨_, rfl⟩
  rw [← hNA] at gA
  have hal := ba (Below.refl W.heap.size W) (.cells #[.string ⟨#[97, 64, 98, 46, 99]⟩, .string ⟨#[65, 110, 110, 32, 60, 97, 110, 110, 64, 120, 46, 121, 62]⟩, .string ⟨#[98, 64, 99]⟩] 9)
  obtain ⟨-, s1', -, -, -, -⟩ := has_six (HWC.out.1.down hal).stick
  have hal2 := bt hal (ba (Below.refl _ _) (.cells #[.string ⟨NA.toArray⟩] 9))
  have hC2 := HWC.out.2.down hal2
  have m1' := hC2.1 1 _ rfl
  have n1' := hC2.2.1 1 (by simp)
  have hN := Has.alloc (W.alloc (.cells #[.string ⟨#[97, 64, 98, 46, 99]⟩, .string ⟨#[65, 110, 110, 32, 60, 97, 110, 110, 64, 120, 46, 121, 62]⟩, .string ⟨#[98, 64, 99]⟩] 9)) [.string ⟨NA.toArray⟩] 9
  rw [World.size_alloc] at hN
  have HT2 := Lib.hid (HWC.out.1.down hal2); have HC2 := Lib.hid hC2; have HNA := Lib.hid hNA
  have HN := Lib.hid (sat_str (F := fun b => C < b) hN (by have := HWC.out.2.2.2; show C < W.heap.size + 1; omega))
  clear hT hal hal2 hC2 hN hNA hpe hpa
  go_wp2_with (go_at_call 43; refine (HPA.out 3 _ (by omega) (by omega)).mono ?_; rintro e w' ⟨rfl, rfl⟩; rw [← HPE.out])
  go_meet
  case rel =>
   rw [HCC.out]
   show CmdNew _ _ _ _ _ ⟨6, [redirW.getD (pick xa 3) []], T0, [], []⟩ _
   rw [← HPE.out, ← HNA.out]
   exact text_new HT2.out HC2.out hSC hS2 HN.out
 ·have hpa := pick_lt_int xa 3 (by omega) -- 8
  obtain ⟨pa, hpe⟩ : ∃ pa, pa = pick xa 3 := ⟨_, rfl⟩
  rw [← hpe] at hpa
  have HPE := Lib.hid hpe
  have j1 : (0 : Int) ≤ pa := by omega
  have j2 : (pa : Int) ≤ 3 := by omega
  have j3 : (pa : Int) ≤ 1 + pa := by omega
  have j4 : 1 + (pa : Int) ≤ 3 := by omega
  have j5 : IntKind.i64.wrap (1 + (pa : Int)) = 1 + (pa : Int) := IntWalk.i64_in _ (by omega)
  have j6 : IntKind.i64.wrap ((pa : Int) + 1) = (pa : Int) + 1 := IntWalk.i64_in _ (by omega)
  have j7 : (pa : Int) ≤ (pa : Int) + 1 := by omega
  have j8 : (pa : Int) + 1 ≤ 3 := by omega
  have j9 : ((pa : Int) + 1).toNat = pa + 1 := by omega
  have j10 : (1 + (pa : Int)).toNat = pa + 1 := by omega
  have HPQ : Hid (∀ w, Calls Tryz.prog 43 #[.int .i64 xa, .int .i64 3] w fun e w' => e = .returned (.int .i64 pa) ∧ w = w') := fun w => by rw [HPE.out]; exact HPA.out 3 w (by omega) (by omega)
  clear hpe hpa
  go_upto_region 21 with fail
  have hT := HWC.out.1
  have hC : Has W C [.int .i64 8, .slice none 0 0, .int .i64 0, .int .i64 0, .int .i64 0, .slice none 0 0, .slice none 0 0, .bool false, .int .i64 0, .slice none 0 0, .slice none 0 0, .slice none 0 0] := HWC.out.2
  refine wp_region_noPanic ?_
  refine wp_region_held_drew (S := fun wx => Has wx S [.int .i64 xk, .int .i64 xa, .int .i64 xb, .string ⟨xs.toArray⟩, .string ⟨xt.toArray⟩, v]) (by kernel_rfl) (hT.stick.down (Below.drew (Below.refl _ _))) (fun hHeld => ?_)
  refine heldTo (fun X => CB0 w X S [.int .i64 xk, .int .i64 xa, .int .i64 xb, .string ⟨xs.toArray⟩, .string ⟨xt.toArray⟩, v] ∧ Has X C [.int .i64 8, .slice none 0 0, .int .i64 0, .int .i64 0, .int .i64 0, .slice none 0 0, .slice none 0 0, .bool false, .int .i64 0, .slice none 0 0, .slice none 0 0, .slice none 0 0]) (fun wx => Has wx S [.int .i64 xk, .int .i64 xa, .int .i64 xb, .string ⟨xs.toArray⟩, .string ⟨xt.toArray⟩, v]) ⟨hT.down (Below.drew (Below.refl _ _)), hC.down (Below.drew (Below.refl _ _))⟩ (fun X h => h.1.stick) (fun _ h => h) (fun V0 hR hHeld => ?_)
  clear hT hC
  obtain ⟨hT, hC⟩ := hR
  refine tkP 1 (gB rfl) ?_
  refine tkH 2 (v := ?_) (gB rfl) ?_ ?_
  rotate_left 1
  ·intro w' hSw; obtain ⟨c0, c1, c2, c3, c4, c5⟩ := has_six hSw; (go_simp) <;> with_reducible rfl
  refine tkP 4 (gB rfl) ?_
  refine tkH 5 (v := ?_) (gB rfl) ?_ ?_
  rotate_left 1
  ·intro w' hSw; obtain ⟨c0, c1, c2, c3, c4, c5⟩ := has_six hSw; (go_simp) <;> with_reducible rfl
  refine rdH [0, 3] ?_
  refine aC (gB rfl) (fun K hK => ?_) ?_
  ·go_simp
   refine hK.out _ _ ?_ (fun hHeld => ?_)
   ·exact hHeld.down (ba (Below.refl _ _) _)
   clear hK K
   try simp only [aP]
   refine heldTo (fun V1 => CB0 w V1 S [.int .i64 xk, .int .i64 xa, .int .i64 xb, .string ⟨xs.toArray⟩, .string ⟨xt.toArray⟩, v] ∧ Has V1 C [.int .i64 8, .slice none 0 0, .int .i64 0, .int .i64 0, .int .i64 0, .slice none 0 0, .slice none 0 0, .bool false, .int .i64 0, .slice none 0 0, .slice none 0 0, .slice none 0 0] ∧ Has V1 V0.heap.size (strs flagW)) (fun V1 => Has V1 S [.int .i64 xk, .int .i64 xa, .int .i64 xb, .string ⟨xs.toArray⟩, .string ⟨xt.toArray⟩, v]) ⟨hT.down (ba (Below.refl _ _) _), hC.down (ba (Below.refl _ _) _), Has.alloc V0 (strs flagW) _⟩ (fun X h => h.1.stick) (fun _ h => h) (fun V1 hR hHeld => ?_)
   have hCN : C < V0.heap.size := hC.2.2
   clear hT hC
   obtain ⟨hT, hC, hN⟩ := hR
   generalize V0.heap.size = N at hN hCN ⊢
   refine rdH [3] ?_
   refine aC (gB rfl) (fun K hK => ?_) ?_
   ·go_simp
    go_at_call 43
    refine (HPQ.out _).mono ?_
    rintro e w' ⟨rfl, rfl⟩
    try (go_wp2_with fail)
    refine hK.out _ _ ?_ (fun hHeld => ?_)
    ·exact hHeld
    clear hK K
    try simp only [aP]
    refine rdH [6] ?_
    refine aC (gB rfl) (fun K hK => ?_) ?_
    ·go_simp
     go_at_call 43
     refine (HPQ.out _).mono ?_
     rintro e w' ⟨rfl, rfl⟩
     try (go_wp2_with fail)
     refine hK.out _ _ ?_ (fun hHeld => ?_)
     ·exact hHeld
     clear hK K
     try simp only [aP]
     refine tkP 7 (gB rfl) ?_
     refine tkP 8 (gB rfl) ?_
     refine tkP 9 (gB rfl) ?_
     refine rdH [10] ?_
     refine aC (gB rfl) (fun K hK => ?_) ?_
     ·have e1 := hC.1 1 _ rfl
      have f1 := hC.2.1 1 (by simp)
      go_simp
      refine hK.out _ _ ?_ (fun hHeld => ?_)
      ·exact hHeld.else' (by omega) _
      clear hK K
      try simp only [aP]
      refine wpAnyH_done (by kernel_rfl) ?_ _
      refine NoPanic.normal ?_
      go_wp2_with fail
      go_meet
      case rel =>
       rw [HCC.out]
       show CmdNew _ _ _ _ _ ⟨8, [flagW.getD (pick xa 3) []], T0, [], []⟩ _
       rw [← HPE.out]
       exact text_new hT hC hSC hS2 (sat_tab hN hCN pa (by show pa < 3; omega) _ (by omega))
     exact .nil
    exact .nil
   exact .nil
  refine aC (gB rfl) (fun K hK => ?_) ?_
  ·go_simp
   go_at_call 43
   refine (HPQ.out _).mono ?_
   rintro e w' ⟨rfl, rfl⟩
   try (go_wp2_with fail)
   refine hK.out _ _ ?_ (fun hHeld => ?_)
   ·exact hHeld
   clear hK K
   try simp only [aP]
   refine rdH [0, 6] ?_
   refine aC (gB rfl) (fun K hK => ?_) ?_
   ·go_simp
    refine hK.out _ _ ?_ (fun hHeld => ?_)
    ·exact hHeld.down (ba (Below.refl _ _) _)
    clear hK K
    try simp only [aP]
    refine heldTo (fun V1 => CB0 w V1 S [.int .i64 xk, .int .i64 xa, .int .i64 xb, .string ⟨xs.toArray⟩, .string ⟨xt.toArray⟩, v] ∧ Has V1 C [.int .i64 8, .slice none 0 0, .int .i64 0, .int .i64 0, .int .i64 0, .slice none 0 0, .slice none 0 0, .bool false, .int .i64 0, .slice none 0 0, .slice none 0 0, .slice none 0 0] ∧ Has V1 V0.heap.size (strs flagW)) (fun V1 => Has V1 S [.int .i64 xk, .int .i64 xa, .int .i64 xb, .string ⟨xs.toArray⟩, .string ⟨xt.toArray⟩, v]) ⟨hT.down (ba (Below.refl _ _) _), hC.down (ba (Below.refl _ _) _), Has.alloc V0 (strs flagW) _⟩ (fun X h => h.1.stick) (fun _ h => h) (fun V1 hR hHeld => ?_)
    have hCN : C < V0.heap.size := hC.2.2
    clear hT hC
    obtain ⟨hT, hC, hN⟩ := hR
    generalize V0.heap.size = N at hN hCN ⊢
    refine rdH [6] ?_
    refine aC (gB rfl) (fun K hK => ?_) ?_
    ·go_simp
     go_at_call 43
     refine (HPQ.out _).mono ?_
     rintro e w' ⟨rfl, rfl⟩
     try (go_wp2_with fail)
     refine hK.out _ _ ?_ (fun hHeld => ?_)
     ·exact hHeld
     clear hK K
     try simp only [aP]
     refine tkP 7 (gB rfl) ?_
     refine tkP 8 (gB rfl) ?_
     refine tkP 9 (gB rfl) ?_
     refine rdH [10] ?_
     refine aC (gB rfl) (fun K hK => ?_) ?_
     ·have e1 := hC.1 1 _ rfl
      have f1 := hC.2.1 1 (by simp)
      go_simp
      refine hK.out _ _ ?_ (fun hHeld => ?_)
      ·exact hHeld.else' (by omega) _
      clear hK K
      try simp only [aP]
      refine wpAnyH_done (by kernel_rfl) ?_ _
      refine NoPanic.normal ?_
      go_wp2_with fail
      go_meet
      case rel =>
       rw [HCC.out]
       show CmdNew _ _ _ _ _ ⟨8, [flagW.getD (pick xa 3) []], T0, [], []⟩ _
       rw [← HPE.out]
       exact text_new hT hC hSC hS2 (sat_tab hN hCN pa (by show pa < 3; omega) _ (by omega))
     exact .nil
    exact .nil
   refine aC (gB rfl) (fun K hK => ?_) ?_
   ·go_simp
    go_at_call 43
    refine (HPQ.out _).mono ?_
    rintro e w' ⟨rfl, rfl⟩
    try (go_wp2_with fail)
    refine hK.out _ _ ?_ (fun hHeld => ?_)
    ·exact hHeld
    clear hK K
    try simp only [aP]
    refine tkP 7 (gB rfl) ?_
    refine rdH [0] ?_
    refine aC (gB rfl) (fun K hK => ?_) ?_
    ·go_simp
     refine hK.out _ _ ?_ (fun hHeld => ?_)
     ·exact hHeld.down (ba (Below.refl _ _) _)
     clear hK K
     try simp only [aP]
     refine heldTo (fun V1 => CB0 w V1 S [.int .i64 xk, .int .i64 xa, .int .i64 xb, .string ⟨xs.toArray⟩, .string ⟨xt.toArray⟩, v] ∧ Has V1 C [.int .i64 8, .slice none 0 0, .int .i64 0, .int .i64 0, .int .i64 0, .slice none 0 0, .slice none 0 0, .bool false, .int .i64 0, .slice none 0 0, .slice none 0 0, .slice none 0 0] ∧ Has V1 V0.heap.size (strs flagW)) (fun V1 => Has V1 S [.int .i64 xk, .int .i64 xa, .int .i64 xb, .string ⟨xs.toArray⟩, .string ⟨xt.toArray⟩, v]) ⟨hT.down (ba (Below.refl _ _) _), hC.down (ba (Below.refl _ _) _), Has.alloc V0 (strs flagW) _⟩ (fun X h => h.1.stick) (fun _ h => h) (fun V1 hR hHeld => ?_)
     have hCN : C < V0.heap.size := hC.2.2
     clear hT hC
     obtain ⟨hT, hC, hN⟩ := hR
     generalize V0.heap.size = N at hN hCN ⊢
     refine tkP 8 (gB rfl) ?_
     refine tkP 9 (gB rfl) ?_
     refine rdH [10] ?_
     refine aC (gB rfl) (fun K hK => ?_) ?_
     ·have e1 := hC.1 1 _ rfl
      have f1 := hC.2.1 1 (by simp)
      go_simp
      refine hK.out _ _ ?_ (fun hHeld => ?_)
      ·exact hHeld.else' (by omega) _
      clear hK K
      try simp only [aP]
      refine wpAnyH_done (by kernel_rfl) ?_ _
      refine NoPanic.normal ?_
      go_wp2_with fail
      go_meet
      case rel =>
       rw [HCC.out]
       show CmdNew _ _ _ _ _ ⟨8, [flagW.getD (pick xa 3) []], T0, [], []⟩ _
       rw [← HPE.out]
       exact text_new hT hC hSC hS2 (sat_tab hN hCN pa (by show pa < 3; omega) _ (by omega))
     exact .nil
    exact .nil
   exact .nil
  exact .nil
 ·have hpa := pick_lt_int xa 3 (by omega)
  obtain ⟨pa, hpe⟩ : ∃ pa, pa = pick xa 3 := ⟨_, rfl⟩
  rw [← hpe] at hpa
  have HPE := Lib.hid hpe
  have j1 : (0 : Int) ≤ pa := by omega
  have j2 : (pa : Int) ≤ 3 := by omega
  have j3 : (pa : Int) ≤ 1 + pa := by omega
  have j4 : 1 + (pa : Int) ≤ 3 := by omega
  have j5 : IntKind.i64.wrap (1 + (pa : Int)) = 1 + (pa : Int) := IntWalk.i64_in _ (by omega)
  have j6 : IntKind.i64.wrap ((pa : Int) + 1) = (pa : Int) + 1 := IntWalk.i64_in _ (by omega)
  have j7 : (pa : Int) ≤ (pa : Int) + 1 := by omega
  have j8 : (pa : Int) + 1 ≤ 3 := by omega
  have j9 : ((pa : Int) + 1).toNat = pa + 1 := by omega
  have j10 : (1 + (pa : Int)).toNat = pa + 1 := by omega
  have HPQ : Hid (∀ w, Calls Tryz.prog 43 #[.int .i64 xa, .int .i64 3] w fun e w' => e = .returned (.int .i64 pa) ∧ w = w') := fun w => by rw [HPE.out]; exact HPA.out 3 w (by omega) (by omega)
  clear hpe hpa
  go_upto_region 21 with fail
  have hT := HWC.out.1
  have hC : Has W C [.int .i64 9, .slice none 0 0, .int .i64 0, .int .i64 0, .int .i64 0, .slice none 0 0, .slice none 0 0, .bool false, .int .i64 0, .slice none 0 0, .slice none 0 0, .slice none 0 0] := HWC.out.2
  refine wp_region_noPanic ?_
  refine wp_region_held_drew (S := fun wx => Has wx S [.int .i64 xk, .int .i64 xa, .int .i64 xb, .string ⟨xs.toArray⟩, .string ⟨xt.toArray⟩, v]) (by kernel_rfl) (hT.stick.down (Below.drew (Below.refl _ _))) (fun hHeld => ?_)
  refine heldTo (fun X => CB0 w X S [.int .i64 xk, .int .i64 xa, .int .i64 xb, .string ⟨xs.toArray⟩, .string ⟨xt.toArray⟩, v] ∧ Has X C [.int .i64 9, .slice none 0 0, .int .i64 0, .int .i64 0, .int .i64 0, .slice none 0 0, .slice none 0 0, .bool false, .int .i64 0, .slice none 0 0, .slice none 0 0, .slice none 0 0]) (fun wx => Has wx S [.int .i64 xk, .int .i64 xa, .int .i64 xb, .string ⟨xs.toArray⟩, .string ⟨xt.toArray⟩, v]) ⟨hT.down (Below.drew (Below.refl _ _)), hC.down (Below.drew (Below.refl _ _))⟩ (fun X h => h.1.stick) (fun _ h => h) (fun V0 hR hHeld => ?_)
  clear hT hC
  obtain ⟨hT, hC⟩ := hR
  refine tkP 1 (gB rfl) ?_
  refine tkH 2 (v := ?_) (gB rfl) ?_ ?_
  rotate_left 1
  ·intro w' hSw; obtain ⟨c0, c1, c2, c3, c4, c5⟩ := has_six hSw; (go_simp) <;> with_reducible rfl
  refine tkP 4 (gB rfl) ?_
  refine tkH 5 (v := ?_) (gB rfl) ?_ ?_
  rotate_left 1
  ·intro w' hSw; obtain ⟨c0, c1, c2, c3, c4, c5⟩ := has_six hSw; (go_simp) <;> with_reducible rfl
  refine rdH [0, 3] ?_
  refine aC (gB rfl) (fun K hK => ?_) ?_
  ·go_simp
   refine hK.out _ _ ?_ (fun hHeld => ?_)
   ·exact hHeld.down (ba (Below.refl _ _) _)
   clear hK K
   try simp only [aP]
   refine heldTo (fun V1 => CB0 w V1 S [.int .i64 xk, .int .i64 xa, .int .i64 xb, .string ⟨xs.toArray⟩, .string ⟨xt.toArray⟩, v] ∧ Has V1 C [.int .i64 9, .slice none 0 0, .int .i64 0, .int .i64 0, .int .i64 0, .slice none 0 0, .slice none 0 0, .bool false, .int .i64 0, .slice none 0 0, .slice none 0 0, .slice none 0 0] ∧ Has V1 V0.heap.size (strs flagW)) (fun V1 => Has V1 S [.int .i64 xk, .int .i64 xa, .int .i64 xb, .string ⟨xs.toArray⟩, .string ⟨xt.toArray⟩, v]) ⟨hT.down (ba (Below.refl _ _) _), hC.down (ba (Below.refl _ _) _), Has.alloc V0 (strs flagW) _⟩ (fun X h => h.1.stick) (fun _ h => h) (fun V1 hR hHeld => ?_)
   have hCN : C < V0.heap.size := hC.2.2
   clear hT hC
   obtain ⟨hT, hC, hN⟩ := hR
   generalize V0.heap.size = N at hN hCN ⊢
   refine rdH [3] ?_
   refine aC (gB rfl) (fun K hK => ?_) ?_
   ·go_simp
    go_at_call 43
    refine (HPQ.out _).mono ?_
    rintro e w' ⟨rfl, rfl⟩
    try (go_wp2_with fail)
    refine hK.out _ _ ?_ (fun hHeld => ?_)
    ·exact hHeld
    clear hK K
    try simp only [aP]
    refine rdH [6] ?_
    refine aC (gB rfl) (fun K hK => ?_) ?_
    ·go_simp
     go_at_call 43
     refine (HPQ.out _).mono ?_
     rintro e w' ⟨rfl, rfl⟩
     try (go_wp2_with fail)
     refine hK.out _ _ ?_ (fun hHeld => ?_)
     ·exact hHeld
     clear hK K
     try simp only [aP]
     refine tkP 7 (gB rfl) ?_
     refine tkP 8 (gB rfl) ?_
     refine tkP 9 (gB rfl) ?_
     refine rdH [10] ?_
     refine aC (gB rfl) (fun K hK => ?_) ?_
     ·have e1 := hC.1 1 _ rfl
      have f1 := hC.2.1 1 (by simp)
      go_simp
      refine hK.out _ _ ?_ (fun hHeld => ?_)
      ·exact hHeld.else' (by omega) _
      clear hK K
      try simp only [aP]
      refine wpAnyH_done (by kernel_rfl) ?_ _
      refine NoPanic.normal ?_
      go_wp2_with fail
      go_meet
      case rel =>
       rw [HCC.out]
       show CmdNew _ _ _ _ _ ⟨9, [flagW.getD (pick xa 3) []], T0, [], []⟩ _
       rw [← HPE.out]
       exact text_new hT hC hSC hS2 (sat_tab hN hCN pa (by show pa < 3; omega) _ (by omega))
     exact .nil
    exact .nil
   exact .nil
  refine aC (gB rfl) (fun K hK => ?_) ?_
  ·go_simp
   go_at_call 43
   refine (HPQ.out _).mono ?_
   rintro e w' ⟨rfl, rfl⟩
   try (go_wp2_with fail)
   refine hK.out _ _ ?_ (fun hHeld => ?_)
   ·exact hHeld
   clear hK K
   try simp only [aP]
   refine rdH [0, 6] ?_
   refine aC (gB rfl) (fun K hK => ?_) ?_
   ·go_simp
    refine hK.out _ _ ?_ (fun hHeld => ?_)
    ·exact hHeld.down (ba (Below.refl _ _) _)
    clear hK K
    try simp only [aP]
    refine heldTo (fun V1 => CB0 w V1 S [.int .i64 xk, .int .i64 xa, .int .i64 xb, .string ⟨xs.toArray⟩, .string ⟨xt.toArray⟩, v] ∧ Has V1 C [.int .i64 9, .slice none 0 0, .int .i64 0, .int .i64 0, .int .i64 0, .slice none 0 0, .slice none 0 0, .bool false, .int .i64 0, .slice none 0 0, .slice none 0 0, .slice none 0 0] ∧ Has V1 V0.heap.size (strs flagW)) (fun V1 => Has V1 S [.int .i64 xk, .int .i64 xa, .int .i64 xb, .string ⟨xs.toArray⟩, .string ⟨xt.toArray⟩, v]) ⟨hT.down (ba (Below.refl _ _) _), hC.down (ba (Below.refl _ _) _), Has.alloc V0 (strs flagW) _⟩ (fun X h => h.1.stick) (fun _ h => h) (fun V1 hR hHeld => ?_)
    have hCN : C < V0.heap.size := hC.2.2
    clear hT hC
    obtain ⟨hT, hC, hN⟩ := hR
    generalize V0.heap.size = N at hN hCN ⊢
    refine rdH [6] ?_
    refine aC (gB rfl) (fun K hK => ?_) ?_
    ·go_simp
     go_at_call 43
     refine (HPQ.out _).mono ?_
     rintro e w' ⟨rfl, rfl⟩
     try (go_wp2_with fail)
     refine hK.out _ _ ?_ (fun hHeld => ?_)
     ·exact hHeld
     clear hK K
     try simp only [aP]
     refine tkP 7 (gB rfl) ?_
     refine tkP 8 (gB rfl) ?_
     refine tkP 9 (gB rfl) ?_
     refine rdH [10] ?_
     refine aC (gB rfl) (fun K hK => ?_) ?_
     ·have e1 := hC.1 1 _ rfl
      have f1 := hC.2.1 1 (by simp)
      go_simp
      refine hK.out _ _ ?_ (fun hHeld => ?_)
      ·exact hHeld.else' (by omega) _
      clear hK K
      try simp only [aP]
      refine wpAnyH_done (by kernel_rfl) ?_ _
      refine NoPanic.normal ?_
      go_wp2_with fail
      go_meet
      case rel =>
       rw [HCC.out]
       show CmdNew _ _ _ _ _ ⟨9, [flagW.getD (pick xa 3) []], T0, [], []⟩ _
       rw [← HPE.out]
       exact text_new hT hC hSC hS2 (sat_tab hN hCN pa (by show pa < 3; omega) _ (by omega))
     exact .nil
    exact .nil
   refine aC (gB rfl) (fun K hK => ?_) ?_
   ·go_simp
    go_at_call 43
    refine (HPQ.out _).mono ?_
    rintro e w' ⟨rfl, rfl⟩
    try (go_wp2_with fail)
    refine hK.out _ _ ?_ (fun hHeld => ?_)
    ·exact hHeld
    clear hK K
    try simp only [aP]
    refine tkP 7 (gB rfl) ?_
    refine rdH [0] ?_
    refine aC (gB rfl) (fun K hK => ?_) ?_
    ·go_simp
     refine hK.out _ _ ?_ (fun hHeld => ?_)
     ·exact hHeld.down (ba (Below.refl _ _) _)
     clear hK K
     try simp only [aP]
     refine heldTo (fun V1 => CB0 w V1 S [.int .i64 xk, .int .i64 xa, .int .i64 xb, .string ⟨xs.toArray⟩, .string ⟨xt.toArray⟩, v] ∧ Has V1 C [.int .i64 9, .slice none 0 0, .int .i64 0, .int .i64 0, .int .i64 0, .slice none 0 0, .slice none 0 0, .bool false, .int .i64 0, .slice none 0 0, .slice none 0 0, .slice none 0 0] ∧ Has V1 V0.heap.size (strs flagW)) (fun V1 => Has V1 S [.int .i64 xk, .int .i64 xa, .int .i64 xb, .string ⟨xs.toArray⟩, .string ⟨xt.toArray⟩, v]) ⟨hT.down (ba (Below.refl _ _) _), hC.down (ba (Below.refl _ _) _), Has.alloc V0 (strs flagW) _⟩ (fun X h => h.1.stick) (fun _ h => h) (fun V1 hR hHeld => ?_)
     have hCN : C < V0.heap.size := hC.2.2
     clear hT hC
     obtain ⟨hT, hC, hN⟩ := hR
     generalize V0.heap.size = N at hN hCN ⊢
     refine tkP 8 (gB rfl) ?_
     refine tkP 9 (gB rfl) ?_
     refine rdH [10] ?_
     refine aC (gB rfl) (fun K hK => ?_) ?_
     ·have e1 := hC.1 1 _ rfl
      have f1 := hC.2.1 1 (by simp)
      go_simp
      refine hK.out _ _ ?_ (fun hHeld => ?_)
      ·exact hHeld.else' (by omega) _
      clear hK K
      try simp only [aP]
      refine wpAnyH_done (by kernel_rfl) ?_ _
      refine NoPanic.normal ?_
      go_wp2_with fail
      go_meet
      case rel =>
       rw [HCC.out]
       show CmdNew _ _ _ _ _ ⟨9, [flagW.getD (pick xa 3) []], T0, [], []⟩ _
       rw [← HPE.out]
       exact text_new hT hC hSC hS2 (sat_tab hN hCN pa (by show pa < 3; omega) _ (by omega))
     exact .nil
    exact .nil
   exact .nil
  exact .nil
end Go.Proofs.YtjfclekmhfgkmaaGreatDoor.Sc
