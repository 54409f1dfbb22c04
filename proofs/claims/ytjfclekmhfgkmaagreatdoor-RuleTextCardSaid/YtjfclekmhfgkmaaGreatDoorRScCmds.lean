/- On the way. -/
import Derived.Test.YtjfclekmhfgkmaaGreatDoorRScTst6
set_option linter.unusedVariables false
set_option linter.unusedSimpArgs false
set_option maxHeartbeats 8000000
set_option maxRecDepth 20000
namespace Go.Proofs.YtjfclekmhfgkmaaGreatDoor.Sc
open Go.RowKit
open Tk (Tok)
theorem info_cmd : (Tryz.prog.info? 40).map (fun i => (i.zero, i.size, i.bytes)) = some (some (.agg #[.int .i64 0, .slice none 0 0, .int .i64 0, .int .i64 0, .int .i64 0, .slice none 0 0, .slice none 0 0, .bool false, .int .i64 0, .slice none 0 0, .slice none 0 0, .slice none 0 0]), 12, 192) := by kernel_rfl
theorem cmd_bd : ∀ (n : Nat) {w : World} {F : Dom} {t : Cmd} {vs : List Value}, (cCmd n).rep w F t vs → (cCmd n).rep w (fun b => F b ∧ b < w.heap.size) t vs
 | 0, _, _, _, _, h => h.elim
 | n + 1, _, _, _, _, ⟨vx, ts, vh, ve, h, h1, h2, h3, h4⟩ => ⟨vx, ts, vh, ve, h, sat_lt h1, tst_bd (n + 1) h2, SAt.bd (fun _ _ hr => cmd_bd n hr) h3, SAt.bd (fun _ _ hr => cmd_bd n hr) h4⟩
theorem has_12 {w : World} {b : Nat} {a0 a1 a2 a3 a4 a5 a6 a7 a8 a9 a10 a11 : Value} (h : Has w b [a0, a1, a2, a3, a4, a5, a6, a7, a8, a9, a10, a11]) : w.cell? ⟨b, 0, none⟩ = some a0 ∧ w.cell? ⟨b, 1, none⟩ = some a1 ∧ w.cell? ⟨b, 2, none⟩ = some a2 ∧ w.cell? ⟨b, 3, none⟩ = some a3 ∧ w.cell? ⟨b, 4, none⟩ = some a4 ∧ w.cell? ⟨b, 5, none⟩ = some a5 ∧ w.cell? ⟨b, 6, none⟩ = some a6 ∧ w.cell? ⟨b, 7, none⟩ = some a7 ∧ w.cell? ⟨b, 8, none⟩ = some a8 ∧ w.cell? ⟨b, 9, none⟩ = some a9 ∧ w.cell? ⟨b, 10, none⟩ = some a10 ∧ w.cell? ⟨b, 11, none⟩ = some a11 :=
 ⟨h.1 0 _ rfl, h.1 1 _ rfl, h.1 2 _ rfl, h.1 3 _ rfl, h.1 4 _ rfl, h.1 5 _ rfl, h.1 6 _ rfl, h.1 7 _ rfl, h.1 8 _ rfl, h.1 9 _ rfl, h.1 10 _ rfl, h.1 11 _ rfl⟩
def DmB (B : Nat) (wr : World) (v : Value) : Dom := fun b => B ≤ b ∧ b < wr.heap.size ∧ v.ownBlock ≠ some b
theorem rowB_more {α : Type} {c : Cod α} {ty : TypeId} {B H g cap : Nat} {wr w1 w5 : World} {v : Value} {ps : Held α} {t : α} {vs : List Value} (h : ORow c ty w1 B (DmB B wr v) v ps) (hz : wr.heap.size ≤ w1.heap.size) (hx : c.rep w1 (fun b => wr.heap.size ≤ b ∧ b < w1.heap.size) t vs) (hv : ∀ b, v.ownBlock = some b → b < wr.heap.size) (hB : B ≤ wr.heap.size)
    (hH : w1.heap.size ≤ H) (hown : w5.ownsRow B ty c.size (.slice (some ⟨g, 0, none⟩) (ps.length + 1) cap) (ps.length + 1) (hcells ps ++ vs)) (hg : w1.grownBy w5 v.ownBlock) (hat : v.ownBlock = some g ∨ g = H) :
    ORow c ty w5 B (DmB B w5 (.slice (some ⟨g, 0, none⟩) (ps.length + 1) cap)) (.slice (some ⟨g, 0, none⟩) (ps.length + 1) cap) (ps ++ [(t, vs)]) := by
 have hsz := hg.size
 have hT : ORow c ty w5 B (DmB B w1 v) (.slice (some ⟨g, 0, none⟩) (ps.length + 1) cap) (ps ++ [(t, vs)]) :=
  ORow.snoc (T := DmB B w1 v) (H := H) h (fun b hb => ⟨hb.1, by have := hb.2.1; omega, hb.2.2⟩) (c.mono hx (fun b hb => ⟨by omega, hb.2, fun e => by have := hv b e; omega⟩)) (fun b hb => by have := hb.2.1; omega) (fun b hb hh => hh.2.2 hb) hown hg hat
 refine ⟨hT.1, fun p hp => c.mono (hT.2.1 p hp) (fun b hb => ⟨hb.1, by have := hb.2.1; omega, fun e => ?_⟩), fun b hb hh => hh.2.2 hb⟩
 obtain rfl : g = b := Option.some.inj e
 rcases hat with h1 | h1
 ·exact hb.2.2 h1
 ·have := hb.2.1; omega
def CmdPost (c : Cmd) (n : Nat) (w : World) (e : Ending) (w' : World) : Prop := ∃ vs : List Value, e = .returned (.agg vs.toArray) ∧ (cCmd n).rep w' (fun b => w.heap.size ≤ b) c vs ∧ Below w.heap.size w w'
def CmdsPost (cs : List Cmd) (n : Nat) (w : World) (e : Ending) (w' : World) : Prop := ∃ v : Value, e = .returned v ∧ SAt (cCmd n) w' (fun b => w.heap.size ≤ b) v cs ∧ Below w.heap.size w w'
def CmdAt (m K : Nat) (d : Int) : Prop := ∀ (n : Nat) (y : Stk) (vs : List Value) (F : Dom) (w' : World), (cStk n).rep w' F y vs → Calls Tryz.prog 25 #[.agg vs.toArray, .int .i64 d] w' (CmdPost (cmdS m y) K w')
theorem cmd_form12 {K : Nat} {w : World} {F : Dom} {t : Cmd} {vs : List Value} (h : (cCmd K).rep w F t vs) : ∃ k G0 n0 c0 k1 m p G1 n1 c1 G2 n2 c2 o l G3 n3 c3 G4 n4 c4 G5 n5 c5, vs = [.int .i64 k, .slice G0 n0 c0, .int .i64 k1, .int .i64 m, .int .i64 p, .slice G1 n1 c1, .slice G2 n2 c2, .bool o, .int .i64 l, .slice G3 n3 c3, .slice G4 n4 c4, .slice G5 n5 c5] := by
 obtain ⟨_, Gx, cx, Gn, cn, Gk, ck, Gt, ct, Gh, ch, Ge, ce, -, rfl, -⟩ := cmd_open h
 exact ⟨_, _, _, _, _, _, _, _, _, _, _, _, _, _, _, _, _, _, _, _, _, _, _, _, rfl⟩
theorem commands_any (m K n : Nat) (l : List Stk) (v : Value) (d : Int) (F : Dom) (w : World) (hIH : CmdAt m K d) (hv : SAt (cStk n) w F v l) (hlen : l.length ≤ 140737488351232) :
    Calls Tryz.prog 10 #[v, .int .i64 d] w (CmdsPost (cmdsS m l) K w) := by
 obtain ⟨G, c, rfl, hlc⟩ := hv.form
 obtain ⟨i0, hi, hz0, hz1, hz2⟩ := info_three info_cmd
 have HI0 := Lib.hid hi; have HZ0 := Lib.hid hz0; have HZ1 := Lib.hid hz1; have HZ2 := Lib.hid hz2
 have HV := Lib.hid hv; have HIH := Lib.hid hIH
 clear hv hIH hi hz0 hz1 hz2
 go_enter Tryz.func10, Tryz.ntmps10
 go_wp2_with fail
 go_loopw [5, 6] (fun v i wr => ∃ (j : Nat) (ps : Held Cmd), i = .int .i64 j ∧ j ≤ 4 ∧ j ≤ l.length ∧ ORow (cCmd K) 40 wr w.heap.size (DmB w.heap.size wr v) v ps ∧ ps.map Prod.fst = (l.take j).map (cmdS m) ∧ Below w.heap.size w wr) (fun _ i _ => 4 - (intOf i).toNat)
 case atStart => exact ⟨0, [], rfl, Nat.zero_le _, Nat.zero_le _, ORow.nil _ _ _ _ _, rfl, Below.refl _ _⟩
 case round =>
  obtain ⟨j, ps, rfl, hj4, hjl, hrow, hps, hb⟩ := hrel
  obtain ⟨Gt, ct, rfl⟩ := ORow.shape hrow
  have hpl : ps.length = j := by have := congrArg List.length hps; rw [List.length_map, List.length_map, List.length_take] at this; omega
  have hp4 : ps.length ≤ 4 := by omega
  have hsz : w.heap.size ≤ wr.heap.size := hb.size
  have HROW := Lib.hid hrow; have HPS := Lib.hid hps; have HB := Lib.hid hb
  by_cases hlt : j < l.length ∧ j < 4
  ·obtain ⟨hl1, hl2⟩ := hlt
   obtain ⟨g, off, G', c', rfl, hrep, d0, d1, d2, d3, d4, d5⟩ := stk_get HV.out (Same.of_below hb) hb.size j hl1
   have hmore := take_more (cmdS m) l j hl1 (ps.map Prod.fst) hps
   have hct := HIH.out n l[j] _ F wr hrep
   obtain ⟨y, hy⟩ : ∃ y, y = l[j] := ⟨_, rfl⟩
   rw [← hy] at d0 d1 d2 d3 d4 d5 hct hmore
   have HCT : Hid (Calls Tryz.prog 25 #[.agg #[.int .i64 y.kind, .int .i64 y.a, .int .i64 y.b, .string ⟨y.s.toArray⟩, .string ⟨y.t.toArray⟩, .slice G' y.subs.length c'], .int .i64 d] wr (CmdPost (cmdS m y) K wr)) := hct
   have HMORE := Lib.hid hmore
   have jl : (0 : Int) ≤ j := by omega
   have jh : (j : Int) < l.length := by omega
   have jn3 : (j : Int) < 4 := by omega
   clear hrow hps hb hrep hct hmore hy hpl
   go_wp2_with fail
   refine HCT.out.mono ?_
   intro e w4 hp
   obtain ⟨vs1, rfl, hr1, hb4⟩ := hp
   obtain ⟨k, G0, n0, c0, k1, m1, p1, G1, n1, c1, G2, n2, c2, o1, l1, G3, n3, c3, G4, n4, c4, G5, n5, c5, rfl⟩ := cmd_form12 hr1
   have hal4 := ba (Below.refl w4.heap.size w4) (.cells #[.int .i64 k, .slice G0 n0 c0, .int .i64 k1, .int .i64 m1, .int .i64 p1, .slice G1 n1 c1, .slice G2 n2 c2, .bool o1, .int .i64 l1, .slice G3 n3 c3, .slice G4 n4 c4, .slice G5 n5 c5] 40)
   have hb5 := bt hb4 hal4
   have H5 : Hid (Has (w4.alloc (.cells #[.int .i64 k, .slice G0 n0 c0, .int .i64 k1, .int .i64 m1, .int .i64 p1, .slice G1 n1 c1, .slice G2 n2 c2, .bool o1, .int .i64 l1, .slice G3 n3 c3, .slice G4 n4 c4, .slice G5 n5 c5] 40)) w4.heap.size [.int .i64 k, .slice G0 n0 c0, .int .i64 k1, .int .i64 m1, .int .i64 p1, .slice G1 n1 c1, .slice G2 n2 c2, .bool o1, .int .i64 l1, .slice G3 n3 c3, .slice G4 n4 c4, .slice G5 n5 c5] ∧ ORow (cCmd K) 40 (w4.alloc (.cells #[.int .i64 k, .slice G0 n0 c0, .int .i64 k1, .int .i64 m1, .int .i64 p1, .slice G1 n1 c1, .slice G2 n2 c2, .bool o1, .int .i64 l1, .slice G3 n3 c3, .slice G4 n4 c4, .slice G5 n5 c5] 40)) w.heap.size (DmB w.heap.size wr (.slice Gt ps.length ct)) (.slice Gt ps.length ct) ps ∧
    (cCmd K).rep (w4.alloc (.cells #[.int .i64 k, .slice G0 n0 c0, .int .i64 k1, .int .i64 m1, .int .i64 p1, .slice G1 n1 c1, .slice G2 n2 c2, .bool o1, .int .i64 l1, .slice G3 n3 c3, .slice G4 n4 c4, .slice G5 n5 c5] 40)) (fun b => wr.heap.size ≤ b ∧ b < w4.heap.size) (cmdS m y) [.int .i64 k, .slice G0 n0 c0, .int .i64 k1, .int .i64 m1, .int .i64 p1, .slice G1 n1 c1, .slice G2 n2 c2, .bool o1, .int .i64 l1, .slice G3 n3 c3, .slice G4 n4 c4, .slice G5 n5 c5] ∧ wr.heap.size ≤ w4.heap.size ∧ w4.heap.size < (w4.alloc (.cells #[.int .i64 k, .slice G0 n0 c0, .int .i64 k1, .int .i64 m1, .int .i64 p1, .slice G1 n1 c1, .slice G2 n2 c2, .bool o1, .int .i64 l1, .slice G3 n3 c3, .slice G4 n4 c4, .slice G5 n5 c5] 40)).heap.size ∧ Below w.heap.size w (w4.alloc (.cells #[.int .i64 k, .slice G0 n0 c0, .int .i64 k1, .int .i64 m1, .int .i64 p1, .slice G1 n1 c1, .slice G2 n2 c2, .bool o1, .int .i64 l1, .slice G3 n3 c3, .slice G4 n4 c4, .slice G5 n5 c5] 40))) :=
    ⟨Has.alloc w4 _ _, HROW.out.down hb5, (cCmd K).stable (cmd_bd _ hr1) (Same.of_below hal4) (by simp), hb4.size, by simp, bt HB.out hb5⟩
   clear hr1 hb4 hal4 hb5 d0 d1 d2 d3 d4 d5 HCT
   go_upto_region 6 with fail
   refine wp_at (R := fun W5 => Has W5 w4.heap.size _ ∧ ORow (cCmd K) 40 W5 w.heap.size (DmB w.heap.size wr (.slice Gt ps.length ct)) (.slice Gt ps.length ct) ps ∧ (cCmd K).rep W5 (fun b => wr.heap.size ≤ b ∧ b < w4.heap.size) (cmdS m y) _ ∧ wr.heap.size ≤ w4.heap.size ∧ w4.heap.size < W5.heap.size ∧ Below w.heap.size w W5) H5.out (fun W5 h5 => ?_)
   clear H5
   generalize w4.heap.size = I at h5 ⊢
   obtain ⟨hI5, hR5, hx5, hi1, hi2, hbel5⟩ := h5
   have hal5 := ba (Below.refl W5.heap.size W5) (.cells #[.int .i64 k, .slice G0 n0 c0, .int .i64 k1, .int .i64 m1, .int .i64 p1, .slice G1 n1 c1, .slice G2 n2 c2, .bool o1, .int .i64 l1, .slice G3 n3 c3, .slice G4 n4 c4, .slice G5 n5 c5] 40)
   obtain ⟨q0, q1, q2, q3, q4, q5, q6, q7, q8, q9, q10, q11⟩ := has_12 hI5
   have hR6 := hR5.down hal5
   have hx6 : (cCmd K).rep (W5.alloc (.cells #[.int .i64 k, .slice G0 n0 c0, .int .i64 k1, .int .i64 m1, .int .i64 p1, .slice G1 n1 c1, .slice G2 n2 c2, .bool o1, .int .i64 l1, .slice G3 n3 c3, .slice G4 n4 c4, .slice G5 n5 c5] 40)) (fun b => wr.heap.size ≤ b ∧ b < (W5.alloc (.cells #[.int .i64 k, .slice G0 n0 c0, .int .i64 k1, .int .i64 m1, .int .i64 p1, .slice G1 n1 c1, .slice G2 n2 c2, .bool o1, .int .i64 l1, .slice G3 n3 c3, .slice G4 n4 c4, .slice G5 n5 c5] 40)).heap.size) (cmdS m y) [.int .i64 k, .slice G0 n0 c0, .int .i64 k1, .int .i64 m1, .int .i64 p1, .slice G1 n1 c1, .slice G2 n2 c2, .bool o1, .int .i64 l1, .slice G3 n3 c3, .slice G4 n4 c4, .slice G5 n5 c5] := (cCmd K).mono ((cCmd K).stable hx5 (Same.of_below hal5) hal5.size) (fun b hb => ⟨hb.1, by rw [World.size_alloc]; have := hb.2; omega⟩)
   have hown : World.ownsRow (W5.alloc (.cells #[.int .i64 k, .slice G0 n0 c0, .int .i64 k1, .int .i64 m1, .int .i64 p1, .slice G1 n1 c1, .slice G2 n2 c2, .bool o1, .int .i64 l1, .slice G3 n3 c3, .slice G4 n4 c4, .slice G5 n5 c5] 40)) w.heap.size 40 12 (.slice Gt ps.length ct) ps.length (hcells ps) := hR6.1
   have hbel6 := bt hbel5 hal5
   have hzz : wr.heap.size ≤ W5.heap.size := by omega
   have HR6 := Lib.hid hR6; have HX6 := Lib.hid hx6; have HOWN := Lib.hid hown; have HB6 := Lib.hid hbel6
   clear hI5 hR5 hx5 hal5 hR6 hx6 hown hbel5 hbel6
   go_wp2_with (at_builtin; refine wpList_append_lies _ (by rfl) _ _ _ (by rfl) w.heap.size 40 i0 _ 12 192 Tryz.underlying23 HI0.out HZ0.out HZ1.out HZ2.out rfl (by omega) (.slice Gt ps.length ct) ps.length (hcells ps) (by rfl) HOWN.out ⟨W5.heap.size, 0, none⟩ 1 1 [.int .i64 k, .slice G0 n0 c0, .int .i64 k1, .int .i64 m1, .int .i64 p1, .slice G1 n1 c1, .slice G2 n2 c2, .bool o1, .int .i64 l1, .slice G3 n3 c3, .slice G4 n4 c4, .slice G5 n5 c5] (by rfl) (by rfl) (news_of W5 _ _) (by simp [Value.oneCell']) (by omega) (by unfold maxLen; omega) (by omega) (by simp; omega) (W5.heap.size + 1) (by simp) ?_)
   intro g5 cap5 w5 hown5 hgrow5 hat5 hlt5
   have hrow5 := rowB_more (wr := wr) HR6.out (by rw [World.size_alloc]; omega) HX6.out (fun b e => (HROW.out.1.lt b e).2) hsz (H := W5.heap.size + 1) (by simp) hown5 hgrow5 hat5
   have hb7 := below_far HB6.out hgrow5 (fun b e => (HROW.out.1.lt b e).1) HB6.out.size
   have HROW5 := Lib.hid hrow5; have HB7 := Lib.hid hb7
   clear hown5 hgrow5 hat5 hlt5 hrow5 hb7 q0 q1 q2 q3 q4 q5 q6 q7 q8 q9 q10 q11 HOWN HX6 HR6
   go_wp2_with fail
   go_roundw
   case rel => exact ⟨j + 1, ps ++ [(cmdS m y, _)], by go_num, by omega, by omega, HROW5.out, by rw [List.map_append]; exact HMORE.out, HB7.out⟩
   case measure => simp [intOf]; omega
  ·have htk : l.take j = l.take 4 := by
    by_cases h4 : j = 4
    ·rw [h4]
    ·rw [List.take_of_length_le (by omega), List.take_of_length_le (by omega)]
   have hE : CmdsPost (cmdsS m l) K w (.returned (.slice Gt ps.length ct)) wr := by
    refine ⟨_, rfl, ?_, hb⟩
    unfold cmdsS
    rw [← htk, ← hps]
    exact ORow.sat hrow (fun b hb => hb) (fun b hb => hb.1)
   have HE := Lib.hid hE
   have hex : (¬ j < l.length) ∨ j = 4 := by omega
   clear hrow hps hb hlt hE htk hpl
   rcases hex with hn1 | rfl
   ·go_wp2_with fail
    go_ret
    exact HE.out
   ·go_wp2_with fail
    all_goals
     go_ret
     exact HE.out
end Go.Proofs.YtjfclekmhfgkmaaGreatDoor.Sc
