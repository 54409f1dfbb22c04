/- On the way. -/
import Derived.Test.YtmkppkjikifdlaaGreatDoorTScTstH
import Derived.Test.YtmkppkjikifdlaaGreatDoorTScTst5
import Derived.Deep.DeepCutAuto
import Derived.Deep.CutBlock
import Derived.IntWalk
import Derived.Deep.RegionHeld3
set_option linter.unusedVariables false
set_option linter.unusedSimpArgs false
namespace Go.Proofs.YtmkppkjikifdlaaGreatDoor.Sc
open Go.RowKit
open Tk (Tok)
theorem info_cmd : (Tryz.prog.info? 160).map (fun i => (i.zero, i.size, i.bytes)) = some (some (.agg #[.int .i64 0, .slice none 0 0, .int .i64 0, .int .i64 0, .int .i64 0, .slice none 0 0, .slice none 0 0, .bool false, .int .i64 0, .slice none 0 0, .slice none 0 0, .slice none 0 0]), 12, 192) := by kernel_rfl
theorem cmd_bd : ∀ (n : Nat) {w : World} {F : Dom} {t : Cmd} {vs : List Value}, (cCmd n).rep w F t vs → (cCmd n).rep w (fun b => F b ∧ b < w.heap.size) t vs
 | 0, _, _, _, _, h => h.elim
 | n + 1, _, _, _, _, ⟨vx, ts, vh, ve, h, h1, h2, h3, h4⟩ => ⟨vx, ts, vh, ve, h, sat_lt h1, tst_bd (n + 1) h2, SAt.bd (fun _ _ hr => cmd_bd n hr) h3, SAt.bd (fun _ _ hr => cmd_bd n hr) h4⟩
theorem has_12 {w : World} {b : Nat} {a0 a1 a2 a3 a4 a5 a6 a7 a8 a9 a10 a11 : Value} (h : Has w b [a0, a1, a2, a3, a4, a5, a6, a7, a8, a9, a10, a11]) : w.cell? ⟨b, 0, none⟩ = some a0 ∧ w.cell? ⟨b, 1, none⟩ = some a1 ∧ w.cell? ⟨b, 2, none⟩ = some a2 ∧ w.cell? ⟨b, 3, none⟩ = some a3 ∧ w.cell? ⟨b, 4, none⟩ = some a4 ∧ w.cell? ⟨b, 5, none⟩ = some a5 ∧ w.cell? ⟨b, 6, none⟩ = some a6 ∧ w.cell? ⟨b, 7, none⟩ = some a7 ∧ w.cell? ⟨b, 8, none⟩ = some a8 ∧ w.cell? ⟨b, 9, none⟩ = some a9 ∧ w.cell? ⟨b, 10, none⟩ = some a10 ∧ w.cell? ⟨b, 11, none⟩ = some a11 :=
 ⟨h.1 0 _ rfl, h.1 1 _ rfl, h.1 2 _ rfl, h.1 3 _ rfl, h.1 4 _ rfl, h.1 5 _ rfl, h.1 6 _ rfl, h.1 7 _ rfl, h.1 8 _ rfl, h.1 9 _ rfl, h.1 10 _ rfl, h.1 11 _ rfl⟩
def DmB (B : Nat) (wr : World) (v : Value) : Dom := fun b => B ≤ b ∧ b < wr.heap.size ∧ v.ownBlock ≠ some b
theorem rowB_more {α : Type} {c : Cod α} {ty : TypeId} {B H g cap : Nat} {wr w1 w5 : World} {v : Value} {ps : Held α} {t : α} {vs : List Value} (h : ORow c ty w1 B (DmB B wr v) v ps) (hz : wr.heap.size ≤ w1.heap.size) (hx : c.rep w1 (fun b => wr.heap.size ≤ b ∧ b < w1.heap.size) t vs) (hv : ∀ b, v.ownBlock = some b → b < wr.heap.size) (hB : B ≤ wr.heap.size)
    (hH : w1.heap.size ≤ H) (hown : w5.ownsRow B ty c.size (.slice (some ⟨g, 0, none⟩) (ps.length + 1) cap) (ps.length + 1) (hcells ps ++ vs)) (hg : w1.grownBy w5 v.ownBlock) (hat : v.ownBlock = some g ∨ g = H) :
    ORow c ty w5 B (DmB B w5 (.slice (some ⟨g, 0, none⟩) (ps.length + 1) cap)) (.slice (some ⟨g, 0, none⟩) (ps.length + 1) cap) (ps ++ [(t, vs)]) := by
 have hsz := hg.size
 have hT : ORow c ty w5 B (DmB B w1 v) (.slice (some ⟨g, 0, none⟩) (ps.length + 1) cap) (ps ++ [(t, vs)]) :=
  ORow.snoc (T := DmB B w1 v) (H := H) h (fun b hb => ⟨hb.1, by have := hb.2.1; omega, hb.2.2⟩) (c.mono hx (fun b hb => ⟨by omega, hb.2, fun e => by have := hv b e; omega⟩)) (fun b hb => by have := hb.2.1; omega) (fun b hb hh => hh.2.2 hb) hown hg hat
 refine ⟨hT.1, fun p hp => c.mono (hT.2.1 p hp) (fun b hb => ⟨hb.1, by have := hb.2.1; omega, fun e => ?_⟩), fun b hb hh => hh.2.2 hb⟩
 obtain rfl : g = b := Option.some.inj e
 rcases hat with h1 | h1
 ·exact hb.2.2 h1
 ·have := hb.2.1; omega
theorem cmd_form12 {K : Nat} {w : World} {F : Dom} {t : Cmd} {vs : List Value} (h : (cCmd K).rep w F t vs) : ∃ k G0 n0 c0 k1 m p G1 n1 c1 G2 n2 c2 o l G3 n3 c3 G4 n4 c4 G5 n5 c5, vs = [.int .i64 k, .slice G0 n0 c0, .int .i64 k1, .int .i64 m, .int .i64 p, .slice G1 n1 c1, .slice G2 n2 c2, .bool o, .int .i64 l, .slice G3 n3 c3, .slice G4 n4 c4, .slice G5 n5 c5] := by
 obtain ⟨_, Gx, cx, Gn, cn, Gk, ck, Gt, ct, Gh, ch, Ge, ce, -, rfl, -⟩ := cmd_open h
 exact ⟨_, _, _, _, _, _, _, _, _, _, _, _, _, _, _, _, _, _, _, _, _, _, _, _, rfl⟩
end Go.Proofs.YtmkppkjikifdlaaGreatDoor.Sc
