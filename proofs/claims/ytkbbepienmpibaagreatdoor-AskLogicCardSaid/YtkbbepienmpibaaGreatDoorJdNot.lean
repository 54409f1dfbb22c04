/-
  DERIVED. The function in AskLogic that turns a test round: the walk.
-/
import Derived.Test.YtkbbepienmpibaaGreatDoorJdA
namespace Go.Proofs.YtkbbepienmpibaaGreatDoor.Jd
open Go.RowKit
open Sc (Str Tst Cmd cStr strC tstC cTst cCmd RW Stk cStk)

theorem oct_free {w : World} {b : Nat} {a0 a1 a2 a3 a4 a5 a6 a7 : Value} (h : Has w b [a0, a1, a2, a3, a4, a5, a6, a7]) : w.frozen? ⟨b, 0, none⟩ = false ∧ w.frozen? ⟨b, 1, none⟩ = false ∧ w.frozen? ⟨b, 2, none⟩ = false ∧ w.frozen? ⟨b, 3, none⟩ = false ∧ w.frozen? ⟨b, 4, none⟩ = false ∧ w.frozen? ⟨b, 5, none⟩ = false ∧ w.frozen? ⟨b, 6, none⟩ = false ∧ w.frozen? ⟨b, 7, none⟩ = false :=
  ⟨h.2.1 0 (by simp), h.2.1 1 (by simp), h.2.1 2 (by simp), h.2.1 3 (by simp), h.2.1 4 (by simp), h.2.1 5 (by simp), h.2.1 6 (by simp), h.2.1 7 (by simp)⟩
/-- what it answers -/
def NotP (n : Nat) (t : Tst) (w : World) (e : Ending) (w' : World) : Prop := ∃ N : Nat, e = .returned (.agg #[.int .i64 3, .int .i64 0, .int .i64 0, .slice none 0 0, .slice none 0 0, .bool false, .int .i64 0, .slice (some ⟨N, 0, none⟩) 1 1]) ∧
  TV w' (n + 1) (notT t) [.int .i64 3, .int .i64 0, .int .i64 0, .slice none 0 0, .slice none 0 0, .bool false, .int .i64 0, .slice (some ⟨N, 0, none⟩) 1 1] ∧ Below w.heap.size w w'
set_option maxHeartbeats 2000000 in
set_option maxRecDepth 20000 in
theorem not_any (n : Nat) (t : Tst) (vs : List Value) (w : World) (hr : TV w n t vs) :
    Calls Tryz.prog 13 #[.agg vs.toArray] w (NotP n t w) := by
  obtain ⟨Gn, cn, Gk, ck, Gt, ct, rfl⟩ := hr.form
  have hA := ba (Below.refl w.heap.size w) (.cells (tstC t (.slice Gn t.names.length cn) (.slice Gk t.keys.length ck) (.slice Gt t.tests.length ct)).toArray 39)
  have hA1 := ba (Below.refl (w.alloc (.cells (tstC t (.slice Gn t.names.length cn) (.slice Gk t.keys.length ck) (.slice Gt t.tests.length ct)).toArray 39)).heap.size (w.alloc (.cells (tstC t (.slice Gn t.names.length cn) (.slice Gk t.keys.length ck) (.slice Gt t.tests.length ct)).toArray 39))) (.cells Sc.res8.toArray 39)
  have HT := Lib.hid ((Has.alloc w (tstC t (.slice Gn t.names.length cn) (.slice Gk t.keys.length ck) (.slice Gt t.tests.length ct)) 39).down hA1)
  have hR := Has.alloc (w.alloc (.cells (tstC t (.slice Gn t.names.length cn) (.slice Gk t.keys.length ck) (.slice Gt t.tests.length ct)).toArray 39)) Sc.res8 39
  rw [World.size_alloc] at hR
  have HR := Lib.hid hR
  have HA := Lib.hid (bt hA hA1)
  have HRP := Lib.hid hr
  clear hr hA hA1 hR
  obtain ⟨k, mt, p, ns, ks, o, lim, ts⟩ := t
  unfold tstC Sc.res8 at HT HR HA
  unfold tstC at HRP ⊢
  simp only at HT HR HA HRP ⊢
  go_enter Tryz.func13, Tryz.ntmps13
  go_upto_region 1 with fail
  refine wp_here (R := fun W => Has W w.heap.size (tstC ⟨k, mt, p, ns, ks, o, lim, ts⟩ (.slice Gn ns.length cn) (.slice Gk ks.length ck) (.slice Gt ts.length ct)) ∧ Has W (w.heap.size + 1) Sc.res8 ∧ Below w.heap.size w W) ⟨HT.out, HR.out, HA.out⟩ (fun W hW => ?_)
  obtain ⟨hT, hR, hB⟩ := hW
  clear HT HR HA
  obtain ⟨t0, t1, t2, t3, t4, t5, t6, t7⟩ := tst_cells hT
  simp only at t0 t1 t2 t3 t4 t5 t6 t7
  have hr1 := HRP.out.down hB
  have hsz := hB.size
  have hrl := hR.2.2
  have hone := Sc.sat_one_tst (ty := 39) ((cTst n).mono ((cTst n).stable HRP.out (Same.of_below hB) hB.size) (fun b hb => hb))
  have hA2 := ba (Below.refl W.heap.size W) (.cells (tstC ⟨k, mt, p, ns, ks, o, lim, ts⟩ (.slice Gn ns.length cn) (.slice Gk ks.length ck) (.slice Gt ts.length ct)).toArray 39)
  have hR2 := hR.down hA2
  have hB2 := bt hB hA2
  unfold tstC at hone hR2 hB2
  simp only at hone hR2 hB2
  obtain ⟨W2, hW2⟩ : ∃ W2, W2 = W.alloc (.cells #[.int .i64 k, .int .i64 mt, .int .i64 p, .slice Gn ns.length cn, .slice Gk ks.length ck, .bool o, .int .i64 lim, .slice Gt ts.length ct] 39) := ⟨_, rfl⟩
  have hsz2 : W2.heap.size = W.heap.size + 1 := by rw [hW2, World.size_alloc]
  have hone' : SAt (cTst n) W2 (fun b => b < w.heap.size ∨ b = W.heap.size) (.slice (some ⟨W.heap.size, 0, none⟩) 1 1) [⟨k, mt, p, ns, ks, o, lim, ts⟩] := hW2 ▸ hone
  have hR2' : Has W2 (w.heap.size + 1) Sc.res8 := hW2 ▸ hR2
  have hB2' : Below w.heap.size w W2 := hW2 ▸ hB2
  have hF := Sc.put8_has hR2' (.int .i64 3) (.int .i64 0) (.int .i64 0) (.slice none 0 0) (.slice none 0 0) (.bool false) (.int .i64 0) (.slice (some ⟨W.heap.size, 0, none⟩) 1 1)
  have hS := Sc.put8_size (W := W2) (R := w.heap.size + 1) (.int .i64 3) (.int .i64 0) (.int .i64 0) (.slice none 0 0) (.slice none 0 0) (.bool false) (.int .i64 0) (.slice (some ⟨W.heap.size, 0, none⟩) 1 1)
  have hsm : Same (fun b => b < w.heap.size ∨ b = W.heap.size) W2 (Sc.put8 W2 (w.heap.size + 1) (.int .i64 3) (.int .i64 0) (.int .i64 0) (.slice none 0 0) (.slice none 0 0) (.bool false) (.int .i64 0) (.slice (some ⟨W.heap.size, 0, none⟩) 1 1)) := fun b hb _ => Sc.put8_same (by omega) _ _ _ _ _ _ _ _
  have hBF := Sc.put8_below hB2' (show w.heap.size ≤ w.heap.size + 1 by omega) (.int .i64 3) (.int .i64 0) (.int .i64 0) (.slice none 0 0) (.slice none 0 0) (.bool false) (.int .i64 0) (.slice (some ⟨W.heap.size, 0, none⟩) 1 1)
  have HREP : Hid (TV (Sc.put8 W2 (w.heap.size + 1) (.int .i64 3) (.int .i64 0) (.int .i64 0) (.slice none 0 0) (.slice none 0 0) (.bool false) (.int .i64 0) (.slice (some ⟨W.heap.size, 0, none⟩) 1 1)) (n + 1) (notT ⟨k, mt, p, ns, ks, o, lim, ts⟩) [.int .i64 3, .int .i64 0, .int .i64 0, .slice none 0 0, .slice none 0 0, .bool false, .int .i64 0, .slice (some ⟨W.heap.size, 0, none⟩) 1 1]) :=
    ⟨_, _, _, rfl, SAt.nil _ _ _, SAt.nil _ _ _, (hone'.stable hsm hS).mono (fun b hb => by have := hS; omega)⟩
  have HBF := Lib.hid hBF
  obtain ⟨q0, q1, q2, q3, q4, q5, q6, q7⟩ := Sc.has_oct' hF
  unfold Sc.put8 at HREP HBF q0 q1 q2 q3 q4 q5 q6 q7
  obtain ⟨r0, r1, r2, r3, r4, r5, r6, r7⟩ := Sc.has_oct' hR2'
  obtain ⟨f0, f1, f2, f3, f4, f5, f6, f7⟩ := oct_free hR2'
  clear hone hR2 hB2 hF hS hsm hBF hone' hB2' hA2 hr1 hT hR hB hsz hrl hsz2 hR2'
  subst hW2
  obtain ⟨R, hRe⟩ : ∃ R, R = w.heap.size + 1 := ⟨_, rfl⟩
  rw [← hRe] at HREP HBF q0 q1 q2 q3 q4 q5 q6 q7 r0 r1 r2 r3 r4 r5 r6 r7 f0 f1 f2 f3 f4 f5 f6 f7 ⊢
  clear hRe
  go_wp2_with fail
  refine bodyPost_ret (v := .agg #[.int .i64 3, .int .i64 0, .int .i64 0, .slice none 0 0, .slice none 0 0, .bool false, .int .i64 0, .slice (some ⟨W.heap.size, 0, none⟩) 1 1]) (by simp [results, Tryz.results13, go_sem, q0, q1, q2, q3, q4, q5, q6, q7]) rfl ?_
  exact ⟨_, rfl, HREP.out, HBF.out⟩
end Go.Proofs.YtkbbepienmpibaaGreatDoor.Jd
