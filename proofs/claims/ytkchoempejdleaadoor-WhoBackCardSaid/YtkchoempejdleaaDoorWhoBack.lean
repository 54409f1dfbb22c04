/-
  DERIVED. WhoBack: the walk.
-/
import Derived.Test.YtkchoempejdleaaDoorWhoPlain
namespace Go.Proofs.YtkchoempejdleaaDoor
open Go.RowKit

set_option maxHeartbeats 8000000 in
set_option maxRecDepth 20000 in
theorem whoBackWalk (a d v : ByteArray) (m : Int) (w : World) (ha0 : a.size ≤ maxLen) (hd0 : d.size ≤ maxLen) (_hv : v.size ≤ maxLen) (hm : w.cell? ⟨0, 0, none⟩ = some (.int .i64 m)) :
    Calls Tryd.prog 5 #[.agg #[.string a, .string d, .string v]] w fun e w' => e = .returned (.bool true) ∧ Below w.heap.size w w' := by
  have ha : a.size ≤ 9223372036854775807 := Nat.le_trans ha0 (by decide)
  have hd : d.size ≤ 9223372036854775807 := Nat.le_trans hd0 (by decide)
  clear ha0 hd0
  obtain ⟨A, hA⟩ : ∃ A, A = addrL a.data.toList := ⟨_, rfl⟩
  obtain ⟨D, hD⟩ : ∃ D, D = addrD d.data.toList := ⟨_, rfl⟩
  have hAs : A.size ≤ 8 := by rw [hA]; exact addrL_size _
  have hDs : D.size ≤ 12 := by rw [hD]; exact (addrD_size _).1
  have HAd : Hid (∀ w, Calls Tryd.prog 15 #[.agg #[.string a, .string d, .string v]] w fun e w' => e = .returned (.agg #[.string A, .string D]) ∧ Below w.heap.size w w') := by
    rw [hA, hD]; exact fun w => address_any a d v w ha hd
  have hc0 : chk A.data.toList D.data.toList = 0 := by rw [hA, hD]; exact chk_ok _ _
  have HP : Hid (∀ (z : Int) w, w.cell? ⟨0, 0, none⟩ = some (.int .i64 m) → Calls Tryd.prog 16 #[.int .i64 z, .agg #[.string A, .string D]] w fun e w' => e = .returned (.tuple #[.string (partV z A D).1, .int .i64 (partV z A D).2]) ∧ Below w.heap.size w w') := fun z w h => part_any z A D m w (by omega) (by omega) h
  have p1 : partV 1 A D = (A ++ ⟨#[64]⟩ ++ D, 0) := by unfold partV; rw [hc0, if_neg (by decide), if_pos rfl]
  have p2 : partV 2 A D = (A, 0) := by unfold partV; rw [hc0, if_neg (by decide), if_neg (by decide), if_pos rfl]
  have p3 : partV 3 A D = (D, 0) := by unfold partV; rw [hc0, if_neg (by decide), if_neg (by decide), if_neg (by decide), if_pos rfl]
  have HC : Hid (∀ w, w.cell? ⟨0, 0, none⟩ = some (.int .i64 m) → Calls Tryd.prog 18 #[.agg #[.string A, .string D]] w fun e w' => e = .returned (.int .i64 0) ∧ Below w.heap.size w w') := by
    intro w h
    have := check_any A D m w (by omega) (by omega) h
    rw [hc0] at this
    exact this
  have HL : Hid (∀ w, w.cell? ⟨0, 0, none⟩ = some (.int .i64 m) → Calls Tryd.prog 19 #[.string (A ++ ⟨#[64]⟩ ++ D)] w fun e w' => (∃ v, e = .returned (.tuple #[v, .int .i64 0]) ∧ w'.ownsRow w.heap.size 25 2 v 1 [.string A, .string D]) ∧ Below w.heap.size w w') := by
    exact fun w h => list_walk_one a.data.toList d.data.toList _ _ _ m w (by rw [hA, hD]) hA hD h
  have hM := Lib.hid hm
  have hbase : Hid (∀ o, Below w.heap.size w (w.alloc o)) := fun o => ba (Below.refl _ w) o
  have HP1 := Lib.hid p1; have HP2 := Lib.hid p2; have HP3 := Lib.hid p3
  clear hA hD hc0 hm p1 p2 p3
  go_enter Tryd.func5, Tryd.ntmps5
  go_wp2_with fail
  refine (HAd.out _).mono ?_
  rintro e w1 ⟨rfl, hb1⟩
  have hw1 := bt (hbase.out _) hb1
  go_wp2_with fail
  refine (HP.out 1 _ (moved hM.out (ba hw1 _) (Nat.le_refl _))).mono ?_
  rintro e w2 ⟨rfl, hb2⟩
  rw [HP1.out]
  have hw2 := bt (ba hw1 _) hb2
  have t2 := (Two.alloc w1 A D 25).below hb2 (Nat.le_refl _)
  go_wp2_with fail
  refine (HL.out _ (moved hM.out hw2 (Nat.le_refl _))).mono ?_
  rintro e w3 ⟨⟨l, rfl, hown⟩, hb3⟩
  have hw3 := bt hw2 hb3
  have t3 := t2.below hb3 (Nat.le_refl _)
  have t3' := t3
  obtain ⟨c0, c1, f0, f1, hz⟩ := t3'
  go_wp2_with fail
  clear c0 c1 f0 f1 hz
  refine (HP.out 2 _ (moved hM.out hw3 (Nat.le_refl _))).mono ?_
  rintro e w4 ⟨rfl, hb4⟩
  rw [HP2.out]
  have hw4 := bt hw3 hb4
  have t4 := t3.below hb4 (Nat.le_refl _)
  have own4 := own_down hown hb4
  clear t3 hown
  have t4' := t4
  obtain ⟨c0, c1, f0, f1, hz⟩ := t4'
  go_wp2_with fail
  clear c0 c1 f0 f1 hz
  refine (HP.out 3 _ (moved hM.out hw4 (Nat.le_refl _))).mono ?_
  rintro e w5 ⟨rfl, hb5⟩
  rw [HP3.out]
  have hw5 := bt hw4 hb5
  have t5 := t4.below hb5 (Nat.le_refl _)
  have own5 := own_down own4 hb5
  clear t4 own4
  obtain ⟨g, cap, rfl, hg1, hg2⟩ := World.ownsRow.form own5 (by omega)
  have g0 := (own5.cellAt 0 (by omega)).trans (show _ = some (Value.string A) from rfl)
  have g1 := (own5.cellAt 1 (by omega)).trans (show _ = some (Value.string D) from rfl)
  obtain ⟨c0, c1, f0, f1, hz⟩ := t5
  have hwd := Below.drew hw5
  have hcl := HC.out w5.drew (moved hM.out hwd (Nat.le_refl _))
  have hbd := Below.drew (Below.refl w5.heap.size w5)
  go_wp2_with fail
  go_still_tail 36, (by kernel_rfl)
  refine wpStill_step (fun K hK => ?_)
  go_simp
  rw [if_neg (show ¬ 9223372036854775807 < A.size + 1 by omega)]
  refine ⟨rfl, hK _ ?_⟩
  clear hK K
  repeat still_step
  refine wpStill_step (fun K hK => ?_)
  go_simp
  rw [if_neg (show ¬ 9223372036854775807 < A.size + 1 + D.size by omega)]
  refine ⟨rfl, hK _ ?_⟩
  clear hK K
  repeat still_step
  refine wpStill_nil ?_
  change wpList _ _ _ _ _ w5.drew
  go_wp2_with fail
  refine hcl.mono ?_
  rintro e w6 ⟨rfl, hb6⟩
  have hw6 := bt hwd hb6
  go_wp2_with fail
  go_ret
  exact ⟨rfl, hw6⟩
end Go.Proofs.YtkchoempejdleaaDoor
