/-
  DERIVED. 'Match' and 'Fold' of glob: what they answer at each kind.
-/
import Derived.Test.YtpfbkdbblpppdaaGreatDoorMatch
import Derived.Test.YtpfbkdbblpppdaaGreatDoorShelf
set_option linter.unusedVariables false
set_option linter.unusedSimpArgs false
namespace Go.Proofs.YtpfbkdbblpppdaaGreatDoor
open Go.RowKit Go.Shelf

theorem match3_any (s p : ByteArray) (w : World) (hs : s.size ≤ 2000) (hp : p.size ≤ 100) :
    Calls Tryz.prog 173 #[.int .i64 3, .string s, .string p] w fun e w' => e = .returned (.tuple #[.bool (mt (pcs (foldL p.data.toList)) (foldL s.data.toList)), .int .i64 0]) ∧ Below w.heap.size w w' :=
  callsIn_wide.1 (match3_in 5 (Nat.le_refl _) s p w hs hp)

set_option maxHeartbeats 1000000 in
theorem match1_any (s p : ByteArray) (w : World) (hs : s.size ≤ 2000) (hp : p.size ≤ 100) :
    Calls Tryz.prog 173 #[.int .i64 1, .string s, .string p] w fun e w' => e = .returned (.tuple #[.bool (foldL s.data.toList == foldL p.data.toList), .int .i64 0]) ∧ Below w.heap.size w w' := by
  have hd1 : decide ((2000 : Int) < (s.size : Int)) = false := by simp; omega
  have hd2 : decide ((100 : Int) < (p.size : Int)) = false := by simp; omega
  go_enter Tryz.func173, Tryz.ntmps173
  go_wp2_with fail
  refine (fold_any s _ (by omega)).mono ?_
  rintro e w1 ⟨rfl, hb1⟩
  go_wp2_with fail
  refine (fold_any p _ (by omega)).mono ?_
  rintro e w2 ⟨rfl, hb2⟩
  go_wp2
  go_ret2
  exact ⟨rfl, hb1.trans (hb2.mono hb1.size)⟩

set_option maxHeartbeats 1000000 in
theorem match0_any (s p : ByteArray) (w : World) :
    Calls Tryz.prog 173 #[.int .i64 0, .string s, .string p] w fun e w' => e = .returned (.tuple #[.bool false, .int .i64 2]) ∧ Below w.heap.size w w' := by
  go_enter Tryz.func173, Tryz.ntmps173
  go_wp2
  go_ret2
  exact ⟨rfl, Below.refl _ _⟩

set_option maxHeartbeats 1000000 in
theorem match2_any (s p : ByteArray) (m : Int) (w : World) (hm : w.cell? ⟨6, 0, none⟩ = some (.int .i64 m)) (hs : s.size ≤ 2000) (hp : p.size ≤ 100) :
    Calls Tryz.prog 173 #[.int .i64 2, .string s, .string p] w fun e w' => e = .returned (.tuple #[.bool (Lib.contains (foldL s.data.toList) (foldL p.data.toList)), .int .i64 0]) ∧ Below w.heap.size w w' := by
  have hd1 : decide ((2000 : Int) < (s.size : Int)) = false := by simp; omega
  have hd2 : decide ((100 : Int) < (p.size : Int)) = false := by simp; omega
  have hg : 6 < w.heap.size := World.block_lt_of_cell? w _ hm
  go_enter Tryz.func173, Tryz.ntmps173
  go_wp2_with fail
  refine (fold_any s _ (by omega)).mono ?_
  rintro e w1 ⟨rfl, hb1⟩
  go_wp2_with fail
  refine (fold_any p _ (by omega)).mono ?_
  rintro e w2 ⟨rfl, hb2⟩
  have hb : Below w.heap.size w w2 := hb1.trans (hb2.mono hb1.size)
  have hm2 := (hb.cell (p := ⟨6, 0, none⟩) hg).trans hm
  have hsz : (⟨(foldL s.data.toList).toArray⟩ : ByteArray).size < 4294967281 := by show (foldL s.data.toList).length < _; rw [foldL_length]; simp; omega
  go_wp2_with fail
  refine (Tryz.strings_Contains _ _ m _ hsz hm2).mono ?_
  rintro e w3 ⟨rfl, rfl⟩
  go_wp2
  go_ret2
  exact ⟨rfl, hb⟩
end Go.Proofs.YtpfbkdbblpppdaaGreatDoor
