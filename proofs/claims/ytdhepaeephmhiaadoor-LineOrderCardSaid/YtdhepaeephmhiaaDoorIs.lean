/-
  DERIVED. 'Match' of glob, of kind Is: what it answers.
-/
import Derived.Test.YtdhepaeephmhiaaDoorGlob
import Derived.Test.YtdhepaeephmhiaaDoorMCheck
namespace Go.Proofs.YtdhepaeephmhiaaDoor
open Go.RowKit

set_option maxHeartbeats 1000000 in
theorem match1_any (s p : ByteArray) (w : World) (hs : s.size ≤ 2000) (hp : p.size ≤ 100) :
    Calls Tryd.prog 63 #[.int .i64 1, .string s, .string p] w fun e w' => e = .returned (.tuple #[.bool (foldL s.data.toList == foldL p.data.toList), .int .i64 0]) ∧ Below w.heap.size w w' := by
  have hd1 : decide ((2000 : Int) < (s.size : Int)) = false := by simp; omega
  have hd2 : decide ((100 : Int) < (p.size : Int)) = false := by simp; omega
  go_enter Tryd.func63, Tryd.ntmps63
  go_wp2_with fail
  refine (fold_any s _ (by omega)).mono ?_
  rintro e w1 ⟨rfl, hb1⟩
  go_wp2_with fail
  refine (fold_any p _ (by omega)).mono ?_
  rintro e w2 ⟨rfl, hb2⟩
  go_wp2
  go_ret2
  exact ⟨rfl, hb1.trans (hb2.mono hb1.size)⟩
end Go.Proofs.YtdhepaeephmhiaaDoor
