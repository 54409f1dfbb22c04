/-
  DERIVED. 'cut' of postroomkeep.
-/
import Derived.Test.YtaeejmggmgejcaaDoorKit
import Derived.Test.YtaeejmggmgejcaaDoorBase
import Derived.Lib.Strings
namespace Go.Proofs.YtaeejmggmgejcaaDoor
open Go.RowKit

theorem extract_first (s : ByteArray) (n : Nat) : s.extract 0 n = ⟨(s.data.toList.take n).toArray⟩ := by
  rw [Lib.extract_eq]; simp

set_option maxHeartbeats 400000 in
theorem cut_text (s : ByteArray) (n : Nat) (w : World) (_hs : s.size ≤ 9223372036854775807) (h1 : n ≤ 1000000) :
    Calls Tryd.prog 38 #[.string s, .int .i64 n] w fun e w' => e = .returned (.string ⟨(s.data.toList.take n).toArray⟩) ∧ w = w' := by
  have H := Lib.hid (extract_first s)
  by_cases h : n < s.size
  · go_enter Tryd.func38, Tryd.ntmps38
    go_wp2
    go_ret
    exact ⟨congrArg (fun b => Ending.returned (Value.string b)) (H.out n), rfl⟩
  · have HS : Hid (s = ⟨(s.data.toList.take n).toArray⟩) := by
      rw [List.take_of_length_le (by simp; omega)]; exact (Lib.mk_data s).symm
    go_enter Tryd.func38, Tryd.ntmps38
    go_wp2
    go_ret
    exact ⟨congrArg (fun b => Ending.returned (Value.string b)) HS.out, rfl⟩
end Go.Proofs.YtaeejmggmgejcaaDoor
