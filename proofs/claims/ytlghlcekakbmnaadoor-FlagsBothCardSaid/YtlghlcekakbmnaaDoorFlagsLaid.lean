/-
  DERIVED. What the list of variables gives: the table of the flags' names.
-/
import Derived.Test.YtlghlcekakbmnaaDoorFlagsBoth
import Derived.Test.YtlghlcekakbmnaaDoorRows
import Derived.Test.YtlghlcekakbmnaaDoorLift
namespace Go.Proofs.YtlghlcekakbmnaaDoor
open Go
theorem namesAt_of {W : World} {laid : List (String × DataW Unit)} (h : laidMet Tryd.prog laid W) (hm : ("postroom/rule.names", Rows.laid_postroom_rule_names) ∈ laid) : NamesAt W := by
  have hr := Lib.laidMet.reads h hm
  intro j hj
  have hj5 : j < 5 := hj
  have := strs_of_reads (l := flNames.map (·.data.toList)) hr (by kernel_rfl) (show (Tryd.prog.globals[0]?).map (·.type) = some 30 by kernel_rfl) Tryd.underlying30 Tryd.underlying9 (by kernel_rfl) j (by simpa using hj)
  rw [this]; simp
end Go.Proofs.YtlghlcekakbmnaaDoor
