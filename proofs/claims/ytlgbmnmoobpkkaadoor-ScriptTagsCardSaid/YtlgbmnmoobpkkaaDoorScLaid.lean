/-
  DERIVED. What the list of variables gives: the tables of script.
-/
import Derived.Test.YtlgbmnmoobpkkaaDoorScWt
import Derived.Test.YtlgbmnmoobpkkaaDoorRows
import Derived.Test.YtlgbmnmoobpkkaaDoorLift
namespace Go.Proofs.YtlgbmnmoobpkkaaDoor.Sc
open Go

theorem tabAt_reads {W : World} {name : String} {g t n : Nat} {l : List Str} (hr : Lib.VarReads Tryd.prog W name (.agg (l.map fun s => .lit (.string s)))) (hg : Tryd.prog.globalNamed name = some g) (ht : (Tryd.prog.globals[g]?).map (·.type) = some t) (hu : Tryd.prog.underlying t = some (.array n 9)) (hl : 0 < l.length) : TabAt W g l ∧ g < W.heap.size := by
  have h := strs_of_reads (l := l) hr hg ht hu Tryd.underlying9 (by kernel_rfl)
  refine ⟨fun j s hj => ?_, World.block_lt_of_cell? W ⟨g, 0, none⟩ (h 0 hl)⟩
  obtain ⟨hlt, rfl⟩ := List.getElem?_eq_some_iff.1 hj
  exact h j hlt
theorem tabs_of {W : World} {laid : List (String × DataW Unit)} (h : laidMet Tryd.prog laid W) (h1 : ("postroom/script.commands", Rows.laid_postroom_script_commands) ∈ laid) (h2 : ("postroom/script.tests", Rows.laid_postroom_script_tests) ∈ laid)
    (h3 : ("postroom/script.matches", Rows.laid_postroom_script_matches) ∈ laid) (h4 : ("postroom/script.parts", Rows.laid_postroom_script_parts) ∈ laid) : Tabs W W.heap.size := by
  have c := tabAt_reads (l := cmdTab) (g := 0) (t := 74) (Lib.laidMet.reads h h1) (by kernel_rfl) (by kernel_rfl) Tryd.underlying74 (by decide)
  have t := tabAt_reads (l := tstTab) (g := 1) (t := 74) (Lib.laidMet.reads h h2) (by kernel_rfl) (by kernel_rfl) Tryd.underlying74 (by decide)
  have m := tabAt_reads (l := matTab) (g := 3) (t := 112) (Lib.laidMet.reads h h3) (by kernel_rfl) (by kernel_rfl) Tryd.underlying112 (by decide)
  have p := tabAt_reads (l := parTab) (g := 2) (t := 112) (Lib.laidMet.reads h h4) (by kernel_rfl) (by kernel_rfl) Tryd.underlying112 (by decide)
  exact ⟨t.1, c.1, m.1, p.1, t.2, c.2, m.2, p.2⟩
end Go.Proofs.YtlgbmnmoobpkkaaDoor.Sc
