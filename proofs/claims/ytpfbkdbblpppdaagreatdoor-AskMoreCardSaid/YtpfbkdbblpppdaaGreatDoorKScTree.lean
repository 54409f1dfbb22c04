/-
  DERIVED. Of: ScTree.
-/
import Derived.Test.YtpfbkdbblpppdaaGreatDoorDScTree
import Derived.Test.YtpfbkdbblpppdaaGreatDoorDTokPlain
import Derived.Lib.Index
import Derived.Lib.IndexMore
import Derived.Lib.AtoiAll
import Derived.Lib.ItoaNum
set_option linter.unusedVariables false
set_option linter.unusedSimpArgs false
namespace Go.Proofs.YtpfbkdbblpppdaaGreatDoor.Sc
open Tk (Tok)

/-! form -/
theorem FormT.mk' {t : Tst} (h1 : Form1 t.kind t.mat t.part t.names.length t.keys.length t.over t.limit t.tests.length) (h2 : ∀ s ∈ t.tests, FormT s) : FormT t := by
  obtain ⟨k, m, p, ns, ks, o, l, ts⟩ := t; rw [FormT]; exact ⟨h1, (FormTs_iff _).2 h2⟩
/-! how deep -/
/-! tokens -/
/-! how many parts there are: not more than tokens -/
end Go.Proofs.YtpfbkdbblpppdaaGreatDoor.Sc
