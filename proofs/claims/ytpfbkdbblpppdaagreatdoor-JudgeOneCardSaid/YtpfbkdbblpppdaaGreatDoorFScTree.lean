/-
  DERIVED. Of: ScTree.
-/
import Derived.Test.YtpfbkdbblpppdaaGreatDoorDScTree
import Derived.Test.YtpfbkdbblpppdaaGreatDoorDTokPlain
import Derived.Lib.Index
import Derived.Lib.IndexMore
import Derived.Lib.AtoiAll
import Derived.Lib.ItoaNum
set_option linter.unusedVariables false
set_option linter.unusedSimpArgs false
namespace Go.Proofs.YtpfbkdbblpppdaaGreatDoor.Sc
open Tk (Tok)

/-! form -/
theorem FormT.mk' {t : Tst} (h1 : Form1 t.kind t.mat t.part t.names.length t.keys.length t.over t.limit t.tests.length) (h2 : ∀ s ∈ t.tests, FormT s) : FormT t := by
  obtain ⟨k, m, p, ns, ks, o, l, ts⟩ := t; rw [FormT]; exact ⟨h1, (FormTs_iff _).2 h2⟩
/-! how deep -/
mutual
theorem fitC_mono : ∀ (c : Cmd) (d : Nat), fitC (d + 1) c = true → fitC d c = true
  | ⟨k, tx, t, th, el⟩, d, h => by
    rw [fitC] at h ⊢
    rw [Bool.and_eq_true, decide_eq_true_eq] at h ⊢
    refine ⟨by omega, ?_⟩
    have h2 := h.2
    split
    · rename_i hk
      rw [if_pos hk, Bool.and_eq_true, Bool.and_eq_true] at h2
      rw [Bool.and_eq_true, Bool.and_eq_true]
      refine ⟨⟨h2.1.1, fitCs_mono th _ h2.1.2⟩, ?_⟩
      split
      · rename_i he; rw [if_pos he] at h2; exact fitCs_mono el _ h2.2
      · rename_i he; rw [if_neg he] at h2; exact fitCs_mono el _ h2.2
    · rfl
theorem fitCs_mono : ∀ (l : List Cmd) (d : Nat), fitCs (d + 1) l = true → fitCs d l = true
  | [], _, _ => rfl
  | c :: l, d, h => by
    rw [fitCs, Bool.and_eq_true] at h ⊢
    exact ⟨fitC_mono c d h.1, fitCs_mono l d h.2⟩
end
/-! tokens -/
/-! how many parts there are: not more than tokens -/
end Go.Proofs.YtpfbkdbblpppdaaGreatDoor.Sc
