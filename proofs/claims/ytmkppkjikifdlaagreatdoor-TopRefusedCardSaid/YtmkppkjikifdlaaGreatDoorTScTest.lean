/- On the way. -/
import Derived.Test.YtmkppkjikifdlaaGreatDoorTScStk
import Derived.Test.YtmkppkjikifdlaaGreatDoorTScMem
import Derived.Test.YtmkppkjikifdlaaGreatDoorTOpen
import Derived.Test.YtmkppkjikifdlaaGreatDoorTScPut
import Derived.Deep.DeepCutAuto
import Derived.Deep.CutBlock
import Derived.Deep.RegionLaw
import Derived.Deep.RegionHeld3
import Derived.BigRegion
import Derived.Deep.Slices
import Derived.Deep.Fields
import Derived.ChangeSame
import Derived.SizedLaws
set_option linter.unusedVariables false
set_option linter.unusedSimpArgs false
namespace Go.Proofs.YtmkppkjikifdlaaGreatDoor.Sc
open Go.RowKit
open Tk (Tok)
theorem has_oct' {w : World} {b : Nat} {a0 a1 a2 a3 a4 a5 a6 a7 : Value} (h : Has w b [a0, a1, a2, a3, a4, a5, a6, a7]) : w.cell? ⟨b, 0, none⟩ = some a0 ∧ w.cell? ⟨b, 1, none⟩ = some a1 ∧ w.cell? ⟨b, 2, none⟩ = some a2 ∧ w.cell? ⟨b, 3, none⟩ = some a3 ∧ w.cell? ⟨b, 4, none⟩ = some a4 ∧ w.cell? ⟨b, 5, none⟩ = some a5 ∧ w.cell? ⟨b, 6, none⟩ = some a6 ∧ w.cell? ⟨b, 7, none⟩ = some a7 :=
 ⟨h.1 0 _ rfl, h.1 1 _ rfl, h.1 2 _ rfl, h.1 3 _ rfl, h.1 4 _ rfl, h.1 5 _ rfl, h.1 6 _ rfl, h.1 7 _ rfl⟩
theorem wp_at {P : Program} {c : Code} {Q : Exit → Act → World → Prop} {a : Act} {W : World} (R : World → Prop) (hR : R W) (h : ∀ W, R W → c.wp P Q a W) : c.wp P Q a W := h W hR
def res8 : List Value := [.int .i64 0, .int .i64 0, .int .i64 0, .slice none 0 0, .slice none 0 0, .bool false, .int .i64 0, .slice none 0 0]
end Go.Proofs.YtmkppkjikifdlaaGreatDoor.Sc
