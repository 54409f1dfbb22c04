/-
  DERIVED. GIVEN WITH THE SEED: THE CARDS: each row of YtaeejmggmgejcaaDoorRows.lean that lists a variable, with what it lists TIED to the program's text (the seventh form; the later family's looks); each row that meets fmt, with fmt's text TOLD by the authors' own Lean function (tested against real Go, not proved from fmt's source: count such statements apart). THE CARD IS WHAT COUNTS. Prove the row's statement (the work); the ties are given (YtaeejmggmgejcaaDoorTie.lean); close each card by the builder's one call (the guide's Derived/Test/ToyasCard.lean, 'card_holds'). Laid BY PROGRAM, IN A SANDBOX (cutbox-door.mjs). By AI agents, Wed Nov 11 2026. No macro, syntax, notation, axiom, sorry.
-/
import Derived.Test.YtaeejmggmgejcaaDoorRows
import GoSem.ClaimSeven
namespace Go.Proofs.YtaeejmggmgejcaaDoor
namespace Rows

/-- THE TIED CARD OF 'postroomkeep.FoldParts'. -/
def foldPartsCard : Claim7 := { stood := { row := foldPartsRow, standIns := [], harness := (true, "9d41e5235d5a2f62a3b0e779db4ad23a8492c636f3bfb3c64627596f526225ab"), looks := true }, kinds := [], alts := [], laidByText := true, laidKinds := [.data, .pinned], laidTests := true, laidLooks := .later }
def FoldPartsCardSaid : Prop := Claim7.holds Tryd.pinned (.plain (OpenSpec.ofChange foldPartsSpec)) foldPartsCard

/-- THE SECOND FORM's CARD OF 'postroomkeep.FoldParts'. -/
def foldPartsUptoCard : Claim7 := { stood := { row := foldPartsUptoRow, standIns := [], harness := (true, "9d41e5235d5a2f62a3b0e779db4ad23a8492c636f3bfb3c64627596f526225ab"), looks := true }, kinds := [], alts := [], laidByText := true, laidKinds := [.data, .pinned], laidTests := true, laidLooks := .later }
def FoldPartsUptoCardSaid : Prop := Claim7.holds Tryd.pinned (.plain (OpenSpec.upto foldPartsSpec)) foldPartsUptoCard
end Rows
end Go.Proofs.YtaeejmggmgejcaaDoor
