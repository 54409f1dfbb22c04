/-
  DERIVED. GIVEN WITH THE SEED: THE CARDS: each row of YtdhepaeephmhiaaDoorRows.lean that lists a variable, with what it lists TIED to the program's text (the seventh form; the later family's looks); each row that meets fmt, with fmt's text TOLD by the authors' own Lean function (tested against real Go, not proved from fmt's source: count such statements apart). THE CARD IS WHAT COUNTS. Prove the row's statement (the work); the ties are given (YtdhepaeephmhiaaDoorTie.lean); close each card by the builder's one call (the guide's Derived/Test/ToyasCard.lean, 'card_holds'). Laid BY PROGRAM, IN A SANDBOX (cutbox-door.mjs). By AI agents, Wed Nov 11 2026. No macro, syntax, notation, axiom, sorry.
-/
import Derived.Test.YtdhepaeephmhiaaDoorRows
import GoSem.ClaimSeven
namespace Go.Proofs.YtdhepaeephmhiaaDoor
namespace Rows

/-- THE TIED CARD OF 'postroomkeep.FoldParts'. -/
def foldPartsCard : Claim7 := { stood := { row := foldPartsRow, standIns := [], harness := (true, "c0a9e254121f426f19d7d097cc1d0993bb00f6086b8a566a7857912d02f8d1a3"), looks := true }, kinds := [], alts := [], laidByText := true, laidKinds := [.data, .pinned], laidTests := true, laidLooks := .later }
def FoldPartsCardSaid : Prop := Claim7.holds Tryd.pinned (.plain (OpenSpec.ofChange foldPartsSpec)) foldPartsCard

/-- THE TIED CARD OF 'postroomkeep.LineOrder'. -/
def lineOrderCard : Claim7 := { stood := { row := lineOrderRow, standIns := [], harness := (true, "c0a9e254121f426f19d7d097cc1d0993bb00f6086b8a566a7857912d02f8d1a3"), looks := true }, kinds := [], alts := [], laidByText := true, laidKinds := [.data, .pinned], laidTests := true, laidLooks := .later }
def LineOrderCardSaid : Prop := Claim7.holds Tryd.pinned (.plain (OpenSpec.ofChange lineOrderSpec)) lineOrderCard

/-- THE TIED CARD OF 'postroomkeep.LineLetter'. -/
def lineLetterCard : Claim7 := { stood := { row := lineLetterRow, standIns := [], harness := (true, "c0a9e254121f426f19d7d097cc1d0993bb00f6086b8a566a7857912d02f8d1a3"), looks := true }, kinds := [], alts := [], laidByText := true, laidKinds := [.data, .pinned], laidTests := true, laidLooks := .later }
def LineLetterCardSaid : Prop := Claim7.holds Tryd.pinned (.plain (OpenSpec.ofChange lineLetterSpec)) lineLetterCard

/-- THE SECOND FORM's CARD OF 'postroomkeep.FoldParts'. -/
def foldPartsUptoCard : Claim7 := { stood := { row := foldPartsUptoRow, standIns := [], harness := (true, "c0a9e254121f426f19d7d097cc1d0993bb00f6086b8a566a7857912d02f8d1a3"), looks := true }, kinds := [], alts := [], laidByText := true, laidKinds := [.data, .pinned], laidTests := true, laidLooks := .later }
def FoldPartsUptoCardSaid : Prop := Claim7.holds Tryd.pinned (.plain (OpenSpec.upto foldPartsSpec)) foldPartsUptoCard

/-- THE SECOND FORM's CARD OF 'postroomkeep.LineOrder'. -/
def lineOrderUptoCard : Claim7 := { stood := { row := lineOrderUptoRow, standIns := [], harness := (true, "c0a9e254121f426f19d7d097cc1d0993bb00f6086b8a566a7857912d02f8d1a3"), looks := true }, kinds := [], alts := [], laidByText := true, laidKinds := [.data, .pinned], laidTests := true, laidLooks := .later }
def LineOrderUptoCardSaid : Prop := Claim7.holds Tryd.pinned (.plain (OpenSpec.upto lineOrderSpec)) lineOrderUptoCard

/-- THE SECOND FORM's CARD OF 'postroomkeep.LineLetter'. -/
def lineLetterUptoCard : Claim7 := { stood := { row := lineLetterUptoRow, standIns := [], harness := (true, "c0a9e254121f426f19d7d097cc1d0993bb00f6086b8a566a7857912d02f8d1a3"), looks := true }, kinds := [], alts := [], laidByText := true, laidKinds := [.data, .pinned], laidTests := true, laidLooks := .later }
def LineLetterUptoCardSaid : Prop := Claim7.holds Tryd.pinned (.plain (OpenSpec.upto lineLetterSpec)) lineLetterUptoCard
end Rows
end Go.Proofs.YtdhepaeephmhiaaDoor
