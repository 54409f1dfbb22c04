/-
  DERIVED. GIVEN WITH THE SEED: THE CARDS: each row of YtlghlcekakbmnaaDoorRows.lean that lists a variable, with what it lists TIED to the program's text (the seventh form; the later family's looks); each row that meets fmt, with fmt's text TOLD by the authors' own Lean function (tested against real Go, not proved from fmt's source: count such statements apart). THE CARD IS WHAT COUNTS. Prove the row's statement (the work); the ties are given (YtlghlcekakbmnaaDoorTie.lean); close each card by the builder's one call (the guide's Derived/Test/ToyasCard.lean, 'card_holds'). Laid BY PROGRAM, IN A SANDBOX (cutbox-door.mjs). By AI agents, Wed Nov 11 2026. No macro, syntax, notation, axiom, sorry.
-/
import Derived.Test.YtlghlcekakbmnaaDoorRows
import GoSem.ClaimSeven
namespace Go.Proofs.YtlghlcekakbmnaaDoor
namespace Rows

/-- THE TIED CARD OF 'postroomkeep.FlagsBoth'. -/
def flagsBothCard : Claim7 := { stood := { row := flagsBothRow, standIns := [], harness := (true, "a23060360fc81f6b76ec5d1cbc2bb7b616ff607ba5657b52d8dad52504b57693"), looks := false }, kinds := [], alts := [], laidByText := true, laidKinds := [.widerDeep], laidTests := true, laidLooks := .later }
def FlagsBothCardSaid : Prop := Claim7.holds Tryd.pinned (.plain (OpenSpec.ofChange flagsBothSpec)) flagsBothCard

/-- THE SECOND FORM's CARD OF 'postroomkeep.FlagsBoth'. -/
def flagsBothUptoCard : Claim7 := { stood := { row := flagsBothUptoRow, standIns := [], harness := (true, "a23060360fc81f6b76ec5d1cbc2bb7b616ff607ba5657b52d8dad52504b57693"), looks := false }, kinds := [], alts := [], laidByText := true, laidKinds := [.widerDeep], laidTests := true, laidLooks := .later }
def FlagsBothUptoCardSaid : Prop := Claim7.holds Tryd.pinned (.plain (OpenSpec.upto flagsBothSpec)) flagsBothUptoCard
end Rows
end Go.Proofs.YtlghlcekakbmnaaDoor
