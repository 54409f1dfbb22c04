/-
  DERIVED. GIVEN WITH THE SEED: THE CARDS: each row of YtmkppkjikifdlaaGreatDoorRows.lean that lists a variable, with what it lists TIED to the program's text (the seventh form; the later family's looks); each row that meets fmt, with fmt's text TOLD by the authors' own Lean function (tested against real Go, not proved from fmt's source: count such statements apart). THE CARD IS WHAT COUNTS. Prove the row's statement (the work); the ties are given (YtmkppkjikifdlaaGreatDoorTie.lean); close each card by the builder's one call (the guide's Derived/Test/ToyasCard.lean, 'card_holds'). Laid BY PROGRAM, IN A SANDBOX (cutbox-door.mjs). By AI agents, Wed Nov 11 2026. No macro, syntax, notation, axiom, sorry.
-/
import Derived.Test.YtmkppkjikifdlaaGreatDoorRows
import GoSem.ClaimSeven
namespace Go.Proofs.YtmkppkjikifdlaaGreatDoor
namespace Rows

/-- THE TIED CARD OF 'postroomtop.TopLines'. -/
def topLinesCard : Claim7 := { stood := { row := topLinesRow, standIns := [], harness := (true, "d102856fc712a6d822d49d4982f9138fb0ab238df5337b6c621793a1a6e05b79"), looks := true }, kinds := [], alts := [], laidByText := true, laidKinds := [.data, .data, .data, .data, .sentinel, .sentinel, .widerDeep, .widerDeep, .widerDeep, .widerDeep, .widerDeep, .widerDeep, .pinned], laidTests := true, laidLooks := .later }
def TopLinesCardSaid : Prop := Claim7.holds Tryz.pinned (.plain (OpenSpec.ofChange topLinesSpec)) topLinesCard

/-- THE TIED CARD OF 'postroomtop.TopRefused'. -/
def topRefusedCard : Claim7 := { stood := { row := topRefusedRow, standIns := [], harness := (true, "d102856fc712a6d822d49d4982f9138fb0ab238df5337b6c621793a1a6e05b79"), looks := true }, kinds := [], alts := [], laidByText := true, laidKinds := [.data, .data, .data, .data, .sentinel, .sentinel, .widerDeep, .widerDeep, .widerDeep, .widerDeep, .widerDeep, .widerDeep, .pinned], laidTests := true, laidLooks := .later }
def TopRefusedCardSaid : Prop := Claim7.holds Tryz.pinned (.plain (OpenSpec.ofChange topRefusedSpec)) topRefusedCard

/-- THE TIED CARD OF 'postroomtop.TopLarge'. -/
def topLargeCard : Claim7 := { stood := { row := topLargeRow, standIns := [], harness := (true, "d102856fc712a6d822d49d4982f9138fb0ab238df5337b6c621793a1a6e05b79"), looks := true }, kinds := [], alts := [], laidByText := true, laidKinds := [.data, .data, .data, .data, .sentinel, .sentinel, .widerDeep, .widerDeep, .widerDeep, .widerDeep, .widerDeep, .widerDeep, .pinned], laidTests := true, laidLooks := .later }
def TopLargeCardSaid : Prop := Claim7.holds Tryz.pinned (.plain (OpenSpec.ofChange topLargeSpec)) topLargeCard

/-- THE TIED CARD OF 'postroomtop.TopOdd'. -/
def topOddCard : Claim7 := { stood := { row := topOddRow, standIns := [], harness := (true, "d102856fc712a6d822d49d4982f9138fb0ab238df5337b6c621793a1a6e05b79"), looks := true }, kinds := [], alts := [], laidByText := true, laidKinds := [.data, .data, .data, .data, .sentinel, .sentinel, .widerDeep, .widerDeep, .widerDeep, .widerDeep, .widerDeep, .widerDeep, .pinned], laidTests := true, laidLooks := .later }
def TopOddCardSaid : Prop := Claim7.holds Tryz.pinned (.plain (OpenSpec.ofChange topOddSpec)) topOddCard

/-- THE SECOND FORM's CARD OF 'postroomtop.TopLines'. -/
def topLinesUptoCard : Claim7 := { stood := { row := topLinesUptoRow, standIns := [], harness := (true, "d102856fc712a6d822d49d4982f9138fb0ab238df5337b6c621793a1a6e05b79"), looks := true }, kinds := [], alts := [], laidByText := true, laidKinds := [.data, .data, .data, .data, .sentinel, .sentinel, .widerDeep, .widerDeep, .widerDeep, .widerDeep, .widerDeep, .widerDeep, .pinned], laidTests := true, laidLooks := .later }
def TopLinesUptoCardSaid : Prop := Claim7.holds Tryz.pinned (.plain (OpenSpec.upto topLinesSpec)) topLinesUptoCard

/-- THE SECOND FORM's CARD OF 'postroomtop.TopRefused'. -/
def topRefusedUptoCard : Claim7 := { stood := { row := topRefusedUptoRow, standIns := [], harness := (true, "d102856fc712a6d822d49d4982f9138fb0ab238df5337b6c621793a1a6e05b79"), looks := true }, kinds := [], alts := [], laidByText := true, laidKinds := [.data, .data, .data, .data, .sentinel, .sentinel, .widerDeep, .widerDeep, .widerDeep, .widerDeep, .widerDeep, .widerDeep, .pinned], laidTests := true, laidLooks := .later }
def TopRefusedUptoCardSaid : Prop := Claim7.holds Tryz.pinned (.plain (OpenSpec.upto topRefusedSpec)) topRefusedUptoCard

/-- THE SECOND FORM's CARD OF 'postroomtop.TopLarge'. -/
def topLargeUptoCard : Claim7 := { stood := { row := topLargeUptoRow, standIns := [], harness := (true, "d102856fc712a6d822d49d4982f9138fb0ab238df5337b6c621793a1a6e05b79"), looks := true }, kinds := [], alts := [], laidByText := true, laidKinds := [.data, .data, .data, .data, .sentinel, .sentinel, .widerDeep, .widerDeep, .widerDeep, .widerDeep, .widerDeep, .widerDeep, .pinned], laidTests := true, laidLooks := .later }
def TopLargeUptoCardSaid : Prop := Claim7.holds Tryz.pinned (.plain (OpenSpec.upto topLargeSpec)) topLargeUptoCard

/-- THE SECOND FORM's CARD OF 'postroomtop.TopOdd'. -/
def topOddUptoCard : Claim7 := { stood := { row := topOddUptoRow, standIns := [], harness := (true, "d102856fc712a6d822d49d4982f9138fb0ab238df5337b6c621793a1a6e05b79"), looks := true }, kinds := [], alts := [], laidByText := true, laidKinds := [.data, .data, .data, .data, .sentinel, .sentinel, .widerDeep, .widerDeep, .widerDeep, .widerDeep, .widerDeep, .widerDeep, .pinned], laidTests := true, laidLooks := .later }
def TopOddUptoCardSaid : Prop := Claim7.holds Tryz.pinned (.plain (OpenSpec.upto topOddSpec)) topOddUptoCard
end Rows
end Go.Proofs.YtmkppkjikifdlaaGreatDoor
