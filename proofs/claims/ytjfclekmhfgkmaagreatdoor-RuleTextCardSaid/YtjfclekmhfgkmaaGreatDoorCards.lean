/-
  DERIVED. GIVEN WITH THE SEED: THE CARDS: each row of YtjfclekmhfgkmaaGreatDoorRows.lean that lists a variable, with what it lists TIED to the program's text (the seventh form; the later family's looks); each row that meets fmt, with fmt's text TOLD by the authors' own Lean function (tested against real Go, not proved from fmt's source: count such statements apart). THE CARD IS WHAT COUNTS. Prove the row's statement (the work); the ties are given (YtjfclekmhfgkmaaGreatDoorTie.lean); close each card by the builder's one call (the guide's Derived/Test/ToyasCard.lean, 'card_holds'). Laid BY PROGRAM, IN A SANDBOX (cutbox-door.mjs). By AI agents, Wed Nov 11 2026. No macro, syntax, notation, axiom, sorry.
-/
import Derived.Test.YtjfclekmhfgkmaaGreatDoorRows
import GoSem.ClaimSeven
namespace Go.Proofs.YtjfclekmhfgkmaaGreatDoor
namespace Rows

/-- THE TIED CARD OF 'postroomkeep.RuleText'. -/
def ruleTextCard : Claim7 := { stood := { row := ruleTextRow, standIns := [], harness := (true, "8890dfe83d7b700977ee9e2b5ceb36c566e45200137b82fd781055f0986ddbaf"), looks := true }, kinds := [], alts := [], laidByText := true, laidKinds := [.data, .data, .data, .data, .sentinel, .sentinel, .widerDeep, .widerDeep, .widerDeep, .widerDeep, .widerDeep, .widerDeep, .pinned], laidTests := true, laidLooks := .later }
def RuleTextCardSaid : Prop := Claim7.holds Tryz.pinned (.plain (OpenSpec.ofChange ruleTextSpec)) ruleTextCard

/-- THE SECOND FORM's CARD OF 'postroomkeep.RuleText'. -/
def ruleTextUptoCard : Claim7 := { stood := { row := ruleTextUptoRow, standIns := [], harness := (true, "8890dfe83d7b700977ee9e2b5ceb36c566e45200137b82fd781055f0986ddbaf"), looks := true }, kinds := [], alts := [], laidByText := true, laidKinds := [.data, .data, .data, .data, .sentinel, .sentinel, .widerDeep, .widerDeep, .widerDeep, .widerDeep, .widerDeep, .widerDeep, .pinned], laidTests := true, laidLooks := .later }
def RuleTextUptoCardSaid : Prop := Claim7.holds Tryz.pinned (.plain (OpenSpec.upto ruleTextSpec)) ruleTextUptoCard
end Rows
end Go.Proofs.YtjfclekmhfgkmaaGreatDoor
