/-
  DERIVED. GIVEN WITH THE SEED: THE CARDS: each row of YtlgbmnmoobpkkaaDoorRows.lean that lists a variable, with what it lists TIED to the program's text (the seventh form; the later family's looks); each row that meets fmt, with fmt's text TOLD by the authors' own Lean function (tested against real Go, not proved from fmt's source: count such statements apart). THE CARD IS WHAT COUNTS. Prove the row's statement (the work); the ties are given (YtlgbmnmoobpkkaaDoorTie.lean); close each card by the builder's one call (the guide's Derived/Test/ToyasCard.lean, 'card_holds'). Laid BY PROGRAM, IN A SANDBOX (cutbox-door.mjs). By AI agents, Wed Nov 11 2026. No macro, syntax, notation, axiom, sorry.
-/
import Derived.Test.YtlgbmnmoobpkkaaDoorRows
import GoSem.ClaimSeven
namespace Go.Proofs.YtlgbmnmoobpkkaaDoor
namespace Rows

/-- THE TIED CARD OF 'postroomkeep.ScriptBack'. -/
def scriptBackCard : Claim7 := { stood := { row := scriptBackRow, standIns := [], harness := (true, "5f239df5d4ee95743849e9ecca0b4a7e77574d931fae4368f881b337c6b8f214"), looks := true }, kinds := [], alts := [], laidByText := true, laidKinds := [.widerDeep, .widerDeep, .widerDeep, .widerDeep], laidTests := true, laidLooks := .later }
def ScriptBackCardSaid : Prop := Claim7.holds Tryd.pinned (.plain (OpenSpec.ofChange scriptBackSpec)) scriptBackCard

/-- THE TIED CARD OF 'postroomkeep.ScriptFixed'. -/
def scriptFixedCard : Claim7 := { stood := { row := scriptFixedRow, standIns := [], harness := (true, "5f239df5d4ee95743849e9ecca0b4a7e77574d931fae4368f881b337c6b8f214"), looks := true }, kinds := [], alts := [], laidByText := true, laidKinds := [.widerDeep, .widerDeep, .widerDeep, .widerDeep], laidTests := true, laidLooks := .later }
def ScriptFixedCardSaid : Prop := Claim7.holds Tryd.pinned (.plain (OpenSpec.ofChange scriptFixedSpec)) scriptFixedCard

/-- THE TIED CARD OF 'postroomkeep.ScriptTags'. -/
def scriptTagsCard : Claim7 := { stood := { row := scriptTagsRow, standIns := [], harness := (true, "5f239df5d4ee95743849e9ecca0b4a7e77574d931fae4368f881b337c6b8f214"), looks := true }, kinds := [], alts := [], laidByText := true, laidKinds := [.data, .data, .data, .sentinel, .sentinel, .widerDeep, .widerDeep, .widerDeep, .widerDeep], laidTests := true, laidLooks := .later }
def ScriptTagsCardSaid : Prop := Claim7.holds Tryd.pinned (.plain (OpenSpec.ofChange scriptTagsSpec)) scriptTagsCard

/-- THE SECOND FORM's CARD OF 'postroomkeep.ScriptBack'. -/
def scriptBackUptoCard : Claim7 := { stood := { row := scriptBackUptoRow, standIns := [], harness := (true, "5f239df5d4ee95743849e9ecca0b4a7e77574d931fae4368f881b337c6b8f214"), looks := true }, kinds := [], alts := [], laidByText := true, laidKinds := [.widerDeep, .widerDeep, .widerDeep, .widerDeep], laidTests := true, laidLooks := .later }
def ScriptBackUptoCardSaid : Prop := Claim7.holds Tryd.pinned (.plain (OpenSpec.upto scriptBackSpec)) scriptBackUptoCard

/-- THE SECOND FORM's CARD OF 'postroomkeep.ScriptFixed'. -/
def scriptFixedUptoCard : Claim7 := { stood := { row := scriptFixedUptoRow, standIns := [], harness := (true, "5f239df5d4ee95743849e9ecca0b4a7e77574d931fae4368f881b337c6b8f214"), looks := true }, kinds := [], alts := [], laidByText := true, laidKinds := [.widerDeep, .widerDeep, .widerDeep, .widerDeep], laidTests := true, laidLooks := .later }
def ScriptFixedUptoCardSaid : Prop := Claim7.holds Tryd.pinned (.plain (OpenSpec.upto scriptFixedSpec)) scriptFixedUptoCard

/-- THE SECOND FORM's CARD OF 'postroomkeep.ScriptTags'. -/
def scriptTagsUptoCard : Claim7 := { stood := { row := scriptTagsUptoRow, standIns := [], harness := (true, "5f239df5d4ee95743849e9ecca0b4a7e77574d931fae4368f881b337c6b8f214"), looks := true }, kinds := [], alts := [], laidByText := true, laidKinds := [.data, .data, .data, .sentinel, .sentinel, .widerDeep, .widerDeep, .widerDeep, .widerDeep], laidTests := true, laidLooks := .later }
def ScriptTagsUptoCardSaid : Prop := Claim7.holds Tryd.pinned (.plain (OpenSpec.upto scriptTagsSpec)) scriptTagsUptoCard
end Rows
end Go.Proofs.YtlgbmnmoobpkkaaDoor
