/-
  DERIVED. GIVEN WITH THE SEED: THE CARDS: each row of YtobdokabelilmaaDoorRows.lean that lists a variable, with what it lists TIED to the program's text (the seventh form; the later family's looks); each row that meets fmt, with fmt's text TOLD by the authors' own Lean function (tested against real Go, not proved from fmt's source: count such statements apart). THE CARD IS WHAT COUNTS. Prove the row's statement (the work); the ties are given (YtobdokabelilmaaDoorTie.lean); close each card by the builder's one call (the guide's Derived/Test/ToyasCard.lean, 'card_holds'). Laid BY PROGRAM, IN A SANDBOX (cutbox-door.mjs). By AI agents, Wed Nov 11 2026. No macro, syntax, notation, axiom, sorry.
-/
import Derived.Test.YtobdokabelilmaaDoorRows
import GoSem.ClaimSeven
namespace Go.Proofs.YtobdokabelilmaaDoor
namespace Rows

/-- THE TIED CARD OF 'postroomkeep.ScriptDeep'. -/
def scriptDeepCard : Claim7 := { stood := { row := scriptDeepRow, standIns := [], harness := (true, "b10397542b251b7e77c9c36541e01aa19267f1ae782968730cb536f03c2c2cb3"), looks := true }, kinds := [], alts := [], laidByText := true, laidKinds := [.widerDeep, .widerDeep, .widerDeep, .widerDeep], laidTests := true, laidLooks := .later }
def ScriptDeepCardSaid : Prop := Claim7.holds Tryd.pinned (.plain (OpenSpec.ofChange scriptDeepSpec)) scriptDeepCard

/-- THE TIED CARD OF 'postroomkeep.ScriptElse'. -/
def scriptElseCard : Claim7 := { stood := { row := scriptElseRow, standIns := [], harness := (true, "b10397542b251b7e77c9c36541e01aa19267f1ae782968730cb536f03c2c2cb3"), looks := true }, kinds := [], alts := [], laidByText := true, laidKinds := [.widerDeep, .widerDeep, .widerDeep, .widerDeep], laidTests := true, laidLooks := .later }
def ScriptElseCardSaid : Prop := Claim7.holds Tryd.pinned (.plain (OpenSpec.ofChange scriptElseSpec)) scriptElseCard

/-- THE TIED CARD OF 'postroomkeep.ScriptBack'. -/
def scriptBackCard : Claim7 := { stood := { row := scriptBackRow, standIns := [], harness := (true, "b10397542b251b7e77c9c36541e01aa19267f1ae782968730cb536f03c2c2cb3"), looks := true }, kinds := [], alts := [], laidByText := true, laidKinds := [.widerDeep, .widerDeep, .widerDeep, .widerDeep], laidTests := true, laidLooks := .later }
def ScriptBackCardSaid : Prop := Claim7.holds Tryd.pinned (.plain (OpenSpec.ofChange scriptBackSpec)) scriptBackCard

/-- THE TIED CARD OF 'postroomkeep.ScriptFixed'. -/
def scriptFixedCard : Claim7 := { stood := { row := scriptFixedRow, standIns := [], harness := (true, "b10397542b251b7e77c9c36541e01aa19267f1ae782968730cb536f03c2c2cb3"), looks := true }, kinds := [], alts := [], laidByText := true, laidKinds := [.widerDeep, .widerDeep, .widerDeep, .widerDeep], laidTests := true, laidLooks := .later }
def ScriptFixedCardSaid : Prop := Claim7.holds Tryd.pinned (.plain (OpenSpec.ofChange scriptFixedSpec)) scriptFixedCard

/-- THE TIED CARD OF 'postroomkeep.ScriptTorn'. -/
def scriptTornCard : Claim7 := { stood := { row := scriptTornRow, standIns := [], harness := (true, "b10397542b251b7e77c9c36541e01aa19267f1ae782968730cb536f03c2c2cb3"), looks := true }, kinds := [], alts := [], laidByText := true, laidKinds := [.widerDeep, .widerDeep, .widerDeep, .widerDeep], laidTests := true, laidLooks := .later }
def ScriptTornCardSaid : Prop := Claim7.holds Tryd.pinned (.plain (OpenSpec.ofChange scriptTornSpec)) scriptTornCard

/-- THE TIED CARD OF 'postroomkeep.RuleAllowed'. -/
def ruleAllowedCard : Claim7 := { stood := { row := ruleAllowedRow, standIns := [], harness := (true, "b10397542b251b7e77c9c36541e01aa19267f1ae782968730cb536f03c2c2cb3"), looks := true }, kinds := [], alts := [], laidByText := true, laidKinds := [.data, .widerDeep, .widerDeep, .widerDeep, .widerDeep, .widerDeep, .widerDeep, .pinned], laidTests := true, laidLooks := .later }
def RuleAllowedCardSaid : Prop := Claim7.holds Tryd.pinned (.plain (OpenSpec.ofChange ruleAllowedSpec)) ruleAllowedCard

/-- THE TIED CARD OF 'postroomkeep.RuleNeeds'. -/
def ruleNeedsCard : Claim7 := { stood := { row := ruleNeedsRow, standIns := [], harness := (true, "b10397542b251b7e77c9c36541e01aa19267f1ae782968730cb536f03c2c2cb3"), looks := true }, kinds := [], alts := [], laidByText := true, laidKinds := [.data, .widerDeep, .widerDeep, .widerDeep, .widerDeep, .widerDeep, .widerDeep, .pinned], laidTests := true, laidLooks := .later }
def RuleNeedsCardSaid : Prop := Claim7.holds Tryd.pinned (.plain (OpenSpec.ofChange ruleNeedsSpec)) ruleNeedsCard

/-- THE TIED CARD OF 'postroomkeep.RuleLate'. -/
def ruleLateCard : Claim7 := { stood := { row := ruleLateRow, standIns := [], harness := (true, "b10397542b251b7e77c9c36541e01aa19267f1ae782968730cb536f03c2c2cb3"), looks := true }, kinds := [], alts := [], laidByText := true, laidKinds := [.data, .widerDeep, .widerDeep, .widerDeep, .widerDeep, .widerDeep, .widerDeep, .pinned], laidTests := true, laidLooks := .later }
def RuleLateCardSaid : Prop := Claim7.holds Tryd.pinned (.plain (OpenSpec.ofChange ruleLateSpec)) ruleLateCard

/-- THE TIED CARD OF 'postroomkeep.CodeCount'. -/
def codeCountCard : Claim7 := { stood := { row := codeCountRow, standIns := [], harness := (true, "b10397542b251b7e77c9c36541e01aa19267f1ae782968730cb536f03c2c2cb3"), looks := true }, kinds := [], alts := [], laidByText := true, laidKinds := [.data, .widerDeep, .widerDeep, .widerDeep, .widerDeep, .widerDeep, .widerDeep, .pinned], laidTests := true, laidLooks := .later }
def CodeCountCardSaid : Prop := Claim7.holds Tryd.pinned (.plain (OpenSpec.ofChange codeCountSpec)) codeCountCard

/-- THE SECOND FORM's CARD OF 'postroomkeep.ScriptDeep'. -/
def scriptDeepUptoCard : Claim7 := { stood := { row := scriptDeepUptoRow, standIns := [], harness := (true, "b10397542b251b7e77c9c36541e01aa19267f1ae782968730cb536f03c2c2cb3"), looks := true }, kinds := [], alts := [], laidByText := true, laidKinds := [.widerDeep, .widerDeep, .widerDeep, .widerDeep], laidTests := true, laidLooks := .later }
def ScriptDeepUptoCardSaid : Prop := Claim7.holds Tryd.pinned (.plain (OpenSpec.upto scriptDeepSpec)) scriptDeepUptoCard

/-- THE SECOND FORM's CARD OF 'postroomkeep.ScriptElse'. -/
def scriptElseUptoCard : Claim7 := { stood := { row := scriptElseUptoRow, standIns := [], harness := (true, "b10397542b251b7e77c9c36541e01aa19267f1ae782968730cb536f03c2c2cb3"), looks := true }, kinds := [], alts := [], laidByText := true, laidKinds := [.widerDeep, .widerDeep, .widerDeep, .widerDeep], laidTests := true, laidLooks := .later }
def ScriptElseUptoCardSaid : Prop := Claim7.holds Tryd.pinned (.plain (OpenSpec.upto scriptElseSpec)) scriptElseUptoCard

/-- THE SECOND FORM's CARD OF 'postroomkeep.ScriptBack'. -/
def scriptBackUptoCard : Claim7 := { stood := { row := scriptBackUptoRow, standIns := [], harness := (true, "b10397542b251b7e77c9c36541e01aa19267f1ae782968730cb536f03c2c2cb3"), looks := true }, kinds := [], alts := [], laidByText := true, laidKinds := [.widerDeep, .widerDeep, .widerDeep, .widerDeep], laidTests := true, laidLooks := .later }
def ScriptBackUptoCardSaid : Prop := Claim7.holds Tryd.pinned (.plain (OpenSpec.upto scriptBackSpec)) scriptBackUptoCard

/-- THE SECOND FORM's CARD OF 'postroomkeep.ScriptFixed'. -/
def scriptFixedUptoCard : Claim7 := { stood := { row := scriptFixedUptoRow, standIns := [], harness := (true, "b10397542b251b7e77c9c36541e01aa19267f1ae782968730cb536f03c2c2cb3"), looks := true }, kinds := [], alts := [], laidByText := true, laidKinds := [.widerDeep, .widerDeep, .widerDeep, .widerDeep], laidTests := true, laidLooks := .later }
def ScriptFixedUptoCardSaid : Prop := Claim7.holds Tryd.pinned (.plain (OpenSpec.upto scriptFixedSpec)) scriptFixedUptoCard

/-- THE SECOND FORM's CARD OF 'postroomkeep.ScriptTorn'. -/
def scriptTornUptoCard : Claim7 := { stood := { row := scriptTornUptoRow, standIns := [], harness := (true, "b10397542b251b7e77c9c36541e01aa19267f1ae782968730cb536f03c2c2cb3"), looks := true }, kinds := [], alts := [], laidByText := true, laidKinds := [.widerDeep, .widerDeep, .widerDeep, .widerDeep], laidTests := true, laidLooks := .later }
def ScriptTornUptoCardSaid : Prop := Claim7.holds Tryd.pinned (.plain (OpenSpec.upto scriptTornSpec)) scriptTornUptoCard

/-- THE SECOND FORM's CARD OF 'postroomkeep.RuleAllowed'. -/
def ruleAllowedUptoCard : Claim7 := { stood := { row := ruleAllowedUptoRow, standIns := [], harness := (true, "b10397542b251b7e77c9c36541e01aa19267f1ae782968730cb536f03c2c2cb3"), looks := true }, kinds := [], alts := [], laidByText := true, laidKinds := [.data, .widerDeep, .widerDeep, .widerDeep, .widerDeep, .widerDeep, .widerDeep, .pinned], laidTests := true, laidLooks := .later }
def RuleAllowedUptoCardSaid : Prop := Claim7.holds Tryd.pinned (.plain (OpenSpec.upto ruleAllowedSpec)) ruleAllowedUptoCard

/-- THE SECOND FORM's CARD OF 'postroomkeep.RuleNeeds'. -/
def ruleNeedsUptoCard : Claim7 := { stood := { row := ruleNeedsUptoRow, standIns := [], harness := (true, "b10397542b251b7e77c9c36541e01aa19267f1ae782968730cb536f03c2c2cb3"), looks := true }, kinds := [], alts := [], laidByText := true, laidKinds := [.data, .widerDeep, .widerDeep, .widerDeep, .widerDeep, .widerDeep, .widerDeep, .pinned], laidTests := true, laidLooks := .later }
def RuleNeedsUptoCardSaid : Prop := Claim7.holds Tryd.pinned (.plain (OpenSpec.upto ruleNeedsSpec)) ruleNeedsUptoCard

/-- THE SECOND FORM's CARD OF 'postroomkeep.RuleLate'. -/
def ruleLateUptoCard : Claim7 := { stood := { row := ruleLateUptoRow, standIns := [], harness := (true, "b10397542b251b7e77c9c36541e01aa19267f1ae782968730cb536f03c2c2cb3"), looks := true }, kinds := [], alts := [], laidByText := true, laidKinds := [.data, .widerDeep, .widerDeep, .widerDeep, .widerDeep, .widerDeep, .widerDeep, .pinned], laidTests := true, laidLooks := .later }
def RuleLateUptoCardSaid : Prop := Claim7.holds Tryd.pinned (.plain (OpenSpec.upto ruleLateSpec)) ruleLateUptoCard

/-- THE SECOND FORM's CARD OF 'postroomkeep.CodeCount'. -/
def codeCountUptoCard : Claim7 := { stood := { row := codeCountUptoRow, standIns := [], harness := (true, "b10397542b251b7e77c9c36541e01aa19267f1ae782968730cb536f03c2c2cb3"), looks := true }, kinds := [], alts := [], laidByText := true, laidKinds := [.data, .widerDeep, .widerDeep, .widerDeep, .widerDeep, .widerDeep, .widerDeep, .pinned], laidTests := true, laidLooks := .later }
def CodeCountUptoCardSaid : Prop := Claim7.holds Tryd.pinned (.plain (OpenSpec.upto codeCountSpec)) codeCountUptoCard
end Rows
end Go.Proofs.YtobdokabelilmaaDoor
