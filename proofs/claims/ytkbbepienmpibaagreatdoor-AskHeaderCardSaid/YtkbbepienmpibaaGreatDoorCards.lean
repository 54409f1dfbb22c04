/-
  DERIVED. GIVEN WITH THE SEED: THE CARDS: each row of YtkbbepienmpibaaGreatDoorRows.lean that lists a variable, with what it lists TIED to the program's text (the seventh form; the later family's looks); each row that meets fmt, with fmt's text TOLD by the authors' own Lean function (tested against real Go, not proved from fmt's source: count such statements apart). THE CARD IS WHAT COUNTS. Prove the row's statement (the work); the ties are given (YtkbbepienmpibaaGreatDoorTie.lean); close each card by the builder's one call (the guide's Derived/Test/ToyasCard.lean, 'card_holds'). Laid BY PROGRAM, IN A SANDBOX (cutbox-door.mjs). By AI agents, Wed Nov 11 2026. No macro, syntax, notation, axiom, sorry.
-/
import Derived.Test.YtkbbepienmpibaaGreatDoorRows
import GoSem.ClaimSeven
namespace Go.Proofs.YtkbbepienmpibaaGreatDoor
namespace Rows

/-- THE TIED CARD OF 'postroomkeep.AskLogic'. -/
def askLogicCard : Claim7 := { stood := { row := askLogicRow, standIns := [], harness := (true, "460e0052f83a5dc5e481bd5609fd2ae7dd33c26601d83b81057be20917050468"), looks := true }, kinds := [], alts := [], laidByText := true, laidKinds := [.data, .widerDeep, .widerDeep, .widerDeep, .widerDeep, .widerDeep, .widerDeep, .pinned], laidTests := true, laidLooks := .later }
def AskLogicCardSaid : Prop := Claim7.holds Tryz.pinned (.plain (OpenSpec.ofChange askLogicSpec)) askLogicCard

/-- THE TIED CARD OF 'postroomkeep.AskMore'. -/
def askMoreCard : Claim7 := { stood := { row := askMoreRow, standIns := [], harness := (true, "460e0052f83a5dc5e481bd5609fd2ae7dd33c26601d83b81057be20917050468"), looks := true }, kinds := [], alts := [], laidByText := true, laidKinds := [.data, .widerDeep, .widerDeep, .widerDeep, .widerDeep, .widerDeep, .widerDeep, .pinned], laidTests := true, laidLooks := .later }
def AskMoreCardSaid : Prop := Claim7.holds Tryz.pinned (.plain (OpenSpec.ofChange askMoreSpec)) askMoreCard

/-- THE TIED CARD OF 'postroomkeep.AskSize'. -/
def askSizeCard : Claim7 := { stood := { row := askSizeRow, standIns := [], harness := (true, "460e0052f83a5dc5e481bd5609fd2ae7dd33c26601d83b81057be20917050468"), looks := true }, kinds := [], alts := [], laidByText := true, laidKinds := [.data, .widerDeep, .widerDeep, .widerDeep, .widerDeep, .widerDeep, .widerDeep, .pinned], laidTests := true, laidLooks := .later }
def AskSizeCardSaid : Prop := Claim7.holds Tryz.pinned (.plain (OpenSpec.ofChange askSizeSpec)) askSizeCard

/-- THE TIED CARD OF 'postroomkeep.AskHeader'. -/
def askHeaderCard : Claim7 := { stood := { row := askHeaderRow, standIns := [], harness := (true, "460e0052f83a5dc5e481bd5609fd2ae7dd33c26601d83b81057be20917050468"), looks := true }, kinds := [], alts := [], laidByText := true, laidKinds := [.data, .widerDeep, .widerDeep, .widerDeep, .widerDeep, .widerDeep, .widerDeep, .pinned], laidTests := true, laidLooks := .later }
def AskHeaderCardSaid : Prop := Claim7.holds Tryz.pinned (.plain (OpenSpec.ofChange askHeaderSpec)) askHeaderCard

/-- THE TIED CARD OF 'postroomkeep.JudgeOne'. -/
def judgeOneCard : Claim7 := { stood := { row := judgeOneRow, standIns := [], harness := (true, "460e0052f83a5dc5e481bd5609fd2ae7dd33c26601d83b81057be20917050468"), looks := true }, kinds := [], alts := [], laidByText := true, laidKinds := [.data, .widerDeep, .widerDeep, .widerDeep, .widerDeep, .widerDeep, .widerDeep, .pinned], laidTests := true, laidLooks := .later }
def JudgeOneCardSaid : Prop := Claim7.holds Tryz.pinned (.plain (OpenSpec.ofChange judgeOneSpec)) judgeOneCard

/-- THE TIED CARD OF 'postroomkeep.JudgeStop'. -/
def judgeStopCard : Claim7 := { stood := { row := judgeStopRow, standIns := [], harness := (true, "460e0052f83a5dc5e481bd5609fd2ae7dd33c26601d83b81057be20917050468"), looks := true }, kinds := [], alts := [], laidByText := true, laidKinds := [.data, .widerDeep, .widerDeep, .widerDeep, .widerDeep, .widerDeep, .widerDeep, .pinned], laidTests := true, laidLooks := .later }
def JudgeStopCardSaid : Prop := Claim7.holds Tryz.pinned (.plain (OpenSpec.ofChange judgeStopSpec)) judgeStopCard

/-- THE TIED CARD OF 'postroomkeep.JudgeKept'. -/
def judgeKeptCard : Claim7 := { stood := { row := judgeKeptRow, standIns := [], harness := (true, "460e0052f83a5dc5e481bd5609fd2ae7dd33c26601d83b81057be20917050468"), looks := true }, kinds := [], alts := [], laidByText := true, laidKinds := [.data, .widerDeep, .widerDeep, .widerDeep, .widerDeep, .widerDeep, .widerDeep, .pinned], laidTests := true, laidLooks := .later }
def JudgeKeptCardSaid : Prop := Claim7.holds Tryz.pinned (.plain (OpenSpec.ofChange judgeKeptSpec)) judgeKeptCard

/-- THE TIED CARD OF 'postroomkeep.JudgeFlags'. -/
def judgeFlagsCard : Claim7 := { stood := { row := judgeFlagsRow, standIns := [], harness := (true, "460e0052f83a5dc5e481bd5609fd2ae7dd33c26601d83b81057be20917050468"), looks := true }, kinds := [], alts := [], laidByText := true, laidKinds := [.data, .widerDeep, .widerDeep, .widerDeep, .widerDeep, .widerDeep, .widerDeep, .pinned], laidTests := true, laidLooks := .later }
def JudgeFlagsCardSaid : Prop := Claim7.holds Tryz.pinned (.plain (OpenSpec.ofChange judgeFlagsSpec)) judgeFlagsCard

/-- THE SECOND FORM's CARD OF 'postroomkeep.AskLogic'. -/
def askLogicUptoCard : Claim7 := { stood := { row := askLogicUptoRow, standIns := [], harness := (true, "460e0052f83a5dc5e481bd5609fd2ae7dd33c26601d83b81057be20917050468"), looks := true }, kinds := [], alts := [], laidByText := true, laidKinds := [.data, .widerDeep, .widerDeep, .widerDeep, .widerDeep, .widerDeep, .widerDeep, .pinned], laidTests := true, laidLooks := .later }
def AskLogicUptoCardSaid : Prop := Claim7.holds Tryz.pinned (.plain (OpenSpec.upto askLogicSpec)) askLogicUptoCard

/-- THE SECOND FORM's CARD OF 'postroomkeep.AskMore'. -/
def askMoreUptoCard : Claim7 := { stood := { row := askMoreUptoRow, standIns := [], harness := (true, "460e0052f83a5dc5e481bd5609fd2ae7dd33c26601d83b81057be20917050468"), looks := true }, kinds := [], alts := [], laidByText := true, laidKinds := [.data, .widerDeep, .widerDeep, .widerDeep, .widerDeep, .widerDeep, .widerDeep, .pinned], laidTests := true, laidLooks := .later }
def AskMoreUptoCardSaid : Prop := Claim7.holds Tryz.pinned (.plain (OpenSpec.upto askMoreSpec)) askMoreUptoCard

/-- THE SECOND FORM's CARD OF 'postroomkeep.AskSize'. -/
def askSizeUptoCard : Claim7 := { stood := { row := askSizeUptoRow, standIns := [], harness := (true, "460e0052f83a5dc5e481bd5609fd2ae7dd33c26601d83b81057be20917050468"), looks := true }, kinds := [], alts := [], laidByText := true, laidKinds := [.data, .widerDeep, .widerDeep, .widerDeep, .widerDeep, .widerDeep, .widerDeep, .pinned], laidTests := true, laidLooks := .later }
def AskSizeUptoCardSaid : Prop := Claim7.holds Tryz.pinned (.plain (OpenSpec.upto askSizeSpec)) askSizeUptoCard

/-- THE SECOND FORM's CARD OF 'postroomkeep.AskHeader'. -/
def askHeaderUptoCard : Claim7 := { stood := { row := askHeaderUptoRow, standIns := [], harness := (true, "460e0052f83a5dc5e481bd5609fd2ae7dd33c26601d83b81057be20917050468"), looks := true }, kinds := [], alts := [], laidByText := true, laidKinds := [.data, .widerDeep, .widerDeep, .widerDeep, .widerDeep, .widerDeep, .widerDeep, .pinned], laidTests := true, laidLooks := .later }
def AskHeaderUptoCardSaid : Prop := Claim7.holds Tryz.pinned (.plain (OpenSpec.upto askHeaderSpec)) askHeaderUptoCard

/-- THE SECOND FORM's CARD OF 'postroomkeep.JudgeOne'. -/
def judgeOneUptoCard : Claim7 := { stood := { row := judgeOneUptoRow, standIns := [], harness := (true, "460e0052f83a5dc5e481bd5609fd2ae7dd33c26601d83b81057be20917050468"), looks := true }, kinds := [], alts := [], laidByText := true, laidKinds := [.data, .widerDeep, .widerDeep, .widerDeep, .widerDeep, .widerDeep, .widerDeep, .pinned], laidTests := true, laidLooks := .later }
def JudgeOneUptoCardSaid : Prop := Claim7.holds Tryz.pinned (.plain (OpenSpec.upto judgeOneSpec)) judgeOneUptoCard

/-- THE SECOND FORM's CARD OF 'postroomkeep.JudgeStop'. -/
def judgeStopUptoCard : Claim7 := { stood := { row := judgeStopUptoRow, standIns := [], harness := (true, "460e0052f83a5dc5e481bd5609fd2ae7dd33c26601d83b81057be20917050468"), looks := true }, kinds := [], alts := [], laidByText := true, laidKinds := [.data, .widerDeep, .widerDeep, .widerDeep, .widerDeep, .widerDeep, .widerDeep, .pinned], laidTests := true, laidLooks := .later }
def JudgeStopUptoCardSaid : Prop := Claim7.holds Tryz.pinned (.plain (OpenSpec.upto judgeStopSpec)) judgeStopUptoCard

/-- THE SECOND FORM's CARD OF 'postroomkeep.JudgeKept'. -/
def judgeKeptUptoCard : Claim7 := { stood := { row := judgeKeptUptoRow, standIns := [], harness := (true, "460e0052f83a5dc5e481bd5609fd2ae7dd33c26601d83b81057be20917050468"), looks := true }, kinds := [], alts := [], laidByText := true, laidKinds := [.data, .widerDeep, .widerDeep, .widerDeep, .widerDeep, .widerDeep, .widerDeep, .pinned], laidTests := true, laidLooks := .later }
def JudgeKeptUptoCardSaid : Prop := Claim7.holds Tryz.pinned (.plain (OpenSpec.upto judgeKeptSpec)) judgeKeptUptoCard

/-- THE SECOND FORM's CARD OF 'postroomkeep.JudgeFlags'. -/
def judgeFlagsUptoCard : Claim7 := { stood := { row := judgeFlagsUptoRow, standIns := [], harness := (true, "460e0052f83a5dc5e481bd5609fd2ae7dd33c26601d83b81057be20917050468"), looks := true }, kinds := [], alts := [], laidByText := true, laidKinds := [.data, .widerDeep, .widerDeep, .widerDeep, .widerDeep, .widerDeep, .widerDeep, .pinned], laidTests := true, laidLooks := .later }
def JudgeFlagsUptoCardSaid : Prop := Claim7.holds Tryz.pinned (.plain (OpenSpec.upto judgeFlagsSpec)) judgeFlagsUptoCard
end Rows
end Go.Proofs.YtkbbepienmpibaaGreatDoor
