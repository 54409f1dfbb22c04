/-
  DERIVED. GIVEN WITH THE SEED: THE CARDS: each row of YtpfbkdbblpppdaaGreatDoorRows.lean that lists a variable, with what it lists TIED to the program's text (the seventh form; the later family's looks); each row that meets fmt, with fmt's text TOLD by the authors' own Lean function (tested against real Go, not proved from fmt's source: count such statements apart). THE CARD IS WHAT COUNTS. Prove the row's statement (the work); the ties are given (YtpfbkdbblpppdaaGreatDoorTie.lean); close each card by the builder's one call (the guide's Derived/Test/ToyasCard.lean, 'card_holds'). Laid BY PROGRAM, IN A SANDBOX (cutbox-door.mjs). By AI agents, Wed Nov 11 2026. No macro, syntax, notation, axiom, sorry.
-/
import Derived.Test.YtpfbkdbblpppdaaGreatDoorRows
import GoSem.ClaimSeven
namespace Go.Proofs.YtpfbkdbblpppdaaGreatDoor
namespace Rows

/-- THE TIED CARD OF 'postroomkeep.AskMore'. -/
def askMoreCard : Claim7 := { stood := { row := askMoreRow, standIns := [], harness := (true, "fb6099c1c4895e7507f34b08357ca4310194297ea36f5cae7a47da764abf1d78"), looks := true }, kinds := [], alts := [], laidByText := true, laidKinds := [.data, .widerDeep, .widerDeep, .widerDeep, .widerDeep, .widerDeep, .widerDeep, .pinned], laidTests := true, laidLooks := .later }
def AskMoreCardSaid : Prop := Claim7.holds Tryz.pinned (.plain (OpenSpec.ofChange askMoreSpec)) askMoreCard

/-- THE TIED CARD OF 'postroomkeep.JudgeOne'. -/
def judgeOneCard : Claim7 := { stood := { row := judgeOneRow, standIns := [], harness := (true, "fb6099c1c4895e7507f34b08357ca4310194297ea36f5cae7a47da764abf1d78"), looks := true }, kinds := [], alts := [], laidByText := true, laidKinds := [.data, .widerDeep, .widerDeep, .widerDeep, .widerDeep, .widerDeep, .widerDeep, .pinned], laidTests := true, laidLooks := .later }
def JudgeOneCardSaid : Prop := Claim7.holds Tryz.pinned (.plain (OpenSpec.ofChange judgeOneSpec)) judgeOneCard

/-- THE TIED CARD OF 'postroomkeep.JudgeStop'. -/
def judgeStopCard : Claim7 := { stood := { row := judgeStopRow, standIns := [], harness := (true, "fb6099c1c4895e7507f34b08357ca4310194297ea36f5cae7a47da764abf1d78"), looks := true }, kinds := [], alts := [], laidByText := true, laidKinds := [.data, .widerDeep, .widerDeep, .widerDeep, .widerDeep, .widerDeep, .widerDeep, .pinned], laidTests := true, laidLooks := .later }
def JudgeStopCardSaid : Prop := Claim7.holds Tryz.pinned (.plain (OpenSpec.ofChange judgeStopSpec)) judgeStopCard

/-- THE TIED CARD OF 'postroomkeep.JudgeKept'. -/
def judgeKeptCard : Claim7 := { stood := { row := judgeKeptRow, standIns := [], harness := (true, "fb6099c1c4895e7507f34b08357ca4310194297ea36f5cae7a47da764abf1d78"), looks := true }, kinds := [], alts := [], laidByText := true, laidKinds := [.data, .widerDeep, .widerDeep, .widerDeep, .widerDeep, .widerDeep, .widerDeep, .pinned], laidTests := true, laidLooks := .later }
def JudgeKeptCardSaid : Prop := Claim7.holds Tryz.pinned (.plain (OpenSpec.ofChange judgeKeptSpec)) judgeKeptCard

/-- THE TIED CARD OF 'postroomkeep.JudgeFlags'. -/
def judgeFlagsCard : Claim7 := { stood := { row := judgeFlagsRow, standIns := [], harness := (true, "fb6099c1c4895e7507f34b08357ca4310194297ea36f5cae7a47da764abf1d78"), looks := true }, kinds := [], alts := [], laidByText := true, laidKinds := [.data, .widerDeep, .widerDeep, .widerDeep, .widerDeep, .widerDeep, .widerDeep, .pinned], laidTests := true, laidLooks := .later }
def JudgeFlagsCardSaid : Prop := Claim7.holds Tryz.pinned (.plain (OpenSpec.ofChange judgeFlagsSpec)) judgeFlagsCard

/-- THE TIED CARD OF 'postroomkeep.DeliverWhole'. -/
def deliverWholeCard : Claim7 := { stood := { row := deliverWholeRow, standIns := [], harness := (true, "fb6099c1c4895e7507f34b08357ca4310194297ea36f5cae7a47da764abf1d78"), looks := true }, kinds := [], alts := [], laidByText := true, laidKinds := [.data, .widerDeep, .widerDeep, .widerDeep, .widerDeep, .widerDeep, .widerDeep, .pinned], laidTests := true, laidLooks := .later }
def DeliverWholeCardSaid : Prop := Claim7.holds Tryz.pinned (.plain (OpenSpec.ofChange deliverWholeSpec)) deliverWholeCard

/-- THE TIED CARD OF 'postroomkeep.DeliverKept'. -/
def deliverKeptCard : Claim7 := { stood := { row := deliverKeptRow, standIns := [], harness := (true, "fb6099c1c4895e7507f34b08357ca4310194297ea36f5cae7a47da764abf1d78"), looks := true }, kinds := [], alts := [], laidByText := true, laidKinds := [.data, .widerDeep, .widerDeep, .widerDeep, .widerDeep, .widerDeep, .widerDeep, .pinned], laidTests := true, laidLooks := .later }
def DeliverKeptCardSaid : Prop := Claim7.holds Tryz.pinned (.plain (OpenSpec.ofChange deliverKeptSpec)) deliverKeptCard

/-- THE TIED CARD OF 'postroomkeep.DeliverNone'. -/
def deliverNoneCard : Claim7 := { stood := { row := deliverNoneRow, standIns := [], harness := (true, "fb6099c1c4895e7507f34b08357ca4310194297ea36f5cae7a47da764abf1d78"), looks := true }, kinds := [], alts := [], laidByText := true, laidKinds := [.data, .widerDeep, .widerDeep, .widerDeep, .widerDeep, .widerDeep, .widerDeep, .pinned], laidTests := true, laidLooks := .later }
def DeliverNoneCardSaid : Prop := Claim7.holds Tryz.pinned (.plain (OpenSpec.ofChange deliverNoneSpec)) deliverNoneCard

/-- THE TIED CARD OF 'postroomkeep.DeliverNew'. -/
def deliverNewCard : Claim7 := { stood := { row := deliverNewRow, standIns := [], harness := (true, "fb6099c1c4895e7507f34b08357ca4310194297ea36f5cae7a47da764abf1d78"), looks := true }, kinds := [], alts := [], laidByText := true, laidKinds := [.data, .widerDeep, .widerDeep, .widerDeep, .widerDeep, .widerDeep, .widerDeep, .pinned], laidTests := true, laidLooks := .later }
def DeliverNewCardSaid : Prop := Claim7.holds Tryz.pinned (.plain (OpenSpec.ofChange deliverNewSpec)) deliverNewCard

/-- THE TIED CARD OF 'postroomkeep.DeliverReject'. -/
def deliverRejectCard : Claim7 := { stood := { row := deliverRejectRow, standIns := [], harness := (true, "fb6099c1c4895e7507f34b08357ca4310194297ea36f5cae7a47da764abf1d78"), looks := true }, kinds := [], alts := [], laidByText := true, laidKinds := [.data, .widerDeep, .widerDeep, .widerDeep, .widerDeep, .widerDeep, .widerDeep, .pinned], laidTests := true, laidLooks := .later }
def DeliverRejectCardSaid : Prop := Claim7.holds Tryz.pinned (.plain (OpenSpec.ofChange deliverRejectSpec)) deliverRejectCard

/-- THE TIED CARD OF 'postroomkeep.RuleText'. -/
def ruleTextCard : Claim7 := { stood := { row := ruleTextRow, standIns := [], harness := (true, "fb6099c1c4895e7507f34b08357ca4310194297ea36f5cae7a47da764abf1d78"), looks := true }, kinds := [], alts := [], laidByText := true, laidKinds := [.data, .data, .data, .data, .sentinel, .sentinel, .widerDeep, .widerDeep, .widerDeep, .widerDeep, .widerDeep, .widerDeep, .pinned], laidTests := true, laidLooks := .later }
def RuleTextCardSaid : Prop := Claim7.holds Tryz.pinned (.plain (OpenSpec.ofChange ruleTextSpec)) ruleTextCard

/-- THE SECOND FORM's CARD OF 'postroomkeep.AskMore'. -/
def askMoreUptoCard : Claim7 := { stood := { row := askMoreUptoRow, standIns := [], harness := (true, "fb6099c1c4895e7507f34b08357ca4310194297ea36f5cae7a47da764abf1d78"), looks := true }, kinds := [], alts := [], laidByText := true, laidKinds := [.data, .widerDeep, .widerDeep, .widerDeep, .widerDeep, .widerDeep, .widerDeep, .pinned], laidTests := true, laidLooks := .later }
def AskMoreUptoCardSaid : Prop := Claim7.holds Tryz.pinned (.plain (OpenSpec.upto askMoreSpec)) askMoreUptoCard

/-- THE SECOND FORM's CARD OF 'postroomkeep.JudgeOne'. -/
def judgeOneUptoCard : Claim7 := { stood := { row := judgeOneUptoRow, standIns := [], harness := (true, "fb6099c1c4895e7507f34b08357ca4310194297ea36f5cae7a47da764abf1d78"), looks := true }, kinds := [], alts := [], laidByText := true, laidKinds := [.data, .widerDeep, .widerDeep, .widerDeep, .widerDeep, .widerDeep, .widerDeep, .pinned], laidTests := true, laidLooks := .later }
def JudgeOneUptoCardSaid : Prop := Claim7.holds Tryz.pinned (.plain (OpenSpec.upto judgeOneSpec)) judgeOneUptoCard

/-- THE SECOND FORM's CARD OF 'postroomkeep.JudgeStop'. -/
def judgeStopUptoCard : Claim7 := { stood := { row := judgeStopUptoRow, standIns := [], harness := (true, "fb6099c1c4895e7507f34b08357ca4310194297ea36f5cae7a47da764abf1d78"), looks := true }, kinds := [], alts := [], laidByText := true, laidKinds := [.data, .widerDeep, .widerDeep, .widerDeep, .widerDeep, .widerDeep, .widerDeep, .pinned], laidTests := true, laidLooks := .later }
def JudgeStopUptoCardSaid : Prop := Claim7.holds Tryz.pinned (.plain (OpenSpec.upto judgeStopSpec)) judgeStopUptoCard

/-- THE SECOND FORM's CARD OF 'postroomkeep.JudgeKept'. -/
def judgeKeptUptoCard : Claim7 := { stood := { row := judgeKeptUptoRow, standIns := [], harness := (true, "fb6099c1c4895e7507f34b08357ca4310194297ea36f5cae7a47da764abf1d78"), looks := true }, kinds := [], alts := [], laidByText := true, laidKinds := [.data, .widerDeep, .widerDeep, .widerDeep, .widerDeep, .widerDeep, .widerDeep, .pinned], laidTests := true, laidLooks := .later }
def JudgeKeptUptoCardSaid : Prop := Claim7.holds Tryz.pinned (.plain (OpenSpec.upto judgeKeptSpec)) judgeKeptUptoCard

/-- THE SECOND FORM's CARD OF 'postroomkeep.JudgeFlags'. -/
def judgeFlagsUptoCard : Claim7 := { stood := { row := judgeFlagsUptoRow, standIns := [], harness := (true, "fb6099c1c4895e7507f34b08357ca4310194297ea36f5cae7a47da764abf1d78"), looks := true }, kinds := [], alts := [], laidByText := true, laidKinds := [.data, .widerDeep, .widerDeep, .widerDeep, .widerDeep, .widerDeep, .widerDeep, .pinned], laidTests := true, laidLooks := .later }
def JudgeFlagsUptoCardSaid : Prop := Claim7.holds Tryz.pinned (.plain (OpenSpec.upto judgeFlagsSpec)) judgeFlagsUptoCard

/-- THE SECOND FORM's CARD OF 'postroomkeep.DeliverWhole'. -/
def deliverWholeUptoCard : Claim7 := { stood := { row := deliverWholeUptoRow, standIns := [], harness := (true, "fb6099c1c4895e7507f34b08357ca4310194297ea36f5cae7a47da764abf1d78"), looks := true }, kinds := [], alts := [], laidByText := true, laidKinds := [.data, .widerDeep, .widerDeep, .widerDeep, .widerDeep, .widerDeep, .widerDeep, .pinned], laidTests := true, laidLooks := .later }
def DeliverWholeUptoCardSaid : Prop := Claim7.holds Tryz.pinned (.plain (OpenSpec.upto deliverWholeSpec)) deliverWholeUptoCard

/-- THE SECOND FORM's CARD OF 'postroomkeep.DeliverKept'. -/
def deliverKeptUptoCard : Claim7 := { stood := { row := deliverKeptUptoRow, standIns := [], harness := (true, "fb6099c1c4895e7507f34b08357ca4310194297ea36f5cae7a47da764abf1d78"), looks := true }, kinds := [], alts := [], laidByText := true, laidKinds := [.data, .widerDeep, .widerDeep, .widerDeep, .widerDeep, .widerDeep, .widerDeep, .pinned], laidTests := true, laidLooks := .later }
def DeliverKeptUptoCardSaid : Prop := Claim7.holds Tryz.pinned (.plain (OpenSpec.upto deliverKeptSpec)) deliverKeptUptoCard

/-- THE SECOND FORM's CARD OF 'postroomkeep.DeliverNone'. -/
def deliverNoneUptoCard : Claim7 := { stood := { row := deliverNoneUptoRow, standIns := [], harness := (true, "fb6099c1c4895e7507f34b08357ca4310194297ea36f5cae7a47da764abf1d78"), looks := true }, kinds := [], alts := [], laidByText := true, laidKinds := [.data, .widerDeep, .widerDeep, .widerDeep, .widerDeep, .widerDeep, .widerDeep, .pinned], laidTests := true, laidLooks := .later }
def DeliverNoneUptoCardSaid : Prop := Claim7.holds Tryz.pinned (.plain (OpenSpec.upto deliverNoneSpec)) deliverNoneUptoCard

/-- THE SECOND FORM's CARD OF 'postroomkeep.DeliverNew'. -/
def deliverNewUptoCard : Claim7 := { stood := { row := deliverNewUptoRow, standIns := [], harness := (true, "fb6099c1c4895e7507f34b08357ca4310194297ea36f5cae7a47da764abf1d78"), looks := true }, kinds := [], alts := [], laidByText := true, laidKinds := [.data, .widerDeep, .widerDeep, .widerDeep, .widerDeep, .widerDeep, .widerDeep, .pinned], laidTests := true, laidLooks := .later }
def DeliverNewUptoCardSaid : Prop := Claim7.holds Tryz.pinned (.plain (OpenSpec.upto deliverNewSpec)) deliverNewUptoCard

/-- THE SECOND FORM's CARD OF 'postroomkeep.DeliverReject'. -/
def deliverRejectUptoCard : Claim7 := { stood := { row := deliverRejectUptoRow, standIns := [], harness := (true, "fb6099c1c4895e7507f34b08357ca4310194297ea36f5cae7a47da764abf1d78"), looks := true }, kinds := [], alts := [], laidByText := true, laidKinds := [.data, .widerDeep, .widerDeep, .widerDeep, .widerDeep, .widerDeep, .widerDeep, .pinned], laidTests := true, laidLooks := .later }
def DeliverRejectUptoCardSaid : Prop := Claim7.holds Tryz.pinned (.plain (OpenSpec.upto deliverRejectSpec)) deliverRejectUptoCard

/-- THE SECOND FORM's CARD OF 'postroomkeep.RuleText'. -/
def ruleTextUptoCard : Claim7 := { stood := { row := ruleTextUptoRow, standIns := [], harness := (true, "fb6099c1c4895e7507f34b08357ca4310194297ea36f5cae7a47da764abf1d78"), looks := true }, kinds := [], alts := [], laidByText := true, laidKinds := [.data, .data, .data, .data, .sentinel, .sentinel, .widerDeep, .widerDeep, .widerDeep, .widerDeep, .widerDeep, .widerDeep, .pinned], laidTests := true, laidLooks := .later }
def RuleTextUptoCardSaid : Prop := Claim7.holds Tryz.pinned (.plain (OpenSpec.upto ruleTextSpec)) ruleTextUptoCard
end Rows
end Go.Proofs.YtpfbkdbblpppdaaGreatDoor
