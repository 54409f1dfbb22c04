/-
  NARROWER THAN 'FOR EVERY INPUT', by the rows' own cells (each row's printed sentence says how): AskLogic: loops, laid · AskMore: loops, laid · AskSize: laid · AskHeader: laid · JudgeOne: loops, laid · JudgeStop: loops, laid · JudgeKept: loops, laid · JudgeFlags: laid.
  DERIVED. THE GIVEN ROWS OF THIS SEAT. 8 by the template 'for every input the law returns true; each argument reads behind the call as it read before'; 0 by the template 'total and deterministic' (their statements: YtkbbepienmpibaaGreatDoorTotals.lean).
  GIVEN WITH THE SEED: the statements are not yours to turn. If you find one false, say at which input.
  Laid BY PROGRAM, IN A SANDBOX (cutbox-rows.mjs): the forced cells as the released guide's own fill.sh prints them over the translation 6ee9411c05043bf5… (all of the seat's roots in one cut). By AI agents, Wed Nov 11 2026. No macro, syntax, notation, axiom, sorry.
-/
import Derived.Test.YtkbbepienmpibaaGreatDoorChecked
import GoSem.PinnedTables
import GoSem.Claim
import GoSem.ClaimJoined
import GoSem.ClaimMapViews
import Derived.JoinedTies
import Derived.KernelRfl
namespace Go.Proofs.YtkbbepienmpibaaGreatDoor
/- THE CELL 'sum', in the pinned program and in every row, IS THE sha256 OF THE DUMP (.gsa) THAT YtkbbepienmpibaaGreatDoorProg.lean LOADS. Nothing in Lean hashes anything: it is a label: what it is worth is what the hold of that sum in a sandbox is worth. -/
noncomputable def Tryz.pinned : Pinned := { name := "ytkbbepienmpibaagreatdoor", sum := "6ee9411c05043bf574920e0a2d2e51c794b04d799f8e4ed65e8bc93a91d59dc3", checked := Tryz.checked }
namespace Rows
def none {H : Type} : Left H := { results := [], args := [] }

/- WHAT THE LISTED PACKAGE-LEVEL VARIABLES READ AS WHEN THE CALL BEGINS. Each datum BY PROGRAM (the guide's laid-datum.mjs) off the statement by which the dump's own 'gosem.cut.vars' lays the variable. In a bare row this is a premise. The card (YtkbbepienmpibaaGreatDoorCards.lean) ties it to the program's text. -/
def laid_unicode_utf8_acceptRanges {H : Type} : DataW H := .agg [.agg [.lit (.int .u8 128), .lit (.int .u8 191)], .agg [.lit (.int .u8 160), .lit (.int .u8 191)], .agg [.lit (.int .u8 128), .lit (.int .u8 159)], .agg [.lit (.int .u8 144), .lit (.int .u8 191)], .agg [.lit (.int .u8 128), .lit (.int .u8 143)], .agg [.lit (.int .u8 0), .lit (.int .u8 0)], .agg [.lit (.int .u8 0), .lit (.int .u8 0)], .agg [.lit (.int .u8 0), .lit (.int .u8 0)], .agg [.lit (.int .u8 0), .lit (.int .u8 0)], .agg [.lit (.int .u8 0), .lit (.int .u8 0)], .agg [.lit (.int .u8 0), .lit (.int .u8 0)], .agg [.lit (.int .u8 0), .lit (.int .u8 0)], .agg [.lit (.int .u8 0), .lit (.int .u8 0)], .agg [.lit (.int .u8 0), .lit (.int .u8 0)], .agg [.lit (.int .u8 0), .lit (.int .u8 0)], .agg [.lit (.int .u8 0), .lit (.int .u8 0)]]
def laid_postroom_script_commands {H : Type} : DataW H := .agg [.lit (.string []), .lit (.string [114, 101, 113, 117, 105, 114, 101]), .lit (.string [105, 102]), .lit (.string [107, 101, 101, 112]), .lit (.string [100, 105, 115, 99, 97, 114, 100]), .lit (.string [102, 105, 108, 101, 105, 110, 116, 111]), .lit (.string [114, 101, 100, 105, 114, 101, 99, 116]), .lit (.string [114, 101, 106, 101, 99, 116]), .lit (.string [115, 101, 116, 102, 108, 97, 103]), .lit (.string [97, 100, 100, 102, 108, 97, 103]), .lit (.string [115, 116, 111, 112])]
def laid_postroom_script_tests {H : Type} : DataW H := .agg [.lit (.string []), .lit (.string [116, 114, 117, 101]), .lit (.string [102, 97, 108, 115, 101]), .lit (.string [110, 111, 116]), .lit (.string [97, 108, 108, 111, 102]), .lit (.string [97, 110, 121, 111, 102]), .lit (.string [104, 101, 97, 100, 101, 114]), .lit (.string [97, 100, 100, 114, 101, 115, 115]), .lit (.string [101, 110, 118, 101, 108, 111, 112, 101]), .lit (.string [101, 120, 105, 115, 116, 115]), .lit (.string [115, 105, 122, 101])]
def laid_postroom_script_matches {H : Type} : DataW H := .agg [.lit (.string []), .lit (.string [105, 115]), .lit (.string [99, 111, 110, 116, 97, 105, 110, 115]), .lit (.string [109, 97, 116, 99, 104, 101, 115])]
def laid_postroom_script_parts {H : Type} : DataW H := .agg [.lit (.string []), .lit (.string [97, 108, 108]), .lit (.string [108, 111, 99, 97, 108, 112, 97, 114, 116]), .lit (.string [100, 111, 109, 97, 105, 110])]
def laid_postroom_rule_extensions {H : Type} : DataW H := .agg [.lit (.string [102, 105, 108, 101, 105, 110, 116, 111]), .lit (.string [114, 101, 106, 101, 99, 116]), .lit (.string [101, 110, 118, 101, 108, 111, 112, 101]), .lit (.string [105, 109, 97, 112, 52, 102, 108, 97, 103, 115])]
def laid_postroom_rule_names {H : Type} : DataW H := .agg [.lit (.string [92, 83, 101, 101, 110]), .lit (.string [92, 65, 110, 115, 119, 101, 114, 101, 100]), .lit (.string [92, 70, 108, 97, 103, 103, 101, 100]), .lit (.string [92, 68, 101, 108, 101, 116, 101, 100]), .lit (.string [92, 68, 114, 97, 102, 116])]
/-- One of Go's own tables, pinned by name: the form's constant. -/
def laid_unicode_utf8_first : DataW Unit := Go.Pinned.utf8First

/-- 'postroomkeep.AskLogic': WHATEVER THE INPUT: true; the input reads as it did. -/
def askLogicSpec : ChangeSpec := { name := "askLogic", fn := fun _ => fun
  | [d1, d2, d3] => { results := [.lit (.bool true)], args := [d1, d2, d3] }
  | _ => none }
def askLogicRow : OpenClaim := { program := "ytkbbepienmpibaagreatdoor", sum := "6ee9411c05043bf574920e0a2d2e51c794b04d799f8e4ed65e8bc93a91d59dc3", func := "postroom/postroomkeep.AskLogic", spec := "askLogic", inPlace := ["internal/bytealg.IndexByteString", "internal/bytealg.IndexString", "internal/abi.NoEscape", "internal/bytealg.CountString"], unfollowed := true, recurses := true, named := ["internal/bytealg.MaxLen", "unicode/utf8.first", "unicode/utf8.acceptRanges", "postroom/rule.extensions", "postroom/script.commands", "postroom/script.tests", "postroom/script.parts", "postroom/script.matches", "postroom/rule.names"], loops := true, apart := false, laid := [("unicode/utf8.acceptRanges", laid_unicode_utf8_acceptRanges), ("postroom/script.commands", laid_postroom_script_commands), ("postroom/script.tests", laid_postroom_script_tests), ("postroom/script.matches", laid_postroom_script_matches), ("postroom/script.parts", laid_postroom_script_parts), ("postroom/rule.extensions", laid_postroom_rule_extensions), ("postroom/rule.names", laid_postroom_rule_names), ("unicode/utf8.first", laid_unicode_utf8_first)] }
def AskLogicSaid : Prop := askLogicRow.holds Tryz.pinned (OpenSpec.ofChange askLogicSpec)

/-- ITS FALSE NEIGHBOUR: 'it returns false'. Refute it at one input. -/
def askLogicWrong : ChangeSpec := { name := "askLogic", fn := fun _ => fun
  | [d1, d2, d3] => { results := [.lit (.bool false)], args := [d1, d2, d3] }
  | _ => none }
def AskLogicWrongFalsely : Prop := askLogicRow.holds Tryz.pinned (OpenSpec.ofChange askLogicWrong)

/-- 'postroomkeep.AskMore': WHATEVER THE INPUT: true; the input reads as it did. -/
def askMoreSpec : ChangeSpec := { name := "askMore", fn := fun _ => fun
  | [d1, d2, d3] => { results := [.lit (.bool true)], args := [d1, d2, d3] }
  | _ => none }
def askMoreRow : OpenClaim := { program := "ytkbbepienmpibaagreatdoor", sum := "6ee9411c05043bf574920e0a2d2e51c794b04d799f8e4ed65e8bc93a91d59dc3", func := "postroom/postroomkeep.AskMore", spec := "askMore", inPlace := ["internal/bytealg.IndexByteString", "internal/bytealg.IndexString", "internal/abi.NoEscape", "internal/bytealg.CountString"], unfollowed := true, recurses := true, named := ["internal/bytealg.MaxLen", "unicode/utf8.first", "unicode/utf8.acceptRanges", "postroom/rule.extensions", "postroom/script.commands", "postroom/script.tests", "postroom/script.parts", "postroom/script.matches", "postroom/rule.names"], loops := true, apart := false, laid := [("unicode/utf8.acceptRanges", laid_unicode_utf8_acceptRanges), ("postroom/script.commands", laid_postroom_script_commands), ("postroom/script.tests", laid_postroom_script_tests), ("postroom/script.matches", laid_postroom_script_matches), ("postroom/script.parts", laid_postroom_script_parts), ("postroom/rule.extensions", laid_postroom_rule_extensions), ("postroom/rule.names", laid_postroom_rule_names), ("unicode/utf8.first", laid_unicode_utf8_first)] }
def AskMoreSaid : Prop := askMoreRow.holds Tryz.pinned (OpenSpec.ofChange askMoreSpec)

/-- ITS FALSE NEIGHBOUR: 'it returns false'. Refute it at one input. -/
def askMoreWrong : ChangeSpec := { name := "askMore", fn := fun _ => fun
  | [d1, d2, d3] => { results := [.lit (.bool false)], args := [d1, d2, d3] }
  | _ => none }
def AskMoreWrongFalsely : Prop := askMoreRow.holds Tryz.pinned (OpenSpec.ofChange askMoreWrong)

/-- 'postroomkeep.AskSize': WHATEVER THE INPUT: true; the input reads as it did. -/
def askSizeSpec : ChangeSpec := { name := "askSize", fn := fun _ => fun
  | [d1, d2] => { results := [.lit (.bool true)], args := [d1, d2] }
  | _ => none }
def askSizeRow : OpenClaim := { program := "ytkbbepienmpibaagreatdoor", sum := "6ee9411c05043bf574920e0a2d2e51c794b04d799f8e4ed65e8bc93a91d59dc3", func := "postroom/postroomkeep.AskSize", spec := "askSize", inPlace := ["internal/bytealg.IndexByteString", "internal/bytealg.IndexString", "internal/abi.NoEscape", "internal/bytealg.CountString"], unfollowed := true, recurses := true, named := ["internal/bytealg.MaxLen", "unicode/utf8.first", "unicode/utf8.acceptRanges", "postroom/rule.extensions", "postroom/script.commands", "postroom/script.tests", "postroom/script.parts", "postroom/script.matches", "postroom/rule.names"], apart := false, laid := [("unicode/utf8.acceptRanges", laid_unicode_utf8_acceptRanges), ("postroom/script.commands", laid_postroom_script_commands), ("postroom/script.tests", laid_postroom_script_tests), ("postroom/script.matches", laid_postroom_script_matches), ("postroom/script.parts", laid_postroom_script_parts), ("postroom/rule.extensions", laid_postroom_rule_extensions), ("postroom/rule.names", laid_postroom_rule_names), ("unicode/utf8.first", laid_unicode_utf8_first)] }
def AskSizeSaid : Prop := askSizeRow.holds Tryz.pinned (OpenSpec.ofChange askSizeSpec)

/-- ITS FALSE NEIGHBOUR: 'it returns false'. Refute it at one input. -/
def askSizeWrong : ChangeSpec := { name := "askSize", fn := fun _ => fun
  | [d1, d2] => { results := [.lit (.bool false)], args := [d1, d2] }
  | _ => none }
def AskSizeWrongFalsely : Prop := askSizeRow.holds Tryz.pinned (OpenSpec.ofChange askSizeWrong)

/-- 'postroomkeep.AskHeader': WHATEVER THE INPUT: true; the input reads as it did. -/
def askHeaderSpec : ChangeSpec := { name := "askHeader", fn := fun _ => fun
  | [d1, d2] => { results := [.lit (.bool true)], args := [d1, d2] }
  | _ => none }
def askHeaderRow : OpenClaim := { program := "ytkbbepienmpibaagreatdoor", sum := "6ee9411c05043bf574920e0a2d2e51c794b04d799f8e4ed65e8bc93a91d59dc3", func := "postroom/postroomkeep.AskHeader", spec := "askHeader", inPlace := ["internal/bytealg.IndexByteString", "internal/bytealg.IndexString", "internal/abi.NoEscape", "internal/bytealg.CountString"], unfollowed := true, recurses := true, named := ["internal/bytealg.MaxLen", "unicode/utf8.first", "unicode/utf8.acceptRanges", "postroom/rule.extensions", "postroom/script.commands", "postroom/script.tests", "postroom/script.parts", "postroom/script.matches", "postroom/rule.names"], apart := false, laid := [("unicode/utf8.acceptRanges", laid_unicode_utf8_acceptRanges), ("postroom/script.commands", laid_postroom_script_commands), ("postroom/script.tests", laid_postroom_script_tests), ("postroom/script.matches", laid_postroom_script_matches), ("postroom/script.parts", laid_postroom_script_parts), ("postroom/rule.extensions", laid_postroom_rule_extensions), ("postroom/rule.names", laid_postroom_rule_names), ("unicode/utf8.first", laid_unicode_utf8_first)] }
def AskHeaderSaid : Prop := askHeaderRow.holds Tryz.pinned (OpenSpec.ofChange askHeaderSpec)

/-- ITS FALSE NEIGHBOUR: 'it returns false'. Refute it at one input. -/
def askHeaderWrong : ChangeSpec := { name := "askHeader", fn := fun _ => fun
  | [d1, d2] => { results := [.lit (.bool false)], args := [d1, d2] }
  | _ => none }
def AskHeaderWrongFalsely : Prop := askHeaderRow.holds Tryz.pinned (OpenSpec.ofChange askHeaderWrong)

/-- 'postroomkeep.JudgeOne': WHATEVER THE INPUT: true; the input reads as it did. -/
def judgeOneSpec : ChangeSpec := { name := "judgeOne", fn := fun _ => fun
  | [d1, d2, d3, d4] => { results := [.lit (.bool true)], args := [d1, d2, d3, d4] }
  | _ => none }
def judgeOneRow : OpenClaim := { program := "ytkbbepienmpibaagreatdoor", sum := "6ee9411c05043bf574920e0a2d2e51c794b04d799f8e4ed65e8bc93a91d59dc3", func := "postroom/postroomkeep.JudgeOne", spec := "judgeOne", inPlace := ["internal/bytealg.IndexByteString", "internal/bytealg.IndexString", "internal/abi.NoEscape", "internal/bytealg.CountString"], unfollowed := true, recurses := true, named := ["internal/bytealg.MaxLen", "unicode/utf8.first", "unicode/utf8.acceptRanges", "postroom/rule.extensions", "postroom/script.commands", "postroom/script.tests", "postroom/script.parts", "postroom/script.matches", "postroom/rule.names"], loops := true, apart := false, laid := [("unicode/utf8.acceptRanges", laid_unicode_utf8_acceptRanges), ("postroom/script.commands", laid_postroom_script_commands), ("postroom/script.tests", laid_postroom_script_tests), ("postroom/script.matches", laid_postroom_script_matches), ("postroom/script.parts", laid_postroom_script_parts), ("postroom/rule.extensions", laid_postroom_rule_extensions), ("postroom/rule.names", laid_postroom_rule_names), ("unicode/utf8.first", laid_unicode_utf8_first)] }
def JudgeOneSaid : Prop := judgeOneRow.holds Tryz.pinned (OpenSpec.ofChange judgeOneSpec)

/-- ITS FALSE NEIGHBOUR: 'it returns false'. Refute it at one input. -/
def judgeOneWrong : ChangeSpec := { name := "judgeOne", fn := fun _ => fun
  | [d1, d2, d3, d4] => { results := [.lit (.bool false)], args := [d1, d2, d3, d4] }
  | _ => none }
def JudgeOneWrongFalsely : Prop := judgeOneRow.holds Tryz.pinned (OpenSpec.ofChange judgeOneWrong)

/-- 'postroomkeep.JudgeStop': WHATEVER THE INPUT: true; the input reads as it did. -/
def judgeStopSpec : ChangeSpec := { name := "judgeStop", fn := fun _ => fun
  | [d1, d2, d3] => { results := [.lit (.bool true)], args := [d1, d2, d3] }
  | _ => none }
def judgeStopRow : OpenClaim := { program := "ytkbbepienmpibaagreatdoor", sum := "6ee9411c05043bf574920e0a2d2e51c794b04d799f8e4ed65e8bc93a91d59dc3", func := "postroom/postroomkeep.JudgeStop", spec := "judgeStop", inPlace := ["internal/bytealg.IndexByteString", "internal/bytealg.IndexString", "internal/abi.NoEscape", "internal/bytealg.CountString"], unfollowed := true, recurses := true, named := ["internal/bytealg.MaxLen", "unicode/utf8.first", "unicode/utf8.acceptRanges", "postroom/script.commands", "postroom/script.tests", "postroom/script.parts", "postroom/script.matches", "postroom/rule.extensions", "postroom/rule.names"], loops := true, apart := false, laid := [("unicode/utf8.acceptRanges", laid_unicode_utf8_acceptRanges), ("postroom/script.commands", laid_postroom_script_commands), ("postroom/script.tests", laid_postroom_script_tests), ("postroom/script.matches", laid_postroom_script_matches), ("postroom/script.parts", laid_postroom_script_parts), ("postroom/rule.extensions", laid_postroom_rule_extensions), ("postroom/rule.names", laid_postroom_rule_names), ("unicode/utf8.first", laid_unicode_utf8_first)] }
def JudgeStopSaid : Prop := judgeStopRow.holds Tryz.pinned (OpenSpec.ofChange judgeStopSpec)

/-- ITS FALSE NEIGHBOUR: 'it returns false'. Refute it at one input. -/
def judgeStopWrong : ChangeSpec := { name := "judgeStop", fn := fun _ => fun
  | [d1, d2, d3] => { results := [.lit (.bool false)], args := [d1, d2, d3] }
  | _ => none }
def JudgeStopWrongFalsely : Prop := judgeStopRow.holds Tryz.pinned (OpenSpec.ofChange judgeStopWrong)

/-- 'postroomkeep.JudgeKept': WHATEVER THE INPUT: true; the input reads as it did. -/
def judgeKeptSpec : ChangeSpec := { name := "judgeKept", fn := fun _ => fun
  | [d1, d2] => { results := [.lit (.bool true)], args := [d1, d2] }
  | _ => none }
def judgeKeptRow : OpenClaim := { program := "ytkbbepienmpibaagreatdoor", sum := "6ee9411c05043bf574920e0a2d2e51c794b04d799f8e4ed65e8bc93a91d59dc3", func := "postroom/postroomkeep.JudgeKept", spec := "judgeKept", inPlace := ["internal/bytealg.IndexByteString", "internal/bytealg.IndexString", "internal/abi.NoEscape", "internal/bytealg.CountString"], unfollowed := true, recurses := true, named := ["internal/bytealg.MaxLen", "unicode/utf8.first", "unicode/utf8.acceptRanges", "postroom/script.commands", "postroom/script.tests", "postroom/script.parts", "postroom/script.matches", "postroom/rule.extensions", "postroom/rule.names"], loops := true, apart := false, laid := [("unicode/utf8.acceptRanges", laid_unicode_utf8_acceptRanges), ("postroom/script.commands", laid_postroom_script_commands), ("postroom/script.tests", laid_postroom_script_tests), ("postroom/script.matches", laid_postroom_script_matches), ("postroom/script.parts", laid_postroom_script_parts), ("postroom/rule.extensions", laid_postroom_rule_extensions), ("postroom/rule.names", laid_postroom_rule_names), ("unicode/utf8.first", laid_unicode_utf8_first)] }
def JudgeKeptSaid : Prop := judgeKeptRow.holds Tryz.pinned (OpenSpec.ofChange judgeKeptSpec)

/-- ITS FALSE NEIGHBOUR: 'it returns false'. Refute it at one input. -/
def judgeKeptWrong : ChangeSpec := { name := "judgeKept", fn := fun _ => fun
  | [d1, d2] => { results := [.lit (.bool false)], args := [d1, d2] }
  | _ => none }
def JudgeKeptWrongFalsely : Prop := judgeKeptRow.holds Tryz.pinned (OpenSpec.ofChange judgeKeptWrong)

/-- 'postroomkeep.JudgeFlags': WHATEVER THE INPUT: true; the input reads as it did. -/
def judgeFlagsSpec : ChangeSpec := { name := "judgeFlags", fn := fun _ => fun
  | [d1, d2] => { results := [.lit (.bool true)], args := [d1, d2] }
  | _ => none }
def judgeFlagsRow : OpenClaim := { program := "ytkbbepienmpibaagreatdoor", sum := "6ee9411c05043bf574920e0a2d2e51c794b04d799f8e4ed65e8bc93a91d59dc3", func := "postroom/postroomkeep.JudgeFlags", spec := "judgeFlags", inPlace := ["internal/bytealg.IndexByteString", "internal/bytealg.IndexString", "internal/abi.NoEscape", "internal/bytealg.CountString"], unfollowed := true, recurses := true, named := ["internal/bytealg.MaxLen", "unicode/utf8.first", "unicode/utf8.acceptRanges", "postroom/rule.extensions", "postroom/script.commands", "postroom/script.tests", "postroom/script.parts", "postroom/script.matches", "postroom/rule.names"], apart := false, laid := [("unicode/utf8.acceptRanges", laid_unicode_utf8_acceptRanges), ("postroom/script.commands", laid_postroom_script_commands), ("postroom/script.tests", laid_postroom_script_tests), ("postroom/script.matches", laid_postroom_script_matches), ("postroom/script.parts", laid_postroom_script_parts), ("postroom/rule.extensions", laid_postroom_rule_extensions), ("postroom/rule.names", laid_postroom_rule_names), ("unicode/utf8.first", laid_unicode_utf8_first)] }
def JudgeFlagsSaid : Prop := judgeFlagsRow.holds Tryz.pinned (OpenSpec.ofChange judgeFlagsSpec)

/-- ITS FALSE NEIGHBOUR: 'it returns false'. Refute it at one input. -/
def judgeFlagsWrong : ChangeSpec := { name := "judgeFlags", fn := fun _ => fun
  | [d1, d2] => { results := [.lit (.bool false)], args := [d1, d2] }
  | _ => none }
def JudgeFlagsWrongFalsely : Prop := judgeFlagsRow.holds Tryz.pinned (OpenSpec.ofChange judgeFlagsWrong)

/- THE SECOND FORM. 'bulk': how many values and letters a reading holds, each counted each time it is reached (what is shared counts as often as it is met; a slice's spare places count too). A statement '..UptoSaid' is the law's where the arguments, and the package variables that the reading takes, are together of bulk at most 1048576: NARROWER than '..Said'. Prove '..Said' where nothing that the law and all that it calls make is longer than what came in: it says more and counts as full. Else prove '..UptoSaid'. A law counts once. -/
mutual
def uptoBulk {H : Type} : DataW H → Nat
  | .lit (.string bytes) => bytes.length + 1
  | .lit _ => 1
  | .nil => 1
  | .ptr d => uptoBulk d + 1
  | .slice elems spare => uptoBulkAll elems + uptoBulkAll spare + 1
  | .agg parts => uptoBulkAll parts + 1
  | .iface _ d => uptoBulk d + 1
  | .map entries => uptoBulkEntries entries + 1
  | .held _ => 1
def uptoBulkAll {H : Type} : List (DataW H) → Nat
  | [] => 0
  | d :: r => uptoBulk d + uptoBulkAll r
def uptoBulkEntries {H : Type} : List (Lit × DataW H) → Nat
  | [] => 0
  | x :: r => uptoBulkEntry x + uptoBulkEntries r
def uptoBulkEntry {H : Type} : Lit × DataW H → Nat
  | (.string bytes, d) => bytes.length + uptoBulk d + 1
  | (_, d) => uptoBulk d + 1
 end
def uptoSmall : (H : Type) → List (DataW H) → Bool := fun _ ds => decide (uptoBulkAll ds ≤ 1048576)
def OpenSpec.upto (s : _root_.Go.ChangeSpec) : _root_.Go.OpenSpec := { _root_.Go.OpenSpec.ofChange s with cond := some uptoSmall }

/-- 'postroomkeep.AskLogic', WHERE WHAT IT READS IS OF BULK AT MOST 1048576: true; the input reads as it did. -/
def askLogicUptoRow : OpenClaim := { program := "ytkbbepienmpibaagreatdoor", sum := "6ee9411c05043bf574920e0a2d2e51c794b04d799f8e4ed65e8bc93a91d59dc3", func := "postroom/postroomkeep.AskLogic", spec := "askLogic", inPlace := ["internal/bytealg.IndexByteString", "internal/bytealg.IndexString", "internal/abi.NoEscape", "internal/bytealg.CountString"], unfollowed := true, recurses := true, named := ["internal/bytealg.MaxLen", "unicode/utf8.first", "unicode/utf8.acceptRanges", "postroom/rule.extensions", "postroom/script.commands", "postroom/script.tests", "postroom/script.parts", "postroom/script.matches", "postroom/rule.names"], loops := true, apart := false, laid := [("unicode/utf8.acceptRanges", laid_unicode_utf8_acceptRanges), ("postroom/script.commands", laid_postroom_script_commands), ("postroom/script.tests", laid_postroom_script_tests), ("postroom/script.matches", laid_postroom_script_matches), ("postroom/script.parts", laid_postroom_script_parts), ("postroom/rule.extensions", laid_postroom_rule_extensions), ("postroom/rule.names", laid_postroom_rule_names), ("unicode/utf8.first", laid_unicode_utf8_first)], narrowed := true }
def AskLogicUptoSaid : Prop := askLogicUptoRow.holds Tryz.pinned (OpenSpec.upto askLogicSpec)

/-- 'postroomkeep.AskMore', WHERE WHAT IT READS IS OF BULK AT MOST 1048576: true; the input reads as it did. -/
def askMoreUptoRow : OpenClaim := { program := "ytkbbepienmpibaagreatdoor", sum := "6ee9411c05043bf574920e0a2d2e51c794b04d799f8e4ed65e8bc93a91d59dc3", func := "postroom/postroomkeep.AskMore", spec := "askMore", inPlace := ["internal/bytealg.IndexByteString", "internal/bytealg.IndexString", "internal/abi.NoEscape", "internal/bytealg.CountString"], unfollowed := true, recurses := true, named := ["internal/bytealg.MaxLen", "unicode/utf8.first", "unicode/utf8.acceptRanges", "postroom/rule.extensions", "postroom/script.commands", "postroom/script.tests", "postroom/script.parts", "postroom/script.matches", "postroom/rule.names"], loops := true, apart := false, laid := [("unicode/utf8.acceptRanges", laid_unicode_utf8_acceptRanges), ("postroom/script.commands", laid_postroom_script_commands), ("postroom/script.tests", laid_postroom_script_tests), ("postroom/script.matches", laid_postroom_script_matches), ("postroom/script.parts", laid_postroom_script_parts), ("postroom/rule.extensions", laid_postroom_rule_extensions), ("postroom/rule.names", laid_postroom_rule_names), ("unicode/utf8.first", laid_unicode_utf8_first)], narrowed := true }
def AskMoreUptoSaid : Prop := askMoreUptoRow.holds Tryz.pinned (OpenSpec.upto askMoreSpec)

/-- 'postroomkeep.AskSize', WHERE WHAT IT READS IS OF BULK AT MOST 1048576: true; the input reads as it did. -/
def askSizeUptoRow : OpenClaim := { program := "ytkbbepienmpibaagreatdoor", sum := "6ee9411c05043bf574920e0a2d2e51c794b04d799f8e4ed65e8bc93a91d59dc3", func := "postroom/postroomkeep.AskSize", spec := "askSize", inPlace := ["internal/bytealg.IndexByteString", "internal/bytealg.IndexString", "internal/abi.NoEscape", "internal/bytealg.CountString"], unfollowed := true, recurses := true, named := ["internal/bytealg.MaxLen", "unicode/utf8.first", "unicode/utf8.acceptRanges", "postroom/rule.extensions", "postroom/script.commands", "postroom/script.tests", "postroom/script.parts", "postroom/script.matches", "postroom/rule.names"], apart := false, laid := [("unicode/utf8.acceptRanges", laid_unicode_utf8_acceptRanges), ("postroom/script.commands", laid_postroom_script_commands), ("postroom/script.tests", laid_postroom_script_tests), ("postroom/script.matches", laid_postroom_script_matches), ("postroom/script.parts", laid_postroom_script_parts), ("postroom/rule.extensions", laid_postroom_rule_extensions), ("postroom/rule.names", laid_postroom_rule_names), ("unicode/utf8.first", laid_unicode_utf8_first)], narrowed := true }
def AskSizeUptoSaid : Prop := askSizeUptoRow.holds Tryz.pinned (OpenSpec.upto askSizeSpec)

/-- 'postroomkeep.AskHeader', WHERE WHAT IT READS IS OF BULK AT MOST 1048576: true; the input reads as it did. -/
def askHeaderUptoRow : OpenClaim := { program := "ytkbbepienmpibaagreatdoor", sum := "6ee9411c05043bf574920e0a2d2e51c794b04d799f8e4ed65e8bc93a91d59dc3", func := "postroom/postroomkeep.AskHeader", spec := "askHeader", inPlace := ["internal/bytealg.IndexByteString", "internal/bytealg.IndexString", "internal/abi.NoEscape", "internal/bytealg.CountString"], unfollowed := true, recurses := true, named := ["internal/bytealg.MaxLen", "unicode/utf8.first", "unicode/utf8.acceptRanges", "postroom/rule.extensions", "postroom/script.commands", "postroom/script.tests", "postroom/script.parts", "postroom/script.matches", "postroom/rule.names"], apart := false, laid := [("unicode/utf8.acceptRanges", laid_unicode_utf8_acceptRanges), ("postroom/script.commands", laid_postroom_script_commands), ("postroom/script.tests", laid_postroom_script_tests), ("postroom/script.matches", laid_postroom_script_matches), ("postroom/script.parts", laid_postroom_script_parts), ("postroom/rule.extensions", laid_postroom_rule_extensions), ("postroom/rule.names", laid_postroom_rule_names), ("unicode/utf8.first", laid_unicode_utf8_first)], narrowed := true }
def AskHeaderUptoSaid : Prop := askHeaderUptoRow.holds Tryz.pinned (OpenSpec.upto askHeaderSpec)

/-- 'postroomkeep.JudgeOne', WHERE WHAT IT READS IS OF BULK AT MOST 1048576: true; the input reads as it did. -/
def judgeOneUptoRow : OpenClaim := { program := "ytkbbepienmpibaagreatdoor", sum := "6ee9411c05043bf574920e0a2d2e51c794b04d799f8e4ed65e8bc93a91d59dc3", func := "postroom/postroomkeep.JudgeOne", spec := "judgeOne", inPlace := ["internal/bytealg.IndexByteString", "internal/bytealg.IndexString", "internal/abi.NoEscape", "internal/bytealg.CountString"], unfollowed := true, recurses := true, named := ["internal/bytealg.MaxLen", "unicode/utf8.first", "unicode/utf8.acceptRanges", "postroom/rule.extensions", "postroom/script.commands", "postroom/script.tests", "postroom/script.parts", "postroom/script.matches", "postroom/rule.names"], loops := true, apart := false, laid := [("unicode/utf8.acceptRanges", laid_unicode_utf8_acceptRanges), ("postroom/script.commands", laid_postroom_script_commands), ("postroom/script.tests", laid_postroom_script_tests), ("postroom/script.matches", laid_postroom_script_matches), ("postroom/script.parts", laid_postroom_script_parts), ("postroom/rule.extensions", laid_postroom_rule_extensions), ("postroom/rule.names", laid_postroom_rule_names), ("unicode/utf8.first", laid_unicode_utf8_first)], narrowed := true }
def JudgeOneUptoSaid : Prop := judgeOneUptoRow.holds Tryz.pinned (OpenSpec.upto judgeOneSpec)

/-- 'postroomkeep.JudgeStop', WHERE WHAT IT READS IS OF BULK AT MOST 1048576: true; the input reads as it did. -/
def judgeStopUptoRow : OpenClaim := { program := "ytkbbepienmpibaagreatdoor", sum := "6ee9411c05043bf574920e0a2d2e51c794b04d799f8e4ed65e8bc93a91d59dc3", func := "postroom/postroomkeep.JudgeStop", spec := "judgeStop", inPlace := ["internal/bytealg.IndexByteString", "internal/bytealg.IndexString", "internal/abi.NoEscape", "internal/bytealg.CountString"], unfollowed := true, recurses := true, named := ["internal/bytealg.MaxLen", "unicode/utf8.first", "unicode/utf8.acceptRanges", "postroom/script.commands", "postroom/script.tests", "postroom/script.parts", "postroom/script.matches", "postroom/rule.extensions", "postroom/rule.names"], loops := true, apart := false, laid := [("unicode/utf8.acceptRanges", laid_unicode_utf8_acceptRanges), ("postroom/script.commands", laid_postroom_script_commands), ("postroom/script.tests", laid_postroom_script_tests), ("postroom/script.matches", laid_postroom_script_matches), ("postroom/script.parts", laid_postroom_script_parts), ("postroom/rule.extensions", laid_postroom_rule_extensions), ("postroom/rule.names", laid_postroom_rule_names), ("unicode/utf8.first", laid_unicode_utf8_first)], narrowed := true }
def JudgeStopUptoSaid : Prop := judgeStopUptoRow.holds Tryz.pinned (OpenSpec.upto judgeStopSpec)

/-- 'postroomkeep.JudgeKept', WHERE WHAT IT READS IS OF BULK AT MOST 1048576: true; the input reads as it did. -/
def judgeKeptUptoRow : OpenClaim := { program := "ytkbbepienmpibaagreatdoor", sum := "6ee9411c05043bf574920e0a2d2e51c794b04d799f8e4ed65e8bc93a91d59dc3", func := "postroom/postroomkeep.JudgeKept", spec := "judgeKept", inPlace := ["internal/bytealg.IndexByteString", "internal/bytealg.IndexString", "internal/abi.NoEscape", "internal/bytealg.CountString"], unfollowed := true, recurses := true, named := ["internal/bytealg.MaxLen", "unicode/utf8.first", "unicode/utf8.acceptRanges", "postroom/script.commands", "postroom/script.tests", "postroom/script.parts", "postroom/script.matches", "postroom/rule.extensions", "postroom/rule.names"], loops := true, apart := false, laid := [("unicode/utf8.acceptRanges", laid_unicode_utf8_acceptRanges), ("postroom/script.commands", laid_postroom_script_commands), ("postroom/script.tests", laid_postroom_script_tests), ("postroom/script.matches", laid_postroom_script_matches), ("postroom/script.parts", laid_postroom_script_parts), ("postroom/rule.extensions", laid_postroom_rule_extensions), ("postroom/rule.names", laid_postroom_rule_names), ("unicode/utf8.first", laid_unicode_utf8_first)], narrowed := true }
def JudgeKeptUptoSaid : Prop := judgeKeptUptoRow.holds Tryz.pinned (OpenSpec.upto judgeKeptSpec)

/-- 'postroomkeep.JudgeFlags', WHERE WHAT IT READS IS OF BULK AT MOST 1048576: true; the input reads as it did. -/
def judgeFlagsUptoRow : OpenClaim := { program := "ytkbbepienmpibaagreatdoor", sum := "6ee9411c05043bf574920e0a2d2e51c794b04d799f8e4ed65e8bc93a91d59dc3", func := "postroom/postroomkeep.JudgeFlags", spec := "judgeFlags", inPlace := ["internal/bytealg.IndexByteString", "internal/bytealg.IndexString", "internal/abi.NoEscape", "internal/bytealg.CountString"], unfollowed := true, recurses := true, named := ["internal/bytealg.MaxLen", "unicode/utf8.first", "unicode/utf8.acceptRanges", "postroom/rule.extensions", "postroom/script.commands", "postroom/script.tests", "postroom/script.parts", "postroom/script.matches", "postroom/rule.names"], apart := false, laid := [("unicode/utf8.acceptRanges", laid_unicode_utf8_acceptRanges), ("postroom/script.commands", laid_postroom_script_commands), ("postroom/script.tests", laid_postroom_script_tests), ("postroom/script.matches", laid_postroom_script_matches), ("postroom/script.parts", laid_postroom_script_parts), ("postroom/rule.extensions", laid_postroom_rule_extensions), ("postroom/rule.names", laid_postroom_rule_names), ("unicode/utf8.first", laid_unicode_utf8_first)], narrowed := true }
def JudgeFlagsUptoSaid : Prop := judgeFlagsUptoRow.holds Tryz.pinned (OpenSpec.upto judgeFlagsSpec)

end Rows
end Go.Proofs.YtkbbepienmpibaaGreatDoor
