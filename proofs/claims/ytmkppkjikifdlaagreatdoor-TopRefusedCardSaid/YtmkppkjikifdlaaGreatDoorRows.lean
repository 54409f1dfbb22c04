/-
  NARROWER THAN 'FOR EVERY INPUT', by the rows' own cells (each row's printed sentence says how): TopLines: laid · TopRefused: laid · TopLarge: laid · TopOdd: laid.
  DERIVED. THE GIVEN ROWS OF THIS SEAT. 4 by the template 'for every input the law returns true; each argument reads behind the call as it read before'; 0 by the template 'total and deterministic' (their statements: YtmkppkjikifdlaaGreatDoorTotals.lean).
  GIVEN WITH THE SEED: the statements are not yours to turn. If you find one false, say at which input.
  Laid BY PROGRAM, IN A SANDBOX (cutbox-rows.mjs): the forced cells as the released guide's own fill.sh prints them over the translation 2a251e816c940170… (all of the seat's roots in one cut). By AI agents, Wed Nov 11 2026. No macro, syntax, notation, axiom, sorry.
-/
import Derived.Test.YtmkppkjikifdlaaGreatDoorChecked
import GoSem.PinnedTables
import GoSem.Claim
import GoSem.ClaimJoined
import GoSem.ClaimMapViews
import Derived.JoinedTies
import Derived.KernelRfl
namespace Go.Proofs.YtmkppkjikifdlaaGreatDoor
/- THE CELL 'sum', in the pinned program and in every row, IS THE sha256 OF THE DUMP (.gsa) THAT YtmkppkjikifdlaaGreatDoorProg.lean LOADS. Nothing in Lean hashes anything: it is a label: what it is worth is what the hold of that sum in a sandbox is worth. -/
noncomputable def Tryz.pinned : Pinned := { name := "ytmkppkjikifdlaagreatdoor", sum := "2a251e816c9401707303b7d5332ae30dca8b2157cb54dd308bc318051f197583", checked := Tryz.checked }
namespace Rows
def none {H : Type} : Left H := { results := [], args := [] }

/- WHAT THE LISTED PACKAGE-LEVEL VARIABLES READ AS WHEN THE CALL BEGINS. Each datum BY PROGRAM (the guide's laid-datum.mjs) off the statement by which the dump's own 'gosem.cut.vars' lays the variable. In a bare row this is a premise. The card (YtmkppkjikifdlaaGreatDoorCards.lean) ties it to the program's text. -/
def laid_math_bits_deBruijn32tab {H : Type} : DataW H := .agg [.lit (.int .u8 0), .lit (.int .u8 1), .lit (.int .u8 28), .lit (.int .u8 2), .lit (.int .u8 29), .lit (.int .u8 14), .lit (.int .u8 24), .lit (.int .u8 3), .lit (.int .u8 30), .lit (.int .u8 22), .lit (.int .u8 20), .lit (.int .u8 15), .lit (.int .u8 25), .lit (.int .u8 17), .lit (.int .u8 4), .lit (.int .u8 8), .lit (.int .u8 31), .lit (.int .u8 27), .lit (.int .u8 13), .lit (.int .u8 23), .lit (.int .u8 21), .lit (.int .u8 19), .lit (.int .u8 16), .lit (.int .u8 7), .lit (.int .u8 26), .lit (.int .u8 12), .lit (.int .u8 18), .lit (.int .u8 6), .lit (.int .u8 11), .lit (.int .u8 5), .lit (.int .u8 10), .lit (.int .u8 9)]
def laid_math_bits_deBruijn64tab {H : Type} : DataW H := .agg [.lit (.int .u8 0), .lit (.int .u8 1), .lit (.int .u8 56), .lit (.int .u8 2), .lit (.int .u8 57), .lit (.int .u8 49), .lit (.int .u8 28), .lit (.int .u8 3), .lit (.int .u8 61), .lit (.int .u8 58), .lit (.int .u8 42), .lit (.int .u8 50), .lit (.int .u8 38), .lit (.int .u8 29), .lit (.int .u8 17), .lit (.int .u8 4), .lit (.int .u8 62), .lit (.int .u8 47), .lit (.int .u8 59), .lit (.int .u8 36), .lit (.int .u8 45), .lit (.int .u8 43), .lit (.int .u8 51), .lit (.int .u8 22), .lit (.int .u8 53), .lit (.int .u8 39), .lit (.int .u8 33), .lit (.int .u8 30), .lit (.int .u8 24), .lit (.int .u8 18), .lit (.int .u8 12), .lit (.int .u8 5), .lit (.int .u8 63), .lit (.int .u8 55), .lit (.int .u8 48), .lit (.int .u8 27), .lit (.int .u8 60), .lit (.int .u8 41), .lit (.int .u8 37), .lit (.int .u8 16), .lit (.int .u8 46), .lit (.int .u8 35), .lit (.int .u8 44), .lit (.int .u8 21), .lit (.int .u8 52), .lit (.int .u8 32), .lit (.int .u8 23), .lit (.int .u8 11), .lit (.int .u8 54), .lit (.int .u8 26), .lit (.int .u8 40), .lit (.int .u8 15), .lit (.int .u8 34), .lit (.int .u8 20), .lit (.int .u8 31), .lit (.int .u8 10), .lit (.int .u8 25), .lit (.int .u8 14), .lit (.int .u8 19), .lit (.int .u8 9), .lit (.int .u8 13), .lit (.int .u8 8), .lit (.int .u8 7), .lit (.int .u8 6)]
def laid_internal_strconv_uint64pow10 {H : Type} : DataW H := .agg [.lit (.int .u64 1), .lit (.int .u64 10), .lit (.int .u64 100), .lit (.int .u64 1000), .lit (.int .u64 10000), .lit (.int .u64 100000), .lit (.int .u64 1000000), .lit (.int .u64 10000000), .lit (.int .u64 100000000), .lit (.int .u64 1000000000), .lit (.int .u64 10000000000), .lit (.int .u64 100000000000), .lit (.int .u64 1000000000000), .lit (.int .u64 10000000000000), .lit (.int .u64 100000000000000), .lit (.int .u64 1000000000000000), .lit (.int .u64 10000000000000000), .lit (.int .u64 100000000000000000), .lit (.int .u64 1000000000000000000), .lit (.int .u64 10000000000000000000)]
def laid_unicode_utf8_acceptRanges {H : Type} : DataW H := .agg [.agg [.lit (.int .u8 128), .lit (.int .u8 191)], .agg [.lit (.int .u8 160), .lit (.int .u8 191)], .agg [.lit (.int .u8 128), .lit (.int .u8 159)], .agg [.lit (.int .u8 144), .lit (.int .u8 191)], .agg [.lit (.int .u8 128), .lit (.int .u8 143)], .agg [.lit (.int .u8 0), .lit (.int .u8 0)], .agg [.lit (.int .u8 0), .lit (.int .u8 0)], .agg [.lit (.int .u8 0), .lit (.int .u8 0)], .agg [.lit (.int .u8 0), .lit (.int .u8 0)], .agg [.lit (.int .u8 0), .lit (.int .u8 0)], .agg [.lit (.int .u8 0), .lit (.int .u8 0)], .agg [.lit (.int .u8 0), .lit (.int .u8 0)], .agg [.lit (.int .u8 0), .lit (.int .u8 0)], .agg [.lit (.int .u8 0), .lit (.int .u8 0)], .agg [.lit (.int .u8 0), .lit (.int .u8 0)], .agg [.lit (.int .u8 0), .lit (.int .u8 0)]]
def laid_strconv_ErrRange {H : Type} : DataW H := .iface "*errors.errorString" (.ptr (.agg [.lit (.string [118, 97, 108, 117, 101, 32, 111, 117, 116, 32, 111, 102, 32, 114, 97, 110, 103, 101])]))
def laid_strconv_ErrSyntax {H : Type} : DataW H := .iface "*errors.errorString" (.ptr (.agg [.lit (.string [105, 110, 118, 97, 108, 105, 100, 32, 115, 121, 110, 116, 97, 120])]))
def laid_postroom_script_commands {H : Type} : DataW H := .agg [.lit (.string []), .lit (.string [114, 101, 113, 117, 105, 114, 101]), .lit (.string [105, 102]), .lit (.string [107, 101, 101, 112]), .lit (.string [100, 105, 115, 99, 97, 114, 100]), .lit (.string [102, 105, 108, 101, 105, 110, 116, 111]), .lit (.string [114, 101, 100, 105, 114, 101, 99, 116]), .lit (.string [114, 101, 106, 101, 99, 116]), .lit (.string [115, 101, 116, 102, 108, 97, 103]), .lit (.string [97, 100, 100, 102, 108, 97, 103]), .lit (.string [115, 116, 111, 112])]
def laid_postroom_script_tests {H : Type} : DataW H := .agg [.lit (.string []), .lit (.string [116, 114, 117, 101]), .lit (.string [102, 97, 108, 115, 101]), .lit (.string [110, 111, 116]), .lit (.string [97, 108, 108, 111, 102]), .lit (.string [97, 110, 121, 111, 102]), .lit (.string [104, 101, 97, 100, 101, 114]), .lit (.string [97, 100, 100, 114, 101, 115, 115]), .lit (.string [101, 110, 118, 101, 108, 111, 112, 101]), .lit (.string [101, 120, 105, 115, 116, 115]), .lit (.string [115, 105, 122, 101])]
def laid_postroom_script_matches {H : Type} : DataW H := .agg [.lit (.string []), .lit (.string [105, 115]), .lit (.string [99, 111, 110, 116, 97, 105, 110, 115]), .lit (.string [109, 97, 116, 99, 104, 101, 115])]
def laid_postroom_script_parts {H : Type} : DataW H := .agg [.lit (.string []), .lit (.string [97, 108, 108]), .lit (.string [108, 111, 99, 97, 108, 112, 97, 114, 116]), .lit (.string [100, 111, 109, 97, 105, 110])]
def laid_postroom_rule_extensions {H : Type} : DataW H := .agg [.lit (.string [102, 105, 108, 101, 105, 110, 116, 111]), .lit (.string [114, 101, 106, 101, 99, 116]), .lit (.string [101, 110, 118, 101, 108, 111, 112, 101]), .lit (.string [105, 109, 97, 112, 52, 102, 108, 97, 103, 115])]
def laid_postroom_rule_names {H : Type} : DataW H := .agg [.lit (.string [92, 83, 101, 101, 110]), .lit (.string [92, 65, 110, 115, 119, 101, 114, 101, 100]), .lit (.string [92, 70, 108, 97, 103, 103, 101, 100]), .lit (.string [92, 68, 101, 108, 101, 116, 101, 100]), .lit (.string [92, 68, 114, 97, 102, 116])]
/-- One of Go's own tables, pinned by name: the form's constant. -/
def laid_unicode_utf8_first : DataW Unit := Go.Pinned.utf8First

/-- 'postroomtop.TopLines': WHATEVER THE INPUT: true; the input reads as it did. -/
def topLinesSpec : ChangeSpec := { name := "topLines", fn := fun _ => fun
  | [d] => { results := [.lit (.bool true)], args := [d] }
  | _ => none }
def topLinesRow : OpenClaim := { program := "ytmkppkjikifdlaagreatdoor", sum := "2a251e816c9401707303b7d5332ae30dca8b2157cb54dd308bc318051f197583", func := "postroom/postroomtop.TopLines", spec := "topLines", inPlace := ["internal/bytealg.CountString", "internal/bytealg.IndexByteString", "internal/bytealg.IndexString"], unfollowed := true, recurses := true, named := ["unicode/utf8.first", "unicode/utf8.acceptRanges", "internal/bytealg.MaxLen", "strconv.ErrSyntax", "strconv.ErrRange", "internal/strconv.uint64pow10", "math/bits.deBruijn32tab", "math/bits.deBruijn64tab", "postroom/script.commands", "postroom/script.tests", "postroom/script.matches", "postroom/script.parts", "postroom/rule.extensions", "postroom/rule.names"], apart := false, laid := [("math/bits.deBruijn32tab", laid_math_bits_deBruijn32tab), ("math/bits.deBruijn64tab", laid_math_bits_deBruijn64tab), ("internal/strconv.uint64pow10", laid_internal_strconv_uint64pow10), ("unicode/utf8.acceptRanges", laid_unicode_utf8_acceptRanges), ("strconv.ErrRange", laid_strconv_ErrRange), ("strconv.ErrSyntax", laid_strconv_ErrSyntax), ("postroom/script.commands", laid_postroom_script_commands), ("postroom/script.tests", laid_postroom_script_tests), ("postroom/script.matches", laid_postroom_script_matches), ("postroom/script.parts", laid_postroom_script_parts), ("postroom/rule.extensions", laid_postroom_rule_extensions), ("postroom/rule.names", laid_postroom_rule_names), ("unicode/utf8.first", laid_unicode_utf8_first)] }
def TopLinesSaid : Prop := topLinesRow.holds Tryz.pinned (OpenSpec.ofChange topLinesSpec)

/-- ITS FALSE NEIGHBOUR: 'it returns false'. Refute it at one input. -/
def topLinesWrong : ChangeSpec := { name := "topLines", fn := fun _ => fun
  | [d] => { results := [.lit (.bool false)], args := [d] }
  | _ => none }
def TopLinesWrongFalsely : Prop := topLinesRow.holds Tryz.pinned (OpenSpec.ofChange topLinesWrong)

/-- 'postroomtop.TopRefused': WHATEVER THE INPUT: true; the input reads as it did. -/
def topRefusedSpec : ChangeSpec := { name := "topRefused", fn := fun _ => fun
  | [d1, d2] => { results := [.lit (.bool true)], args := [d1, d2] }
  | _ => none }
def topRefusedRow : OpenClaim := { program := "ytmkppkjikifdlaagreatdoor", sum := "2a251e816c9401707303b7d5332ae30dca8b2157cb54dd308bc318051f197583", func := "postroom/postroomtop.TopRefused", spec := "topRefused", inPlace := ["internal/bytealg.CountString", "internal/bytealg.IndexByteString", "internal/bytealg.IndexString"], unfollowed := true, recurses := true, named := ["unicode/utf8.first", "unicode/utf8.acceptRanges", "internal/bytealg.MaxLen", "strconv.ErrSyntax", "strconv.ErrRange", "internal/strconv.uint64pow10", "math/bits.deBruijn32tab", "math/bits.deBruijn64tab", "postroom/script.commands", "postroom/script.tests", "postroom/script.matches", "postroom/script.parts", "postroom/rule.extensions", "postroom/rule.names"], apart := false, laid := [("math/bits.deBruijn32tab", laid_math_bits_deBruijn32tab), ("math/bits.deBruijn64tab", laid_math_bits_deBruijn64tab), ("internal/strconv.uint64pow10", laid_internal_strconv_uint64pow10), ("unicode/utf8.acceptRanges", laid_unicode_utf8_acceptRanges), ("strconv.ErrRange", laid_strconv_ErrRange), ("strconv.ErrSyntax", laid_strconv_ErrSyntax), ("postroom/script.commands", laid_postroom_script_commands), ("postroom/script.tests", laid_postroom_script_tests), ("postroom/script.matches", laid_postroom_script_matches), ("postroom/script.parts", laid_postroom_script_parts), ("postroom/rule.extensions", laid_postroom_rule_extensions), ("postroom/rule.names", laid_postroom_rule_names), ("unicode/utf8.first", laid_unicode_utf8_first)] }
def TopRefusedSaid : Prop := topRefusedRow.holds Tryz.pinned (OpenSpec.ofChange topRefusedSpec)

/-- ITS FALSE NEIGHBOUR: 'it returns false'. Refute it at one input. -/
def topRefusedWrong : ChangeSpec := { name := "topRefused", fn := fun _ => fun
  | [d1, d2] => { results := [.lit (.bool false)], args := [d1, d2] }
  | _ => none }
def TopRefusedWrongFalsely : Prop := topRefusedRow.holds Tryz.pinned (OpenSpec.ofChange topRefusedWrong)

/-- 'postroomtop.TopLarge': WHATEVER THE INPUT: true; the input reads as it did. -/
def topLargeSpec : ChangeSpec := { name := "topLarge", fn := fun _ => fun
  | [d1, d2] => { results := [.lit (.bool true)], args := [d1, d2] }
  | _ => none }
def topLargeRow : OpenClaim := { program := "ytmkppkjikifdlaagreatdoor", sum := "2a251e816c9401707303b7d5332ae30dca8b2157cb54dd308bc318051f197583", func := "postroom/postroomtop.TopLarge", spec := "topLarge", inPlace := ["internal/bytealg.CountString", "internal/bytealg.IndexByteString", "internal/bytealg.IndexString"], unfollowed := true, recurses := true, named := ["unicode/utf8.first", "unicode/utf8.acceptRanges", "internal/bytealg.MaxLen", "strconv.ErrSyntax", "strconv.ErrRange", "internal/strconv.uint64pow10", "math/bits.deBruijn32tab", "math/bits.deBruijn64tab", "postroom/script.commands", "postroom/script.tests", "postroom/script.matches", "postroom/script.parts", "postroom/rule.extensions", "postroom/rule.names"], apart := false, laid := [("math/bits.deBruijn32tab", laid_math_bits_deBruijn32tab), ("math/bits.deBruijn64tab", laid_math_bits_deBruijn64tab), ("internal/strconv.uint64pow10", laid_internal_strconv_uint64pow10), ("unicode/utf8.acceptRanges", laid_unicode_utf8_acceptRanges), ("strconv.ErrRange", laid_strconv_ErrRange), ("strconv.ErrSyntax", laid_strconv_ErrSyntax), ("postroom/script.commands", laid_postroom_script_commands), ("postroom/script.tests", laid_postroom_script_tests), ("postroom/script.matches", laid_postroom_script_matches), ("postroom/script.parts", laid_postroom_script_parts), ("postroom/rule.extensions", laid_postroom_rule_extensions), ("postroom/rule.names", laid_postroom_rule_names), ("unicode/utf8.first", laid_unicode_utf8_first)] }
def TopLargeSaid : Prop := topLargeRow.holds Tryz.pinned (OpenSpec.ofChange topLargeSpec)

/-- ITS FALSE NEIGHBOUR: 'it returns false'. Refute it at one input. -/
def topLargeWrong : ChangeSpec := { name := "topLarge", fn := fun _ => fun
  | [d1, d2] => { results := [.lit (.bool false)], args := [d1, d2] }
  | _ => none }
def TopLargeWrongFalsely : Prop := topLargeRow.holds Tryz.pinned (OpenSpec.ofChange topLargeWrong)

/-- 'postroomtop.TopOdd': WHATEVER THE INPUT: true; the input reads as it did. -/
def topOddSpec : ChangeSpec := { name := "topOdd", fn := fun _ => fun
  | [d1, d2] => { results := [.lit (.bool true)], args := [d1, d2] }
  | _ => none }
def topOddRow : OpenClaim := { program := "ytmkppkjikifdlaagreatdoor", sum := "2a251e816c9401707303b7d5332ae30dca8b2157cb54dd308bc318051f197583", func := "postroom/postroomtop.TopOdd", spec := "topOdd", inPlace := ["internal/bytealg.CountString", "internal/bytealg.IndexByteString", "internal/bytealg.IndexString"], unfollowed := true, recurses := true, named := ["unicode/utf8.first", "unicode/utf8.acceptRanges", "internal/bytealg.MaxLen", "strconv.ErrSyntax", "strconv.ErrRange", "internal/strconv.uint64pow10", "math/bits.deBruijn32tab", "math/bits.deBruijn64tab", "postroom/script.commands", "postroom/script.tests", "postroom/script.matches", "postroom/script.parts", "postroom/rule.extensions", "postroom/rule.names"], apart := false, laid := [("math/bits.deBruijn32tab", laid_math_bits_deBruijn32tab), ("math/bits.deBruijn64tab", laid_math_bits_deBruijn64tab), ("internal/strconv.uint64pow10", laid_internal_strconv_uint64pow10), ("unicode/utf8.acceptRanges", laid_unicode_utf8_acceptRanges), ("strconv.ErrRange", laid_strconv_ErrRange), ("strconv.ErrSyntax", laid_strconv_ErrSyntax), ("postroom/script.commands", laid_postroom_script_commands), ("postroom/script.tests", laid_postroom_script_tests), ("postroom/script.matches", laid_postroom_script_matches), ("postroom/script.parts", laid_postroom_script_parts), ("postroom/rule.extensions", laid_postroom_rule_extensions), ("postroom/rule.names", laid_postroom_rule_names), ("unicode/utf8.first", laid_unicode_utf8_first)] }
def TopOddSaid : Prop := topOddRow.holds Tryz.pinned (OpenSpec.ofChange topOddSpec)

/-- ITS FALSE NEIGHBOUR: 'it returns false'. Refute it at one input. -/
def topOddWrong : ChangeSpec := { name := "topOdd", fn := fun _ => fun
  | [d1, d2] => { results := [.lit (.bool false)], args := [d1, d2] }
  | _ => none }
def TopOddWrongFalsely : Prop := topOddRow.holds Tryz.pinned (OpenSpec.ofChange topOddWrong)

/- THE SECOND FORM. 'bulk': how many values and letters a reading holds, each counted each time it is reached (what is shared counts as often as it is met; a slice's spare places count too). A statement '..UptoSaid' is the law's where the arguments, and the package variables that the reading takes, are together of bulk at most 1048576: NARROWER than '..Said'. Prove '..Said' where nothing that the law and all that it calls make is longer than what came in: it says more and counts as full. Else prove '..UptoSaid'. A law counts once. -/
mutual
def uptoBulk {H : Type} : DataW H → Nat
  | .lit (.string bytes) => bytes.length + 1
  | .lit _ => 1
  | .nil => 1
  | .ptr d => uptoBulk d + 1
  | .slice elems spare => uptoBulkAll elems + uptoBulkAll spare + 1
  | .agg parts => uptoBulkAll parts + 1
  | .iface _ d => uptoBulk d + 1
  | .map entries => uptoBulkEntries entries + 1
  | .held _ => 1
def uptoBulkAll {H : Type} : List (DataW H) → Nat
  | [] => 0
  | d :: r => uptoBulk d + uptoBulkAll r
def uptoBulkEntries {H : Type} : List (Lit × DataW H) → Nat
  | [] => 0
  | x :: r => uptoBulkEntry x + uptoBulkEntries r
def uptoBulkEntry {H : Type} : Lit × DataW H → Nat
  | (.string bytes, d) => bytes.length + uptoBulk d + 1
  | (_, d) => uptoBulk d + 1
 end
def uptoSmall : (H : Type) → List (DataW H) → Bool := fun _ ds => decide (uptoBulkAll ds ≤ 1048576)
def OpenSpec.upto (s : _root_.Go.ChangeSpec) : _root_.Go.OpenSpec := { _root_.Go.OpenSpec.ofChange s with cond := some uptoSmall }

/-- 'postroomtop.TopLines', WHERE WHAT IT READS IS OF BULK AT MOST 1048576: true; the input reads as it did. -/
def topLinesUptoRow : OpenClaim := { program := "ytmkppkjikifdlaagreatdoor", sum := "2a251e816c9401707303b7d5332ae30dca8b2157cb54dd308bc318051f197583", func := "postroom/postroomtop.TopLines", spec := "topLines", inPlace := ["internal/bytealg.CountString", "internal/bytealg.IndexByteString", "internal/bytealg.IndexString"], unfollowed := true, recurses := true, named := ["unicode/utf8.first", "unicode/utf8.acceptRanges", "internal/bytealg.MaxLen", "strconv.ErrSyntax", "strconv.ErrRange", "internal/strconv.uint64pow10", "math/bits.deBruijn32tab", "math/bits.deBruijn64tab", "postroom/script.commands", "postroom/script.tests", "postroom/script.matches", "postroom/script.parts", "postroom/rule.extensions", "postroom/rule.names"], apart := false, laid := [("math/bits.deBruijn32tab", laid_math_bits_deBruijn32tab), ("math/bits.deBruijn64tab", laid_math_bits_deBruijn64tab), ("internal/strconv.uint64pow10", laid_internal_strconv_uint64pow10), ("unicode/utf8.acceptRanges", laid_unicode_utf8_acceptRanges), ("strconv.ErrRange", laid_strconv_ErrRange), ("strconv.ErrSyntax", laid_strconv_ErrSyntax), ("postroom/script.commands", laid_postroom_script_commands), ("postroom/script.tests", laid_postroom_script_tests), ("postroom/script.matches", laid_postroom_script_matches), ("postroom/script.parts", laid_postroom_script_parts), ("postroom/rule.extensions", laid_postroom_rule_extensions), ("postroom/rule.names", laid_postroom_rule_names), ("unicode/utf8.first", laid_unicode_utf8_first)], narrowed := true }
def TopLinesUptoSaid : Prop := topLinesUptoRow.holds Tryz.pinned (OpenSpec.upto topLinesSpec)

/-- 'postroomtop.TopRefused', WHERE WHAT IT READS IS OF BULK AT MOST 1048576: true; the input reads as it did. -/
def topRefusedUptoRow : OpenClaim := { program := "ytmkppkjikifdlaagreatdoor", sum := "2a251e816c9401707303b7d5332ae30dca8b2157cb54dd308bc318051f197583", func := "postroom/postroomtop.TopRefused", spec := "topRefused", inPlace := ["internal/bytealg.CountString", "internal/bytealg.IndexByteString", "internal/bytealg.IndexString"], unfollowed := true, recurses := true, named := ["unicode/utf8.first", "unicode/utf8.acceptRanges", "internal/bytealg.MaxLen", "strconv.ErrSyntax", "strconv.ErrRange", "internal/strconv.uint64pow10", "math/bits.deBruijn32tab", "math/bits.deBruijn64tab", "postroom/script.commands", "postroom/script.tests", "postroom/script.matches", "postroom/script.parts", "postroom/rule.extensions", "postroom/rule.names"], apart := false, laid := [("math/bits.deBruijn32tab", laid_math_bits_deBruijn32tab), ("math/bits.deBruijn64tab", laid_math_bits_deBruijn64tab), ("internal/strconv.uint64pow10", laid_internal_strconv_uint64pow10), ("unicode/utf8.acceptRanges", laid_unicode_utf8_acceptRanges), ("strconv.ErrRange", laid_strconv_ErrRange), ("strconv.ErrSyntax", laid_strconv_ErrSyntax), ("postroom/script.commands", laid_postroom_script_commands), ("postroom/script.tests", laid_postroom_script_tests), ("postroom/script.matches", laid_postroom_script_matches), ("postroom/script.parts", laid_postroom_script_parts), ("postroom/rule.extensions", laid_postroom_rule_extensions), ("postroom/rule.names", laid_postroom_rule_names), ("unicode/utf8.first", laid_unicode_utf8_first)], narrowed := true }
def TopRefusedUptoSaid : Prop := topRefusedUptoRow.holds Tryz.pinned (OpenSpec.upto topRefusedSpec)

/-- 'postroomtop.TopLarge', WHERE WHAT IT READS IS OF BULK AT MOST 1048576: true; the input reads as it did. -/
def topLargeUptoRow : OpenClaim := { program := "ytmkppkjikifdlaagreatdoor", sum := "2a251e816c9401707303b7d5332ae30dca8b2157cb54dd308bc318051f197583", func := "postroom/postroomtop.TopLarge", spec := "topLarge", inPlace := ["internal/bytealg.CountString", "internal/bytealg.IndexByteString", "internal/bytealg.IndexString"], unfollowed := true, recurses := true, named := ["unicode/utf8.first", "unicode/utf8.acceptRanges", "internal/bytealg.MaxLen", "strconv.ErrSyntax", "strconv.ErrRange", "internal/strconv.uint64pow10", "math/bits.deBruijn32tab", "math/bits.deBruijn64tab", "postroom/script.commands", "postroom/script.tests", "postroom/script.matches", "postroom/script.parts", "postroom/rule.extensions", "postroom/rule.names"], apart := false, laid := [("math/bits.deBruijn32tab", laid_math_bits_deBruijn32tab), ("math/bits.deBruijn64tab", laid_math_bits_deBruijn64tab), ("internal/strconv.uint64pow10", laid_internal_strconv_uint64pow10), ("unicode/utf8.acceptRanges", laid_unicode_utf8_acceptRanges), ("strconv.ErrRange", laid_strconv_ErrRange), ("strconv.ErrSyntax", laid_strconv_ErrSyntax), ("postroom/script.commands", laid_postroom_script_commands), ("postroom/script.tests", laid_postroom_script_tests), ("postroom/script.matches", laid_postroom_script_matches), ("postroom/script.parts", laid_postroom_script_parts), ("postroom/rule.extensions", laid_postroom_rule_extensions), ("postroom/rule.names", laid_postroom_rule_names), ("unicode/utf8.first", laid_unicode_utf8_first)], narrowed := true }
def TopLargeUptoSaid : Prop := topLargeUptoRow.holds Tryz.pinned (OpenSpec.upto topLargeSpec)

/-- 'postroomtop.TopOdd', WHERE WHAT IT READS IS OF BULK AT MOST 1048576: true; the input reads as it did. -/
def topOddUptoRow : OpenClaim := { program := "ytmkppkjikifdlaagreatdoor", sum := "2a251e816c9401707303b7d5332ae30dca8b2157cb54dd308bc318051f197583", func := "postroom/postroomtop.TopOdd", spec := "topOdd", inPlace := ["internal/bytealg.CountString", "internal/bytealg.IndexByteString", "internal/bytealg.IndexString"], unfollowed := true, recurses := true, named := ["unicode/utf8.first", "unicode/utf8.acceptRanges", "internal/bytealg.MaxLen", "strconv.ErrSyntax", "strconv.ErrRange", "internal/strconv.uint64pow10", "math/bits.deBruijn32tab", "math/bits.deBruijn64tab", "postroom/script.commands", "postroom/script.tests", "postroom/script.matches", "postroom/script.parts", "postroom/rule.extensions", "postroom/rule.names"], apart := false, laid := [("math/bits.deBruijn32tab", laid_math_bits_deBruijn32tab), ("math/bits.deBruijn64tab", laid_math_bits_deBruijn64tab), ("internal/strconv.uint64pow10", laid_internal_strconv_uint64pow10), ("unicode/utf8.acceptRanges", laid_unicode_utf8_acceptRanges), ("strconv.ErrRange", laid_strconv_ErrRange), ("strconv.ErrSyntax", laid_strconv_ErrSyntax), ("postroom/script.commands", laid_postroom_script_commands), ("postroom/script.tests", laid_postroom_script_tests), ("postroom/script.matches", laid_postroom_script_matches), ("postroom/script.parts", laid_postroom_script_parts), ("postroom/rule.extensions", laid_postroom_rule_extensions), ("postroom/rule.names", laid_postroom_rule_names), ("unicode/utf8.first", laid_unicode_utf8_first)], narrowed := true }
def TopOddUptoSaid : Prop := topOddUptoRow.holds Tryz.pinned (OpenSpec.upto topOddSpec)

end Rows
end Go.Proofs.YtmkppkjikifdlaaGreatDoor
