/-
  NARROWER THAN 'FOR EVERY INPUT', by the rows' own cells (each row's printed sentence says how): LineOrder: laid · LineOdd: laid · LineLarge: laid · LineMany: laid · LineDots: laid · LineLetter: laid.
  DERIVED. THE GIVEN ROWS OF THIS SEAT. 6 by the template 'for every input the law returns true; each argument reads behind the call as it read before'; 0 by the template 'total and deterministic' (their statements: YtpekkebmdhpbeaaDoorTotals.lean).
  GIVEN WITH THE SEED: the statements are not yours to turn. If you find one false, say at which input.
  Laid BY PROGRAM, IN A SANDBOX (cutbox-rows.mjs): the forced cells as the released guide's own fill.sh prints them over the translation 9861d72d60692298… (all of the seat's roots in one cut). By AI agents, Wed Nov 11 2026. No macro, syntax, notation, axiom, sorry.
-/
import Derived.Test.YtpekkebmdhpbeaaDoorChecked
import GoSem.PinnedTables
import GoSem.Claim
import GoSem.ClaimJoined
import GoSem.ClaimMapViews
import Derived.JoinedTies
import Derived.KernelRfl
namespace Go.Proofs.YtpekkebmdhpbeaaDoor
/- THE CELL 'sum', in the pinned program and in every row, IS THE sha256 OF THE DUMP (.gsa) THAT YtpekkebmdhpbeaaDoorProg.lean LOADS. Nothing in Lean hashes anything: it is a label: what it is worth is what the hold of that sum in a sandbox is worth. -/
noncomputable def Tryd.pinned : Pinned := { name := "ytpekkebmdhpbeaadoor", sum := "9861d72d60692298a9fe836dbe6ba225bd9625c3cd288583a89b697d19851b25", checked := Tryd.checked }
namespace Rows
def none {H : Type} : Left H := { results := [], args := [] }

/- WHAT THE LISTED PACKAGE-LEVEL VARIABLES READ AS WHEN THE CALL BEGINS. Each datum BY PROGRAM (the guide's laid-datum.mjs) off the statement by which the dump's own 'gosem.cut.vars' lays the variable. In a bare row this is a premise. The card (YtpekkebmdhpbeaaDoorCards.lean) ties it to the program's text. -/
def laid_unicode_utf8_acceptRanges {H : Type} : DataW H := .agg [.agg [.lit (.int .u8 128), .lit (.int .u8 191)], .agg [.lit (.int .u8 160), .lit (.int .u8 191)], .agg [.lit (.int .u8 128), .lit (.int .u8 159)], .agg [.lit (.int .u8 144), .lit (.int .u8 191)], .agg [.lit (.int .u8 128), .lit (.int .u8 143)], .agg [.lit (.int .u8 0), .lit (.int .u8 0)], .agg [.lit (.int .u8 0), .lit (.int .u8 0)], .agg [.lit (.int .u8 0), .lit (.int .u8 0)], .agg [.lit (.int .u8 0), .lit (.int .u8 0)], .agg [.lit (.int .u8 0), .lit (.int .u8 0)], .agg [.lit (.int .u8 0), .lit (.int .u8 0)], .agg [.lit (.int .u8 0), .lit (.int .u8 0)], .agg [.lit (.int .u8 0), .lit (.int .u8 0)], .agg [.lit (.int .u8 0), .lit (.int .u8 0)], .agg [.lit (.int .u8 0), .lit (.int .u8 0)], .agg [.lit (.int .u8 0), .lit (.int .u8 0)]]
/-- One of Go's own tables, pinned by name: the form's constant. -/
def laid_unicode_utf8_first : DataW Unit := Go.Pinned.utf8First

/-- 'postroomkeep.LineOrder': WHATEVER THE INPUT: true; the input reads as it did. -/
def lineOrderSpec : ChangeSpec := { name := "lineOrder", fn := fun _ => fun
  | [d1, d2] => { results := [.lit (.bool true)], args := [d1, d2] }
  | _ => none }
def lineOrderRow : OpenClaim := { program := "ytpekkebmdhpbeaadoor", sum := "9861d72d60692298a9fe836dbe6ba225bd9625c3cd288583a89b697d19851b25", func := "postroom/postroomkeep.LineOrder", spec := "lineOrder", inPlace := ["internal/bytealg.CountString", "internal/bytealg.IndexByteString", "internal/bytealg.IndexString"], unfollowed := true, recurses := true, named := ["unicode/utf8.first", "unicode/utf8.acceptRanges", "internal/bytealg.MaxLen"], apart := false, laid := [("unicode/utf8.acceptRanges", laid_unicode_utf8_acceptRanges), ("unicode/utf8.first", laid_unicode_utf8_first)] }
def LineOrderSaid : Prop := lineOrderRow.holds Tryd.pinned (OpenSpec.ofChange lineOrderSpec)

/-- ITS FALSE NEIGHBOUR: 'it returns false'. Refute it at one input. -/
def lineOrderWrong : ChangeSpec := { name := "lineOrder", fn := fun _ => fun
  | [d1, d2] => { results := [.lit (.bool false)], args := [d1, d2] }
  | _ => none }
def LineOrderWrongFalsely : Prop := lineOrderRow.holds Tryd.pinned (OpenSpec.ofChange lineOrderWrong)

/-- 'postroomkeep.LineOdd': WHATEVER THE INPUT: true; the input reads as it did. -/
def lineOddSpec : ChangeSpec := { name := "lineOdd", fn := fun _ => fun
  | [d1, d2, d3] => { results := [.lit (.bool true)], args := [d1, d2, d3] }
  | _ => none }
def lineOddRow : OpenClaim := { program := "ytpekkebmdhpbeaadoor", sum := "9861d72d60692298a9fe836dbe6ba225bd9625c3cd288583a89b697d19851b25", func := "postroom/postroomkeep.LineOdd", spec := "lineOdd", inPlace := ["internal/bytealg.CountString", "internal/bytealg.IndexByteString", "internal/bytealg.IndexString"], unfollowed := true, recurses := true, named := ["unicode/utf8.first", "unicode/utf8.acceptRanges", "internal/bytealg.MaxLen"], apart := false, laid := [("unicode/utf8.acceptRanges", laid_unicode_utf8_acceptRanges), ("unicode/utf8.first", laid_unicode_utf8_first)] }
def LineOddSaid : Prop := lineOddRow.holds Tryd.pinned (OpenSpec.ofChange lineOddSpec)

/-- ITS FALSE NEIGHBOUR: 'it returns false'. Refute it at one input. -/
def lineOddWrong : ChangeSpec := { name := "lineOdd", fn := fun _ => fun
  | [d1, d2, d3] => { results := [.lit (.bool false)], args := [d1, d2, d3] }
  | _ => none }
def LineOddWrongFalsely : Prop := lineOddRow.holds Tryd.pinned (OpenSpec.ofChange lineOddWrong)

/-- 'postroomkeep.LineLarge': WHATEVER THE INPUT: true; the input reads as it did. -/
def lineLargeSpec : ChangeSpec := { name := "lineLarge", fn := fun _ => fun
  | [d1, d2, d3] => { results := [.lit (.bool true)], args := [d1, d2, d3] }
  | _ => none }
def lineLargeRow : OpenClaim := { program := "ytpekkebmdhpbeaadoor", sum := "9861d72d60692298a9fe836dbe6ba225bd9625c3cd288583a89b697d19851b25", func := "postroom/postroomkeep.LineLarge", spec := "lineLarge", inPlace := ["internal/bytealg.CountString", "internal/bytealg.IndexByteString", "internal/bytealg.IndexString"], unfollowed := true, recurses := true, named := ["unicode/utf8.first", "unicode/utf8.acceptRanges", "internal/bytealg.MaxLen"], apart := false, laid := [("unicode/utf8.acceptRanges", laid_unicode_utf8_acceptRanges), ("unicode/utf8.first", laid_unicode_utf8_first)] }
def LineLargeSaid : Prop := lineLargeRow.holds Tryd.pinned (OpenSpec.ofChange lineLargeSpec)

/-- ITS FALSE NEIGHBOUR: 'it returns false'. Refute it at one input. -/
def lineLargeWrong : ChangeSpec := { name := "lineLarge", fn := fun _ => fun
  | [d1, d2, d3] => { results := [.lit (.bool false)], args := [d1, d2, d3] }
  | _ => none }
def LineLargeWrongFalsely : Prop := lineLargeRow.holds Tryd.pinned (OpenSpec.ofChange lineLargeWrong)

/-- 'postroomkeep.LineMany': WHATEVER THE INPUT: true; the input reads as it did. -/
def lineManySpec : ChangeSpec := { name := "lineMany", fn := fun _ => fun
  | [d1, d2] => { results := [.lit (.bool true)], args := [d1, d2] }
  | _ => none }
def lineManyRow : OpenClaim := { program := "ytpekkebmdhpbeaadoor", sum := "9861d72d60692298a9fe836dbe6ba225bd9625c3cd288583a89b697d19851b25", func := "postroom/postroomkeep.LineMany", spec := "lineMany", inPlace := ["internal/bytealg.CountString", "internal/bytealg.IndexByteString", "internal/bytealg.IndexString"], unfollowed := true, recurses := true, named := ["unicode/utf8.first", "unicode/utf8.acceptRanges", "internal/bytealg.MaxLen"], apart := false, laid := [("unicode/utf8.acceptRanges", laid_unicode_utf8_acceptRanges), ("unicode/utf8.first", laid_unicode_utf8_first)] }
def LineManySaid : Prop := lineManyRow.holds Tryd.pinned (OpenSpec.ofChange lineManySpec)

/-- ITS FALSE NEIGHBOUR: 'it returns false'. Refute it at one input. -/
def lineManyWrong : ChangeSpec := { name := "lineMany", fn := fun _ => fun
  | [d1, d2] => { results := [.lit (.bool false)], args := [d1, d2] }
  | _ => none }
def LineManyWrongFalsely : Prop := lineManyRow.holds Tryd.pinned (OpenSpec.ofChange lineManyWrong)

/-- 'postroomkeep.LineDots': WHATEVER THE INPUT: true; the input reads as it did. -/
def lineDotsSpec : ChangeSpec := { name := "lineDots", fn := fun _ => fun
  | [d1, d2, d3] => { results := [.lit (.bool true)], args := [d1, d2, d3] }
  | _ => none }
def lineDotsRow : OpenClaim := { program := "ytpekkebmdhpbeaadoor", sum := "9861d72d60692298a9fe836dbe6ba225bd9625c3cd288583a89b697d19851b25", func := "postroom/postroomkeep.LineDots", spec := "lineDots", inPlace := ["internal/bytealg.CountString", "internal/bytealg.IndexByteString", "internal/bytealg.IndexString"], unfollowed := true, recurses := true, named := ["unicode/utf8.first", "unicode/utf8.acceptRanges", "internal/bytealg.MaxLen"], apart := false, laid := [("unicode/utf8.acceptRanges", laid_unicode_utf8_acceptRanges), ("unicode/utf8.first", laid_unicode_utf8_first)] }
def LineDotsSaid : Prop := lineDotsRow.holds Tryd.pinned (OpenSpec.ofChange lineDotsSpec)

/-- ITS FALSE NEIGHBOUR: 'it returns false'. Refute it at one input. -/
def lineDotsWrong : ChangeSpec := { name := "lineDots", fn := fun _ => fun
  | [d1, d2, d3] => { results := [.lit (.bool false)], args := [d1, d2, d3] }
  | _ => none }
def LineDotsWrongFalsely : Prop := lineDotsRow.holds Tryd.pinned (OpenSpec.ofChange lineDotsWrong)

/-- 'postroomkeep.LineLetter': WHATEVER THE INPUT: true; the input reads as it did. -/
def lineLetterSpec : ChangeSpec := { name := "lineLetter", fn := fun _ => fun
  | [d] => { results := [.lit (.bool true)], args := [d] }
  | _ => none }
def lineLetterRow : OpenClaim := { program := "ytpekkebmdhpbeaadoor", sum := "9861d72d60692298a9fe836dbe6ba225bd9625c3cd288583a89b697d19851b25", func := "postroom/postroomkeep.LineLetter", spec := "lineLetter", inPlace := ["internal/bytealg.IndexByteString", "internal/bytealg.IndexString", "internal/abi.NoEscape", "internal/bytealg.CountString"], unfollowed := true, recurses := true, named := ["internal/bytealg.MaxLen", "unicode/utf8.first", "unicode/utf8.acceptRanges"], apart := false, laid := [("unicode/utf8.acceptRanges", laid_unicode_utf8_acceptRanges), ("unicode/utf8.first", laid_unicode_utf8_first)] }
def LineLetterSaid : Prop := lineLetterRow.holds Tryd.pinned (OpenSpec.ofChange lineLetterSpec)

/-- ITS FALSE NEIGHBOUR: 'it returns false'. Refute it at one input. -/
def lineLetterWrong : ChangeSpec := { name := "lineLetter", fn := fun _ => fun
  | [d] => { results := [.lit (.bool false)], args := [d] }
  | _ => none }
def LineLetterWrongFalsely : Prop := lineLetterRow.holds Tryd.pinned (OpenSpec.ofChange lineLetterWrong)

/- THE SECOND FORM. 'bulk': how many values and letters a reading holds, each counted each time it is reached (what is shared counts as often as it is met; a slice's spare places count too). A statement '..UptoSaid' is the law's where the arguments, and the package variables that the reading takes, are together of bulk at most 1048576: NARROWER than '..Said'. Prove '..Said' where nothing that the law and all that it calls make is longer than what came in: it says more and counts as full. Else prove '..UptoSaid'. A law counts once. -/
mutual
def uptoBulk {H : Type} : DataW H → Nat
  | .lit (.string bytes) => bytes.length + 1
  | .lit _ => 1
  | .nil => 1
  | .ptr d => uptoBulk d + 1
  | .slice elems spare => uptoBulkAll elems + uptoBulkAll spare + 1
  | .agg parts => uptoBulkAll parts + 1
  | .iface _ d => uptoBulk d + 1
  | .map entries => uptoBulkEntries entries + 1
  | .held _ => 1
def uptoBulkAll {H : Type} : List (DataW H) → Nat
  | [] => 0
  | d :: r => uptoBulk d + uptoBulkAll r
def uptoBulkEntries {H : Type} : List (Lit × DataW H) → Nat
  | [] => 0
  | x :: r => uptoBulkEntry x + uptoBulkEntries r
def uptoBulkEntry {H : Type} : Lit × DataW H → Nat
  | (.string bytes, d) => bytes.length + uptoBulk d + 1
  | (_, d) => uptoBulk d + 1
 end
def uptoSmall : (H : Type) → List (DataW H) → Bool := fun _ ds => decide (uptoBulkAll ds ≤ 1048576)
def OpenSpec.upto (s : _root_.Go.ChangeSpec) : _root_.Go.OpenSpec := { _root_.Go.OpenSpec.ofChange s with cond := some uptoSmall }

/-- 'postroomkeep.LineOrder', WHERE WHAT IT READS IS OF BULK AT MOST 1048576: true; the input reads as it did. -/
def lineOrderUptoRow : OpenClaim := { program := "ytpekkebmdhpbeaadoor", sum := "9861d72d60692298a9fe836dbe6ba225bd9625c3cd288583a89b697d19851b25", func := "postroom/postroomkeep.LineOrder", spec := "lineOrder", inPlace := ["internal/bytealg.CountString", "internal/bytealg.IndexByteString", "internal/bytealg.IndexString"], unfollowed := true, recurses := true, named := ["unicode/utf8.first", "unicode/utf8.acceptRanges", "internal/bytealg.MaxLen"], apart := false, laid := [("unicode/utf8.acceptRanges", laid_unicode_utf8_acceptRanges), ("unicode/utf8.first", laid_unicode_utf8_first)], narrowed := true }
def LineOrderUptoSaid : Prop := lineOrderUptoRow.holds Tryd.pinned (OpenSpec.upto lineOrderSpec)

/-- 'postroomkeep.LineOdd', WHERE WHAT IT READS IS OF BULK AT MOST 1048576: true; the input reads as it did. -/
def lineOddUptoRow : OpenClaim := { program := "ytpekkebmdhpbeaadoor", sum := "9861d72d60692298a9fe836dbe6ba225bd9625c3cd288583a89b697d19851b25", func := "postroom/postroomkeep.LineOdd", spec := "lineOdd", inPlace := ["internal/bytealg.CountString", "internal/bytealg.IndexByteString", "internal/bytealg.IndexString"], unfollowed := true, recurses := true, named := ["unicode/utf8.first", "unicode/utf8.acceptRanges", "internal/bytealg.MaxLen"], apart := false, laid := [("unicode/utf8.acceptRanges", laid_unicode_utf8_acceptRanges), ("unicode/utf8.first", laid_unicode_utf8_first)], narrowed := true }
def LineOddUptoSaid : Prop := lineOddUptoRow.holds Tryd.pinned (OpenSpec.upto lineOddSpec)

/-- 'postroomkeep.LineLarge', WHERE WHAT IT READS IS OF BULK AT MOST 1048576: true; the input reads as it did. -/
def lineLargeUptoRow : OpenClaim := { program := "ytpekkebmdhpbeaadoor", sum := "9861d72d60692298a9fe836dbe6ba225bd9625c3cd288583a89b697d19851b25", func := "postroom/postroomkeep.LineLarge", spec := "lineLarge", inPlace := ["internal/bytealg.CountString", "internal/bytealg.IndexByteString", "internal/bytealg.IndexString"], unfollowed := true, recurses := true, named := ["unicode/utf8.first", "unicode/utf8.acceptRanges", "internal/bytealg.MaxLen"], apart := false, laid := [("unicode/utf8.acceptRanges", laid_unicode_utf8_acceptRanges), ("unicode/utf8.first", laid_unicode_utf8_first)], narrowed := true }
def LineLargeUptoSaid : Prop := lineLargeUptoRow.holds Tryd.pinned (OpenSpec.upto lineLargeSpec)

/-- 'postroomkeep.LineMany', WHERE WHAT IT READS IS OF BULK AT MOST 1048576: true; the input reads as it did. -/
def lineManyUptoRow : OpenClaim := { program := "ytpekkebmdhpbeaadoor", sum := "9861d72d60692298a9fe836dbe6ba225bd9625c3cd288583a89b697d19851b25", func := "postroom/postroomkeep.LineMany", spec := "lineMany", inPlace := ["internal/bytealg.CountString", "internal/bytealg.IndexByteString", "internal/bytealg.IndexString"], unfollowed := true, recurses := true, named := ["unicode/utf8.first", "unicode/utf8.acceptRanges", "internal/bytealg.MaxLen"], apart := false, laid := [("unicode/utf8.acceptRanges", laid_unicode_utf8_acceptRanges), ("unicode/utf8.first", laid_unicode_utf8_first)], narrowed := true }
def LineManyUptoSaid : Prop := lineManyUptoRow.holds Tryd.pinned (OpenSpec.upto lineManySpec)

/-- 'postroomkeep.LineDots', WHERE WHAT IT READS IS OF BULK AT MOST 1048576: true; the input reads as it did. -/
def lineDotsUptoRow : OpenClaim := { program := "ytpekkebmdhpbeaadoor", sum := "9861d72d60692298a9fe836dbe6ba225bd9625c3cd288583a89b697d19851b25", func := "postroom/postroomkeep.LineDots", spec := "lineDots", inPlace := ["internal/bytealg.CountString", "internal/bytealg.IndexByteString", "internal/bytealg.IndexString"], unfollowed := true, recurses := true, named := ["unicode/utf8.first", "unicode/utf8.acceptRanges", "internal/bytealg.MaxLen"], apart := false, laid := [("unicode/utf8.acceptRanges", laid_unicode_utf8_acceptRanges), ("unicode/utf8.first", laid_unicode_utf8_first)], narrowed := true }
def LineDotsUptoSaid : Prop := lineDotsUptoRow.holds Tryd.pinned (OpenSpec.upto lineDotsSpec)

/-- 'postroomkeep.LineLetter', WHERE WHAT IT READS IS OF BULK AT MOST 1048576: true; the input reads as it did. -/
def lineLetterUptoRow : OpenClaim := { program := "ytpekkebmdhpbeaadoor", sum := "9861d72d60692298a9fe836dbe6ba225bd9625c3cd288583a89b697d19851b25", func := "postroom/postroomkeep.LineLetter", spec := "lineLetter", inPlace := ["internal/bytealg.IndexByteString", "internal/bytealg.IndexString", "internal/abi.NoEscape", "internal/bytealg.CountString"], unfollowed := true, recurses := true, named := ["internal/bytealg.MaxLen", "unicode/utf8.first", "unicode/utf8.acceptRanges"], apart := false, laid := [("unicode/utf8.acceptRanges", laid_unicode_utf8_acceptRanges), ("unicode/utf8.first", laid_unicode_utf8_first)], narrowed := true }
def LineLetterUptoSaid : Prop := lineLetterUptoRow.holds Tryd.pinned (OpenSpec.upto lineLetterSpec)

end Rows
end Go.Proofs.YtpekkebmdhpbeaaDoor
