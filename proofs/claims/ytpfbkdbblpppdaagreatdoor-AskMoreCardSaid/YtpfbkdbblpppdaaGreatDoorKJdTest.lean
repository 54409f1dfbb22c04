/-
  DERIVED. Of: JdTest.
-/
import Derived.Test.YtpfbkdbblpppdaaGreatDoorDJdA
import Derived.Test.YtpfbkdbblpppdaaGreatDoorKScTree
import Derived.Test.YtpfbkdbblpppdaaGreatDoorProg
import Derived.Test.YtpfbkdbblpppdaaGreatDoorShelf
import Derived.Test.YtpfbkdbblpppdaaGreatDoorKJdRule
import Derived.Laws.EntriesVeiled
import Derived.Deep.RegionHeld3
import Derived.Deep.RegionLaw
import Derived.Deep.AppendLies
import Derived.WalkKit
import Derived.WalkLawsBesides
import Derived.WalkSpells
import Derived.Lib.Hide
import Derived.Maps.AppendAt
import Derived.Lib.ConvBytes
import Derived.Lib.BufferOwn
import Derived.Outline
import Derived.LoopTactic
import Derived.Lib.IndexMore
import Derived.Lib.SlTrimSet
import Derived.Lib.IndexBytes
import Derived.Lib.IndexLaws
import Derived.Lib.SplitLaws
import Derived.Tactics
import Derived.Tactics2
import Derived.Defers
import Derived.Recover
import Derived.BigRegion
import Derived.StillTailTactics
import Derived.Lib.HexFns2
import Derived.Deep.QuietTactic
import Derived.BigQuiet
import Derived.Handy
import Derived.RangeFuncNested
import Derived.RangeFuncBound
import Derived.RangeFuncCalls
import Derived.RangeFuncLeaves
import Derived.RangeFuncBox
import Derived.Shelf.Abstract
import Derived.OwnWalkIn
import Derived.TacticsInMore
import Derived.LoopNIn
import Derived.LoopIn
import Derived.RegionIn
import Derived.BigRegionIn
import Derived.RegionTactic
import Derived.ChangeAlike
import Derived.OwnWalk
import Derived.Lib.Strings
import Derived.Lib.UnsafeStr
import Derived.Lib.Builder
import Derived.Lib.AppendStr
import Derived.Laws.Externs
import Derived.Deep.DeepCutAuto
import Derived.Deep.CutBlock
set_option linter.unusedVariables false
set_option linter.unusedSimpArgs false
namespace Go.Proofs.YtpfbkdbblpppdaaGreatDoor.Jd
open Go.RowKit
open Sc (Str Tst cStr strC tstC cTst FormT niceT LenTs Form1)

theorem Fine.good {d B : Nat} {t : Tst} (h : Fine d B t) : GoodT t := ⟨h.form, h.nice, h.len⟩
end Go.Proofs.YtpfbkdbblpppdaaGreatDoor.Jd
