/-
  DERIVED. Of: ScMem.
-/
import Derived.Test.YtpfbkdbblpppdaaGreatDoorDScMem
import Derived.Test.YtpfbkdbblpppdaaGreatDoorDScTree
import Derived.Test.YtpfbkdbblpppdaaGreatDoorFScTree
import Derived.Test.YtpfbkdbblpppdaaGreatDoorDCod
import Derived.Test.YtpfbkdbblpppdaaGreatDoorProg
import Derived.Test.YtpfbkdbblpppdaaGreatDoorDKtA
import Derived.Deep.AppendLies
import Derived.WalkKit
import Derived.WalkLawsBesides
import Derived.WalkSpells
import Derived.Lib.Hide
import Derived.Maps.AppendAt
import Derived.Lib.ConvBytes
import Derived.Lib.BufferOwn
import Derived.Outline
import Derived.LoopTactic
set_option linter.unusedVariables false
set_option linter.unusedSimpArgs false
namespace Go.Proofs.YtpfbkdbblpppdaaGreatDoor.Sc
open Go.RowKit
open Tk (Tok)

theorem tst_le {n m : Nat} (hm : n ≤ m) {w : World} {F : Dom} {t : Tst} {vs : List Value} (h : (cTst n).rep w F t vs) : (cTst m).rep w F t vs := by
  induction hm with
  | refl => exact h
  | step _ ih => exact tst_up _ ih
theorem cmds_le {n m : Nat} (hm : n ≤ m) {w : World} {F : Dom} {v : Value} {cs : List Cmd} (h : SAt (cCmd n) w F v cs) : SAt (cCmd m) w F v cs := SAt.weaker h rfl fun _ _ hr => cmd_le hm hr
end Go.Proofs.YtpfbkdbblpppdaaGreatDoor.Sc
