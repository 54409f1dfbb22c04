/-
  DERIVED. Of: JdLet.
-/
import Derived.Test.YtpfbkdbblpppdaaGreatDoorDJdA
import Derived.Test.YtpfbkdbblpppdaaGreatDoorKJdJask
import Derived.Test.YtpfbkdbblpppdaaGreatDoorDJgD
import Derived.Test.YtpfbkdbblpppdaaGreatDoorProg
import Derived.Test.YtpfbkdbblpppdaaGreatDoorShelf
import Derived.Deep.RegionHeld3
import Derived.Deep.DeepCutAuto
import Derived.BigRegion
import Derived.Shelf.Strings.SlTrimAscii
import Derived.BigQuiet
import Derived.Deep.AppendLies
import Derived.Lib.UnsafeStr
import Derived.Handy
import Derived.Lib.IndexLaws
import Derived.Lib.SplitLaws
import Derived.WalkKit
import Derived.WalkLawsBesides
import Derived.WalkSpells
import Derived.Outline
import Derived.LoopTactic
import Derived.Lib.Hide
import Derived.Maps.AppendAt
import Derived.Lib.ConvBytes
import Derived.Lib.IndexMore
import Derived.Lib.SlTrimSet
import Derived.Lib.IndexBytes
import Derived.Lib.Builder
import Derived.Lib.AppendStr
import Derived.Laws.Externs
import Derived.Lib.BufferOwn
import Derived.Deep.RegionLaw
import Derived.Deep.CutBlock
import Derived.Deep.Slices
import Derived.Deep.Fields
import Derived.ChangeSame
import Derived.Lib.SmallJoins
import Derived.OpenShut
set_option linter.unusedVariables false
set_option linter.unusedSimpArgs false
namespace Go.Proofs.YtpfbkdbblpppdaaGreatDoor.Jd
open Go.RowKit
open Sc (Str Tst Cmd cStr strC tstC cTst cCmd RW Stk cStk)

/-- a test's value, with all that it points at -/
def TV (w : World) (n : Nat) (t : Tst) (vs : List Value) : Prop := (cTst n).rep w (fun b => b < w.heap.size) t vs
theorem TV.down {w w' : World} {n : Nat} {t : Tst} {vs : List Value} (h : TV w n t vs) (hb : Below w.heap.size w w') : TV w' n t vs := (cTst n).mono ((cTst n).stable h (Same.of_below hb) hb.size) (fun _ h => Nat.lt_of_lt_of_le h hb.size)
theorem TV.form {w : World} {n : Nat} {t : Tst} {vs : List Value} (h : TV w n t vs) : ∃ Gn cn Gk ck Gt ct, vs = tstC t (.slice Gn t.names.length cn) (.slice Gk t.keys.length ck) (.slice Gt t.tests.length ct) := by
  obtain ⟨_, Gn, cn, Gk, ck, Gt, ct, -, hv, -⟩ := Sc.tst_open h
  exact ⟨Gn, cn, Gk, ck, Gt, ct, hv⟩
theorem jask_tv (n B : Nat) (t : Tst) (vs : List Value) (x : Ltt) (fs : List Fld) (body : Str) (m : Int) (w : World) (hr : TV w n t vs) (hf : Fine 1 B t) (hB : B ≤ 300) (hx : LetOK x fs body) (hW : RW w m) :
    Calls Tryz.prog 17 #[.agg vs.toArray, .agg (lttC x).toArray] w (AskR (tstJ x fs t) w) :=
  jask_any n B t vs _ x fs body m w hr (fun _ h => h) hf hB hx hW
end Go.Proofs.YtpfbkdbblpppdaaGreatDoor.Jd
