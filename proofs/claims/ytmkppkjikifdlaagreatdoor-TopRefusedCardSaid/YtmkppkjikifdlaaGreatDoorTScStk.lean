/- On the way. -/
import Derived.Test.YtmkppkjikifdlaaGreatDoorTScTree
import Derived.Test.YtmkppkjikifdlaaGreatDoorTJgB
set_option linter.unusedVariables false
set_option linter.unusedSimpArgs false
namespace Go.Proofs.YtmkppkjikifdlaaGreatDoor.Sc
open Tk (Tok)
structure Stk where
 (kind a b : Int) (s t : Str) (subs : List Stk)
def nm6 : List Str := [[115, 117, 98, 106, 101, 99, 116], [116, 111], [102, 114, 111, 109], [120]]
def nm8 : List Str := [[102, 114, 111, 109], [116, 111]]
def nm9 : List Str := [[115, 117, 98, 106, 101, 99, 116], [116, 111], [99, 99]]
def keysS (x : Stk) : List Str := x.s.take 12 :: (if pick x.a 2 = 1 then [x.t.take 12] else [])
def zeroT (k : Int) : Tst := ⟨k, 0, 0, [], [], false, 0, []⟩
def leafS (k : Int) (x : Stk) : Tst :=
 if k = 6 then ⟨6, 1 + (pick x.a 3 : Nat), 0, [nm6.getD (pick x.b 4) []], keysS x, false, 0, []⟩
 else if k = 7 then ⟨7, 1 + (pick x.a 3 : Nat), 1 + (pick x.b 3 : Nat), [nm6.getD (pick x.b 4) []], keysS x, false, 0, []⟩
 else if k = 8 then ⟨8, 1 + (pick x.a 3 : Nat), 1 + (pick x.b 3 : Nat), [nm8.getD (pick x.b 2) []], keysS x, false, 0, []⟩
 else if k = 9 then ⟨9, 0, 0, [nm9.getD (pick x.a 3) [], wordL x.s].take (1 + pick x.b 2), [], false, 0, []⟩
 else if k = 10 then ⟨10, 0, 0, [], [], pick x.a 2 == 1, (pick x.b 400 : Nat), []⟩
 else zeroT k
theorem leafS_sub (k : Int) (x : Stk) : (leafS k x).tests = [] := by unfold leafS zeroT; split <;> (try split) <;> (try split) <;> (try split) <;> (try split) <;> rfl
end Go.Proofs.YtmkppkjikifdlaaGreatDoor.Sc
