/-
  DERIVED. Of: ScStk.
-/
import Derived.Test.YtpfbkdbblpppdaaGreatDoorDScTree
import Derived.Test.YtpfbkdbblpppdaaGreatDoorDJgB
set_option linter.unusedVariables false
set_option linter.unusedSimpArgs false
namespace Go.Proofs.YtpfbkdbblpppdaaGreatDoor.Sc
open Tk (Tok)

/-- a script in raw numbers -/
structure Stk where
  (kind a b : Int) (s t : Str) (subs : List Stk)
def nm6 : List Str := [[115, 117, 98, 106, 101, 99, 116], [116, 111], [102, 114, 111, 109], [120]]
def nm8 : List Str := [[102, 114, 111, 109], [116, 111]]
def nm9 : List Str := [[115, 117, 98, 106, 101, 99, 116], [116, 111], [99, 99]]
def keysS (x : Stk) : List Str := x.s.take 12 :: (if pick x.a 2 = 1 then [x.t.take 12] else [])
def zeroT (k : Int) : Tst := ⟨k, 0, 0, [], [], false, 0, []⟩
/-- a test that asks for no other ones -/
def leafS (k : Int) (x : Stk) : Tst :=
  if k = 6 then ⟨6, 1 + (pick x.a 3 : Nat), 0, [nm6.getD (pick x.b 4) []], keysS x, false, 0, []⟩
  else if k = 7 then ⟨7, 1 + (pick x.a 3 : Nat), 1 + (pick x.b 3 : Nat), [nm6.getD (pick x.b 4) []], keysS x, false, 0, []⟩
  else if k = 8 then ⟨8, 1 + (pick x.a 3 : Nat), 1 + (pick x.b 3 : Nat), [nm8.getD (pick x.b 2) []], keysS x, false, 0, []⟩
  else if k = 9 then ⟨9, 0, 0, [nm9.getD (pick x.a 3) [], wordL x.s].take (1 + pick x.b 2), [], false, 0, []⟩
  else if k = 10 then ⟨10, 0, 0, [], [], pick x.a 2 == 1, (pick x.b 400 : Nat), []⟩
  else zeroT k
def kindS (x : Stk) : Int := 1 + (pick x.kind 10 : Nat)
/-- the one that Not asks for -/
def notS (x : Stk) : Stk := match x.subs with
  | [] => ⟨x.a, 0, 0, [], [], []⟩
  | y :: _ => y
/-- Test at a depth of 3 - m -/
def testS : Nat → Stk → Tst
  | 0, x => if 3 ≤ kindS x ∧ kindS x ≤ 5 then zeroT 1 else leafS (kindS x) x
  | m + 1, x =>
    if kindS x = 3 then ⟨3, 0, 0, [], [], false, 0, [testS m (notS x)]⟩
    else if kindS x = 4 ∨ kindS x = 5 then ⟨kindS x, 0, 0, [], [], false, 0, if x.subs = [] then [zeroT (1 + (pick x.a 2 : Nat))] else (x.subs.take 3).map (testS m)⟩
    else leafS (kindS x) x
/-! commands -/
def kTab : List Int := [3, 2, 5, 2, 6, 2, 4, 8, 9, 7, 10, 2]
def kindC (x : Stk) : Int := kTab.getD (pick x.kind 12) 0
def fileW : List Str := [[73, 78, 66, 79, 88], [119, 111, 114, 107], [106, 117, 110, 107], [110, 101, 119]]
def redirW : List Str := [[97, 64, 98, 46, 99], [65, 110, 110, 32, 60, 97, 110, 110, 64, 120, 46, 121, 62], [98, 64, 99]]
def flagW : List Str := [[92, 83, 101, 101, 110], [92, 68, 114, 97, 102, 116], [92, 70, 108, 97, 103, 103, 101, 100]]
def textsS (k : Int) (x : Stk) : List Str :=
  if k = 5 then [fileW.getD (pick x.a 4) []] else if k = 6 then [redirW.getD (pick x.a 3) []] else if k = 7 then [x.s.take 12]
  else if k = 8 ∨ k = 9 then [flagW.getD (pick x.a 3) []] else []
/-- what an If of raw numbers asks -/
def askS (x : Stk) : Stk := ⟨x.a, x.b, x.a, x.s, x.t, x.subs.take 1⟩
def halfS (x : Stk) : Nat := (x.subs.length + 1) / 2
/-- Command at a depth of 2 - m -/
def cmdS : Nat → Stk → Cmd
  | 0, x => ⟨if kindC x = 2 then 3 else kindC x, textsS (kindC x) x, T0, [], []⟩
  | m + 1, x => if kindC x = 2 then ⟨2, [], testS 2 (askS x), ((x.subs.take (halfS x)).take 4).map (cmdS m), ((x.subs.drop (halfS x)).take 4).map (cmdS m)⟩ else ⟨kindC x, textsS (kindC x) x, T0, [], []⟩
def cmdsS (m : Nat) (l : List Stk) : List Cmd := (l.take 4).map (cmdS m)
theorem kindC_ok (x : Stk) : 2 ≤ kindC x ∧ kindC x ≤ 10 := by
  have h := pick_lt_int x.kind 12 (by omega)
  unfold kindC
  generalize pick x.kind 12 = k at h
  have : k = 0 ∨ k = 1 ∨ k = 2 ∨ k = 3 ∨ k = 4 ∨ k = 5 ∨ k = 6 ∨ k = 7 ∨ k = 8 ∨ k = 9 ∨ k = 10 ∨ k = 11 := by omega
  rcases this with rfl | rfl | rfl | rfl | rfl | rfl | rfl | rfl | rfl | rfl | rfl | rfl <;> decide
theorem plain_fit {d : Nat} (hd : d ≤ 6) {k : Int} (h2 : k ≠ 2) (tx : List Str) (t : Tst) (th el : List Cmd) : fitC d ⟨k, tx, t, th, el⟩ = true := by
  rw [fitC_eq, decide_eq_true hd, if_neg h2]; rfl
/-! scripts -/
def reqC : Cmd := ⟨1, [[102, 105, 108, 101, 105, 110, 116, 111], [114, 101, 106, 101, 99, 116], [101, 110, 118, 101, 108, 111, 112, 101], [105, 109, 97, 112, 52, 102, 108, 97, 103, 115]], T0, [], []⟩
theorem req_form : FormC reqC := (FormC.iff _).2 ⟨by unfold Form2; simp [reqC], .inr ⟨by show (1 : Int) ≠ 2; decide, rfl, rfl, rfl⟩⟩
/-- how many commands are left -/
def trimK (cs : List Cmd) : Nat → Nat
  | 0 => 0
  | 1 => 1
  | n + 2 => if checkS (cs.take (n + 2)) = 0 then n + 2 else trimK cs (n + 1)
def allS (l : List Stk) : List Cmd := reqC :: cmdsS 2 l
def scriptS (l : List Stk) : List Cmd := (allS l).take (trimK (allS l) (allS l).length)
theorem req_ok : checkS [reqC] = 0 := by decide
end Go.Proofs.YtpfbkdbblpppdaaGreatDoor.Sc
