/- On the way. -/
import Derived.Lib.Index
import Derived.Lib.IndexMore
import Derived.Lib.AtoiAll
import Derived.Lib.ItoaNum
set_option linter.unusedVariables false
set_option linter.unusedSimpArgs false
namespace Go.Proofs.YtpfbkdbblpppdaaGreatDoor.Tk
structure Tok where
 (kind : Int) (text : List UInt8) (num : Int)
 deriving DecidableEq
def isLet (c : UInt8) : Bool := (decide (97 ≤ c) && decide (c ≤ 122)) || (decide (65 ≤ c) && decide (c ≤ 90)) || c == 95
def isDig (c : UInt8) : Bool := decide (48 ≤ c) && decide (c ≤ 57)
def isWd (c : UInt8) : Bool := isLet c || isDig c
def isWs (c : UInt8) : Bool := c == 32 || c == 9 || c == 13 || c == 10
def noNl (c : UInt8) : Bool := c != 10
def hdOf (p : UInt8 → Bool) (l : List UInt8) : Bool := match l with
 | [] => false
 | c :: _ => p c
def endC : List UInt8 → Option (List UInt8)
 | [] => none
 | c :: t => if c = 42 ∧ t.head? = some 47 then some t.tail else endC t
def opens (r : List UInt8) : Bool := match r with
 | 47 :: 42 :: _ => true
 | _ => false
def skipF : Nat → List UInt8 → Bool × List UInt8
 | 0, l => (true, l)
 | k + 1, l =>
  if hdOf (· == 35) (l.dropWhile isWs) then skipF k ((l.dropWhile isWs).dropWhile noNl)
  else if opens (l.dropWhile isWs) then (match endC ((l.dropWhile isWs).drop 2) with
   | none => (false, l.dropWhile isWs)
   | some t => skipF k t)
  else (true, l.dropWhile isWs)
def skipL (l : List UInt8) : Bool × List UInt8 := skipF (l.length + 1) l
def textL : List UInt8 → Option (List UInt8 × List UInt8)
 | [] => none
 | [c] => if c = 34 then some ([], []) else none
 | c :: d :: t => if c = 34 then some ([], d :: t) else if c = 92 then (textL t).map (fun p => (d :: p.1, p.2)) else (textL (d :: t)).map (fun p => (c :: p.1, p.2))
def valL (l : List UInt8) : Nat := l.foldl (fun a c => a * 10 + (c.toNat - 48)) 0
def shiftL (l : List UInt8) : Nat × List UInt8 := match l with
 | [] => (0, [])
 | c :: t => if c = 75 ∨ c = 107 then (10, t) else if c = 77 ∨ c = 109 then (20, t) else (0, c :: t)
def numL (l : List UInt8) : Except Int (Tok × List UInt8) :=
 if hdOf isWd (shiftL (l.dropWhile isDig)).2 then .error 3
 else if 2147483647 >>> (shiftL (l.dropWhile isDig)).1 < valL (l.takeWhile isDig) then .error 6
 else .ok (⟨3, [], ((valL (l.takeWhile isDig) <<< (shiftL (l.dropWhile isDig)).1 : Nat) : Int)⟩, (shiftL (l.dropWhile isDig)).2)
def marks : List UInt8 := [123, 125, 40, 41, 91, 93, 59, 44]
def oneL (l : List UInt8) : Except Int (Tok × List UInt8) := match l with
 | [] => .error 3
 | b :: t =>
  if isLet b then .ok (⟨1, (b :: t).takeWhile isWd, 0⟩, (b :: t).dropWhile isWd)
  else if b = 58 then (if hdOf isLet t then .ok (⟨2, t.takeWhile isWd, 0⟩, t.dropWhile isWd) else .error 3)
  else if isDig b then numL (b :: t)
  else if b = 34 then (match textL t with
   | none => .error 4
   | some p => .ok (⟨4, p.1, 0⟩, p.2))
  else if b ∈ marks then .ok (⟨5, [b], 0⟩, t)
  else .error 3
end Go.Proofs.YtpfbkdbblpppdaaGreatDoor.Tk
