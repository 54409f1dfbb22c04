/- On the way. -/
import Derived.Lib.IndexMore
set_option linter.unusedVariables false
set_option linter.unusedSimpArgs false
namespace Go.Proofs.YtpfbkdbblpppdaaGreatDoor
open Go
structure Ent where
 (kind flags uid : Nat) (box to text : List UInt8)
abbrev Left := Option (List UInt8)
def takeL (n : Nat) : Left → List UInt8 × Left
 | none => ([], none)
 | some l => if l.length < n then ([], none) else (l.take n, some (l.drop n))
def numV (l : List UInt8) : Nat := l.foldl (fun n c => n * 256 + c.toNat) 0
def numL (many : Nat) (r : Left) : Nat × Left := (numV (takeL many r).1, (takeL many r).2)
def textL (r : Left) : List UInt8 × Left := takeL (numL 2 r).1 (numL 2 r).2
def Fits (x : Ent) : Prop := x.kind < 256 ∧ x.flags < 256 ∧ x.uid < 16777216 ∧ x.box.length < 65536 ∧ x.to.length < 65536 ∧ x.text.length < 65536
end Go.Proofs.YtpfbkdbblpppdaaGreatDoor
