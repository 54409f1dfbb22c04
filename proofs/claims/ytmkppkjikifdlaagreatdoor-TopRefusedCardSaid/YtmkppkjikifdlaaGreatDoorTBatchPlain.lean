/- On the way. -/
import Derived.Lib.IndexMore
set_option linter.unusedVariables false
set_option linter.unusedSimpArgs false
namespace Go.Proofs.YtmkppkjikifdlaaGreatDoor
open Go
structure Ent where
 (kind flags uid : Nat) (box to text : List UInt8)
abbrev Left := Option (List UInt8)
def takeL (n : Nat) : Left → List UInt8 × Left
 | none => ([], none)
 | some l => if l.length < n then ([], none) else (l.take n, some (l.drop n))
def numV (l : List UInt8) : Nat := l.foldl (fun n c => n * 256 + c.toNat) 0
def numL (many : Nat) (r : Left) : Nat × Left := (numV (takeL many r).1, (takeL many r).2)
def textL (r : Left) : List UInt8 × Left := takeL (numL 2 r).1 (numL 2 r).2
def readE (r : Left) : Ent × Left :=
 let k := numL 1 r; let f := numL 1 k.2; let u := numL 3 f.2; let b := textL u.2; let t := textL b.2; let x := textL t.2
 (⟨k.1, f.1, u.1, b.1, t.1, x.1⟩, x.2)
end Go.Proofs.YtmkppkjikifdlaaGreatDoor
