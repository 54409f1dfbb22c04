/- On the way. -/
import Derived.Test.YtmkppkjikifdlaaGreatDoorTBatchPlain
import Derived.Test.YtmkppkjikifdlaaGreatDoorTName
import Derived.Test.YtmkppkjikifdlaaGreatDoorTListForm
set_option linter.unusedVariables false
set_option linter.unusedSimpArgs false
namespace Go.Proofs.YtmkppkjikifdlaaGreatDoor
open Go.RowKit
def entV (x : Ent) : Value := .agg #[.int .i64 x.kind, .string ⟨x.box.toArray⟩, .int .i64 x.uid, .int .i64 x.flags, .string ⟨x.to.toArray⟩, .string ⟨x.text.toArray⟩]
def entC (x : Ent) : List Value := [.int .i64 x.kind, .string ⟨x.box.toArray⟩, .int .i64 x.uid, .int .i64 x.flags, .string ⟨x.to.toArray⟩, .string ⟨x.text.toArray⟩]
structure Raw where
 (kind box uid flags dest : Int) (text : ByteArray)
def boxNames : List (List UInt8) := [[73, 78, 66, 79, 88], [119, 111, 114, 107], [106, 117, 110, 107], [97], [98], [99]]
def boxL (n : Int) : List UInt8 := boxNames.getD (pick n (6 : Nat)) []
def entOf (c : Raw) : Ent :=
 let k := 1 + pick c.kind (6 : Nat)
 ⟨k, if k = 2 ∨ k = 3 then pick c.flags (32 : Nat) else 0, if k = 3 ∨ k = 5 then 1 + pick c.uid (8 : Nat) else 0, if k ≠ 6 then boxL c.box else [],
  if k = 5 then boxL c.dest else if k = 6 then [97, 64, 98, 46, 99] else [], if k = 2 then c.text.data.toList.take 300 else if k = 6 then c.text.data.toList.take 100 else []⟩
end Go.Proofs.YtmkppkjikifdlaaGreatDoor
