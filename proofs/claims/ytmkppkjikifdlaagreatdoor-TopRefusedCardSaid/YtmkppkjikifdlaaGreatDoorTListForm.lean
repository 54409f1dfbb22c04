/- On the way. -/
import Derived.Test.YtmkppkjikifdlaaGreatDoorTJgC
set_option linter.unusedVariables false
set_option linter.unusedSimpArgs false
namespace Go.Proofs.YtmkppkjikifdlaaGreatDoor
open Go.RowKit
def oneL (l : List UInt8) : Bool := decide (l.length ≤ 2000) && match listL l with | some ys => ys.length == 1 | none => false
end Go.Proofs.YtmkppkjikifdlaaGreatDoor
