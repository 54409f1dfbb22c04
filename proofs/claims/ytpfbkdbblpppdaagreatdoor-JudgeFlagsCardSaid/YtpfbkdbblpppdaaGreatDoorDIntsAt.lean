/-
  DERIVED. Of: IntsAt.
-/
import Derived.Test.YtpfbkdbblpppdaaGreatDoorDKtA
set_option linter.unusedVariables false
set_option linter.unusedSimpArgs false
namespace Go.Proofs.YtpfbkdbblpppdaaGreatDoor
open Go.RowKit

def IntsAt (w : World) (a : Option Addr) (len : Nat) (z : Nat → Int) : Prop := ∀ i, i < len → ∃ b o, a = some ⟨b, o, none⟩ ∧ b < w.heap.size ∧ w.cell? ⟨b, o + i, none⟩ = some (.int .i64 (z i)) ∧ -9223372036854775808 ≤ z i ∧ z i ≤ 9223372036854775807
end Go.Proofs.YtpfbkdbblpppdaaGreatDoor
