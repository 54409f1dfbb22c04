/-
  DERIVED. Of: ScStkMem.
-/
import Derived.Test.YtpfbkdbblpppdaaGreatDoorDScStk
import Derived.Test.YtpfbkdbblpppdaaGreatDoorDScMem
import Derived.Test.YtpfbkdbblpppdaaGreatDoorDOpen
import Derived.Deep.Slices
import Derived.Deep.Fields
import Derived.ChangeSame
import Derived.SizedLaws
set_option linter.unusedVariables false
set_option linter.unusedSimpArgs false
namespace Go.Proofs.YtpfbkdbblpppdaaGreatDoor.Sc
open Go Go.Joins Go.Deep Go.ChangeShapes Go.WideShapes Go.RowKit

def stkC (x : Stk) (v : Value) : List Value := [.int .i64 x.kind, .int .i64 x.a, .int .i64 x.b, .string ⟨x.s.toArray⟩, .string ⟨x.t.toArray⟩, v]
/-- its numbers are ints; it is not too long -/
structure Bd (x : Stk) : Prop where
  k : -9223372036854775808 ≤ x.kind ∧ x.kind ≤ 9223372036854775807
  a : -9223372036854775808 ≤ x.a ∧ x.a ≤ 9223372036854775807
  b : -9223372036854775808 ≤ x.b ∧ x.b ≤ 9223372036854775807
  s : x.s.length ≤ 9223372036854775807
  t : x.t.length ≤ 9223372036854775807
  n : x.subs.length ≤ 140737488351232
def stepS (r : RepK 6 Stk) : RepK 6 Stk where
  rep := fun w F x vs => (∃ v, vs = stkC x v ∧ SAt r.cod w F v x.subs) ∧ Bd x
  len := fun ⟨⟨_, h, _⟩, _⟩ => by rw [h]; rfl
  stable := fun ⟨⟨v, h, h1⟩, hb⟩ hs hz => ⟨⟨v, h, h1.stable hs hz⟩, hb⟩
  mono := fun ⟨⟨v, h, h1⟩, hb⟩ hF => ⟨⟨v, h, h1.mono hF⟩, hb⟩
def rStk : Nat → RepK 6 Stk
  | 0 => RepK.none 6 Stk
  | n + 1 => stepS (rStk n)
def cStk (n : Nat) : Cod Stk := (rStk n).cod
section
variable {H : Type} {enc : TypeId × Value → H} {w : World} {base : Nat} {spare : Nat → Bool} {held : Bool}
end
end Go.Proofs.YtpfbkdbblpppdaaGreatDoor.Sc
