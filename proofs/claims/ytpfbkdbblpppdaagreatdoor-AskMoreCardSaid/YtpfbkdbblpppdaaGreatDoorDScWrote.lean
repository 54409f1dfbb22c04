/-
  DERIVED. Of: ScWrote.
-/
import Derived.Test.YtpfbkdbblpppdaaGreatDoorDScMem
set_option linter.unusedVariables false
set_option linter.unusedSimpArgs false
namespace Go.Proofs.YtpfbkdbblpppdaaGreatDoor.Sc
open Go.RowKit
open Tk (Tok)

theorem sat_lone {α : Type} {c : Cod α} {w : World} {F : Dom} {x : α} {vs : List Value} {b : Nat} (h : c.rep w F x vs) (hb : Has w b vs) (hF : F b) : SAt c w F (.slice (some ⟨b, 0, none⟩) 1 1) [x] := by
  refine ⟨_, 1, rfl, Nat.le_refl _, fun i y hi => ?_⟩
  have h0 : i = 0 := by have := (List.getElem?_eq_some_iff.1 hi).1; simp at this; omega
  subst h0
  obtain rfl : x = y := Option.some.inj hi
  exact ⟨b, 0, rfl, hF, hb.2.2, vs, h, fun j u hj => by simpa using hb.1 j u hj⟩
end Go.Proofs.YtpfbkdbblpppdaaGreatDoor.Sc
