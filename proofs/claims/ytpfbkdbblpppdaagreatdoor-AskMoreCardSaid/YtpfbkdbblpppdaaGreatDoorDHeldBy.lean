/-
  DERIVED. Of: HeldBy.
-/
import Derived.Deep.RegionHeld3
set_option linter.unusedVariables false
set_option linter.unusedSimpArgs false
namespace Go.Proofs.YtpfbkdbblpppdaaGreatDoor
open Go

theorem heldStrong {P : Program} {md : Region.Mode} {ops : Array Oper} {Q : Exit → Act → World → Prop} {S S' : World → Prop} (hSS : ∀ w, S' w → S w) : ∀ (fuel : Nat) (listed : Array Bool) (a : Act) (w : World), wpAnyH P md ops Q S' fuel listed a w → wpAnyH P md ops Q S fuel listed a w
  | 0, _, _, _, h => h
  | fuel + 1, _, _, _, h => ⟨h.1, fun i hi => wpOp_mono (fun a' w' h' => ⟨hSS _ h'.1, heldStrong hSS fuel _ a' w' h'.2⟩) (h.2 i hi)⟩
/-- go on from whatever world R holds of, with S' held from here on -/
theorem heldTo {P : Program} {md : Region.Mode} {ops : Array Oper} {Q : Exit → Act → World → Prop} {S : World → Prop} {fuel : Nat} {listed : Array Bool} {a : Act} {w : World} (R S' : World → Prop) (hR : R w) (hS : ∀ V, R V → S' V) (hSS : ∀ w, S' w → S w) (h : ∀ V, R V → S' V → wpAnyH P md ops Q S' fuel listed a V) : wpAnyH P md ops Q S fuel listed a w :=
  heldStrong hSS fuel listed a w (h w hR (hS w hR))
end Go.Proofs.YtpfbkdbblpppdaaGreatDoor
