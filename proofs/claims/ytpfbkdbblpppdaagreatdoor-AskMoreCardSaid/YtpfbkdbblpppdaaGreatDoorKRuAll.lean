/-
  DERIVED. Of: RuAll.
-/
import Derived.Test.YtpfbkdbblpppdaaGreatDoorDRuAll
import Derived.Test.YtpfbkdbblpppdaaGreatDoorDScStk
import Derived.Test.YtpfbkdbblpppdaaGreatDoorKScTree
import Derived.Test.YtpfbkdbblpppdaaGreatDoorProg
import Derived.Test.YtpfbkdbblpppdaaGreatDoorShelf
import Derived.Test.YtpfbkdbblpppdaaGreatDoorDScT
import Derived.Test.YtpfbkdbblpppdaaGreatDoorKScX0
import Derived.Test.YtpfbkdbblpppdaaGreatDoorDScWrote
import Derived.Test.YtpfbkdbblpppdaaGreatDoorDScW
import Derived.Test.YtpfbkdbblpppdaaGreatDoorRows
import Derived.Test.YtpfbkdbblpppdaaGreatDoorDLift
import Derived.Test.YtpfbkdbblpppdaaGreatDoorDName
import Derived.Test.YtpfbkdbblpppdaaGreatDoorDJgC
import Derived.Test.YtpfbkdbblpppdaaGreatDoorDScMem
import Derived.Test.YtpfbkdbblpppdaaGreatDoorDKtA
import Derived.Test.YtpfbkdbblpppdaaGreatDoorDFlags
import Derived.Test.YtpfbkdbblpppdaaGreatDoorDScPut
import Derived.IntWalk
import Derived.Maps.Own
import Derived.Maps.OwnSet
import Derived.StringKeys
import Derived.WalkKit
import Derived.Deep.DeepCutAuto
import Derived.Deep.CutBlock
import Derived.Lib.IndexLaws
import Derived.WalkLawsBesides
import Derived.WalkSpells
import Derived.Outline
import Derived.LoopTactic
import Derived.Lib.Hide
import Derived.Maps.AppendAt
import Derived.Lib.ConvBytes
import Derived.Deep.RegionHeld3
import Derived.Deep.AppendLies
import Derived.Lib.BufferOwn
import Derived.Deep.RegionLaw
import Derived.BigRegion
import Derived.Handy
import Derived.HandedShaped
import Derived.Handed
import Derived.Shelf.Vars
import Derived.Lay
import Derived.MakeChecks
import Derived.Lib.LaidU8
import Derived.OpenShut
import Derived.ProofKit
import Derived.Deep.QuietTactic
import Derived.BigQuiet
import Derived.Tactics
import Derived.Tactics2
import Derived.Defers
import Derived.Recover
import Derived.StillTailTactics
import Derived.Lib.HexFns2
import Derived.Lib.SplitLaws
set_option linter.unusedVariables false
set_option linter.unusedSimpArgs false
namespace Go.Proofs.YtpfbkdbblpppdaaGreatDoor.Sc
open Tk (Tok)

theorem seqT_bound {B : Nat} (l : List (List Tok)) (h : ∀ x ∈ l, x.length ≤ B) : (seqT l).length ≤ l.length * (B + 1) := by
  cases l with
  | nil => exact Nat.zero_le _
  | cons a l =>
    have h1 := h a (List.mem_cons_self ..)
    have h2 := flat_bound (B := B + 1) (fun y => M 44 :: y) l fun x hx => by rw [List.length_cons]; have := h x (List.mem_cons_of_mem _ hx); omega
    show (M 40 :: a ++ l.flatMap fun y => M 44 :: y).length ≤ _
    rw [List.length_append, List.length_cons, List.length_cons, Nat.add_mul]; omega
theorem wT_of {k : Int} (hk : k = 4 ∨ k = 5) {B : Nat} (ts : List Tst) (hl : ts.length ≤ 3) (h : ∀ t ∈ ts, (wT t).length ≤ B) : (wT ⟨k, 0, 0, [], [], false, 0, ts⟩).length ≤ 3 * (B + 1) + 2 := by
  rw [wT_eq, List.length_cons]
  have e : bodyT k 0 0 [] [] false 0 (ts.map wT) = seqT (ts.map wT) ++ [M 41] := by unfold bodyT; rw [if_neg (by omega), if_pos hk]
  show (bodyT k 0 0 [] [] false 0 (ts.map wT)).length + 1 ≤ _
  rw [e, List.length_append]
  have h2 := seqT_bound (B := B) (ts.map wT) fun x hx => by obtain ⟨t, ht, rfl⟩ := List.mem_map.1 hx; exact h t ht
  rw [List.length_map] at h2
  have h3 : ts.length * (B + 1) ≤ 3 * (B + 1) := Nat.mul_le_mul_right _ hl
  show (seqT (ts.map wT)).length + 1 + 1 ≤ _
  omega
end Go.Proofs.YtpfbkdbblpppdaaGreatDoor.Sc
namespace Go.Proofs.YtpfbkdbblpppdaaGreatDoor.Sc
open Go.RowKit
open Tk (Tok)

end Go.Proofs.YtpfbkdbblpppdaaGreatDoor.Sc
namespace Go.Proofs.YtpfbkdbblpppdaaGreatDoor.Sc
open Go.RowKit
open Tk (Tok)

end Go.Proofs.YtpfbkdbblpppdaaGreatDoor.Sc
namespace Go.Proofs.YtpfbkdbblpppdaaGreatDoor.Sc
open Go

end Go.Proofs.YtpfbkdbblpppdaaGreatDoor.Sc
namespace Go.Proofs.YtpfbkdbblpppdaaGreatDoor.Sc
open Tk (Tok)

/-! what needs what -/
/-! a test that is refused for what it needs alone -/
theorem niceT_mk {t : Tst} (h1 : t.kind = 8 → t.names.all (fun s => s == fromW || s == toW) = true) (h2 : (t.names ++ t.keys).all (fun s => decide (s.length ≤ 100)) = true) (h3 : ∀ s ∈ t.tests, niceT s) : niceT t := by
  obtain ⟨k, m, p, ns, ks, o, l, ts⟩ := t
  rw [niceT]; exact ⟨h1, h2, (niceTs_iff _).2 h3⟩
end Go.Proofs.YtpfbkdbblpppdaaGreatDoor.Sc
namespace Go.Proofs.YtpfbkdbblpppdaaGreatDoor.Sc
open Go.RowKit
open Go.Maps

end Go.Proofs.YtpfbkdbblpppdaaGreatDoor.Sc
namespace Go.Proofs.YtpfbkdbblpppdaaGreatDoor.Sc
open Go.RowKit

end Go.Proofs.YtpfbkdbblpppdaaGreatDoor.Sc
namespace Go.Proofs.YtpfbkdbblpppdaaGreatDoor.Sc
open Go.RowKit

end Go.Proofs.YtpfbkdbblpppdaaGreatDoor.Sc
namespace Go.Proofs.YtpfbkdbblpppdaaGreatDoor.Sc
open Go.RowKit

end Go.Proofs.YtpfbkdbblpppdaaGreatDoor.Sc
namespace Go.Proofs.YtpfbkdbblpppdaaGreatDoor.Sc
open Go.RowKit
open Go.Maps

end Go.Proofs.YtpfbkdbblpppdaaGreatDoor.Sc
namespace Go.Proofs.YtpfbkdbblpppdaaGreatDoor.Sc
open Go

end Go.Proofs.YtpfbkdbblpppdaaGreatDoor.Sc
namespace Go.Proofs.YtpfbkdbblpppdaaGreatDoor.Sc
open Go.RowKit

end Go.Proofs.YtpfbkdbblpppdaaGreatDoor.Sc
