/-
  DERIVED. Of: JdGood.
-/
import Derived.Test.YtpfbkdbblpppdaaGreatDoorDJdB
import Derived.Test.YtpfbkdbblpppdaaGreatDoorFJdLet
import Derived.Test.YtpfbkdbblpppdaaGreatDoorFScMem
import Derived.Test.YtpfbkdbblpppdaaGreatDoorFRuAll
import Derived.Test.YtpfbkdbblpppdaaGreatDoorFScTree
import Derived.Test.YtpfbkdbblpppdaaGreatDoorProg
import Derived.Test.YtpfbkdbblpppdaaGreatDoorShelf
import Derived.Test.YtpfbkdbblpppdaaGreatDoorFJdTest
import Derived.Lib.SliceRun
import Derived.Deep.Cut
import Derived.Deep.RegionLaw
import Derived.Deep.AppendLies
import Derived.Handy
import Derived.Lib.IndexMore
import Derived.Lib.SlTrimSet
import Derived.Lib.IndexBytes
import Derived.WalkKit
import Derived.WalkLawsBesides
import Derived.WalkSpells
import Derived.Outline
import Derived.LoopTactic
import Derived.Lib.Hide
import Derived.Maps.AppendAt
import Derived.Lib.ConvBytes
import Derived.Lib.IndexLaws
import Derived.Lib.SplitLaws
import Derived.Tactics
import Derived.Tactics2
import Derived.Defers
import Derived.Recover
import Derived.BigRegion
import Derived.StillTailTactics
import Derived.Lib.BufferOwn
import Derived.Lib.HexFns2
import Derived.Deep.QuietTactic
import Derived.BigQuiet
import Derived.RangeFuncNested
import Derived.RangeFuncBound
import Derived.RangeFuncCalls
import Derived.RangeFuncLeaves
import Derived.RangeFuncBox
import Derived.Shelf.Abstract
import Derived.OwnWalkIn
import Derived.TacticsInMore
import Derived.LoopNIn
import Derived.LoopIn
import Derived.RegionIn
import Derived.BigRegionIn
import Derived.RegionTactic
import Derived.ChangeAlike
import Derived.OwnWalk
import Derived.Lib.Strings
import Derived.Lib.UnsafeStr
import Derived.Lib.Builder
import Derived.Lib.AppendStr
import Derived.Laws.Externs
import Derived.Shelf.Strings.SlTrimAscii
import Derived.Deep.DeepCutAuto
import Derived.Deep.CutBlock
set_option linter.unusedVariables false
set_option linter.unusedSimpArgs false
namespace Go.Proofs.YtpfbkdbblpppdaaGreatDoor.Jd
open Go.RowKit
open Sc (Str Tst Cmd Stk cmdS textsS kindC redirW fileW flagW flagL T0 testS kindC_ok)

theorem plain_do (x : Stk) {k : Int} (hk : 3 ≤ k ∧ k ≤ 10) : DoOk ⟨k, textsS k x, T0, [], []⟩ := by
  obtain ⟨⟨h5, h6, h8, hkk, -, -⟩, -, -, -⟩ := (Sc.GoodC.iff _).1 (Sc.plain_good x hk)
  have a3 := pick_lt_int x.a 3 (by omega)
  refine ⟨⟨hkk.1, hkk.2, by show k ≠ 2; omega⟩, fun h => ?_, fun h => ?_, h8⟩
  · rcases h with h | h
    · obtain ⟨s, hs, -⟩ := h5 h; exact ⟨s, hs⟩
    · have h' : k = 7 := h
      subst h'
      exact ⟨_, rfl⟩
  · have h' : k = 6 := h
    subst h'
    obtain ⟨y, hy⟩ := Sc.one_of.1 (Sc.redirW_ok (pick x.a 3) (by omega))
    refine ⟨redirW.getD (pick x.a 3) [], y, rfl, ?_, hy⟩
    have : ∀ n : Nat, n < 3 → (redirW.getD n []).length ≤ 2000 := by decide
    exact this _ (by omega)
theorem plain_goodJ (x : Stk) {k : Int} (hk : 3 ≤ k ∧ k ≤ 10) : GoodJ ⟨k, textsS k x, T0, [], []⟩ :=
  (GoodJ.iff _).2 ⟨fun _ => plain_do x hk, fun h => absurd h (by show k ≠ 2; omega), ⟨Nat.zero_le _, Nat.zero_le _⟩, nilC, nilC⟩
theorem cmdS_goodJ : ∀ (m : Nat) (x : Stk), GoodJ (cmdS m x)
  | 0, x => by
    have hk := kindC_ok x
    rw [cmdS]
    by_cases h2 : kindC x = 2
    · have e : textsS (kindC x) x = textsS 3 x := by rw [h2]; rfl
      rw [if_pos h2, e]; exact plain_goodJ x (by decide)
    · rw [if_neg h2]; exact plain_goodJ x (by omega)
  | m + 1, x => by
    have hk := kindC_ok x
    rw [cmdS]
    by_cases h2 : kindC x = 2
    · rw [if_pos h2]
      refine (GoodJ.iff _).2 ⟨fun h => absurd rfl h, fun _ => (testS_fine 2 1 _ (by omega) (by omega)).good, ⟨?_, ?_⟩, fun c hc => ?_, fun c hc => ?_⟩
      · show (List.map _ _).length ≤ _; rw [List.length_map, List.length_take]; omega
      · show (List.map _ _).length ≤ _; rw [List.length_map, List.length_take]; omega
      · obtain ⟨y, -, rfl⟩ := List.mem_map.1 hc; exact cmdS_goodJ m y
      · obtain ⟨y, -, rfl⟩ := List.mem_map.1 hc; exact cmdS_goodJ m y
    · rw [if_neg h2]; exact plain_goodJ x (by omega)
end Go.Proofs.YtpfbkdbblpppdaaGreatDoor.Jd
