/-
  DERIVED. Of: AskMoreP.
-/
import Derived.Test.YtpfbkdbblpppdaaGreatDoorKJdRule
import Derived.Test.YtpfbkdbblpppdaaGreatDoorDJdA
import Derived.Test.YtpfbkdbblpppdaaGreatDoorKScTree
import Derived.Test.YtpfbkdbblpppdaaGreatDoorProg
import Derived.Test.YtpfbkdbblpppdaaGreatDoorShelf
import Derived.Lib.IndexMore
import Derived.Lib.SlTrimSet
import Derived.Lib.IndexBytes
import Derived.WalkKit
import Derived.WalkLawsBesides
import Derived.WalkSpells
import Derived.Outline
import Derived.LoopTactic
import Derived.Lib.Hide
import Derived.Maps.AppendAt
import Derived.Lib.ConvBytes
import Derived.Lib.IndexLaws
import Derived.Lib.SplitLaws
import Derived.Tactics
import Derived.Tactics2
import Derived.Defers
import Derived.Recover
import Derived.BigRegion
import Derived.StillTailTactics
import Derived.Lib.BufferOwn
import Derived.Lib.HexFns2
import Derived.Deep.QuietTactic
import Derived.BigQuiet
import Derived.Handy
set_option linter.unusedVariables false
set_option linter.unusedSimpArgs false
namespace Go.Proofs.YtpfbkdbblpppdaaGreatDoor.Jd
open Sc (Str Tst FormT niceT LenTs fitT wT listT)

theorem fits_keys (k : Int) (vs ks : List Str) (q : Str) (h : fitsL k vs ks = true) : fitsL k vs (ks ++ [q]) = true := by
  unfold fitsL at h ⊢
  obtain ⟨v, hv, h2⟩ := List.any_eq_true.1 h
  refine List.any_eq_true.2 ⟨v, hv, ?_⟩
  rw [List.any_append, h2]; rfl
theorem tst_text (x : Ltt) (fs : List Fld) (k m p : Int) (ns ks : List Str) (hk : k = 6 ∨ k = 7) : tstJ x fs ⟨k, m, p, ns, ks, false, 0, []⟩ = ns.any fun n => fitsL m (hdrJ fs k p n) ks := by
  rw [tstJ_eq]
  rcases hk with rfl | rfl <;> rfl
theorem more_keys (x : Ltt) (fs : List Fld) (k m p : Int) (ns ks : List Str) (q : Str) (hk : k = 6 ∨ k = 7) (h : tstJ x fs ⟨k, m, p, ns, ks, false, 0, []⟩ = true) : tstJ x fs ⟨k, m, p, ns, ks ++ [q], false, 0, []⟩ = true := by
  rw [tst_text _ _ _ _ _ _ _ hk] at h ⊢
  obtain ⟨n, hn, h2⟩ := List.any_eq_true.1 h
  exact List.any_eq_true.2 ⟨n, hn, fits_keys _ _ _ _ h2⟩
theorem more_names (x : Ltt) (fs : List Fld) (k m p : Int) (ns ks : List Str) (q : Str) (hk : k = 6 ∨ k = 7) (h : tstJ x fs ⟨k, m, p, ns, ks, false, 0, []⟩ = true) : tstJ x fs ⟨k, m, p, ns ++ [q], ks, false, 0, []⟩ = true := by
  rw [tst_text _ _ _ _ _ _ _ hk] at h ⊢
  rw [List.any_append, h]; rfl
theorem has_one (a d : List UInt8) (c : UInt8) : Lib.contains (a ++ c :: d) [c] = true := by
  unfold Lib.contains
  refine decide_eq_true ?_
  rcases Lib.index_spec (a ++ c :: d) [c] with ⟨-, h⟩ | ⟨i, h, -⟩
  · have := h a.length (by simp)
    unfold Lib.occAt at this
    rw [List.drop_left] at this
    simp at this
  · rw [h]; omega
def sureT : Tst := ⟨8, 2, 1, [[116, 111]], [[64]], false, 0, []⟩
theorem sure_fits (x : Ltt) (fs : List Fld) (h : chk x.ta x.td = 0) : tstJ x fs sureT = true := by
  rw [tstJ_eq]
  show ([toJ].any fun n => fitsL 2 (envJ x 1 n) [[64]]) = true
  have e : envJ x 1 toJ = [x.ta ++ [64] ++ x.td] := by
    unfold envJ partsJ
    rw [if_pos (beq_self_eq_true _)]
    show [partL 1 x.ta x.td] = _
    unfold partL
    rw [if_neg (by rw [h]; decide), if_pos rfl]
  have e2 : matchL 2 (x.ta ++ [64] ++ x.td) [64] = true := by
    show Lib.contains (foldL (x.ta ++ [64] ++ x.td)) (foldL [64]) = true
    have e3 : foldL (x.ta ++ [64] ++ x.td) = foldL x.ta ++ 64 :: foldL x.td := by unfold foldL; simp; decide
    have e4 : foldL [64] = [64] := by decide
    rw [e3, e4]
    exact has_one _ _ _
  rw [List.any_cons, e]
  show (fitsL 2 [x.ta ++ [64] ++ x.td] [[64]] || _) = true
  unfold fitsL
  rw [List.any_cons, List.any_cons, e2]; rfl
theorem list_few : ∀ l : List Str, l.length ≤ 3 → (listT l).length ≤ 8
  | [], _ => by show 1 ≤ 8; omega
  | [s], _ => by show 1 ≤ 8; omega
  | [s, t], _ => by show 5 ≤ 8; omega
  | [s, t, u], _ => by show 7 ≤ 8; omega
  | _ :: _ :: _ :: _ :: _, h => by simp at h
theorem text_fine (k m p : Int) (ns ks : List Str) (hk : k = 6 ∧ p = 0 ∨ (k = 7 ∨ k = 8) ∧ 1 ≤ p ∧ p ≤ 3) (hm : 1 ≤ m ∧ m ≤ 3) (h8 : k = 8 → ns.all (fun s => s == Sc.fromW || s == Sc.toW) = true) (hn : 0 < ns.length ∧ ns.length ≤ 3) (hq : 0 < ks.length ∧ ks.length ≤ 3) (h1 : ∀ s ∈ ns, s.length ≤ 100) (h2 : ∀ s ∈ ks, s.length ≤ 100) : Fine 1 40 ⟨k, m, p, ns, ks, false, 0, []⟩ := by
  refine ⟨?_, ?_, ?_, ?_, ?_⟩
  · rw [FormT]
    refine ⟨?_, by rw [Sc.FormTs]; trivial⟩
    unfold Sc.Form1
    rcases hk with ⟨rfl, rfl⟩ | ⟨h7, hp⟩
    · exact .inr (.inr (.inr (.inl ⟨rfl, hm, rfl, hn.1, hq.1, rfl, rfl, rfl⟩)))
    · exact .inr (.inr (.inr (.inr (.inl ⟨h7, hm, hp, hn.1, hq.1, rfl, rfl, rfl⟩))))
  · rw [niceT]
    refine ⟨h8, ?_, by rw [Sc.niceTs]; trivial⟩
    rw [List.all_eq_true]
    intro s hs
    rcases List.mem_append.1 hs with h | h
    · exact decide_eq_true (h1 s h)
    · exact decide_eq_true (h2 s h)
  · rw [LenTs]
    refine ⟨⟨fun s hs => Nat.le_trans (h1 s hs) (by omega), fun s hs => Nat.le_trans (h2 s hs) (by omega), ?_, ?_, Nat.zero_le _⟩, by rw [Sc.LenTl]; trivial⟩
    · show ns.length ≤ _; omega
    · show ks.length ≤ _; omega
  · rw [Sc.fitT_eq]; rfl
  · have e1 := list_few ns hn.2
    have e2 := list_few ks hq.2
    rw [Sc.wT_eq]
    unfold Sc.bodyT
    dsimp only
    rcases hk with ⟨rfl, rfl⟩ | ⟨rfl | rfl, -⟩ <;> simp <;> omega
end Go.Proofs.YtpfbkdbblpppdaaGreatDoor.Jd
