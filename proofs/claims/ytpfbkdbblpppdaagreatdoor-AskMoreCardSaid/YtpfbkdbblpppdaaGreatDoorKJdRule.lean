/-
  DERIVED. Of: JdRule.
-/
import Derived.Test.YtpfbkdbblpppdaaGreatDoorDRuAll
import Derived.Test.YtpfbkdbblpppdaaGreatDoorKRuAll
import Derived.Test.YtpfbkdbblpppdaaGreatDoorDJdA
import Derived.Test.YtpfbkdbblpppdaaGreatDoorKScTree
import Derived.Test.YtpfbkdbblpppdaaGreatDoorProg
import Derived.Test.YtpfbkdbblpppdaaGreatDoorShelf
import Derived.Lib.IndexMore
import Derived.Lib.SlTrimSet
import Derived.Lib.IndexBytes
import Derived.WalkKit
import Derived.WalkLawsBesides
import Derived.WalkSpells
import Derived.Outline
import Derived.LoopTactic
import Derived.Lib.Hide
import Derived.Maps.AppendAt
import Derived.Lib.ConvBytes
import Derived.Lib.IndexLaws
import Derived.Lib.SplitLaws
import Derived.Tactics
import Derived.Tactics2
import Derived.Defers
import Derived.Recover
import Derived.BigRegion
import Derived.StillTailTactics
import Derived.Lib.BufferOwn
import Derived.Lib.HexFns2
import Derived.Deep.QuietTactic
import Derived.BigQuiet
import Derived.Handy
set_option linter.unusedVariables false
set_option linter.unusedSimpArgs false
namespace Go.Proofs.YtpfbkdbblpppdaaGreatDoor.Jd
open Go.RowKit
open Sc

mutual
theorem tstR_zero {has : List Str} (h : needR has envW = 0) : ∀ t : Tst, niceT t → tstR has t = 0
  | ⟨k, m, p, ns, ks, o, l, ts⟩, hn => by
    rw [niceT] at hn
    obtain ⟨h1, h2, h3⟩ := hn
    rw [tstR, if_pos h2, tstsR_zero h ts h3]
    by_cases hk : k = 8
    · rw [if_pos hk, if_pos (h1 hk), h]; rfl
    · rw [if_neg hk]; rfl
theorem tstsR_zero {has : List Str} (h : needR has envW = 0) : ∀ l : List Tst, niceTs l → tstsR has l = 0
  | [], _ => by rw [tstsR]
  | t :: l, hn => by
    rw [niceTs] at hn
    rw [tstsR, tstR_zero h t hn.1, tstsR_zero h l hn.2]; rfl
end
def reqE : Cmd := ⟨1, [envW], T0, [], []⟩
def ifC (t : Tst) : Cmd := ⟨2, [], t, [], []⟩
/-- a test that may stand at depth d; it has at most B tokens -/
structure Fine (d B : Nat) (t : Tst) : Prop where
  form : FormT t
  nice : niceT t
  len : LenTs t
  fit : fitT d t = true
  few : (wT t).length ≤ B
theorem Fine.up {d B B' : Nat} {t : Tst} (h : Fine d B t) (hB : B ≤ B') : Fine d B' t := ⟨h.form, h.nice, h.len, h.fit, Nat.le_trans h.few hB⟩
theorem ifC_form {t : Tst} (h : FormT t) : FormC (ifC t) := (FormC.iff _).2 ⟨by unfold Form2 ifC; simp, .inl ⟨rfl, h, (fun x hx => by cases hx), (fun x hx => by cases hx)⟩⟩
theorem reqE_form : FormC reqE := (FormC.iff _).2 ⟨by unfold Form2 reqE; simp, .inr ⟨by decide, rfl, rfl, rfl⟩⟩
theorem ifC_fit {t : Tst} (h : fitT 1 t = true) : fitC 0 (ifC t) = true := by rw [fitC_eq]; simp [ifC, isElsif, h]
theorem ifC_len (t : Tst) : (wC (ifC t)).length = (wT t).length + 3 := by
  rw [wC_if rfl, wBr_eq]
  simp [ifC, blkT, elseT, isElsif]
theorem reqE_len : (wC reqE).length = 3 := by decide +kernel
theorem ask_flat (t : Tst) : ([reqE, ifC t].flatMap wC).length = (wT t).length + 6 := by
  rw [List.flatMap_cons, List.flatMap_cons, List.flatMap_nil, List.length_append, List.length_append, reqE_len, ifC_len]
  simp; omega
theorem ask_check {B : Nat} {t : Tst} (h : Fine 1 B t) (hB : B ≤ 300) : checkS [reqE, ifC t] = 0 := by
  have h1 : fitC 0 reqE = true := plain_fit (by omega) (by decide) _ _ _ _
  have h2 := ifC_fit h.fit
  have h3 := h.few
  unfold checkS
  rw [if_pos (by simp [h1, h2]), ask_flat, if_neg (by omega)]
theorem ask_rule {B : Nat} {t : Tst} (h : Fine 1 B t) (hB : B ≤ 300) : ruleS [reqE, ifC t] = 0 := by
  have hc := ask_check h hB
  have hn : needR [envW] envW = 0 := by decide +kernel
  unfold ruleS
  rw [if_neg (by rw [hc]; simp), goR, if_pos (by rfl), if_pos (by decide +kernel)]
  show goR [envW] [ifC t] = 0
  rw [goR, if_neg (by show ¬ (2 : Int) = 1; decide), cmdsR, cmdsR, or_zero]
  unfold ifC
  rw [cmdR, if_neg (by decide), if_pos rfl, tstR_zero hn t h.nice, cmdsR]
  rfl
theorem reqE_good : GoodC reqE := (GoodC.iff _).2 ⟨⟨fun h => absurd h (by decide), fun h => absurd h (by decide), fun h => absurd h (by decide), by decide, Nat.zero_le _, Nat.zero_le _⟩, T0_len, nilCmd, nilCmd⟩
theorem ifC_good {t : Tst} (h : LenTs t) : GoodC (ifC t) := (GoodC.iff _).2 ⟨⟨fun h => absurd h (by show ¬ (2 : Int) = 5; decide), fun h => absurd h (by show ¬ (2 : Int) = 6; decide), fun h => absurd h (by show ¬ ((2 : Int) = 8 ∨ (2 : Int) = 9); decide), by show (1 : Int) ≤ 2 ∧ (2 : Int) ≤ 10; decide, Nat.zero_le _, Nat.zero_le _⟩, h, nilCmd, nilCmd⟩
/-! tests that are made -/
def manyT (k : Int) (ts : List Tst) : Tst := ⟨k, 0, 0, [], [], false, 0, ts⟩
theorem Fine.many {d B : Nat} {k : Int} (hk : k = 4 ∨ k = 5) {ts : List Tst} (h : ∀ t ∈ ts, Fine (d + 1) B t) (hd : d ≤ 6) (h0 : 0 < ts.length) (h3 : ts.length ≤ 3) : Fine d (3 * (B + 1) + 2) (manyT k ts) := by
  refine ⟨FormT.mk' ?_ fun s hs => (h s hs).form, niceT_mk (fun h => absurd h (by show ¬ k = 8; omega)) rfl fun s hs => (h s hs).nice, LenTs_mk nilStr nilStr ⟨Nat.zero_le _, Nat.zero_le _, by show ts.length ≤ _; omega⟩ fun s hs => (h s hs).len, ?_, ?_⟩
  · unfold Form1 manyT
    rcases hk with rfl | rfl <;> simp [h0]
  · rw [fitT_eq, decide_eq_true hd, Bool.true_and, List.all_eq_true]
    exact fun s hs => (h s hs).fit
  · exact wT_of hk ts h3 fun t ht => (h t ht).few
end Go.Proofs.YtpfbkdbblpppdaaGreatDoor.Jd
