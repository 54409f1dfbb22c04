/- On the way. -/
import Derived.Test.YtjfclekmhfgkmaaGreatDoorRScTst2
import Derived.Test.YtjfclekmhfgkmaaGreatDoorRScTst3
import Derived.Test.YtjfclekmhfgkmaaGreatDoorRScTst5
set_option linter.unusedVariables false
set_option linter.unusedSimpArgs false
namespace Go.Proofs.YtjfclekmhfgkmaaGreatDoor.Sc
open Go.RowKit
open Tk (Tok)
theorem TestPost.up {t : Tst} {n n' : Nat} {w w' : World} {e : Ending} (h : TestPost t n w e w') (hn : n ≤ n') : TestPost t n' w e w' := by
 obtain ⟨vs, h1, h2, h3⟩ := h
 exact ⟨vs, h1, tst_le hn h2, h3⟩
theorem test_leaf (m : Nat) (x : Stk) (v : Value) (d : Int) (w : World) (hb : Bd x) (hd : 1 ≤ d ∧ d ≤ 3) (h : ¬ (3 ≤ kindS x ∧ kindS x ≤ 5) ∨ (m = 0 ∧ d = 3)) :
    Calls Tryz.prog 44 #[.agg (stkC x v).toArray, .int .i64 d] w (TestPost (testS m x) 4 w) := by
 have hk := kindS_ok x
 by_cases h3 : 3 ≤ kindS x ∧ kindS x ≤ 5
 ·rcases h with h | ⟨rfl, rfl⟩
  ·exact absurd h3 h
  ·rw [testS, if_pos h3]
   exact test_zero 1 x v 3 w hb (.inl rfl) (.inr ⟨rfl, rfl, h3⟩) hd
 ·have hl : testS m x = leafS (kindS x) x := by
   cases m with
   | zero => rw [testS, if_neg h3]
   | succ m => rw [testS, if_neg (by omega), if_neg (by omega)]
  rw [hl]
  have hcase : (kindS x = 1 ∨ kindS x = 2) ∨ (kindS x = 6 ∨ kindS x = 7 ∨ kindS x = 8) ∨ kindS x = 9 ∨ kindS x = 10 := by omega
  rcases hcase with h1 | h1 | h1 | h1
  ·have : leafS (kindS x) x = zeroT (kindS x) := by
    unfold leafS
    rw [if_neg (by omega), if_neg (by omega), if_neg (by omega), if_neg (by omega), if_neg (by omega)]
   rw [this]
   exact test_zero _ x v d w hb h1 (.inl rfl) hd
  ·exact test_header _ x v d w hb h1 rfl hd
  ·rw [h1]; exact test_exists x v d w hb h1 hd
  ·rw [h1]; exact test_size x v d w hb h1 hd
theorem test_all : ∀ (m : Nat), m ≤ 2 → TestsAt m (m + 4) (3 - (m : Int))
 | 0, _ => fun n y vs F w' hr => by
  obtain ⟨_, G, c, -, rfl, -, -, hb⟩ := stk_open hr
  exact test_leaf 0 y _ _ w' hb (by decide) (.inr ⟨rfl, rfl⟩)
 | m + 1, hm => fun n y vs F w' hr => by
  obtain ⟨n', G, c, -, rfl, hs, -, hb⟩ := stk_open hr
  have ih := test_all m (by omega)
  have e : (3 : Int) - ((m + 1 : Nat) : Int) + 1 = 3 - (m : Int) := by omega
  have hd : 1 ≤ (3 : Int) - ((m + 1 : Nat) : Int) ∧ (3 : Int) - ((m + 1 : Nat) : Int) ≤ 2 := by omega
  by_cases h3 : kindS y = 3
  ·exact test_not m (m + 4) n' y _ _ F w' (by rw [e]; exact ih) hs hb h3 hd
  ·by_cases h4 : kindS y = 4 ∨ kindS y = 5
   ·exact test_of m (m + 3) n' (kindS y) y _ _ F w' (by rw [e]; exact ih) hs hb h4 rfl hd
   ·exact (test_leaf (m + 1) y _ _ w' hb (by omega) (.inl (by omega))).mono fun e w2 h => h.up (by omega)
end Go.Proofs.YtjfclekmhfgkmaaGreatDoor.Sc
