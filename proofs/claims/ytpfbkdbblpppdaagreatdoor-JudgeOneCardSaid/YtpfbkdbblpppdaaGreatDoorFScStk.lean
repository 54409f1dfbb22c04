/-
  DERIVED. Of: ScStk.
-/
import Derived.Test.YtpfbkdbblpppdaaGreatDoorDScStk
import Derived.Test.YtpfbkdbblpppdaaGreatDoorDScTree
import Derived.Test.YtpfbkdbblpppdaaGreatDoorFScTree
import Derived.Test.YtpfbkdbblpppdaaGreatDoorDJgB
import Derived.Test.YtpfbkdbblpppdaaGreatDoorProg
import Derived.Test.YtpfbkdbblpppdaaGreatDoorShelf
import Derived.Lib.IndexLaws
import Derived.WalkKit
import Derived.WalkLawsBesides
import Derived.WalkSpells
import Derived.Outline
import Derived.LoopTactic
import Derived.Lib.Hide
import Derived.Maps.AppendAt
import Derived.Lib.ConvBytes
set_option linter.unusedVariables false
set_option linter.unusedSimpArgs false
namespace Go.Proofs.YtpfbkdbblpppdaaGreatDoor.Sc
open Tk (Tok)

theorem kindS_ok (x : Stk) : 1 ≤ kindS x ∧ kindS x ≤ 10 := by have := pick_lt_int x.kind 10 (by omega); unfold kindS; omega
theorem zeroT_form {k : Int} (h : k = 1 ∨ k = 2) : FormT (zeroT k) := FormT.mk' (by unfold Form1 zeroT; simp; omega) (fun s hs => by cases hs)
theorem leafS_form (x : Stk) {k : Int} (h : 1 ≤ k ∧ k ≤ 10) (h3 : ¬ (3 ≤ k ∧ k ≤ 5)) : FormT (leafS k x) := by
  have a3 := pick_lt_int x.a 3 (by omega); have b3 := pick_lt_int x.b 3 (by omega); have b4 := pick_lt_int x.b 400 (by omega)
  have hk : 0 < (keysS x).length := by simp [keysS]
  unfold leafS
  split
  · exact FormT.mk' (.inr (.inr (.inr (.inl ⟨rfl, by show 1 ≤ (1 + (pick x.a 3 : Nat) : Int) ∧ (1 + (pick x.a 3 : Nat) : Int) ≤ 3; omega, rfl, Nat.one_pos, hk, rfl, rfl, rfl⟩)))) (fun s hs => by cases hs)
  · split
    · exact FormT.mk' (.inr (.inr (.inr (.inr (.inl ⟨.inl rfl, by show 1 ≤ (1 + (pick x.a 3 : Nat) : Int) ∧ (1 + (pick x.a 3 : Nat) : Int) ≤ 3; omega, by show 1 ≤ (1 + (pick x.b 3 : Nat) : Int) ∧ (1 + (pick x.b 3 : Nat) : Int) ≤ 3; omega, Nat.one_pos, hk, rfl, rfl, rfl⟩))))) (fun s hs => by cases hs)
    · split
      · exact FormT.mk' (.inr (.inr (.inr (.inr (.inl ⟨.inr rfl, by show 1 ≤ (1 + (pick x.a 3 : Nat) : Int) ∧ (1 + (pick x.a 3 : Nat) : Int) ≤ 3; omega, by show 1 ≤ (1 + (pick x.b 3 : Nat) : Int) ∧ (1 + (pick x.b 3 : Nat) : Int) ≤ 3; omega, Nat.one_pos, hk, rfl, rfl, rfl⟩))))) (fun s hs => by cases hs)
      · split
        · refine FormT.mk' (.inr (.inr (.inr (.inr (.inr (.inl ⟨rfl, rfl, rfl, ?_, rfl, rfl, rfl, rfl⟩)))))) (fun s hs => by cases hs)
          show 0 < (List.take _ _).length
          rw [List.length_take]; show 0 < min (1 + pick x.b 2) 2; omega
        · split
          · exact FormT.mk' (.inr (.inr (.inr (.inr (.inr (.inr ⟨rfl, rfl, rfl, rfl, rfl, by show 0 ≤ ((pick x.b 400 : Nat) : Int) ∧ ((pick x.b 400 : Nat) : Int) ≤ 2147483647; omega, rfl⟩)))))) (fun s hs => by cases hs)
          · exact zeroT_form (by omega)
theorem testS_form : ∀ (m : Nat) (x : Stk), FormT (testS m x)
  | 0, x => by
    rw [testS]
    split
    · exact zeroT_form (.inl rfl)
    · rename_i h; exact leafS_form x (kindS_ok x) h
  | m + 1, x => by
    rw [testS]
    have ih := testS_form m
    split
    · exact FormT.mk' (.inr (.inl ⟨rfl, rfl, rfl, rfl, rfl, rfl, rfl, rfl⟩)) (fun s hs => by obtain rfl := List.mem_singleton.1 hs; exact ih _)
    · split
      · rename_i h
        refine FormT.mk' (.inr (.inr (.inl ⟨h, rfl, rfl, rfl, rfl, rfl, rfl, ?_⟩))) (fun s hs => ?_)
        · show 0 < (if x.subs = [] then _ else _ : List Tst).length
          split
          · exact Nat.one_pos
          · rename_i hne
            cases hx : x.subs with
            | nil => exact absurd hx hne
            | cons y l => simp
        · have hs' : s ∈ (if x.subs = [] then [zeroT (1 + (pick x.a 2 : Nat))] else (x.subs.take 3).map (testS m)) := hs
          split at hs'
          · obtain rfl := List.mem_singleton.1 hs'
            have := pick_lt_int x.a 2 (by omega)
            exact zeroT_form (by omega)
          · obtain ⟨y, -, rfl⟩ := List.mem_map.1 hs'
            exact ih y
      · exact leafS_form x (kindS_ok x) (by omega)
theorem leafS_sub (k : Int) (x : Stk) : (leafS k x).tests = [] := by unfold leafS zeroT; split <;> (try split) <;> (try split) <;> (try split) <;> (try split) <;> rfl
theorem leafS_fit {d : Nat} (hd : d ≤ 6) (k : Int) (x : Stk) : fitT d (leafS k x) = true := by rw [fitT_eq, leafS_sub, decide_eq_true hd]; rfl
theorem zeroT_fit {d : Nat} (hd : d ≤ 6) (k : Int) : fitT d (zeroT k) = true := by rw [fitT_eq, decide_eq_true hd]; rfl
theorem testS_fit : ∀ (m d : Nat) (x : Stk), m + d ≤ 6 → fitT d (testS m x) = true
  | 0, d, x, h => by
    rw [testS]
    split
    · exact zeroT_fit (by omega) _
    · exact leafS_fit (by omega) _ _
  | m + 1, d, x, h => by
    rw [testS]
    have ih := testS_fit m (d + 1)
    split
    · rw [fitT_eq, decide_eq_true (by omega : d ≤ 6), Bool.true_and, List.all_eq_true]
      intro s hs
      obtain rfl := List.mem_singleton.1 hs
      exact ih _ (by omega)
    · split
      · rw [fitT_eq, decide_eq_true (by omega : d ≤ 6), Bool.true_and, List.all_eq_true]
        intro s hs
        have hs' : s ∈ (if x.subs = [] then [zeroT (1 + (pick x.a 2 : Nat))] else (x.subs.take 3).map (testS m)) := hs
        split at hs'
        · obtain rfl := List.mem_singleton.1 hs'; exact zeroT_fit (by omega) _
        · obtain ⟨y, -, rfl⟩ := List.mem_map.1 hs'
          exact ih y (by omega)
      · exact leafS_fit (by omega) _ _
/-! commands -/
theorem textsS_form {k : Int} (h : 2 ≤ k ∧ k ≤ 10) (x : Stk) : Form2 k (textsS k x).length := by
  unfold Form2 textsS
  split
  · right; left; exact ⟨by omega, rfl⟩
  · split
    · right; left; exact ⟨by omega, rfl⟩
    · split
      · right; left; exact ⟨by omega, rfl⟩
      · split
        · left; exact ⟨by omega, Nat.one_pos⟩
        · right; right; exact ⟨by omega, rfl⟩
theorem plain_form {k : Int} (h : 2 ≤ k ∧ k ≤ 10) (h2 : k ≠ 2) (x : Stk) : FormC ⟨k, textsS k x, T0, [], []⟩ := (FormC.iff _).2 ⟨textsS_form h x, .inr ⟨h2, rfl, rfl, rfl⟩⟩
theorem keep_form : FormC ⟨3, [], T0, [], []⟩ := (FormC.iff _).2 ⟨by unfold Form2; simp, .inr ⟨by show (3 : Int) ≠ 2; decide, rfl, rfl, rfl⟩⟩
theorem cmdS_form : ∀ (m : Nat) (x : Stk), FormC (cmdS m x)
  | 0, x => by
    rw [cmdS]
    split
    · rename_i h
      have : textsS (kindC x) x = [] := by unfold textsS; rw [if_neg (by omega), if_neg (by omega), if_neg (by omega), if_neg (by omega)]
      rw [this]; exact keep_form
    · rename_i h; exact plain_form (kindC_ok x) h x
  | m + 1, x => by
    rw [cmdS]
    split
    · refine (FormC.iff _).2 ⟨by unfold Form2; simp, .inl ⟨rfl, testS_form _ _, fun c hc => ?_, fun c hc => ?_⟩⟩
      · obtain ⟨y, -, rfl⟩ := List.mem_map.1 hc; exact cmdS_form m y
      · obtain ⟨y, -, rfl⟩ := List.mem_map.1 hc; exact cmdS_form m y
    · rename_i h; exact plain_form (kindC_ok x) h x
theorem cmdS_fit : ∀ (m d : Nat) (x : Stk), m + d ≤ 6 → fitC d (cmdS m x) = true
  | 0, d, x, h => by
    rw [cmdS]
    refine plain_fit (by omega) ?_ _ _ _ _
    split
    · decide
    · assumption
  | m + 1, d, x, h => by
    rw [cmdS]
    split
    · have ih : ∀ l : List Stk, (l.map (cmdS m)).all (fitC (d + 1)) = true := fun l => List.all_eq_true.2 fun c hc => by
        obtain ⟨y, -, rfl⟩ := List.mem_map.1 hc; exact cmdS_fit m (d + 1) y (by omega)
      have ih' : ∀ l : List Stk, (l.map (cmdS m)).all (fitC d) = true := fun l => List.all_eq_true.2 fun c hc => fitC_mono c d (List.all_eq_true.1 (ih l) c hc)
      rw [fitC_eq, decide_eq_true (by omega : d ≤ 6), Bool.true_and, if_pos rfl, testS_fit 2 1 _ (by omega), Bool.true_and, Bool.and_eq_true]
      refine ⟨ih _, ?_⟩
      split
      · exact ih' _
      · exact ih _
    · rename_i h2; exact plain_fit (by omega) h2 _ _ _ _
/-! scripts -/
end Go.Proofs.YtpfbkdbblpppdaaGreatDoor.Sc
