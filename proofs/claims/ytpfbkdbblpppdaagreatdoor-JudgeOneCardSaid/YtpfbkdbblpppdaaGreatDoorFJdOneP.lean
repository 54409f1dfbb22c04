/-
  DERIVED. Of: JdOneP.
-/
import Derived.Test.YtpfbkdbblpppdaaGreatDoorDJdOneP
import Derived.Test.YtpfbkdbblpppdaaGreatDoorDJdFlagP
import Derived.Test.YtpfbkdbblpppdaaGreatDoorFJdMore
set_option linter.unusedVariables false
set_option linter.unusedSimpArgs false
namespace Go.Proofs.YtpfbkdbblpppdaaGreatDoor.Jd
open Sc (Str Tst Cmd T0 reqC wC FormC GoodC ruleS Stk)

def oneC (t : Stk) (a b : List Stk) : Cmd := ⟨2, [], Sc.testS 2 t, Sc.cmdsS 0 a, Sc.cmdsS 0 b⟩
def sideL (x : Ltt) (fs : List Fld) (t : Stk) (a b : List Stk) : List Cmd := if tstJ x fs (Sc.testS 2 t) = true then Sc.cmdsS 0 a else Sc.cmdsS 0 b
theorem one_side (x : Ltt) (fs : List Fld) (t : Stk) (a b : List Stk) : (cmdsJ x fs [reqC, oneC t a b] C0).1 = (cmdsJ x fs (reqC :: sideL x fs t a b) C0).1 := by
  have h : ∀ l, cmdsJ x fs (reqC :: l) C0 = cmdsJ x fs l C0 := fun l => by rw [cmdsJ, req_do, if_pos rfl]
  rw [h, h, cmdsJ]
  have e : cmdJ x fs (oneC t a b) C0 = cmdsJ x fs (sideL x fs t a b) C0 := by
    rw [cmdJ_eq, if_pos (show (oneC t a b).kind = 2 from rfl)]
    unfold sideL
    by_cases ht : tstJ x fs (Sc.testS 2 t) = true
    · rw [if_pos ht, if_pos (show tstJ x fs (oneC t a b).test = true from ht)]; rfl
    · rw [if_neg ht, if_neg (show ¬ tstJ x fs (oneC t a b).test = true from ht)]; rfl
  rw [e]
  split
  · rw [cmdsJ]
  · rfl
theorem side_rule (l : List Stk) (hl : (Sc.cmdsS 0 l).length ≤ 4) : ruleS (reqC :: Sc.cmdsS 0 l) = 0 := by
  have hm : ∀ c ∈ Sc.cmdsS 0 l, ∃ y, c = Sc.cmdS 0 y := fun c hc => by obtain ⟨y, -, rfl⟩ := List.mem_map.1 hc; exact ⟨y, rfl⟩
  refine rule_small _ (fun c hc => ?_) (fun c hc => ?_) ?_ ?_
  · obtain ⟨y, rfl⟩ := hm c hc; exact Sc.cmdS_kind 0 y
  · obtain ⟨y, rfl⟩ := hm c hc; exact Sc.cmdS_fit 0 0 y (by omega)
  · have := Sc.flat_bound wC (Sc.cmdsS 0 l) (B := 3) fun c hc => by obtain ⟨y, rfl⟩ := hm c hc; exact Sc.cmdS_len 0 y
    omega
  · exact cmdsR_zero _ _ fun c hc => by
      obtain ⟨y, rfl⟩ := hm c hc
      exact Sc.cmdS_rule (full := true) (Sc.has_ext []) 0 y
theorem side_zero (l : List Stk) : Sc.cmdsR Sc.extL (Sc.cmdsS 0 l) = 0 := cmdsR_zero _ _ fun c hc => by
  obtain ⟨y, -, rfl⟩ := List.mem_map.1 hc
  exact Sc.cmdS_rule (full := true) (Sc.has_ext []) 0 y
theorem one_rule (t : Stk) (a b : List Stk) (ha : (Sc.cmdsS 0 a).length ≤ 4) (hb : (Sc.cmdsS 0 b).length ≤ 4) : ruleS [reqC, oneC t a b] = 0 := by
  have hm : ∀ l : List Stk, ∀ c ∈ Sc.cmdsS 0 l, ∃ y, c = Sc.cmdS 0 y := fun l c hc => by obtain ⟨y, -, rfl⟩ := List.mem_map.1 hc; exact ⟨y, rfl⟩
  have hfit : ∀ (l : List Stk) (d : Nat), d ≤ 6 → (Sc.cmdsS 0 l).all (Sc.fitC d) = true := fun l d hd => List.all_eq_true.2 fun c hc => by
    obtain ⟨y, rfl⟩ := hm l c hc; exact Sc.cmdS_fit 0 d y (by omega)
  refine rule_small _ (fun c hc => ?_) (fun c hc => ?_) ?_ (cmdsR_zero _ _ fun c hc => ?_)
  · rw [List.mem_singleton] at hc; subst hc; show (2 : Int) ≠ 1; decide
  · rw [List.mem_singleton] at hc; subst hc
    rw [Sc.fitC_eq, if_pos (show (oneC t a b).kind = 2 from rfl)]
    show (decide (0 ≤ 6) && (Sc.fitT 1 (Sc.testS 2 t) && (Sc.cmdsS 0 a).all (Sc.fitC 1) && (if Sc.isElsif (Sc.cmdsS 0 b) = true then (Sc.cmdsS 0 b).all (Sc.fitC 0) else (Sc.cmdsS 0 b).all (Sc.fitC 1)))) = true
    rw [Sc.testS_fit 2 1 t (by omega), hfit a 1 (by omega), hfit b 0 (by omega), hfit b 1 (by omega)]
    split <;> rfl
  · have := Sc.if_bound (B := 3) (T := Sc.tB 2) (Sc.testS 2 t) (Sc.cmdsS 0 a) (Sc.cmdsS 0 b) (Sc.testS_len 2 t) ha hb (fun c hc => by obtain ⟨y, rfl⟩ := hm a c hc; exact Sc.cmdS_len 0 y) (fun c hc => by obtain ⟨y, rfl⟩ := hm b c hc; exact Sc.cmdS_len 0 y)
    rw [List.flatMap_cons, List.flatMap_nil, List.append_nil]
    have e : Sc.tB 2 = 137 := rfl
    rw [e] at this
    exact Nat.le_trans this (by omega)
  · rw [List.mem_singleton] at hc; subst hc
    rw [Sc.cmdR_eq, if_neg (show ¬ (oneC t a b).kind = 1 by show ¬ (2 : Int) = 1; decide), if_pos (show (oneC t a b).kind = 2 from rfl)]
    show Sc.orE (Sc.tstR Sc.extL (Sc.testS 2 t)) (Sc.orE (Sc.cmdsR Sc.extL (Sc.cmdsS 0 a)) (Sc.cmdsR Sc.extL (Sc.cmdsS 0 b))) = 0
    rw [side_zero, side_zero, show Sc.tstR Sc.extL (Sc.testS 2 t) = 0 from Sc.tstR_nice (full := true) (Sc.has_ext []) _ (Sc.testS_nice 2 t)]
    rfl
end Go.Proofs.YtpfbkdbblpppdaaGreatDoor.Jd
