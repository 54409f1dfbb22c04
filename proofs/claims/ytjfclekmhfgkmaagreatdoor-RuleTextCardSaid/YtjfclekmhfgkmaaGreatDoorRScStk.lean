/- On the way. -/
import Derived.Test.YtjfclekmhfgkmaaGreatDoorRScTree
import Derived.Test.YtjfclekmhfgkmaaGreatDoorRJgB
set_option linter.unusedVariables false
set_option linter.unusedSimpArgs false
namespace Go.Proofs.YtjfclekmhfgkmaaGreatDoor.Sc
open Tk (Tok)
structure Stk where
 (kind a b : Int) (s t : Str) (subs : List Stk)
def nm6 : List Str := [[115, 117, 98, 106, 101, 99, 116], [116, 111], [102, 114, 111, 109], [120]]
def nm8 : List Str := [[102, 114, 111, 109], [116, 111]]
def nm9 : List Str := [[115, 117, 98, 106, 101, 99, 116], [116, 111], [99, 99]]
def keysS (x : Stk) : List Str := x.s.take 12 :: (if pick x.a 2 = 1 then [x.t.take 12] else [])
def zeroT (k : Int) : Tst := ⟨k, 0, 0, [], [], false, 0, []⟩
def leafS (k : Int) (x : Stk) : Tst :=
 if k = 6 then ⟨6, 1 + (pick x.a 3 : Nat), 0, [nm6.getD (pick x.b 4) []], keysS x, false, 0, []⟩
 else if k = 7 then ⟨7, 1 + (pick x.a 3 : Nat), 1 + (pick x.b 3 : Nat), [nm6.getD (pick x.b 4) []], keysS x, false, 0, []⟩
 else if k = 8 then ⟨8, 1 + (pick x.a 3 : Nat), 1 + (pick x.b 3 : Nat), [nm8.getD (pick x.b 2) []], keysS x, false, 0, []⟩
 else if k = 9 then ⟨9, 0, 0, [nm9.getD (pick x.a 3) [], wordL x.s].take (1 + pick x.b 2), [], false, 0, []⟩
 else if k = 10 then ⟨10, 0, 0, [], [], pick x.a 2 == 1, (pick x.b 400 : Nat), []⟩
 else zeroT k
def kindS (x : Stk) : Int := 1 + (pick x.kind 10 : Nat)
def notS (x : Stk) : Stk := match x.subs with
 | [] => ⟨x.a, 0, 0, [], [], []⟩
 | y :: _ => y
def testS : Nat → Stk → Tst
 | 0, x => if 3 ≤ kindS x ∧ kindS x ≤ 5 then zeroT 1 else leafS (kindS x) x
 | m + 1, x =>
  if kindS x = 3 then ⟨3, 0, 0, [], [], false, 0, [testS m (notS x)]⟩
  else if kindS x = 4 ∨ kindS x = 5 then ⟨kindS x, 0, 0, [], [], false, 0, if x.subs = [] then [zeroT (1 + (pick x.a 2 : Nat))] else (x.subs.take 3).map (testS m)⟩
  else leafS (kindS x) x
theorem kindS_ok (x : Stk) : 1 ≤ kindS x ∧ kindS x ≤ 10 := by have := pick_lt_int x.kind 10 (by omega); unfold kindS; omega
theorem zeroT_form {k : Int} (h : k = 1 ∨ k = 2) : FormT (zeroT k) := FormT.mk' (by unfold Form1 zeroT; simp; omega) (fun s hs => by cases hs)
theorem leafS_form (x : Stk) {k : Int} (h : 1 ≤ k ∧ k ≤ 10) (h3 : ¬ (3 ≤ k ∧ k ≤ 5)) : FormT (leafS k x) := by
 have a3 := pick_lt_int x.a 3 (by omega); have b3 := pick_lt_int x.b 3 (by omega); have b4 := pick_lt_int x.b 400 (by omega)
 have hk : 0 < (keysS x).length := by simp [keysS]
 unfold leafS
 split
 ·exact FormT.mk' (.inr (.inr (.inr (.inl ⟨rfl, by show 1 ≤ (1 + (pick x.a 3 : Nat) : Int) ∧ (1 + (pick x.a 3 : Nat) : Int) ≤ 3; omega, rfl, Nat.one_pos, hk, rfl, rfl, rfl⟩)))) (fun s hs => by cases hs)
 ·split
  ·exact FormT.mk' (.inr (.inr (.inr (.inr (.inl ⟨.inl rfl, by show 1 ≤ (1 + (pick x.a 3 : Nat) : Int) ∧ (1 + (pick x.a 3 : Nat) : Int) ≤ 3; omega, by show 1 ≤ (1 + (pick x.b 3 : Nat) : Int) ∧ (1 + (pick x.b 3 : Nat) : Int) ≤ 3; omega, Nat.one_pos, hk, rfl, rfl, rfl⟩))))) (fun s hs => by cases hs)
  ·split
   ·exact FormT.mk' (.inr (.inr (.inr (.inr (.inl ⟨.inr rfl, by show 1 ≤ (1 + (pick x.a 3 : Nat) : Int) ∧ (1 + (pick x.a 3 : Nat) : Int) ≤ 3; omega, by show 1 ≤ (1 + (pick x.b 3 : Nat) : Int) ∧ (1 + (pick x.b 3 : Nat) : Int) ≤ 3; omega, Nat.one_pos, hk, rfl, rfl, rfl⟩))))) (fun s hs => by cases hs)
   ·split
    ·refine FormT.mk' (.inr (.inr (.inr (.inr (.inr (.inl ⟨rfl, rfl, rfl, ?_, rfl, rfl, rfl, rfl⟩)))))) (fun s hs => by cases hs)
     show 0 < (List.take _ _).length
     rw [List.length_take]; show 0 < min (1 + pick x.b 2) 2; omega
    ·split
     ·exact FormT.mk' (.inr (.inr (.inr (.inr (.inr (.inr ⟨rfl, rfl, rfl, rfl, rfl, by show 0 ≤ ((pick x.b 400 : Nat) : Int) ∧ ((pick x.b 400 : Nat) : Int) ≤ 2147483647; omega, rfl⟩)))))) (fun s hs => by cases hs)
     ·exact zeroT_form (by omega)
theorem testS_form : ∀ (m : Nat) (x : Stk), FormT (testS m x)
 | 0, x => by
  rw [testS]
  split
  ·exact zeroT_form (.inl rfl)
  ·rename_i h; exact leafS_form x (kindS_ok x) h
 | m + 1, x => by
  rw [testS]
  have ih := testS_form m
  split
  ·exact FormT.mk' (.inr (.inl ⟨rfl, rfl, rfl, rfl, rfl, rfl, rfl, rfl⟩)) (fun s hs => by obtain rfl := List.mem_singleton.1 hs; exact ih _)
  ·split
   ·rename_i h
    refine FormT.mk' (.inr (.inr (.inl ⟨h, rfl, rfl, rfl, rfl, rfl, rfl, ?_⟩))) (fun s hs => ?_)
    ·show 0 < (if x.subs = [] then _ else _ : List Tst).length
     split
     ·exact Nat.one_pos
     ·rename_i hne
      cases hx : x.subs with
      | nil => exact absurd hx hne
      | cons y l => simp
    ·have hs' : s ∈ (if x.subs = [] then [zeroT (1 + (pick x.a 2 : Nat))] else (x.subs.take 3).map (testS m)) := hs
     split at hs'
     ·obtain rfl := List.mem_singleton.1 hs'
      have := pick_lt_int x.a 2 (by omega)
      exact zeroT_form (by omega)
     ·obtain ⟨y, -, rfl⟩ := List.mem_map.1 hs'
      exact ih y
   ·exact leafS_form x (kindS_ok x) (by omega)
theorem leafS_sub (k : Int) (x : Stk) : (leafS k x).tests = [] := by unfold leafS zeroT; split <;> (try split) <;> (try split) <;> (try split) <;> (try split) <;> rfl
theorem leafS_fit {d : Nat} (hd : d ≤ 6) (k : Int) (x : Stk) : fitT d (leafS k x) = true := by rw [fitT_eq, leafS_sub, decide_eq_true hd]; rfl
theorem zeroT_fit {d : Nat} (hd : d ≤ 6) (k : Int) : fitT d (zeroT k) = true := by rw [fitT_eq, decide_eq_true hd]; rfl
theorem testS_fit : ∀ (m d : Nat) (x : Stk), m + d ≤ 6 → fitT d (testS m x) = true
 | 0, d, x, h => by
  rw [testS]
  split
  ·exact zeroT_fit (by omega) _
  ·exact leafS_fit (by omega) _ _
 | m + 1, d, x, h => by
  rw [testS]
  have ih := testS_fit m (d + 1)
  split
  ·rw [fitT_eq, decide_eq_true (by omega : d ≤ 6), Bool.true_and, List.all_eq_true]
   intro s hs
   obtain rfl := List.mem_singleton.1 hs
   exact ih _ (by omega)
  ·split
   ·rw [fitT_eq, decide_eq_true (by omega : d ≤ 6), Bool.true_and, List.all_eq_true]
    intro s hs
    have hs' : s ∈ (if x.subs = [] then [zeroT (1 + (pick x.a 2 : Nat))] else (x.subs.take 3).map (testS m)) := hs
    split at hs'
    ·obtain rfl := List.mem_singleton.1 hs'; exact zeroT_fit (by omega) _
    ·obtain ⟨y, -, rfl⟩ := List.mem_map.1 hs'
     exact ih y (by omega)
   ·exact leafS_fit (by omega) _ _
def kTab : List Int := [3, 2, 5, 2, 6, 2, 4, 8, 9, 7, 10, 2]
def kindC (x : Stk) : Int := kTab.getD (pick x.kind 12) 0
def fileW : List Str := [[73, 78, 66, 79, 88], [119, 111, 114, 107], [106, 117, 110, 107], [110, 101, 119]]
def redirW : List Str := [[97, 64, 98, 46, 99], [65, 110, 110, 32, 60, 97, 110, 110, 64, 120, 46, 121, 62], [98, 64, 99]]
def flagW : List Str := [[92, 83, 101, 101, 110], [92, 68, 114, 97, 102, 116], [92, 70, 108, 97, 103, 103, 101, 100]]
def textsS (k : Int) (x : Stk) : List Str :=
 if k = 5 then [fileW.getD (pick x.a 4) []] else if k = 6 then [redirW.getD (pick x.a 3) []] else if k = 7 then [x.s.take 12]
 else if k = 8 ∨ k = 9 then [flagW.getD (pick x.a 3) []] else []
def askS (x : Stk) : Stk := ⟨x.a, x.b, x.a, x.s, x.t, x.subs.take 1⟩
def halfS (x : Stk) : Nat := (x.subs.length + 1) / 2
def cmdS : Nat → Stk → Cmd
 | 0, x => ⟨if kindC x = 2 then 3 else kindC x, textsS (kindC x) x, T0, [], []⟩
 | m + 1, x => if kindC x = 2 then ⟨2, [], testS 2 (askS x), ((x.subs.take (halfS x)).take 4).map (cmdS m), ((x.subs.drop (halfS x)).take 4).map (cmdS m)⟩ else ⟨kindC x, textsS (kindC x) x, T0, [], []⟩
def cmdsS (m : Nat) (l : List Stk) : List Cmd := (l.take 4).map (cmdS m)
theorem kindC_ok (x : Stk) : 2 ≤ kindC x ∧ kindC x ≤ 10 := by
 have h := pick_lt_int x.kind 12 (by omega)
 unfold kindC
 generalize pick x.kind 12 = k at h
 have : k = 0 ∨ k = 1 ∨ k = 2 ∨ k = 3 ∨ k = 4 ∨ k = 5 ∨ k = 6 ∨ k = 7 ∨ k = 8 ∨ k = 9 ∨ k = 10 ∨ k = 11 := by omega
 rcases this with rfl | rfl | rfl | rfl | rfl | rfl | rfl | rfl | rfl | rfl | rfl | rfl <;> decide
theorem textsS_form {k : Int} (h : 2 ≤ k ∧ k ≤ 10) (x : Stk) : Form2 k (textsS k x).length := by
 unfold Form2 textsS
 split
 ·right; left; exact ⟨by omega, rfl⟩
 ·split
  ·right; left; exact ⟨by omega, rfl⟩
  ·split
   ·right; left; exact ⟨by omega, rfl⟩
   ·split
    ·left; exact ⟨by omega, Nat.one_pos⟩
    ·right; right; exact ⟨by omega, rfl⟩
theorem plain_form {k : Int} (h : 2 ≤ k ∧ k ≤ 10) (h2 : k ≠ 2) (x : Stk) : FormC ⟨k, textsS k x, T0, [], []⟩ := (FormC.iff _).2 ⟨textsS_form h x, .inr ⟨h2, rfl, rfl, rfl⟩⟩
theorem keep_form : FormC ⟨3, [], T0, [], []⟩ := (FormC.iff _).2 ⟨by unfold Form2; simp, .inr ⟨by show (3 : Int) ≠ 2; decide, rfl, rfl, rfl⟩⟩
theorem cmdS_form : ∀ (m : Nat) (x : Stk), FormC (cmdS m x)
 | 0, x => by
  rw [cmdS]
  split
  ·rename_i h
   have : textsS (kindC x) x = [] := by unfold textsS; rw [if_neg (by omega), if_neg (by omega), if_neg (by omega), if_neg (by omega)]
   rw [this]; exact keep_form
  ·rename_i h; exact plain_form (kindC_ok x) h x
 | m + 1, x => by
  rw [cmdS]
  split
  ·refine (FormC.iff _).2 ⟨by unfold Form2; simp, .inl ⟨rfl, testS_form _ _, fun c hc => ?_, fun c hc => ?_⟩⟩
   ·obtain ⟨y, -, rfl⟩ := List.mem_map.1 hc; exact cmdS_form m y
   ·obtain ⟨y, -, rfl⟩ := List.mem_map.1 hc; exact cmdS_form m y
  ·rename_i h; exact plain_form (kindC_ok x) h x
theorem plain_fit {d : Nat} (hd : d ≤ 6) {k : Int} (h2 : k ≠ 2) (tx : List Str) (t : Tst) (th el : List Cmd) : fitC d ⟨k, tx, t, th, el⟩ = true := by
 rw [fitC_eq, decide_eq_true hd, if_neg h2]; rfl
theorem cmdS_fit : ∀ (m d : Nat) (x : Stk), m + d ≤ 6 → fitC d (cmdS m x) = true
 | 0, d, x, h => by
  rw [cmdS]
  refine plain_fit (by omega) ?_ _ _ _ _
  split
  ·decide
  ·assumption
 | m + 1, d, x, h => by
  rw [cmdS]
  split
  ·have ih : ∀ l : List Stk, (l.map (cmdS m)).all (fitC (d + 1)) = true := fun l => List.all_eq_true.2 fun c hc => by
    obtain ⟨y, -, rfl⟩ := List.mem_map.1 hc; exact cmdS_fit m (d + 1) y (by omega)
   have ih' : ∀ l : List Stk, (l.map (cmdS m)).all (fitC d) = true := fun l => List.all_eq_true.2 fun c hc => fitC_mono c d (List.all_eq_true.1 (ih l) c hc)
   rw [fitC_eq, decide_eq_true (by omega : d ≤ 6), Bool.true_and, if_pos rfl, testS_fit 2 1 _ (by omega), Bool.true_and, Bool.and_eq_true]
   refine ⟨ih _, ?_⟩
   split
   ·exact ih' _
   ·exact ih _
  ·rename_i h2; exact plain_fit (by omega) h2 _ _ _ _
def reqC : Cmd := ⟨1, [[102, 105, 108, 101, 105, 110, 116, 111], [114, 101, 106, 101, 99, 116], [101, 110, 118, 101, 108, 111, 112, 101], [105, 109, 97, 112, 52, 102, 108, 97, 103, 115]], T0, [], []⟩
theorem req_form : FormC reqC := (FormC.iff _).2 ⟨by unfold Form2; simp [reqC], .inr ⟨by show (1 : Int) ≠ 2; decide, rfl, rfl, rfl⟩⟩
def trimK (cs : List Cmd) : Nat → Nat
 | 0 => 0
 | 1 => 1
 | n + 2 => if checkS (cs.take (n + 2)) = 0 then n + 2 else trimK cs (n + 1)
def allS (l : List Stk) : List Cmd := reqC :: cmdsS 2 l
def scriptS (l : List Stk) : List Cmd := (allS l).take (trimK (allS l) (allS l).length)
theorem allS_form (l : List Stk) : ∀ c ∈ allS l, FormC c := by
 intro c hc
 rcases List.mem_cons.1 hc with rfl | hc
 ·exact req_form
 ·obtain ⟨y, -, rfl⟩ := List.mem_map.1 hc; exact cmdS_form 2 y
theorem allS_fit (l : List Stk) : ∀ c ∈ allS l, fitC 0 c = true := by
 intro c hc
 rcases List.mem_cons.1 hc with rfl | hc
 ·exact plain_fit (by omega) (by decide) _ _ _ _
 ·obtain ⟨y, -, rfl⟩ := List.mem_map.1 hc; exact cmdS_fit 2 0 y (by omega)
theorem allS_len (l : List Stk) : 1 ≤ (allS l).length ∧ (allS l).length ≤ 5 := by
 unfold allS cmdsS
 rw [List.length_cons, List.length_map, List.length_take]; omega
theorem trimK_pos (cs : List Cmd) : ∀ n, 1 ≤ n → 1 ≤ trimK cs n
 | 1, _ => Nat.le_refl _
 | n + 2, _ => by
  rw [trimK]
  split
  ·omega
  ·exact trimK_pos cs (n + 1) (by omega)
theorem req_ok : checkS [reqC] = 0 := by decide
theorem trimK_ok (l : List Stk) : ∀ n, 1 ≤ n → checkS ((allS l).take (trimK (allS l) n)) = 0
 | 1, _ => req_ok
 | n + 2, _ => by
  rw [trimK]
  split
  ·assumption
  ·exact trimK_ok l (n + 1) (by omega)
theorem script_ok (l : List Stk) : checkS (scriptS l) = 0 := trimK_ok l _ (allS_len l).1
theorem script_form (l : List Stk) : ∀ c ∈ scriptS l, FormC c := fun c hc => allS_form l c (List.mem_of_mem_take hc)
theorem script_fit (l : List Stk) : (scriptS l).all (fitC 0) = true := List.all_eq_true.2 fun c hc => allS_fit l c (List.mem_of_mem_take hc)
theorem script_cons (l : List Stk) : ∃ r, scriptS l = reqC :: r ∧ ∃ k, r = (cmdsS 2 l).take k := by
 have h := trimK_pos (allS l) _ (allS_len l).1
 unfold scriptS
 obtain ⟨k, hk⟩ : ∃ k, trimK (allS l) (allS l).length = k + 1 := ⟨_, (Nat.sub_add_cancel h).symm⟩
 rw [hk]
 exact ⟨(cmdsS 2 l).take k, rfl, k, rfl⟩
theorem script_toks (l : List Stk) : ((scriptS l).flatMap wC).length ≤ 400 := by
 have h := script_ok l
 unfold checkS at h
 rw [if_pos (script_fit l)] at h
 split at h
 ·exact absurd h (by decide)
 ·omega
end Go.Proofs.YtjfclekmhfgkmaaGreatDoor.Sc
