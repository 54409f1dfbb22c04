/-
  DERIVED. The law ScriptElse: its plain side. No program in sight.
-/
import Derived.Test.YtobdokabelilmaaDoorScStk
namespace Go.Proofs.YtobdokabelilmaaDoor.Sc
open Tk (Tok)

def isWd (s : Str) (t : Tok) : Bool := t.kind == 1 && t.text == s
def cnt (s : Str) (l : List Tok) : Nat := l.countP (isWd s)
theorem cnt_nil (s : Str) : cnt s [] = 0 := rfl
theorem cnt_cons (s : Str) (t : Tok) (l : List Tok) : cnt s (t :: l) = cnt s l + (if isWd s t = true then 1 else 0) := by
  unfold cnt; rw [List.countP_cons]
theorem cnt_app (s : Str) (l m : List Tok) : cnt s (l ++ m) = cnt s l + cnt s m := by
  unfold cnt; rw [List.countP_append]
def noW (l : List Tok) : Prop := ∀ t ∈ l, t.kind ≠ 1
theorem noW.cnt {l : List Tok} (h : noW l) (s : Str) : Sc.cnt s l = 0 := by
  unfold Sc.cnt
  rw [List.countP_eq_zero]
  intro t ht
  unfold isWd
  have := h t ht
  simp [this]
theorem noW.app {l m : List Tok} (h1 : noW l) (h2 : noW m) : noW (l ++ m) := fun t ht => by
  rcases List.mem_append.1 ht with h | h
  · exact h1 t h
  · exact h2 t h
theorem noW.cons {t : Tok} {l : List Tok} (h1 : t.kind ≠ 1) (h2 : noW l) : noW (t :: l) := fun x hx => by
  rcases List.mem_cons.1 hx with rfl | h
  · exact h1
  · exact h2 x h
theorem noW.nil : noW [] := fun t h => by cases h
theorem M_kind (c : UInt8) : (M c).kind ≠ 1 := by show (5 : Int) ≠ 1; decide
theorem S_kind (s : Str) : (S s).kind ≠ 1 := by show (4 : Int) ≠ 1; decide
theorem G_kind (s : Str) : (G s).kind ≠ 1 := by show (2 : Int) ≠ 1; decide
theorem N_kind (n : Int) : (N n).kind ≠ 1 := by show (3 : Int) ≠ 1; decide
theorem listT_noW : ∀ l : List Str, noW (listT l)
  | [] => noW.cons (M_kind _) noW.nil
  | [s] => noW.cons (S_kind _) noW.nil
  | s :: s2 :: l => by
    have : ∀ l : List Str, noW (l.flatMap fun x => [M 44, S x]) := fun l => by
      induction l with
      | nil => exact noW.nil
      | cons a l ih => exact (noW.cons (M_kind _) (noW.cons (S_kind _) noW.nil)).app ih
    exact noW.app (noW.cons (M_kind _) (noW.cons (S_kind _) (this (s2 :: l)))) (noW.cons (M_kind _) noW.nil)
theorem body_noW (k m p : Int) (ns ks : List Str) (o : Bool) (l : Int) : noW (bodyT k m p ns ks o l []) := by
  unfold bodyT
  split
  · exact noW.nil
  · split
    · exact noW.cons (M_kind _) noW.nil
    · split
      · exact noW.cons (G_kind _) ((listT_noW _).app (listT_noW _))
      · split
        · exact noW.cons (G_kind _) (noW.cons (G_kind _) ((listT_noW _).app (listT_noW _)))
        · split
          · exact listT_noW _
          · split
            · exact noW.cons (G_kind _) (noW.cons (N_kind _) noW.nil)
            · exact noW.nil
theorem tst_wd (s : Str) (hs : s = elsifW ∨ s = elseW) : ∀ n : Nat, (tstTab.getD n [] == s) = false
  | 0 | 1 | 2 | 3 | 4 | 5 | 6 | 7 | 8 | 9 | 10 => by rcases hs with rfl | rfl <;> decide
  | n + 11 => by
    have : tstTab.getD (n + 11) [] = [] := by simp [tstTab]
    rw [this]
    rcases hs with rfl | rfl <;> decide
theorem leaf_sub (x : Stk) : (testS 0 x).tests = [] := by
  rw [testS]
  split
  · rfl
  · exact leafS_sub _ _
theorem test_cnt (x : Stk) (s : Str) (hs : s = elsifW ∨ s = elseW) : cnt s (wT (testS 0 x)) = 0 := by
  rw [wT_eq, leaf_sub, cnt_cons, List.map_nil, noW.cnt (body_noW _ _ _ _ _ _ _), Nat.zero_add]
  have h : isWd s (W (wd tstTab (testS 0 x).kind)) = false := by
    unfold isWd
    have := tst_wd s hs (testS 0 x).kind.toNat
    show (_ && (tstTab.getD (testS 0 x).kind.toNat [] == s)) = false
    rw [this, Bool.and_false]
  rw [h]; rfl
theorem listT_le : ∀ l : List Str, l.length ≤ 2 → (listT l).length ≤ 5
  | [], _ => by decide
  | [s], _ => by show 1 ≤ 5; decide
  | [s, t], _ => by show 5 ≤ 5; decide
theorem leaf_small (x : Stk) : (testS 0 x).names.length ≤ 2 ∧ (testS 0 x).keys.length ≤ 2 := by
  have hk : (keysS x).length ≤ 2 := by
    unfold keysS
    split <;> simp
  rw [testS]
  split
  · exact ⟨Nat.zero_le _, Nat.zero_le _⟩
  · unfold leafS
    repeat' split
    · exact ⟨by show 1 ≤ 2; decide, hk⟩
    · exact ⟨by show 1 ≤ 2; decide, hk⟩
    · exact ⟨by show 1 ≤ 2; decide, hk⟩
    · refine ⟨?_, Nat.zero_le _⟩
      show (List.take _ _).length ≤ 2
      rw [List.length_take]; show min _ 2 ≤ 2; omega
    · exact ⟨Nat.zero_le _, Nat.zero_le _⟩
    · exact ⟨Nat.zero_le _, Nat.zero_le _⟩
theorem test_short (x : Stk) : (wT (testS 0 x)).length ≤ 13 := by
  obtain ⟨h1, h2⟩ := leaf_small x
  have a := listT_le _ h1
  have b := listT_le _ h2
  rw [wT_eq, leaf_sub, List.map_nil, List.length_cons]
  unfold bodyT
  repeat' split
  all_goals first | (simp only [List.length_cons, List.length_append, List.length_nil, List.flatten_nil, seqT]; omega) | omega
/-- the two scripts that the law shows -/
def keepC : Cmd := ⟨3, [], T0, [], []⟩
def elsI (a : Stk) : Cmd := ⟨2, [], testS 0 a, [], []⟩
def elsC (x a : Stk) : Cmd := ⟨2, [], testS 0 x, [], [elsI a]⟩
def elsD (x a : Stk) : Cmd := ⟨2, [], testS 0 x, [], [keepC, elsI a]⟩
theorem nilC (P : Cmd → Prop) : ∀ c ∈ ([] : List Cmd), P c := fun c h => by cases h
theorem if2 (t : Tst) (th el : List Cmd) (ht : FormT t) (h1 : ∀ c ∈ th, FormC c) (h2 : ∀ c ∈ el, FormC c) : FormC ⟨2, [], t, th, el⟩ := (FormC.iff _).2 ⟨.inr (.inr ⟨.inl rfl, rfl⟩), .inl ⟨rfl, ht, h1, h2⟩⟩
theorem elsI_form (a : Stk) : FormC (elsI a) := if2 _ _ _ (testS_form _ _) (nilC _) (nilC _)
theorem elsC_form (x a : Stk) : FormC (elsC x a) := by
  refine if2 _ _ _ (testS_form _ _) (nilC _) ?_
  intro c h
  rw [List.mem_singleton] at h
  rw [h]; exact elsI_form a
theorem elsD_form (x a : Stk) : FormC (elsD x a) := by
  refine if2 _ _ _ (testS_form _ _) (nilC _) ?_
  intro c h
  rw [List.mem_cons, List.mem_singleton] at h
  rcases h with h | h
  · rw [h]; exact keep_form
  · rw [h]; exact elsI_form a
theorem elsI_fit (d : Nat) (hd : d ≤ 5) (a : Stk) : fitC d (elsI a) = true := by
  rw [fitC_eq, decide_eq_true (by omega : d ≤ 6)]
  show (true && (fitT 1 (testS 0 a) && true && true)) = true
  rw [testS_fit 0 1 a (by omega)]; rfl
theorem elsC_fit (x a : Stk) : fitC 0 (elsC x a) = true := by
  rw [fitC_eq]
  show (true && (fitT 1 (testS 0 x) && true && (fitC 0 (elsI a) && true))) = true
  rw [testS_fit 0 1 x (by omega), elsI_fit 0 (by omega)]; rfl
theorem elsD_fit (x a : Stk) : fitC 0 (elsD x a) = true := by
  rw [fitC_eq]
  show (true && (fitT 1 (testS 0 x) && true && (fitC 1 keepC && (fitC 1 (elsI a) && true)))) = true
  rw [testS_fit 0 1 x (by omega), elsI_fit 1 (by omega)]; rfl
theorem elsI_toks (a : Stk) : wBr (elsI a) = wT (testS 0 a) ++ [M 123, M 125] := by rw [wBr_eq]; rfl
theorem elsC_toks (x a : Stk) : [elsC x a].flatMap wC = W (wd cmdTab 2) :: (wT (testS 0 x) ++ (M 123 :: M 125 :: W elsifW :: (wT (testS 0 a) ++ [M 123, M 125]))) := by
  have e : elseT (elsC x a).els ((elsC x a).els.flatMap wC) ((elsC x a).els.map wBr) = W elsifW :: ([wBr (elsI a)].flatten) := rfl
  rw [List.flatMap_cons, List.flatMap_nil, List.append_nil, wC_if rfl, wBr_eq, e]
  show _ :: (wT (testS 0 x) ++ (M 123 :: M 125 :: W elsifW :: ([wBr (elsI a)].flatten))) = _
  rw [List.flatten_cons, List.flatten_nil, List.append_nil, elsI_toks]
theorem elsD_toks (x a : Stk) : [elsD x a].flatMap wC = W (wd cmdTab 2) :: (wT (testS 0 x) ++ (M 123 :: M 125 :: W elseW :: M 123 :: W (wd cmdTab 3) :: M 59 :: W (wd cmdTab 2) :: (wT (testS 0 a) ++ [M 123, M 125, M 125]))) := by
  have e : elseT (elsD x a).els ((elsD x a).els.flatMap wC) ((elsD x a).els.map wBr) = W elseW :: (M 123 :: ((wC keepC ++ (wC (elsI a) ++ [])) ++ [M 125])) := rfl
  rw [List.flatMap_cons, List.flatMap_nil, List.append_nil, wC_if rfl, wBr_eq, e, wC_else (by decide : keepC.kind ≠ 2), wC_if (rfl : (elsI a).kind = 2), elsI_toks, List.append_nil]
  show _ :: (wT (testS 0 x) ++ (M 123 :: M 125 :: W elseW :: M 123 :: W (wd cmdTab 3) :: M 59 :: W (wd cmdTab 2) :: ((wT (testS 0 a) ++ [M 123, M 125]) ++ [M 125]))) = _
  rw [List.append_assoc]; rfl
theorem els_small (x a : Stk) : ([elsC x a].flatMap wC).length ≤ 400 ∧ ([elsD x a].flatMap wC).length ≤ 400 := by
  have h1 := test_short x
  have h2 := test_short a
  rw [elsC_toks, elsD_toks]
  simp only [List.length_cons, List.length_append, List.length_nil]
  omega
theorem elsC_check (x a : Stk) : checkS [elsC x a] = 0 := by
  have h : [elsC x a].all (fitC 0) = true := by rw [List.all_cons, elsC_fit]; rfl
  unfold checkS
  rw [if_pos h, if_neg (by have := (els_small x a).1; omega)]
theorem elsD_check (x a : Stk) : checkS [elsD x a] = 0 := by
  have h : [elsD x a].all (fitC 0) = true := by rw [List.all_cons, elsD_fit]; rfl
  unfold checkS
  rw [if_pos h, if_neg (by have := (els_small x a).2; omega)]
theorem elsC_cnt (x a : Stk) : cnt elsifW ([elsC x a].flatMap wC) = 1 ∧ cnt elseW ([elsC x a].flatMap wC) = 0 := by
  rw [elsC_toks]
  simp only [cnt_cons, cnt_app, cnt_nil, test_cnt _ _ (.inl rfl), test_cnt _ _ (.inr rfl)]
  decide
theorem elsD_cnt (x a : Stk) : cnt elseW ([elsD x a].flatMap wC) = 1 := by
  rw [elsD_toks]
  simp only [cnt_cons, cnt_app, cnt_nil, test_cnt _ _ (.inr rfl)]
  decide
theorem cnt_take (s : Str) (l : List Tok) (j : Nat) (h : j < l.length) : cnt s (l.take (j + 1)) = cnt s (l.take j) + (if isWd s l[j] = true then 1 else 0) := by
  rw [List.take_succ_eq_append_getElem h, cnt_app, cnt_cons, cnt_nil, Nat.zero_add]
theorem cnt_le (s : Str) (l : List Tok) (j : Nat) : cnt s (l.take j) ≤ j := by
  unfold cnt
  exact Nat.le_trans List.countP_le_length (by rw [List.length_take]; omega)
theorem cnt_none {s : Str} {l : List Tok} (h : cnt s l = 0) (j : Nat) (hj : j < l.length) : isWd s l[j] = false := by
  unfold cnt at h
  rw [List.countP_eq_zero] at h
  simpa using h l[j] (List.getElem_mem hj)
end Go.Proofs.YtobdokabelilmaaDoor.Sc
