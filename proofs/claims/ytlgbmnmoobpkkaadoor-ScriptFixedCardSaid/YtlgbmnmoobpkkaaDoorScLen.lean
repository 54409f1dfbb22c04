/-
  DERIVED. How many tokens scripts of raw numbers have at most. No program in sight.
-/
import Derived.Test.YtlgbmnmoobpkkaaDoorScStk
namespace Go.Proofs.YtlgbmnmoobpkkaaDoor.Sc
open Tk (Tok)

theorem listT_two : ∀ l : List Str, l.length ≤ 2 → (listT l).length ≤ 5
  | [], _ => by decide
  | [s], _ => by show 1 ≤ 5; decide
  | [s, t], _ => by show 5 ≤ 5; decide
theorem leafS_two (k : Int) (x : Stk) : (leafS k x).names.length ≤ 2 ∧ (leafS k x).keys.length ≤ 2 := by
  have hk : (keysS x).length ≤ 2 := by
    unfold keysS
    split <;> simp
  unfold leafS
  repeat' split
  · exact ⟨by show 1 ≤ 2; decide, hk⟩
  · exact ⟨by show 1 ≤ 2; decide, hk⟩
  · exact ⟨by show 1 ≤ 2; decide, hk⟩
  · refine ⟨?_, Nat.zero_le _⟩
    show (List.take _ _).length ≤ 2
    rw [List.length_take]; show min _ 2 ≤ 2; omega
  · exact ⟨Nat.zero_le _, Nat.zero_le _⟩
  · exact ⟨Nat.zero_le _, Nat.zero_le _⟩
theorem body_two (k m p : Int) (ns ks : List Str) (o : Bool) (l : Int) (h1 : ns.length ≤ 2) (h2 : ks.length ≤ 2) : (bodyT k m p ns ks o l []).length ≤ 12 := by
  have a := listT_two _ h1
  have b := listT_two _ h2
  unfold bodyT
  repeat' split
  all_goals first | (simp only [List.length_cons, List.length_append, List.length_nil, List.flatten_nil, seqT]; omega) | omega
theorem leaf_len (k : Int) (x : Stk) : (wT (leafS k x)).length ≤ 13 := by
  obtain ⟨h1, h2⟩ := leafS_two k x
  rw [wT_eq, leafS_sub, List.map_nil, List.length_cons]
  have := body_two (leafS k x).kind (leafS k x).mat (leafS k x).part _ _ (leafS k x).over (leafS k x).limit h1 h2
  omega
theorem zero_len (k : Int) : (wT (zeroT k)).length ≤ 13 := by
  rw [wT_eq]
  show (W _ :: bodyT k 0 0 [] [] false 0 []).length ≤ 13
  rw [List.length_cons]
  have := body_two k 0 0 [] [] false 0 (Nat.zero_le _) (Nat.zero_le _)
  omega
theorem flat_bound {α : Type} {B : Nat} (f : α → List Tok) : ∀ l : List α, (∀ x ∈ l, (f x).length ≤ B) → (l.flatMap f).length ≤ l.length * B
  | [], _ => Nat.zero_le _
  | a :: l, h => by
    have h1 := h a (List.mem_cons_self ..)
    have h2 := flat_bound f l fun x hx => h x (List.mem_cons_of_mem _ hx)
    rw [List.flatMap_cons, List.length_append, List.length_cons, Nat.add_mul]; omega
theorem seqT_bound {B : Nat} (l : List (List Tok)) (h : ∀ x ∈ l, x.length ≤ B) : (seqT l).length ≤ l.length * (B + 1) := by
  cases l with
  | nil => exact Nat.zero_le _
  | cons a l =>
    have h1 := h a (List.mem_cons_self ..)
    have h2 := flat_bound (B := B + 1) (fun y => M 44 :: y) l fun x hx => by rw [List.length_cons]; have := h x (List.mem_cons_of_mem _ hx); omega
    show (M 40 :: a ++ l.flatMap fun y => M 44 :: y).length ≤ _
    rw [List.length_append, List.length_cons, List.length_cons, Nat.add_mul]; omega
theorem wT_not (t : Tst) : (wT ⟨3, 0, 0, [], [], false, 0, [t]⟩).length = 1 + (wT t).length := by
  rw [wT_eq]
  show (W _ :: ([wT t].flatten)).length = _
  rw [List.flatten_cons, List.flatten_nil, List.append_nil, List.length_cons]; omega
theorem wT_of {k : Int} (hk : k = 4 ∨ k = 5) {B : Nat} (ts : List Tst) (hl : ts.length ≤ 3) (h : ∀ t ∈ ts, (wT t).length ≤ B) : (wT ⟨k, 0, 0, [], [], false, 0, ts⟩).length ≤ 3 * (B + 1) + 2 := by
  rw [wT_eq, List.length_cons]
  have e : bodyT k 0 0 [] [] false 0 (ts.map wT) = seqT (ts.map wT) ++ [M 41] := by unfold bodyT; rw [if_neg (by omega), if_pos hk]
  show (bodyT k 0 0 [] [] false 0 (ts.map wT)).length + 1 ≤ _
  rw [e, List.length_append]
  have h2 := seqT_bound (B := B) (ts.map wT) fun x hx => by obtain ⟨t, ht, rfl⟩ := List.mem_map.1 hx; exact h t ht
  rw [List.length_map] at h2
  have h3 : ts.length * (B + 1) ≤ 3 * (B + 1) := Nat.mul_le_mul_right _ hl
  show (seqT (ts.map wT)).length + 1 + 1 ≤ _
  omega
def tB : Nat → Nat
  | 0 => 13
  | m + 1 => 3 * (tB m + 1) + 2
theorem tB_pos : ∀ m, 13 ≤ tB m
  | 0 => Nat.le_refl _
  | m + 1 => by have := tB_pos m; rw [tB]; omega
theorem testS_len : ∀ (m : Nat) (x : Stk), (wT (testS m x)).length ≤ tB m
  | 0, x => by
    rw [testS]
    split
    · exact zero_len _
    · exact leaf_len _ _
  | m + 1, x => by
    have hp := tB_pos m
    rw [testS, tB]
    split
    · rw [wT_not]; have := testS_len m (notS x); omega
    · split
      · rename_i h
        refine wT_of h _ ?_ fun t ht => ?_
        · split
          · exact Nat.le_succ_of_le (Nat.le_succ _)
          · rw [List.length_map, List.length_take]; omega
        · have ht' : t ∈ (if x.subs = [] then [zeroT (1 + (pick x.a 2 : Nat))] else (x.subs.take 3).map (testS m)) := ht
          split at ht'
          · obtain rfl := List.mem_singleton.1 ht'
            have := zero_len (1 + (pick x.a 2 : Nat)); omega
          · obtain ⟨y, -, rfl⟩ := List.mem_map.1 ht'
            exact testS_len m y
      · have := leaf_len (kindS x) x; omega
theorem texts_one (k : Int) (x : Stk) : (textsS k x).length ≤ 1 := by
  unfold textsS
  repeat' split
  all_goals first | exact Nat.le_refl _ | exact Nat.zero_le _
theorem listT_single : ∀ l : List Str, l.length ≤ 1 → (if l = [] then ([] : List Tok) else listT l).length ≤ 1
  | [], _ => by simp
  | [s], _ => by simp [listT]
theorem plain_len (k : Int) (h : k ≠ 2) (tx : List Str) (hl : tx.length ≤ 1) : (wC ⟨k, tx, T0, [], []⟩).length ≤ 3 := by
  rw [wC_else (c := ⟨k, tx, T0, [], []⟩) h, List.length_cons, List.length_append]
  have := listT_single tx hl
  show (if tx = [] then ([] : List Tok) else listT tx).length + 1 + 1 ≤ 3
  omega
theorem wBr_le (c : Cmd) (h : c.kind = 2) : (wBr c).length ≤ (wC c).length := by rw [wC_if h, List.length_cons]; omega
theorem else_bound {B : Nat} (el : List Cmd) (hl : el.length ≤ 4) (h : ∀ c ∈ el, (wC c).length ≤ B) : (elseT el (el.flatMap wC) (el.map wBr)).length ≤ 3 + 4 * B := by
  have hf := flat_bound (B := B) wC el h
  have hm : el.length * B ≤ 4 * B := Nat.mul_le_mul_right _ hl
  unfold elseT
  split
  · rename_i he
    match el, he with
    | [c], he =>
      have hc : c.kind = 2 := by simpa [isElsif] using he
      have h1 := wBr_le c hc
      have h2 := h c (List.mem_cons_self ..)
      show (W elsifW :: [wBr c].flatten).length ≤ _
      rw [List.flatten_cons, List.flatten_nil, List.append_nil, List.length_cons]; omega
  · split
    · exact Nat.zero_le _
    · unfold blkT
      rw [List.length_cons, List.length_cons, List.length_append]
      show (el.flatMap wC).length + 1 + 1 + 1 ≤ _
      omega
theorem if_bound {B T : Nat} (t : Tst) (th el : List Cmd) (ht : (wT t).length ≤ T) (h1 : th.length ≤ 4) (h2 : el.length ≤ 4) (k1 : ∀ c ∈ th, (wC c).length ≤ B) (k2 : ∀ c ∈ el, (wC c).length ≤ B) : (wC ⟨2, [], t, th, el⟩).length ≤ 8 * B + T + 6 := by
  rw [wC_if (c := ⟨2, [], t, th, el⟩) rfl, wBr_eq, List.length_cons, List.length_append, List.length_append]
  have ha := flat_bound (B := B) wC th k1
  have hm : th.length * B ≤ 4 * B := Nat.mul_le_mul_right _ h1
  have hb := else_bound el h2 k2
  have hc : (blkT (th.flatMap wC)).length = (th.flatMap wC).length + 2 := by unfold blkT; rw [List.length_cons, List.length_append]; rfl
  show (wT t).length + ((blkT (th.flatMap wC)).length + (elseT el (el.flatMap wC) (el.map wBr)).length) + 1 ≤ _
  omega
def cB : Nat → Nat
  | 0 => 3
  | m + 1 => 8 * cB m + tB 2 + 6
theorem cB_pos : ∀ m, 3 ≤ cB m
  | 0 => Nat.le_refl _
  | m + 1 => by have := cB_pos m; rw [cB]; omega
theorem cmdS_len : ∀ (m : Nat) (x : Stk), (wC (cmdS m x)).length ≤ cB m
  | 0, x => by
    rw [cmdS]
    refine plain_len _ ?_ _ (texts_one _ _)
    split
    · decide
    · assumption
  | m + 1, x => by
    have ih := cmdS_len m
    rw [cmdS, cB]
    split
    · refine if_bound _ _ _ (testS_len 2 _) ?_ ?_ (fun c hc => ?_) (fun c hc => ?_)
      · rw [List.length_map, List.length_take]; omega
      · rw [List.length_map, List.length_take]; omega
      · obtain ⟨y, -, rfl⟩ := List.mem_map.1 hc; exact ih y
      · obtain ⟨y, -, rfl⟩ := List.mem_map.1 hc; exact ih y
    · rename_i h
      have := plain_len (kindC x) h _ (texts_one (kindC x) x)
      have := cB_pos m
      omega
theorem allS_short (l : List Stk) (n : Nat) : (((allS l).take n).flatMap wC).length ≤ 100000 := by
  have hB : ∀ c ∈ (allS l).take n, (wC c).length ≤ cB 2 := fun c hc => by
    have h := List.mem_of_mem_take hc
    rcases List.mem_cons.1 h with rfl | h
    · have : (wC reqC).length = 11 := by decide
      rw [this]; decide
    · obtain ⟨y, -, rfl⟩ := List.mem_map.1 h
      exact cmdS_len 2 y
  have h1 := flat_bound (B := cB 2) wC _ hB
  have h2 : ((allS l).take n).length ≤ 5 := by rw [List.length_take]; have := (allS_len l).2; omega
  have h3 : ((allS l).take n).length * cB 2 ≤ 5 * cB 2 := Nat.mul_le_mul_right _ h2
  have h4 : 5 * cB 2 ≤ 100000 := by decide
  omega
end Go.Proofs.YtlgbmnmoobpkkaaDoor.Sc
