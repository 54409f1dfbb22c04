/-
  DERIVED. Plain laws: what is no address spoils a list.
-/
import Derived.Test.YtkchoempejdleaaDoorWhoPlain
namespace Go.Proofs.YtkchoempejdleaaDoor
open Go.RowKit

/-- the seventeen texts -/
def badL : List (List UInt8) := [[], [97], [64, 98], [97, 64], [97, 64, 98, 64, 99], [60, 97, 64, 98], [97, 64, 98, 62], [97, 64, 98, 32, 99, 64, 100], [97, 32, 98, 64, 99], [60, 97, 32, 64, 98, 62], [60, 62], [97, 46, 46, 98, 64, 99], [46, 97, 64, 98], [97, 46, 64, 98], [34, 120, 32, 60, 97, 64, 98, 62], [34, 120, 34], [97, 64, 98, 59]]
theorem bad_alone : ∀ b ∈ badL, listL b = none := by decide +kernel

theorem quotL_none : ∀ (n : Nat) (l : List UInt8), l.length ≤ n → 34 ∉ l → quotL l = none
  | _, [], _, _ => rfl
  | 0, c :: l, hn, _ => by simp at hn
  | n + 1, c :: l, hn, h => by
    simp only [List.length_cons] at hn
    have hc : c ≠ 34 := fun e => h (by rw [e]; exact List.mem_cons_self ..)
    have hl : 34 ∉ l := fun e => h (List.mem_cons_of_mem _ e)
    by_cases h92 : c = 92
    · cases l with
      | nil => exact quotL_92n c h92
      | cons d l =>
        rw [quotL_92 c d l h92]
        simp only [List.length_cons] at hn
        exact quotL_none n l (by omega) (fun e => hl (List.mem_cons_of_mem _ e))
    · rw [quotL_else c l hc h92]
      exact quotL_none n l (by omega) hl
theorem run_stop (y : List UInt8) (c : UInt8) (t : List UInt8) (hy : y.all isRn = true) (hc : isRn c = false) : runT (y ++ c :: t) = y ∧ runR (y ++ c :: t) = c :: t := by
  have h := run_app y (c :: t) hy
  have h2 := stops_cons c t hc
  rw [h2.1, h2.2, List.append_nil] at h
  exact h
theorem bare_at (x y : List UInt8) (c : UInt8) (t : List UInt8) (hy : y.all isRn = true) (hc : isRn c = false) : bareL x (64 :: (y ++ c :: t)) = if chk x y = 0 then some (y, c :: t) else none := by
  have h2 := run_stop y c t hy hc
  show (if chk x (runT (y ++ c :: t)) = 0 then some (runT (y ++ c :: t), runR (y ++ c :: t)) else none) = _
  rw [h2.1, h2.2]
theorem addr_at (x y : List UInt8) (c : UInt8) (t L : List UInt8) (hL : L = x ++ 64 :: (y ++ c :: t)) (hx : x.all isRn = true) (hy : y.all isRn = true) (hc : isRn c = false) (hs : skipL L = L) (h1 : nextL L ≠ 34) (h2 : nextL L ≠ 60) :
    addrL' true L = if chk x y = 0 then some ((x, y), c :: t) else none := by
  have h3 := run_stop x 64 (y ++ c :: t) hx (by decide)
  rw [← hL] at h3
  rw [addr_else true L L hs h1 h2, h3.1, h3.2, if_pos ⟨rfl, rfl⟩, bare_at x y c t hy hc]
  split <;> rfl
theorem addr_word (f : Bool) (x : List UInt8) (c : UInt8) (t L : List UInt8) (hL : L = x ++ c :: t) (hn : x.isEmpty = false) (hx : x.all isRn = true) (hc : isRn c = false) (hs : skipL L = L) (h1 : nextL L ≠ 34) (h2 : nextL L ≠ 60) (h3 : c ≠ 64 ∨ f = false) :
    addrL' f L = addrL' false (c :: t) := by
  have h4 := run_stop x c t hx hc
  rw [← hL] at h4
  have h5 : ¬ (nextL (c :: t) = 64 ∧ f = true) := by
    rintro ⟨h6, h7⟩
    rcases h3 with h | h
    · exact h h6
    · rw [h] at h7; cases h7
  rw [addr_else f L L hs h1 h2, h4.1, h4.2, if_neg h5, hn]
  rfl
theorem addr_stop (f : Bool) (c : UInt8) (t : List UInt8) (hc : isRn c = false) (hs : skipL (c :: t) = c :: t) (h1 : c ≠ 34) (h2 : c ≠ 60) (h3 : c ≠ 64 ∨ f = false) : addrL' f (c :: t) = none := by
  have h4 := stops_cons c t hc
  have h5 : ¬ (nextL (c :: t) = 64 ∧ f = true) := by
    rintro ⟨h6, h7⟩
    rcases h3 with h | h
    · exact h h6
    · rw [h] at h7; cases h7
  rw [addr_else f (c :: t) (c :: t) hs h1 h2, h4.1, h4.2, if_neg h5]
  rfl
theorem skip_bl (c : UInt8) (t : List UInt8) (f : Bool) (h : isBl c = true) : addrL' f (c :: t) = addrL' f t := by
  have hs : skipL (c :: t) = skipL t := by
    show (if isBl c then skipL t else c :: t) = _
    rw [h]; rfl
  have ht := skip_le t
  unfold addrL'
  rw [addrP, addrP, hs]
  by_cases h34 : nextL (skipL t) = 34
  · rw [if_pos h34, if_pos h34]
    have htl := congrArg List.length (tail_lt h34 (by decide))
    simp only [List.length_cons] at htl
    cases hq : quotL (skipL t).tail with
    | none => rfl
    | some r =>
      have := quot_lt _ _ r (Nat.le_refl _) hq
      exact addrP_fuel _ _ false r (by simp only [List.length_cons]; omega) (by omega)
  · rw [if_neg h34, if_neg h34]
    split
    · rfl
    · split
      · rfl
      · split
        · rfl
        · next he =>
          have hl := run_len (skipL t)
          have : 1 ≤ (runT (skipL t)).length := by
            cases hT : runT (skipL t) with
            | nil => rw [hT] at he; exact absurd rfl he
            | cons a b => simp
          exact addrP_fuel _ _ false _ (by simp only [List.length_cons]; omega) (by omega)

/-- ahead of a comma -/
theorem bad_ahead (r : List UInt8) (hr : 34 ∉ r) : ∀ b ∈ badL, listL (b ++ 44 :: r) = none := by
  intro b hb
  have hq : quotL ([120, 32, 60, 97, 64, 98, 62] ++ 44 :: r) = none := quotL_none _ _ (Nat.le_refl _) (by simp [hr])
  have n97 : (97 : UInt8) ≠ 34 ∧ (97 : UInt8) ≠ 60 := ⟨by decide, by decide⟩
  have n46 : (46 : UInt8) ≠ 34 ∧ (46 : UInt8) ≠ 60 := ⟨by decide, by decide⟩
  have n64 : (64 : UInt8) ≠ 34 ∧ (64 : UInt8) ≠ 60 := ⟨by decide, by decide⟩
  have s44 : ∀ f, addrL' f (44 :: r) = none := fun f => addr_stop f 44 r (by decide) rfl (by decide) (by decide) (.inl (by decide))
  simp only [badL, List.mem_cons, List.not_mem_nil, or_false] at hb
  rcases hb with rfl | rfl | rfl | rfl | rfl | rfl | rfl | rfl | rfl | rfl | rfl | rfl | rfl | rfl | rfl | rfl | rfl
  · exact list_none (s44 true)
  · exact list_none ((addr_word true [97] 44 r _ rfl rfl (by decide) (by decide) rfl n97.1 n97.2 (.inl (by decide))).trans (s44 false))
  · exact list_none ((addr_at [] [98] 44 r _ rfl (by decide) (by decide) (by decide) rfl n64.1 n64.2).trans (if_neg (by decide)))
  · exact list_none ((addr_at [97] [] 44 r _ rfl (by decide) (by decide) (by decide) rfl n97.1 n97.2).trans (if_neg (by decide)))
  · exact list_bad ((addr_at [97] [98] 64 (99 :: 44 :: r) _ rfl (by decide) (by decide) (by decide) rfl n97.1 n97.2).trans (if_pos (by decide))) (L := 64 :: 99 :: 44 :: r) rfl (by simp) (by show (64 : UInt8) ≠ 44; decide)
  · refine list_none ?_
    have hr3 := run_stop [97] 64 (98 :: 44 :: r) (by decide) (by decide)
    rw [addr_lt true _ (97 :: 64 :: 98 :: 44 :: r) rfl, show runT (97 :: 64 :: 98 :: 44 :: r) = [97] from hr3.1, show runR (97 :: 64 :: 98 :: 44 :: r) = 64 :: 98 :: 44 :: r from hr3.2, show bareL [97] (64 :: 98 :: 44 :: r) = some ([98], 44 :: r) from (bare_at [97] [98] 44 r (by decide) (by decide)).trans (if_pos (by decide))]
    rfl
  · exact list_bad ((addr_at [97] [98] 62 (44 :: r) _ rfl (by decide) (by decide) (by decide) rfl n97.1 n97.2).trans (if_pos (by decide))) (L := 62 :: 44 :: r) rfl (by simp) (by show (62 : UInt8) ≠ 44; decide)
  · exact list_bad ((addr_at [97] [98] 32 (99 :: 64 :: 100 :: 44 :: r) _ rfl (by decide) (by decide) (by decide) rfl n97.1 n97.2).trans (if_pos (by decide))) (L := 99 :: 64 :: 100 :: 44 :: r) rfl (by simp) (by show (99 : UInt8) ≠ 44; decide)
  · refine list_none ((addr_word true [97] 32 (98 :: 64 :: 99 :: 44 :: r) _ rfl rfl (by decide) (by decide) rfl n97.1 n97.2 (.inl (by decide))).trans ((skip_bl 32 _ false (by decide)).trans ?_))
    exact (addr_word false [98] 64 (99 :: 44 :: r) _ rfl rfl (by decide) (by decide) rfl (by show (98 : UInt8) ≠ 34; decide) (by show (98 : UInt8) ≠ 60; decide) (.inr rfl)).trans (addr_stop false 64 _ (by decide) rfl (by decide) (by decide) (.inr rfl))
  · refine list_none ?_
    have hr3 := run_stop [97] 32 (64 :: 98 :: 62 :: 44 :: r) (by decide) (by decide)
    rw [addr_lt true _ (97 :: 32 :: 64 :: 98 :: 62 :: 44 :: r) rfl, show runT (97 :: 32 :: 64 :: 98 :: 62 :: 44 :: r) = [97] from hr3.1, show runR (97 :: 32 :: 64 :: 98 :: 62 :: 44 :: r) = 32 :: 64 :: 98 :: 62 :: 44 :: r from hr3.2]
    rfl
  · refine list_none ?_
    have hr3 := run_stop [] 62 (44 :: r) (by decide) (by decide)
    rw [addr_lt true _ (62 :: 44 :: r) rfl, show runT (62 :: 44 :: r) = [] from hr3.1, show runR (62 :: 44 :: r) = 62 :: 44 :: r from hr3.2]
    rfl
  · exact list_none ((addr_at [97, 46, 46, 98] [99] 44 r _ rfl (by decide) (by decide) (by decide) rfl n97.1 n97.2).trans (if_neg (by decide)))
  · exact list_none ((addr_at [46, 97] [98] 44 r _ rfl (by decide) (by decide) (by decide) rfl n46.1 n46.2).trans (if_neg (by decide)))
  · exact list_none ((addr_at [97, 46] [98] 44 r _ rfl (by decide) (by decide) (by decide) rfl n97.1 n97.2).trans (if_neg (by decide)))
  · refine list_none ?_
    rw [addr_quote true _ ([120, 32, 60, 97, 64, 98, 62] ++ 44 :: r) rfl, hq]; rfl
  · refine list_none ?_
    rw [addr_quote true _ ([120, 34] ++ 44 :: r) rfl, show quotL ([120, 34] ++ 44 :: r) = some (44 :: r) by rw [show [120, 34] ++ 44 :: r = 120 :: 34 :: 44 :: r from rfl, quotL_else 120 _ (by decide) (by decide), quotL_34 34 _ rfl]]
    exact s44 false
  · exact list_bad ((addr_at [97] [98] 59 (44 :: r) _ rfl (by decide) (by decide) (by decide) rfl n97.1 n97.2).trans (if_pos (by decide))) (L := 59 :: 44 :: r) rfl (by simp) (by show (59 : UInt8) ≠ 44; decide)
theorem not34 (l d : List UInt8) : (34 : UInt8) ∉ wordL l ++ 64 :: (wordL d ++ [46, 111, 114, 103]) := by
  have h : ∀ x : List UInt8, (34 : UInt8) ∉ wordL x := fun x hx => by
    have h1 := List.all_eq_true.1 (word_atoms x) 34 hx
    exact absurd h1 (by decide)
  simp [h]
/-- both, of any of the texts -/
theorem bad_both (l d b : List UInt8) (hb : b ∈ badL) :
    listL (b ++ 44 :: (wordL l ++ 64 :: (wordL d ++ [46, 111, 114, 103]))) = none ∧ listL (wordL l ++ 64 :: (wordL d ++ [46, 111, 114, 103]) ++ 44 :: b) = none := by
  refine ⟨bad_ahead _ (not34 l d) b hb, ?_⟩
  have h := addr_words l d (44 :: b) (stops_cons 44 b (by decide))
  have e : wordL l ++ 64 :: (wordL d ++ [46, 111, 114, 103]) ++ 44 :: b = wordL l ++ 64 :: ((wordL d ++ [46, 111, 114, 103]) ++ 44 :: b) := by simp
  rw [e, list_next h rfl, bad_alone b hb]
  rfl
end Go.Proofs.YtkchoempejdleaaDoor
