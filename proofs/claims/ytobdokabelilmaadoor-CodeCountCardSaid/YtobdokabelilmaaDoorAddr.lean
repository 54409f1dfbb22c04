/-
  DERIVED. What 'address' of who's reader reads, in plain words.
-/
import Derived.Test.YtobdokabelilmaaDoorBare
namespace Go.Proofs.YtobdokabelilmaaDoor
open Go.RowKit

/-- an address, perhaps with words ahead of it ('f': no word was read yet) -/
def addrP : Nat → Bool → List UInt8 → Option ((List UInt8 × List UInt8) × List UInt8)
  | 0, _, _ => none
  | k + 1, f, l =>
    if nextL (skipL l) = 34 then (quotL (skipL l).tail).bind (addrP k false)
    else if nextL (skipL l) = 60 then
      (bareL (runT (skipL l).tail) (runR (skipL l).tail)).bind fun dr => if nextL dr.2 = 62 then some ((runT (skipL l).tail, dr.1), dr.2.tail) else none
    else if nextL (runR (skipL l)) = 64 ∧ f = true then (bareL (runT (skipL l)) (runR (skipL l))).map fun dr => ((runT (skipL l), dr.1), dr.2)
    else if (runT (skipL l)).isEmpty then none else addrP k false (runR (skipL l))
theorem skip_le : ∀ l : List UInt8, (skipL l).length ≤ l.length
  | [] => Nat.le_refl _
  | c :: l => by
    unfold skipL
    split
    · exact Nat.le_trans (skip_le l) (by simp)
    · exact Nat.le_refl _
theorem quot_lt : ∀ (n : Nat) (l r : List UInt8), l.length ≤ n → quotL l = some r → r.length < l.length
  | n, [], r, _, h => by cases h
  | 0, c :: l, r, hn, _ => by simp at hn
  | n + 1, c :: l, r, hn, h => by
    simp only [List.length_cons] at hn ⊢
    by_cases h34 : c = 34
    · rw [quotL_34 c l h34] at h; cases h; omega
    · by_cases h92 : c = 92
      · cases l with
        | nil => rw [quotL_92n c h92] at h; cases h
        | cons d l =>
          rw [quotL_92 c d l h92] at h
          simp only [List.length_cons] at hn ⊢
          have := quot_lt n l r (by omega) h
          omega
      · rw [quotL_else c l h34 h92] at h
        have := quot_lt n l r (by omega) h
        omega
theorem run_len (l : List UInt8) : (runT l).length + (runR l).length = l.length := by
  have := congrArg List.length (run_both l); rw [List.length_append] at this; exact this
theorem tail_lt {l : List UInt8} {c : UInt8} (h : nextL l = c) (hc : c ≠ 0) : l = c :: l.tail := by
  cases l with
  | nil => exact absurd h.symm hc
  | cons d l => have : d = c := h; rw [this]; rfl
theorem addrP_fuel : ∀ (k k' : Nat) (f : Bool) (l : List UInt8), l.length < k → l.length < k' → addrP k f l = addrP k' f l
  | 0, _, _, l, h, _ => absurd h (Nat.not_lt_zero _)
  | _ + 1, 0, _, l, _, h => absurd h (Nat.not_lt_zero _)
  | k + 1, k' + 1, f, l, h, h' => by
    rw [addrP, addrP]
    have hs := skip_le l
    by_cases h34 : nextL (skipL l) = 34
    · rw [if_pos h34, if_pos h34]
      have ht := congrArg List.length (tail_lt h34 (by decide))
      simp only [List.length_cons] at ht
      cases hq : quotL (skipL l).tail with
      | none => rfl
      | some r =>
        have := quot_lt _ _ r (Nat.le_refl _) hq
        exact addrP_fuel k k' false r (by omega) (by omega)
    · rw [if_neg h34, if_neg h34]
      split
      · rfl
      · split
        · rfl
        · split
          · rfl
          · next he =>
            have hl := run_len (skipL l)
            have : 1 ≤ (runT (skipL l)).length := by
              cases ht : runT (skipL l) with
              | nil => rw [ht] at he; exact absurd rfl he
              | cons a b => simp
            exact addrP_fuel k k' false _ (by omega) (by omega)
/-- with as much fuel as there are bytes -/
def addrL' (f : Bool) (l : List UInt8) : Option ((List UInt8 × List UInt8) × List UInt8) := addrP (l.length + 1) f l
theorem addr_quote (f : Bool) (l r : List UInt8) (h : skipL l = 34 :: r) : addrL' f l = (quotL r).bind (addrL' false) := by
  have hs := skip_le l
  rw [h] at hs
  simp only [List.length_cons] at hs
  unfold addrL'
  rw [addrP, h, if_pos (show nextL (34 :: r) = 34 from rfl)]
  show (quotL r).bind _ = _
  cases hq : quotL r with
  | none => rfl
  | some r2 =>
    have := quot_lt _ _ r2 (Nat.le_refl _) hq
    exact addrP_fuel _ _ false r2 (by omega) (by omega)
theorem addr_lt (f : Bool) (l r : List UInt8) (h : skipL l = 60 :: r) : addrL' f l = (bareL (runT r) (runR r)).bind fun dr => if nextL dr.2 = 62 then some ((runT r, dr.1), dr.2.tail) else none := by
  unfold addrL'
  rw [addrP, h, if_neg (show ¬ nextL (60 :: r) = 34 from (by decide : ¬ (60 : UInt8) = 34)), if_pos (show nextL (60 :: r) = 60 from rfl)]
  rfl
theorem addr_else (f : Bool) (l L : List UInt8) (h : skipL l = L) (h1 : nextL L ≠ 34) (h2 : nextL L ≠ 60) :
    addrL' f l = if nextL (runR L) = 64 ∧ f = true then (bareL (runT L) (runR L)).map fun dr => ((runT L, dr.1), dr.2) else if (runT L).isEmpty then none else addrL' false (runR L) := by
  have hs := skip_le l
  unfold addrL'
  rw [addrP, h, if_neg h1, if_neg h2]
  split
  · rfl
  · split
    · rfl
    · next he =>
      have hl := run_len L
      have : 1 ≤ (runT L).length := by
        cases ht : runT L with
        | nil => rw [ht] at he; exact absurd rfl he
        | cons a b => simp
      rw [h] at hs
      exact addrP_fuel _ _ false _ (by omega) (by omega)
theorem RdrL.pos {w : World} {b : Nat} {s : ByteArray} {l : List UInt8} (h : RdrL w b s l) : posAt w b = s.size - l.length ∧ l.length ≤ s.size := by
  obtain ⟨n, h1, h2⟩ := h
  rw [h2.pos]
  have := h1.1
  omega
theorem measL {w w' : World} {b : Nat} {s : ByteArray} {l l' : List UInt8} (h : RdrL w b s l) (h' : RdrL w' b s l') (hl : l'.length < l.length) : s.size - posAt w' b < s.size - posAt w b := by
  have h1 := h.pos; have h2 := h'.pos
  rw [h1.1, h2.1]; omega
end Go.Proofs.YtobdokabelilmaaDoor
