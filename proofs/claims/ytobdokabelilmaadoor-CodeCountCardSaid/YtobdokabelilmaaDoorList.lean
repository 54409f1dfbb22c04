/-
  DERIVED. What 'List' of who reads, in plain words.
-/
import Derived.Test.YtobdokabelilmaaDoorCatch
namespace Go.Proofs.YtobdokabelilmaaDoor
open Go.RowKit

theorem bare_len {loc l d r : List UInt8} (h : bareL loc l = some (d, r)) : r.length ≤ l.length := by
  cases l with
  | nil => cases h
  | cons c l =>
    have h' : (if c = 64 then (if chk loc (runT l) = 0 then some (runT l, runR l) else none) else none) = some (d, r) := h
    have := run_len l
    split at h'
    · split at h'
      · obtain ⟨_, rfl⟩ := Prod.mk.inj (Option.some.inj h'); simp only [List.length_cons]; omega
      · cases h'
    · cases h'
theorem addrP_len : ∀ (k : Nat) (f : Bool) (l r : List UInt8) (xy : List UInt8 × List UInt8), addrP k f l = some (xy, r) → r.length ≤ l.length
  | 0, _, _, _, _, h => by cases h
  | k + 1, f, l, r, xy, h => by
    have hs := skip_le l
    have hr := run_len (skipL l)
    rw [addrP] at h
    by_cases h34 : nextL (skipL l) = 34
    · rw [if_pos h34] at h
      have ht := congrArg List.length (tail_lt h34 (by decide))
      simp only [List.length_cons] at ht
      cases hq : quotL (skipL l).tail with
      | none => rw [hq] at h; cases h
      | some r2 =>
        rw [hq] at h
        have h1 := quot_lt _ _ r2 (Nat.le_refl _) hq
        have h2 := addrP_len k false r2 r xy h
        omega
    · rw [if_neg h34] at h
      split at h
      · next h60 =>
        have ht := congrArg List.length (tail_lt h60 (by decide))
        simp only [List.length_cons] at ht
        have hr2 := run_len (skipL l).tail
        cases hb : bareL (runT (skipL l).tail) (runR (skipL l).tail) with
        | none => rw [hb] at h; cases h
        | some dr =>
          obtain ⟨d, r2⟩ := dr
          have hbl := bare_len hb
          rw [hb] at h
          have h' : (if nextL r2 = 62 then some ((runT (skipL l).tail, d), r2.tail) else none) = some (xy, r) := h
          split at h'
          · obtain ⟨_, rfl⟩ := Prod.mk.inj (Option.some.inj h'); simp only [List.length_tail]; omega
          · cases h'
      · split at h
        · cases hb : bareL (runT (skipL l)) (runR (skipL l)) with
          | none => rw [hb] at h; cases h
          | some dr =>
            obtain ⟨d, r2⟩ := dr
            have hbl := bare_len hb
            rw [hb] at h
            have he : r2 = r := (Prod.mk.inj (Option.some.inj h)).2
            subst he
            omega
        · split at h
          · cases h
          · have h2 := addrP_len k false _ r xy h
            omega
theorem addr_len {f : Bool} {l r : List UInt8} {xy : List UInt8 × List UInt8} (h : addrL' f l = some (xy, r)) : r.length ≤ l.length := addrP_len _ f l r xy h

/-- a list of addresses -/
def listP : Nat → List UInt8 → Option (List (List UInt8 × List UInt8))
  | 0, _ => none
  | k + 1, l => (addrL' true l).bind fun ar => if skipL ar.2 = [] then some [ar.1] else if nextL (skipL ar.2) = 44 then (listP k (skipL ar.2).tail).map (ar.1 :: ·) else none
theorem listP_fuel : ∀ (k k' : Nat) (l : List UInt8), l.length < k → l.length < k' → listP k l = listP k' l
  | 0, _, l, h, _ => absurd h (Nat.not_lt_zero _)
  | _ + 1, 0, l, _, h => absurd h (Nat.not_lt_zero _)
  | k + 1, k' + 1, l, h, h' => by
    rw [listP, listP]
    cases ha : addrL' true l with
    | none => rfl
    | some ar =>
      obtain ⟨xy, r⟩ := ar
      have hl := addr_len ha
      have hs := skip_le r
      show (if skipL r = [] then some [xy] else if nextL (skipL r) = 44 then (listP k (skipL r).tail).map (xy :: ·) else none) = (if skipL r = [] then some [xy] else if nextL (skipL r) = 44 then (listP k' (skipL r).tail).map (xy :: ·) else none)
      split
      · rfl
      · split
        · next h44 =>
          have ht := congrArg List.length (tail_lt h44 (by decide))
          simp only [List.length_cons] at ht
          rw [listP_fuel k k' (skipL r).tail (by omega) (by omega)]
        · rfl
def listL (l : List UInt8) : Option (List (List UInt8 × List UInt8)) := listP (l.length + 1) l
theorem list_none {l : List UInt8} (h : addrL' true l = none) : listL l = none := by unfold listL; rw [listP, h]; rfl
theorem list_end {l r : List UInt8} {xy : List UInt8 × List UInt8} (h : addrL' true l = some (xy, r)) (hs : skipL r = []) : listL l = some [xy] := by
  unfold listL; rw [listP, h]; show (if skipL r = [] then some [xy] else _) = _; rw [if_pos hs]
theorem list_next {l r q : List UInt8} {xy : List UInt8 × List UInt8} (h : addrL' true l = some (xy, r)) (hs : skipL r = 44 :: q) : listL l = (listL q).map (xy :: ·) := by
  have h1 := addr_len h
  have h2 := skip_le r
  unfold listL; rw [listP, h]
  show (if skipL r = [] then some [xy] else if nextL (skipL r) = 44 then (listP l.length (skipL r).tail).map (xy :: ·) else none) = _
  rw [hs] at h2 ⊢
  simp only [List.length_cons] at h2
  rw [if_neg (by simp), if_pos (show nextL (44 :: q) = 44 from rfl)]
  show (listP l.length q).map _ = _
  rw [listP_fuel l.length (q.length + 1) q (by omega) (by omega)]
theorem list_bad {l r L : List UInt8} {xy : List UInt8 × List UInt8} (h : addrL' true l = some (xy, r)) (hs : skipL r = L) (h1 : L ≠ []) (h2 : nextL L ≠ 44) : listL l = none := by
  unfold listL; rw [listP, h]
  show (if skipL r = [] then some [xy] else if nextL (skipL r) = 44 then (listP l.length (skipL r).tail).map (xy :: ·) else none) = _
  rw [hs, if_neg h1, if_neg h2]
/-- the cells of addresses -/
def acells (l : List (List UInt8 × List UInt8)) : List Value := l.flatMap fun a => [.string ⟨a.1.toArray⟩, .string ⟨a.2.toArray⟩]
theorem acells_length (l : List (List UInt8 × List UInt8)) : (acells l).length = l.length * 2 := by
  induction l with
  | nil => rfl
  | cons a l ih => simp only [acells, List.flatMap_cons, List.length_append, List.length_cons, List.length_nil] at ih ⊢; omega
theorem acells_snoc (l : List (List UInt8 × List UInt8)) (a : List UInt8 × List UInt8) : acells (l ++ [a]) = acells l ++ [.string ⟨a.1.toArray⟩, .string ⟨a.2.toArray⟩] := by simp [acells]
theorem infoAddr : (Tryd.prog.info? 139).map (fun i => (i.zero, i.size, i.bytes)) = some (some (.agg #[.string ⟨#[]⟩, .string ⟨#[]⟩]), 2, 32) := by kernel_rfl
end Go.Proofs.YtobdokabelilmaaDoor
