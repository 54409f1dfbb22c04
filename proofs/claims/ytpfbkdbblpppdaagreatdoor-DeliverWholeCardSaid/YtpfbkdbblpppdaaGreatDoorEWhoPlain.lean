/- On the way. -/
import Derived.Test.YtpfbkdbblpppdaaGreatDoorEJgC
import Derived.Test.YtpfbkdbblpppdaaGreatDoorEJgB
set_option linter.unusedVariables false
set_option linter.unusedSimpArgs false
namespace Go.Proofs.YtpfbkdbblpppdaaGreatDoor
open Go.RowKit
theorem run_app : ∀ (l r : List UInt8), l.all isRn = true → runT (l ++ r) = l ++ runT r ∧ runR (l ++ r) = runR r
 | [], r, _ => ⟨rfl, rfl⟩
 | c :: l, r, h => by
  have h2 : isRn c = true ∧ l.all isRn = true := by rw [List.all_cons, Bool.and_eq_true] at h; exact h
  have ih := run_app l r h2.2
  constructor
  ·show (if isRn c then c :: runT (l ++ r) else []) = c :: (l ++ runT r)
   rw [if_pos h2.1, ih.1]
  ·show (if isRn c then runR (l ++ r) else c :: (l ++ r)) = runR r
   rw [if_pos h2.1, ih.2]
theorem atoms_run (l : List UInt8) (h : l.all isAtom = true) : l.all isRn = true := by
 rw [List.all_eq_true] at h ⊢
 intro c hc
 unfold isRn
 rw [h c hc]; rfl
def Stops (r : List UInt8) : Prop := runT r = [] ∧ runR r = r
theorem stops_nil : Stops [] := ⟨rfl, rfl⟩
theorem stops_cons (c : UInt8) (r : List UInt8) (h : isRn c = false) : Stops (c :: r) := by
 constructor
 ·show (if isRn c then _ else _) = _
  rw [h]; rfl
 ·show (if isRn c then _ else _) = _
  rw [h]; rfl
theorem bare_plain (x y r : List UInt8) (hy : y.all isRn = true) (hr : Stops r) (hc : chk x y = 0) : bareL x (64 :: (y ++ r)) = some (y, r) := by
 have h := run_app y r hy
 rw [hr.1, List.append_nil, hr.2] at h
 show (if chk x (runT (y ++ r)) = 0 then some (runT (y ++ r), runR (y ++ r)) else none) = _
 rw [h.1, h.2, if_pos hc]
theorem atom_plain (c : UInt8) (h : isAtom c = true) : isBl c = false ∧ c ≠ 34 ∧ c ≠ 60 := by
 refine ⟨?_, ?_, ?_⟩
 ·cases hb : isBl c with
  | false => rfl
  | true =>
   unfold isBl at hb
   rw [Bool.or_eq_true] at hb
   rcases hb with hb | hb <;> (have := beq_iff_eq.1 hb; subst this; exact absurd h (by decide))
 ·rintro rfl; exact absurd h (by decide)
 ·rintro rfl; exact absurd h (by decide)
theorem addr_plain (x y r : List UInt8) (hx : x.all isAtom = true) (hn : x ≠ []) (hy : y.all isRn = true) (hr : Stops r) (hc : chk x y = 0) : addrL' true (x ++ 64 :: (y ++ r)) = some ((x, y), r) := by
 cases x with
 | nil => exact absurd rfl hn
 | cons c x =>
  have hc1 : isAtom c = true := by rw [List.all_cons, Bool.and_eq_true] at hx; exact hx.1
  obtain ⟨h1, h2, h3⟩ := atom_plain c hc1
  have hs : skipL (c :: (x ++ 64 :: (y ++ r))) = c :: (x ++ 64 :: (y ++ r)) := by
   show (if isBl c then _ else _) = _
   rw [h1]; rfl
  have hrun := run_app (c :: x) (64 :: (y ++ r)) (atoms_run _ hx)
  have h64 := stops_cons 64 (y ++ r) (by decide)
  rw [h64.1, List.append_nil, h64.2] at hrun
  show addrL' true (c :: (x ++ 64 :: (y ++ r))) = _
  have he := addr_else true _ _ hs h2 h3
  have hT : runT (c :: (x ++ 64 :: (y ++ r))) = c :: x := hrun.1
  have hR : runR (c :: (x ++ 64 :: (y ++ r))) = 64 :: (y ++ r) := hrun.2
  rw [he, hT, hR, if_pos ⟨rfl, rfl⟩, bare_plain (c :: x) y r hy hr hc]
  rfl
theorem word_rn (l : List UInt8) : (wordL l).all isRn = true := atoms_run _ (word_atoms l)
theorem dom_rn (l : List UInt8) : (wordL l ++ [46, 111, 114, 103]).all isRn = true := by rw [List.all_append, word_rn]; decide
theorem chk_words (l d : List UInt8) : chk (wordL l) (wordL d ++ [46, 111, 114, 103]) = 0 := by
 have := chk_ok l d
 rw [addrD_list] at this
 exact this
theorem addr_words (l d r : List UInt8) (hr : Stops r) : addrL' true (wordL l ++ 64 :: ((wordL d ++ [46, 111, 114, 103]) ++ r)) = some ((wordL l, wordL d ++ [46, 111, 114, 103]), r) :=
 addr_plain _ _ _ (word_atoms l) (word_ne l) (dom_rn d) hr (chk_words l d)
theorem list_one (l d : List UInt8) : listL (wordL l ++ 64 :: (wordL d ++ [46, 111, 114, 103])) = some [(wordL l, wordL d ++ [46, 111, 114, 103])] := by
 have h := addr_words l d [] stops_nil
 rw [List.append_nil] at h
 exact list_end h rfl
theorem acells_one (x y : List UInt8) : acells [(x, y)] = [.string ⟨x.toArray⟩, .string ⟨y.toArray⟩] := rfl
end Go.Proofs.YtpfbkdbblpppdaaGreatDoor
