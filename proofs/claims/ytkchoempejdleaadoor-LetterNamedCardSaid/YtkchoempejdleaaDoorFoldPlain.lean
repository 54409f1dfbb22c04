/-
  DERIVED. LetterFolded: the plain laws.
-/
import Derived.Test.YtkchoempejdleaaDoorTexts
import Derived.Test.YtkchoempejdleaaDoorLetterTorn
namespace Go.Proofs.YtkchoempejdleaaDoor
open Go.RowKit

theorem trim_end (v : List UInt8) : trimV (v ++ [32]) = trimV v := by
  unfold trimV Lib.trimS
  have hr : Lib.trimRightS (v ++ [32]) [32, 9] = Lib.trimRightS v [32, 9] := by
    unfold Lib.trimRightS
    rw [List.reverse_append]
    show (List.dropWhile _ (32 :: v.reverse)).reverse = _
    rw [List.dropWhile_cons, show (([32, 9] : List UInt8).contains 32) = true by decide]
    rfl
  rw [hr]
theorem word_mem (l : List UInt8) (c : UInt8) (h : c ∈ wordL l) : nameC c = true := (name_all (word_name l)).1 c h
theorem word_not (l : List UInt8) : (13 : UInt8) ∉ wordL l ∧ (58 : UInt8) ∉ wordL l ∧ (32 : UInt8) ∉ wordL l ∧ (9 : UInt8) ∉ wordL l :=
  ⟨fun h => (nameC_ne (word_mem l 13 h)).1 rfl, fun h => (nameC_ne (word_mem l 58 h)).2.2.1 rfl, fun h => (nameC_ne (word_mem l 32 h)).2.2.2.1 rfl, fun h => (nameC_ne (word_mem l 9 h)).2.2.2.2 rfl⟩
theorem word_blank (l : List UInt8) (c : UInt8) (h : c ∈ wordL l) : isBlank c = false := by
  have := nameC_ne (word_mem l c h)
  unfold isBlank
  rw [beq_eq_false_iff_ne.2 this.2.2.2.1, beq_eq_false_iff_ne.2 this.2.2.2.2]; rfl
/-- the value that is put together -/
def foldV (b c : List UInt8) : List UInt8 := wordL b ++ 32 :: (wordL c ++ 9 :: wordL b)
theorem fold_trim (b c : List UInt8) : trimV (foldV b c ++ [32]) = foldV b c := by
  rw [trim_end]
  refine trim_id _ ?_ ?_
  · intro d hd
    cases hw : wordL b with
    | nil => exact absurd hw (word_ne b)
    | cons x y =>
      unfold foldV at hd
      rw [hw] at hd
      obtain rfl : x = d := Option.some.inj hd
      exact word_blank b x (by rw [hw]; exact List.mem_cons_self ..)
  · intro d hd
    unfold foldV at hd
    rw [show wordL b ++ 32 :: (wordL c ++ 9 :: wordL b) = (wordL b ++ 32 :: (wordL c ++ [9])) ++ wordL b by simp, List.getLast?_append] at hd
    cases hl : (wordL b).getLast? with
    | none => exact absurd (List.getLast?_eq_none_iff.1 hl) (word_ne b)
    | some e =>
      rw [hl] at hd
      obtain rfl : e = d := Option.some.inj hd
      exact word_blank b e (List.mem_of_getLast? hl)
theorem fold_not (b c : List UInt8) : (13 : UInt8) ∉ foldV b c := by
  have h1 := (word_not b).1
  have h2 := (word_not c).1
  unfold foldV
  simp [h1, h2]
def foldF (a b c : List UInt8) : List Fld := [(wordL a, foldV b c)]
theorem fold_good (a b c : List UInt8) : ∀ f ∈ foldF a b c, Good f := by
  intro f hf
  obtain rfl := List.mem_singleton.1 hf
  refine ⟨word_name a, no_crlf _ (fold_not b c), ?_⟩
  have := fold_trim b c
  rw [trim_end] at this
  exact this
theorem parse_folded (a b c : List UInt8) : parseL 0 [] (wordL a ++ [58] ++ wordL b ++ [13, 10, 32] ++ wordL c ++ [13, 10, 9] ++ wordL b ++ [32, 13, 10, 13, 10]) = ((foldF a b c, []), 0, 0) := by
  have na := word_not a; have nb := word_not b; have nc := word_not c
  have e : wordL a ++ [58] ++ wordL b ++ [13, 10, 32] ++ wordL c ++ [13, 10, 9] ++ wordL b ++ [32, 13, 10, 13, 10] = (wordL a ++ 58 :: wordL b) ++ 13 :: 10 :: ((32 :: wordL c) ++ 13 :: 10 :: ((9 :: (wordL b ++ [32])) ++ 13 :: 10 :: (13 :: 10 :: []))) := by simp
  have hs1 := sep_crlf (wordL a ++ 58 :: wordL b) ((32 :: wordL c) ++ 13 :: 10 :: ((9 :: (wordL b ++ [32])) ++ 13 :: 10 :: (13 :: 10 :: []))) (no_crlf _ (by simp [na.1, nb.1]))
  have hs2 := sep_crlf (32 :: wordL c) ((9 :: (wordL b ++ [32])) ++ 13 :: 10 :: (13 :: 10 :: [])) (no_crlf _ (by simp [nc.1]))
  have hs3 := sep_crlf (9 :: (wordL b ++ [32])) (13 :: 10 :: []) (no_crlf _ (by simp [nb.1]))
  have hs4 : sepL [13, 10] (13 :: 10 :: []) = some ([], []) := rfl
  have h58 := sep_byte 58 (wordL a) (wordL b) na.2.1
  have hhd : isBlank ((wordL a ++ 58 :: wordL b).headD 0) = false := by
    cases hw : wordL a with
    | nil => exact absurd hw (word_ne a)
    | cons x y => exact word_blank a x (by rw [hw]; exact List.mem_cons_self ..)
  rw [e, parse_field hs1 (by simp) (by rw [hhd]; rfl) h58 (word_name a) (by simp), parse_fold hs2 rfl rfl, parse_fold hs3 rfl rfl, parse_end hs4]
  show ((List.map trimF [(wordL a, wordL b ++ 32 :: wordL c ++ 9 :: (wordL b ++ [32]))], []), 0, 0) = _
  have e2 : wordL b ++ 32 :: wordL c ++ 9 :: (wordL b ++ [32]) = foldV b c ++ [32] := by unfold foldV; simp
  rw [e2]
  show (([(wordL a, trimV (foldV b c ++ [32]))], []), 0, 0) = _
  rw [fold_trim]
  rfl
theorem parse_blank (b : List UInt8) : parseL 0 [] (32 :: wordL b ++ [13, 10, 13, 10]) = (([], []), 0, 3) := by
  have nb := word_not b
  have hs := sep_crlf (32 :: wordL b) [13, 10] (no_crlf _ (by simp [nb.1]))
  exact parse_nocolon hs rfl rfl (sep_byte_none 58 _ (by simp [nb.2.1]))
theorem fold_vals (a b c : List UInt8) : valsL (foldF a b c) (wordL a) = [foldV b c] := by
  unfold valsL foldF
  simp
theorem fold_size (a b c : List UInt8) : (showF (foldF a b c)).length ≤ 60 := by
  have h1 := wordL_le a; have h2 := wordL_le b; have h3 := wordL_le c
  show (fieldL (wordL a, foldV b c) ++ []).length ≤ 60
  unfold fieldL foldV
  simp only [List.length_append, List.length_cons, List.length_nil]
  omega

end Go.Proofs.YtkchoempejdleaaDoor
