/-
  DERIVED. No program: what is decoded is a batch as it is encoded.
-/
import Derived.Test.YtaeejmggmgejcaaDoorBatchPlain
namespace Go.Proofs.YtaeejmggmgejcaaDoor
open Go

theorem wideL_snoc (n : Nat) : ∀ k, wideL n (k + 1) = wideL (n / 256) k ++ [UInt8.ofNat n]
  | 0 => wide_one n
  | k + 1 => by
    show UInt8.ofNat (n / 256 ^ (k + 1)) :: wideL n (k + 1) = (UInt8.ofNat (n / 256 / 256 ^ k) :: wideL (n / 256) k) ++ [UInt8.ofNat n]
    rw [wideL_snoc n k, Nat.div_div_eq_div_mul, Nat.pow_succ, Nat.mul_comm (256 ^ k) 256]
    rfl
theorem ofNat_low (a : Nat) (c : UInt8) : UInt8.ofNat (a * 256 + c.toNat) = c := by
  apply UInt8.toNat_inj.1
  rw [UInt8.toNat_ofNat']
  have := c.toNat_lt
  omega
theorem wide_back : ∀ (k : Nat) (x : List UInt8), x.length = k → wideL (numV x) k = x
  | 0, x, h => by
    obtain rfl := List.eq_nil_of_length_eq_zero h
    rfl
  | k + 1, x, h => by
    rcases List.eq_nil_or_concat x with rfl | ⟨y, c, rfl⟩
    · cases h
    · have hy : y.length = k := by simpa using h
      have hc := c.toNat_lt
      rw [List.concat_eq_append, numV_snoc, wideL_snoc, ofNat_low, show (numV y * 256 + c.toNat) / 256 = numV y by omega, wide_back k y hy]
theorem numV_lt : ∀ (k : Nat) (x : List UInt8), x.length = k → numV x < 256 ^ k
  | 0, x, h => by
    obtain rfl := List.eq_nil_of_length_eq_zero h
    decide
  | k + 1, x, h => by
    rcases List.eq_nil_or_concat x with rfl | ⟨y, c, rfl⟩
    · cases h
    · have hy : y.length = k := by simpa using h
      have hc := c.toNat_lt
      have ih := numV_lt k y hy
      rw [List.concat_eq_append, numV_snoc, Nat.pow_succ]
      omega
theorem take_snd {n : Nat} {r : Left} {r' : List UInt8} (h : (takeL n r).2 = some r') : ∃ l, r = some l ∧ l = (takeL n r).1 ++ r' ∧ (takeL n r).1.length = n := by
  cases r with
  | none => cases h
  | some l =>
    refine ⟨l, rfl, ?_⟩
    have e : takeL n (some l) = if l.length < n then ([], none) else (l.take n, some (l.drop n)) := rfl
    rw [e] at h ⊢
    by_cases hl : l.length < n
    · rw [if_pos hl] at h; cases h
    · rw [if_neg hl] at h ⊢
      obtain rfl := Option.some.inj h
      exact ⟨(List.take_append_drop n l).symm, by rw [List.length_take]; omega⟩
theorem num_snd {k : Nat} {r : Left} {r' : List UInt8} (h : (numL k r).2 = some r') : ∃ l, r = some l ∧ l = wideL (numL k r).1 k ++ r' ∧ (numL k r).1 < 256 ^ k := by
  obtain ⟨l, h1, h2, h3⟩ := take_snd (show (takeL k r).2 = some r' from h)
  refine ⟨l, h1, ?_, numV_lt k _ h3⟩
  show l = wideL (numV (takeL k r).1) k ++ r'
  rw [wide_back k _ h3]; exact h2
theorem text_snd {r : Left} {r' : List UInt8} (h : (textL r).2 = some r') : ∃ l, r = some l ∧ l = textE (textL r).1 ++ r' ∧ (textL r).1.length < 65536 := by
  obtain ⟨l1, h1, h2, h3⟩ := take_snd (show (takeL (numL 2 r).1 (numL 2 r).2).2 = some r' from h)
  obtain ⟨l, g1, g2, g3⟩ := num_snd h1
  have e : (textL r).1 = (takeL (numL 2 r).1 (numL 2 r).2).1 := rfl
  refine ⟨l, g1, ?_, by rw [e, h3]; exact g3⟩
  unfold textE
  rw [e, h3, List.append_assoc, ← h2]
  exact g2
theorem readE_snd {r : Left} {r' : List UInt8} (h : (readE r).2 = some r') : ∃ l, r = some l ∧ l = entL (readE r).1 ++ r' ∧ Fits (readE r).1 := by
  unfold readE at h ⊢
  obtain ⟨l5, e5, q5, b5⟩ := text_snd h
  obtain ⟨l4, e4, q4, b4⟩ := text_snd e5
  obtain ⟨l3, e3, q3, b3⟩ := text_snd e4
  obtain ⟨l2, e2, q2, b2⟩ := num_snd e3
  obtain ⟨l1, e1, q1, b1⟩ := num_snd e2
  obtain ⟨l0, e0, q0, b0⟩ := num_snd e1
  refine ⟨l0, e0, ?_, b0, b1, b2, b3, b4, b5⟩
  rw [wide_one] at q0 q1
  rw [q0, q1, q2, q3, q4, q5]
  unfold entL
  simp
theorem readES_snd : ∀ (k : Nat) (r : Left) (r' : List UInt8), (readES k r).2 = some r' → ∃ l, r = some l ∧ l = entsL (readES k r).1 ++ r' ∧ (readES k r).1.length = k ∧ ∀ x ∈ (readES k r).1, Fits x
  | 0, r, r', h => ⟨r', h, rfl, rfl, fun x hx => by cases hx⟩
  | k + 1, none, r', h => by cases h
  | k + 1, some l, r', h => by
    obtain ⟨l1, h1, h2, h3, h4⟩ := readES_snd k _ r' (show (readES k (readE (some l)).2).2 = some r' from h)
    obtain ⟨l0, g1, g2, g3⟩ := readE_snd h1
    obtain rfl := Option.some.inj g1
    refine ⟨l, rfl, ?_, ?_, ?_⟩
    · show l = (entL (readE (some l)).1 ++ entsL (readES k (readE (some l)).2).1) ++ r'
      rw [List.append_assoc, ← h2]; exact g2
    · show (readES k (readE (some l)).2).1.length + 1 = k + 1
      rw [h3]
    · intro x hx
      rcases List.mem_cons.1 hx with rfl | hx
      · exact g3
      · exact h4 x hx
/-- NO BATCH HAS TWO FORMS -/
theorem decode_back {l r : List UInt8} (h : (decodeL l).2 = some r) : l = batchL (decodeL l).1.1 (decodeL l).1.2 ++ r ∧ (decodeL l).1.1 < 256 ∧ (decodeL l).1.2.length < 256 ∧ ∀ x ∈ (decodeL l).1.2, Fits x := by
  unfold decodeL at h ⊢
  obtain ⟨l2, h1, h2, h3, h4⟩ := readES_snd _ _ r h
  obtain ⟨l1, g1, g2, g3⟩ := num_snd h1
  obtain ⟨l0, f1, f2, f3⟩ := num_snd g1
  obtain rfl := Option.some.inj f1
  rw [wide_one] at f2 g2
  refine ⟨?_, f3, ?_, h4⟩
  · refine f2.trans ?_
    rw [g2, h2]
    show _ = UInt8.ofNat (numL 1 (some l)).1 :: UInt8.ofNat (readES (numL 1 (numL 1 (some l)).2).1 (numL 1 (numL 1 (some l)).2).2).1.length :: (entsL (readES (numL 1 (numL 1 (some l)).2).1 (numL 1 (numL 1 (some l)).2).2).1 ++ r)
    rw [h3]
    rfl
  · show (readES _ _).1.length < 256
    rw [h3]; exact g3
end Go.Proofs.YtaeejmggmgejcaaDoor
