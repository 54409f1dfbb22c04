/-
  DERIVED. No program: batches as bytes and back, in plain words (packages book and box).
-/
import Derived.Lib.IndexMore
namespace Go.Proofs.YtaeejmggmgejcaaDoor
open Go

/-- an entry -/
structure Ent where
  (kind flags uid : Nat) (box to text : List UInt8)
/-- a number as so many bytes, the highest one first -/
def wideL (n : Nat) : Nat → List UInt8
  | 0 => []
  | k + 1 => UInt8.ofNat (n / 256 ^ k) :: wideL n k
def textE (s : List UInt8) : List UInt8 := wideL s.length 2 ++ s
def entL (x : Ent) : List UInt8 := [UInt8.ofNat x.kind, UInt8.ofNat x.flags] ++ wideL x.uid 3 ++ textE x.box ++ textE x.to ++ textE x.text
def entsL (xs : List Ent) : List UInt8 := xs.flatMap entL
def batchL (user : Nat) (xs : List Ent) : List UInt8 := UInt8.ofNat user :: UInt8.ofNat xs.length :: entsL xs

/-- the reader: what is left; none: the bytes ended too early -/
abbrev Left := Option (List UInt8)
def takeL (n : Nat) : Left → List UInt8 × Left
  | none => ([], none)
  | some l => if l.length < n then ([], none) else (l.take n, some (l.drop n))
def numV (l : List UInt8) : Nat := l.foldl (fun n c => n * 256 + c.toNat) 0
def numL (many : Nat) (r : Left) : Nat × Left := (numV (takeL many r).1, (takeL many r).2)
def textL (r : Left) : List UInt8 × Left := takeL (numL 2 r).1 (numL 2 r).2
def readE (r : Left) : Ent × Left :=
  let k := numL 1 r; let f := numL 1 k.2; let u := numL 3 f.2; let b := textL u.2; let t := textL b.2; let x := textL t.2
  (⟨k.1, f.1, u.1, b.1, t.1, x.1⟩, x.2)
/-- so many entries, as long as there are bytes -/
def readES : Nat → Left → List Ent × Left
  | 0, r => ([], r)
  | _ + 1, none => ([], none)
  | k + 1, some l => ((readE (some l)).1 :: (readES k (readE (some l)).2).1, (readES k (readE (some l)).2).2)
/-- what Decode reads, before it is checked: the user, the entries, what is left -/
def decodeL (l : List UInt8) : (Nat × List Ent) × Left :=
  let u := numL 1 (some l); let m := numL 1 u.2; let e := readES m.1 m.2
  ((u.1, e.1), e.2)

theorem numV_snoc (l : List UInt8) (c : UInt8) : numV (l ++ [c]) = numV l * 256 + c.toNat := by simp [numV]
theorem wideL_length (n : Nat) : ∀ k, (wideL n k).length = k
  | 0 => rfl
  | k + 1 => by show (wideL n k).length + 1 = k + 1; rw [wideL_length n k]
theorem numV_wide (n : Nat) : ∀ (k a : Nat), (wideL n k).foldl (fun m c => m * 256 + c.toNat) a = a * 256 ^ k + n % 256 ^ k
  | 0, a => by show a = a * 1 + n % 1; rw [Nat.mul_one, Nat.mod_one]; rfl
  | k + 1, a => by
    show (wideL n k).foldl _ (a * 256 + (UInt8.ofNat (n / 256 ^ k)).toNat) = _
    rw [numV_wide n k, UInt8.toNat_ofNat']
    have h1 : n % 256 ^ (k + 1) = n / 256 ^ k % 256 * 256 ^ k + n % 256 ^ k := by
      rw [Nat.pow_succ, Nat.mod_mul, Nat.add_comm, Nat.mul_comm]
    rw [h1, Nat.add_mul, Nat.pow_succ, Nat.mul_assoc, Nat.mul_comm 256 (256 ^ k), Nat.add_assoc]
    rfl
theorem wide_num (n k : Nat) (h : n < 256 ^ k) : numV (wideL n k) = n := by
  unfold numV
  rw [numV_wide, Nat.zero_mul, Nat.zero_add, Nat.mod_eq_of_lt h]
theorem take_app (x r : List UInt8) : takeL x.length (some (x ++ r)) = (x, some r) := by
  show (if (x ++ r).length < x.length then ([], none) else ((x ++ r).take x.length, some ((x ++ r).drop x.length))) = _
  rw [if_neg (by rw [List.length_append]; omega), List.take_left, List.drop_left]
theorem num_wide (n k : Nat) (r : List UInt8) (h : n < 256 ^ k) : numL k (some (wideL n k ++ r)) = (n, some r) := by
  have := take_app (wideL n k) r
  rw [wideL_length] at this
  unfold numL
  rw [this, wide_num n k h]
theorem num_one (n : Nat) (r : List UInt8) (h : n < 256) : numL 1 (some (UInt8.ofNat n :: r)) = (n, some r) := by
  have e : UInt8.ofNat n :: r = wideL n 1 ++ r := by
    show _ = UInt8.ofNat (n / 1) :: ([] ++ r)
    rw [Nat.div_one]; rfl
  rw [e]
  exact num_wide n 1 r h
theorem text_app (s r : List UInt8) (h : s.length < 65536) : textL (some (textE s ++ r)) = (s, some r) := by
  unfold textL textE
  rw [List.append_assoc, num_wide s.length 2 (s ++ r) h]
  exact take_app s r
/-- an entry whose numbers fit -/
def Fits (x : Ent) : Prop := x.kind < 256 ∧ x.flags < 256 ∧ x.uid < 16777216 ∧ x.box.length < 65536 ∧ x.to.length < 65536 ∧ x.text.length < 65536
theorem read_ent (x : Ent) (r : List UInt8) (h : Fits x) : readE (some (entL x ++ r)) = (x, some r) := by
  obtain ⟨h1, h2, h3, h4, h5, h6⟩ := h
  have e : entL x ++ r = UInt8.ofNat x.kind :: (UInt8.ofNat x.flags :: (wideL x.uid 3 ++ (textE x.box ++ (textE x.to ++ (textE x.text ++ r))))) := by unfold entL; simp
  unfold readE
  rw [e]
  simp only [num_one x.kind _ h1, num_one x.flags _ h2, num_wide x.uid 3 _ h3, text_app x.box _ h4, text_app x.to _ h5, text_app x.text _ h6]
theorem read_ents : ∀ (xs : List Ent) (r : List UInt8), (∀ x ∈ xs, Fits x) → readES xs.length (some (entsL xs ++ r)) = (xs, some r)
  | [], r, _ => rfl
  | x :: xs, r, h => by
    have e : entsL (x :: xs) ++ r = entL x ++ (entsL xs ++ r) := by
      show (entL x ++ entsL xs) ++ r = _
      rw [List.append_assoc]
    rw [e]
    show ((readE (some (entL x ++ (entsL xs ++ r)))).1 :: (readES xs.length (readE (some (entL x ++ (entsL xs ++ r)))).2).1, (readES xs.length (readE (some (entL x ++ (entsL xs ++ r)))).2).2) = _
    rw [read_ent x _ (h x (List.mem_cons_self ..)), read_ents xs r (fun y hy => h y (List.mem_cons_of_mem _ hy))]
/-- A BATCH IS DECODED AS IT WAS ENCODED, whatever stands behind it -/
theorem decode_batch (user : Nat) (xs : List Ent) (r : List UInt8) (hu : user < 256) (hl : xs.length < 256) (h : ∀ x ∈ xs, Fits x) : decodeL (batchL user xs ++ r) = ((user, xs), some r) := by
  unfold decodeL
  have e : batchL user xs ++ r = UInt8.ofNat user :: (UInt8.ofNat xs.length :: (entsL xs ++ r)) := rfl
  rw [e]
  simp only [num_one user _ hu, num_one xs.length _ hl, read_ents xs r h]

/-! what is torn -/
theorem take_short (n : Nat) (l : List UInt8) (h : l.length < n) : takeL n (some l) = ([], none) := by
  show (if l.length < n then ([], none) else (l.take n, some (l.drop n))) = _
  rw [if_pos h]
theorem num_none (k : Nat) : numL k none = (0, none) := rfl
theorem num_short (k : Nat) (l : List UInt8) (h : l.length < k) : numL k (some l) = (0, none) := by unfold numL; rw [take_short k l h]; rfl
theorem text_none : textL none = ([], none) := rfl
theorem text_short (s : List UInt8) (p : Nat) (h : s.length < 65536) (hp : p < (textE s).length) : textL (some ((textE s).take p)) = ([], none) := by
  have hl : (textE s).length = 2 + s.length := by unfold textE; rw [List.length_append, wideL_length]
  by_cases h2 : p < 2
  · unfold textL
    rw [num_short 2 _ (by rw [List.length_take]; omega)]
    rfl
  · have e : (textE s).take p = wideL s.length 2 ++ s.take (p - 2) := by
      unfold textE
      rw [List.take_append, wideL_length, List.take_of_length_le (by rw [wideL_length]; omega)]
    unfold textL
    rw [e, num_wide s.length 2 _ h]
    exact take_short _ _ (by rw [List.length_take]; omega)
/-- what a reader does to what is left, of a text that is whole, and of one that is torn -/
def Eats (f : Left → Left) (e : List UInt8) : Prop := (∀ r, f (some (e ++ r)) = some r) ∧ (∀ p, p < e.length → f (some (e.take p)) = none) ∧ f none = none
theorem Eats.comp {f g : Left → Left} {e1 e2 : List UInt8} (hf : Eats f e1) (hg : Eats g e2) : Eats (fun r => g (f r)) (e1 ++ e2) := by
  refine ⟨fun r => ?_, fun p hp => ?_, ?_⟩
  · show g (f (some (e1 ++ e2 ++ r))) = _
    rw [List.append_assoc, hf.1, hg.1]
  · show g (f (some ((e1 ++ e2).take p))) = _
    rw [List.length_append] at hp
    by_cases h : p < e1.length
    · rw [List.take_append_of_le_length (by omega), hf.2.1 p h, hg.2.2]
    · rw [List.take_append, List.take_of_length_le (by omega), hf.1, hg.2.1 _ (by omega)]
  · show g (f none) = _
    rw [hf.2.2, hg.2.2]
theorem num_eats (n k : Nat) (h : n < 256 ^ k) : Eats (fun r => (numL k r).2) (wideL n k) := by
  refine ⟨fun r => ?_, fun p hp => ?_, rfl⟩
  · show (numL k (some (wideL n k ++ r))).2 = _
    rw [num_wide n k r h]
  · rw [wideL_length] at hp
    show (numL k (some ((wideL n k).take p))).2 = _
    rw [num_short k _ (by rw [List.length_take, wideL_length]; omega)]
theorem wide_one (n : Nat) : wideL n 1 = [UInt8.ofNat n] := by
  show [UInt8.ofNat (n / 1)] = _
  rw [Nat.div_one]
theorem text_eats (s : List UInt8) (h : s.length < 65536) : Eats (fun r => (textL r).2) (textE s) := by
  refine ⟨fun r => ?_, fun p hp => ?_, rfl⟩
  · show (textL (some (textE s ++ r))).2 = _
    rw [text_app s r h]
  · show (textL (some ((textE s).take p))).2 = _
    rw [text_short s p h hp]
theorem readE_eats (x : Ent) (h : Fits x) : Eats (fun r => (readE r).2) (entL x) := by
  obtain ⟨h1, h2, h3, h4, h5, h6⟩ := h
  have e1 := num_eats x.kind 1 h1
  have e2 := num_eats x.flags 1 h2
  rw [wide_one] at e1 e2
  have := ((((e1.comp e2).comp (num_eats x.uid 3 h3)).comp (text_eats x.box h4)).comp (text_eats x.to h5)).comp (text_eats x.text h6)
  exact this
theorem readES_none : ∀ k, (readES k none).2 = none
  | 0 => rfl
  | _ + 1 => rfl
theorem readES_torn : ∀ (xs : List Ent) (p : Nat), (∀ x ∈ xs, Fits x) → p < (entsL xs).length → (readES xs.length (some ((entsL xs).take p))).2 = none
  | [], p, _, hp => absurd hp (Nat.not_lt_zero _)
  | x :: xs, p, h, hp => by
    have e : entsL (x :: xs) = entL x ++ entsL xs := rfl
    rw [e, List.length_append] at hp
    have hx := readE_eats x (h x (List.mem_cons_self ..))
    show (readES xs.length (readE (some ((entsL (x :: xs)).take p))).2).2 = none
    rw [e]
    by_cases hc : p < (entL x).length
    · rw [List.take_append_of_le_length (by omega)]
      have := hx.2.1 p hc
      simp only at this
      rw [this]
      exact readES_none _
    · rw [List.take_append, List.take_of_length_le (by omega)]
      have := hx.1 ((entsL xs).take (p - (entL x).length))
      simp only at this
      rw [this]
      exact readES_torn xs _ (fun y hy => h y (List.mem_cons_of_mem _ hy)) (by omega)
/-- WHAT IS TORN IS NO BATCH -/
theorem decode_torn (user : Nat) (xs : List Ent) (p : Nat) (hu : user < 256) (hl : xs.length < 256) (h : ∀ x ∈ xs, Fits x) (hp : p < (batchL user xs).length) : (decodeL ((batchL user xs).take p)).2 = none := by
  have hlen : (batchL user xs).length = (entsL xs).length + 2 := rfl
  match p, hp with
  | 0, _ => rfl
  | 1, _ =>
    show (readES (numL 1 (numL 1 (some [UInt8.ofNat user])).2).1 (numL 1 (numL 1 (some [UInt8.ofNat user])).2).2).2 = none
    rw [num_one user [] hu]
    rfl
  | p + 2, hp =>
    show (readES (numL 1 (numL 1 (some (UInt8.ofNat user :: UInt8.ofNat xs.length :: (entsL xs).take p))).2).1 (numL 1 (numL 1 (some (UInt8.ofNat user :: UInt8.ofNat xs.length :: (entsL xs).take p))).2).2).2 = none
    rw [num_one user _ hu]
    show (readES (numL 1 (some (UInt8.ofNat xs.length :: (entsL xs).take p))).1 (numL 1 (some (UInt8.ofNat xs.length :: (entsL xs).take p))).2).2 = none
    rw [num_one xs.length _ hl]
    exact readES_torn xs p h (by omega)
end Go.Proofs.YtaeejmggmgejcaaDoor
