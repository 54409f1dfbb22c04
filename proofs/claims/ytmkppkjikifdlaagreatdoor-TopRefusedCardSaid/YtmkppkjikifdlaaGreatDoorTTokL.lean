/- On the way. -/
import Derived.Lib.Index
import Derived.Lib.IndexMore
import Derived.Lib.AtoiAll
import Derived.Lib.ItoaNum
set_option linter.unusedVariables false
set_option linter.unusedSimpArgs false
namespace Go.Proofs.YtmkppkjikifdlaaGreatDoor.Tk
structure Tok where
 (kind : Int) (text : List UInt8) (num : Int)
 deriving DecidableEq
def isLet (c : UInt8) : Bool := (decide (97 ≤ c) && decide (c ≤ 122)) || (decide (65 ≤ c) && decide (c ≤ 90)) || c == 95
def isDig (c : UInt8) : Bool := decide (48 ≤ c) && decide (c ≤ 57)
def isWd (c : UInt8) : Bool := isLet c || isDig c
def isWs (c : UInt8) : Bool := c == 32 || c == 9 || c == 13 || c == 10
def noNl (c : UInt8) : Bool := c != 10
def hdOf (p : UInt8 → Bool) (l : List UInt8) : Bool := match l with
 | [] => false
 | c :: _ => p c
def endC : List UInt8 → Option (List UInt8)
 | [] => none
 | c :: t => if c = 42 ∧ t.head? = some 47 then some t.tail else endC t
def opens (r : List UInt8) : Bool := match r with
 | 47 :: 42 :: _ => true
 | _ => false
def skipF : Nat → List UInt8 → Bool × List UInt8
 | 0, l => (true, l)
 | k + 1, l =>
  if hdOf (· == 35) (l.dropWhile isWs) then skipF k ((l.dropWhile isWs).dropWhile noNl)
  else if opens (l.dropWhile isWs) then (match endC ((l.dropWhile isWs).drop 2) with
   | none => (false, l.dropWhile isWs)
   | some t => skipF k t)
  else (true, l.dropWhile isWs)
def skipL (l : List UInt8) : Bool × List UInt8 := skipF (l.length + 1) l
def textL : List UInt8 → Option (List UInt8 × List UInt8)
 | [] => none
 | [c] => if c = 34 then some ([], []) else none
 | c :: d :: t => if c = 34 then some ([], d :: t) else if c = 92 then (textL t).map (fun p => (d :: p.1, p.2)) else (textL (d :: t)).map (fun p => (c :: p.1, p.2))
def valL (l : List UInt8) : Nat := l.foldl (fun a c => a * 10 + (c.toNat - 48)) 0
def shiftL (l : List UInt8) : Nat × List UInt8 := match l with
 | [] => (0, [])
 | c :: t => if c = 75 ∨ c = 107 then (10, t) else if c = 77 ∨ c = 109 then (20, t) else (0, c :: t)
def numL (l : List UInt8) : Except Int (Tok × List UInt8) :=
 if hdOf isWd (shiftL (l.dropWhile isDig)).2 then .error 3
 else if 2147483647 >>> (shiftL (l.dropWhile isDig)).1 < valL (l.takeWhile isDig) then .error 6
 else .ok (⟨3, [], ((valL (l.takeWhile isDig) <<< (shiftL (l.dropWhile isDig)).1 : Nat) : Int)⟩, (shiftL (l.dropWhile isDig)).2)
def marks : List UInt8 := [123, 125, 40, 41, 91, 93, 59, 44]
def oneL (l : List UInt8) : Except Int (Tok × List UInt8) := match l with
 | [] => .error 3
 | b :: t =>
  if isLet b then .ok (⟨1, (b :: t).takeWhile isWd, 0⟩, (b :: t).dropWhile isWd)
  else if b = 58 then (if hdOf isLet t then .ok (⟨2, t.takeWhile isWd, 0⟩, t.dropWhile isWd) else .error 3)
  else if isDig b then numL (b :: t)
  else if b = 34 then (match textL t with
   | none => .error 4
   | some p => .ok (⟨4, p.1, 0⟩, p.2))
  else if b ∈ marks then .ok (⟨5, [b], 0⟩, t)
  else .error 3
def cutF : Nat → Nat → List UInt8 → Except (List UInt8 × Int) (List Tok)
 | 0, _, _ => .ok []
 | k + 1, n, l =>
  if (skipL l).1 = false then .error ((skipL l).2, 4)
  else if (skipL l).2 = [] then .ok []
  else if n = 400 then .error ((skipL l).2, 5)
  else match oneL (skipL l).2 with
   | .error e => .error ((skipL l).2, e)
   | .ok p => (cutF k (n + 1) p.2).map (p.1 :: ·)
def cutEnd (s : List UInt8) (acc : List Tok) : Except (List UInt8 × Int) (List Tok) → List Tok × Nat × Int
 | .ok ts => (acc ++ ts, 0, 0)
 | .error p => ([], s.length - p.1.length, p.2)
def cutL (s : List UInt8) : List Tok × Nat × Int := if 2000 < s.length then ([], 0, 1) else cutEnd s [] (cutF (s.length + 1) 0 s)
def checkT (t : Tok) : Int :=
 if t.kind = 3 then (if t.num < 0 ∨ 2147483647 < t.num then 6 else if t.text = [] then 0 else 3)
 else if t.kind = 1 ∨ t.kind = 2 then (if hdOf isLet t.text = true ∧ t.text.takeWhile isWd = t.text then (if t.num = 0 then 0 else 3) else 3)
 else if t.kind = 5 then (if t.text.length = 1 ∧ (∀ c ∈ t.text, c ∈ marks) then (if t.num = 0 then 0 else 3) else 3)
 else if t.kind = 4 then (if t.num = 0 then 0 else 3)
 else 2
theorem drop_le (p : UInt8 → Bool) : ∀ l : List UInt8, (l.dropWhile p).length ≤ l.length
 | [] => Nat.le_refl _
 | c :: t => by
  rw [List.dropWhile_cons]
  split
  ·exact Nat.le_succ_of_le (drop_le p t)
  ·exact Nat.le_refl _
theorem endC_lt : ∀ {l t : List UInt8}, endC l = some t → t.length + 2 ≤ l.length
 | [], t, h => by cases h
 | c :: l, t, h => by
  rw [endC] at h
  split at h
  ·rename_i hc
   obtain rfl := Option.some.inj h
   cases l with
   | nil => simp at hc
   | cons d l => simp
  ·have := endC_lt h
   rw [List.length_cons]; omega
theorem hash_lt {r : List UInt8} (h : hdOf (· == 35) r = true) : (r.dropWhile noNl).length < r.length := by
 cases r with
 | nil => cases h
 | cons c t =>
  have hc : c = 35 := by simpa [hdOf] using h
  subst hc
  rw [List.dropWhile_cons, if_pos (by decide)]
  exact Nat.lt_succ_of_le (drop_le _ t)
theorem skipF_fuel : ∀ (k k' : Nat) (l : List UInt8), l.length < k → l.length < k' → skipF k l = skipF k' l
 | 0, _, _, h, _ => absurd h (Nat.not_lt_zero _)
 | _ + 1, 0, _, _, h => absurd h (Nat.not_lt_zero _)
 | k + 1, k' + 1, l, h, h' => by
  have hd := drop_le isWs l
  rw [skipF, skipF]
  by_cases h1 : hdOf (· == 35) (l.dropWhile isWs) = true
  ·have := hash_lt h1
   rw [if_pos h1, if_pos h1]
   exact skipF_fuel k k' _ (by omega) (by omega)
  ·rw [if_neg h1, if_neg h1]
   by_cases h2 : opens (l.dropWhile isWs) = true
   ·rw [if_pos h2, if_pos h2]
    cases he : endC ((l.dropWhile isWs).drop 2) with
    | none => rfl
    | some t =>
     have := endC_lt he
     rw [List.length_drop] at this
     exact skipF_fuel k k' t (by omega) (by omega)
   ·rw [if_neg h2, if_neg h2]
theorem skip_hash {l : List UInt8} (h : hdOf (· == 35) (l.dropWhile isWs) = true) : skipL l = skipL ((l.dropWhile isWs).dropWhile noNl) := by
 have h1 := drop_le isWs l; have h2 := hash_lt h
 rw [skipL, skipF, if_pos h]
 exact skipF_fuel _ _ _ (by omega) (by omega)
theorem skip_open {l t : List UInt8} (h1 : hdOf (· == 35) (l.dropWhile isWs) = false) (h2 : opens (l.dropWhile isWs) = true) (h3 : endC ((l.dropWhile isWs).drop 2) = some t) : skipL l = skipL t := by
 have h4 := drop_le isWs l; have h5 := endC_lt h3
 rw [List.length_drop] at h5
 rw [skipL, skipF, if_neg (by rw [h1]; exact Bool.false_ne_true), if_pos h2, h3]
 exact skipF_fuel _ _ _ (by omega) (by omega)
theorem skip_torn {l : List UInt8} (h1 : hdOf (· == 35) (l.dropWhile isWs) = false) (h2 : opens (l.dropWhile isWs) = true) (h3 : endC ((l.dropWhile isWs).drop 2) = none) : skipL l = (false, l.dropWhile isWs) := by
 rw [skipL, skipF, if_neg (by rw [h1]; exact Bool.false_ne_true), if_pos h2, h3]
theorem skip_end {l : List UInt8} (h1 : hdOf (· == 35) (l.dropWhile isWs) = false) (h2 : opens (l.dropWhile isWs) = false) : skipL l = (true, l.dropWhile isWs) := by
 rw [skipL, skipF, if_neg (by rw [h1]; exact Bool.false_ne_true), if_neg (by rw [h2]; exact Bool.false_ne_true)]
theorem skipF_le : ∀ (k : Nat) (l : List UInt8), (skipF k l).2.length ≤ l.length
 | 0, l => Nat.le_refl _
 | k + 1, l => by
  have hd := drop_le isWs l
  rw [skipF]
  split
  ·have := skipF_le k ((l.dropWhile isWs).dropWhile noNl)
   have := drop_le noNl (l.dropWhile isWs)
   omega
  ·split
   ·split
    ·exact hd
    ·rename_i t he
     have := skipF_le k t; have := endC_lt he
     rw [List.length_drop] at this
     omega
   ·exact hd
theorem skipL_le (l : List UInt8) : (skipL l).2.length ≤ l.length := skipF_le _ l
theorem textL_lt : ∀ (n : Nat) (l : List UInt8) (p : List UInt8 × List UInt8), l.length ≤ n → textL l = some p → p.2.length < l.length
 | _, [], p, _, h => by cases h
 | _, [c], p, _, h => by
  rw [textL] at h
  split at h
  ·obtain rfl := Option.some.inj h; exact Nat.zero_lt_one
  ·cases h
 | 0, c :: d :: t, _, hn, _ => by simp at hn
 | n + 1, c :: d :: t, p, hn, h => by
  simp only [List.length_cons] at hn
  rw [textL] at h
  split at h
  ·obtain rfl := Option.some.inj h; simp
  ·split at h
   ·cases ht : textL t with
    | none => rw [ht] at h; cases h
    | some q =>
     rw [ht] at h
     obtain rfl := Option.some.inj h
     have := textL_lt n t q (by omega) ht
     simp only [List.length_cons]; omega
   ·cases ht : textL (d :: t) with
    | none => rw [ht] at h; cases h
    | some q =>
     rw [ht] at h
     obtain rfl := Option.some.inj h
     have := textL_lt n (d :: t) q (by simp only [List.length_cons]; omega) ht
     simp only [List.length_cons] at this ⊢; omega
theorem shiftL_le (l : List UInt8) : (shiftL l).2.length ≤ l.length := by
 unfold shiftL
 split
 ·exact Nat.le_refl _
 ·split
  ·simp
  ·split
   ·simp
   ·exact Nat.le_refl _
theorem drop_lt {p : UInt8 → Bool} {c : UInt8} {t : List UInt8} (h : p c = true) : ((c :: t).dropWhile p).length < (c :: t).length := by
 rw [List.dropWhile_cons, if_pos h]
 exact Nat.lt_succ_of_le (drop_le p t)
theorem oneL_lt {l : List UInt8} {p : Tok × List UInt8} (h : oneL l = .ok p) : p.2.length < l.length := by
 unfold oneL at h
 split at h
 ·cases h
 ·rename_i b t
  split at h
  ·rename_i hb
   cases h
   exact drop_lt (by rw [isWd, hb]; rfl)
  ·split at h
   ·split at h
    ·cases h; exact Nat.lt_succ_of_le (drop_le _ _)
    ·cases h
   ·split at h
    ·rename_i hd
     unfold numL at h
     split at h
     ·cases h
     ·split at h
      ·cases h
      ·cases h
       exact Nat.lt_of_le_of_lt (shiftL_le _) (drop_lt hd)
    ·split at h
     ·cases ht : textL t with
      | none => rw [ht] at h; cases h
      | some q =>
       rw [ht] at h
       cases h
       exact Nat.lt_succ_of_lt (textL_lt _ t q (Nat.le_refl _) ht)
     ·split at h
      ·cases h; exact Nat.lt_succ_self _
      ·cases h
theorem cutF_fuel : ∀ (k k' n : Nat) (l : List UInt8), l.length < k → l.length < k' → cutF k n l = cutF k' n l
 | 0, _, _, _, h, _ => absurd h (Nat.not_lt_zero _)
 | _ + 1, 0, _, _, _, h => absurd h (Nat.not_lt_zero _)
 | k + 1, k' + 1, n, l, h, h' => by
  have hs := skipL_le l
  rw [cutF, cutF]
  cases ho : oneL (skipL l).2 with
  | error e => rfl
  | ok p =>
   have := oneL_lt ho
   simp only
   rw [cutF_fuel k k' (n + 1) p.2 (by omega) (by omega)]
def cutR (n : Nat) (l : List UInt8) : Except (List UInt8 × Int) (List Tok) := cutF (l.length + 1) n l
theorem cutR_torn {n : Nat} {l : List UInt8} (h : (skipL l).1 = false) : cutR n l = .error ((skipL l).2, 4) := by rw [cutR, cutF, if_pos h]
theorem cutR_end {n : Nat} {l : List UInt8} (h : (skipL l).1 = true) (h2 : (skipL l).2 = []) : cutR n l = .ok [] := by rw [cutR, cutF, if_neg (by rw [h]; simp), if_pos h2]
theorem cutR_full {l : List UInt8} (h : (skipL l).1 = true) (h2 : (skipL l).2 ≠ []) : cutR 400 l = .error ((skipL l).2, 5) := by rw [cutR, cutF, if_neg (by rw [h]; simp), if_neg h2, if_pos rfl]
theorem cutR_bad {n : Nat} {l : List UInt8} {e : Int} (h : (skipL l).1 = true) (h2 : (skipL l).2 ≠ []) (h3 : n ≠ 400) (h4 : oneL (skipL l).2 = .error e) : cutR n l = .error ((skipL l).2, e) := by
 rw [cutR, cutF, if_neg (by rw [h]; simp), if_neg h2, if_neg h3, h4]
theorem cutR_one {n : Nat} {l : List UInt8} {p : Tok × List UInt8} (h : (skipL l).1 = true) (h2 : (skipL l).2 ≠ []) (h3 : n ≠ 400) (h4 : oneL (skipL l).2 = .ok p) : cutR n l = (cutR (n + 1) p.2).map (p.1 :: ·) := by
 have hs := skipL_le l; have hl := oneL_lt h4
 rw [cutR, cutF, if_neg (by rw [h]; simp), if_neg h2, if_neg h3, h4]
 simp only
 rw [cutR, cutF_fuel _ _ (n + 1) p.2 (by omega) (Nat.lt_succ_self _)]
theorem cutL_eq {s : List UInt8} (h : s.length ≤ 2000) : cutL s = cutEnd s [] (cutR 0 s) := by rw [cutL, if_neg (by omega), cutR]
theorem cutEnd_map (s : List UInt8) (acc : List Tok) (t : Tok) (r : Except (List UInt8 × Int) (List Tok)) : cutEnd s acc (r.map (t :: ·)) = cutEnd s (acc ++ [t]) r := by
 cases r with
 | error p => rfl
 | ok ts => simp [Except.map, cutEnd]
theorem byte_all (p : UInt8 → Prop) (h : ∀ i : Fin 256, p (UInt8.ofNat i.val)) (c : UInt8) : p c := by
 have := h ⟨c.toNat, c.toNat_lt⟩
 rwa [UInt8.ofNat_toNat] at this
theorem dig_facts {c : UInt8} (h : isDig c = true) : isWs c = false ∧ c ≠ 35 ∧ c ≠ 47 ∧ c ≠ 58 ∧ isLet c = false ∧ c ≠ 34 :=
 byte_all (fun c => isDig c = true → isWs c = false ∧ c ≠ 35 ∧ c ≠ 47 ∧ c ≠ 58 ∧ isLet c = false ∧ c ≠ 34) (by decide +kernel) c h
theorem mark_facts {c : UInt8} (h : c ∈ marks) : isWs c = false ∧ c ≠ 35 ∧ c ≠ 47 ∧ c ≠ 58 ∧ isLet c = false ∧ isDig c = false ∧ c ≠ 34 :=
 byte_all (fun c => c ∈ marks → isWs c = false ∧ c ≠ 35 ∧ c ≠ 47 ∧ c ≠ 58 ∧ isLet c = false ∧ isDig c = false ∧ c ≠ 34) (by decide +kernel) c h
theorem one_word {b : UInt8} (t : List UInt8) (h : isLet b = true) : oneL (b :: t) = .ok (⟨1, (b :: t).takeWhile isWd, 0⟩, (b :: t).dropWhile isWd) := if_pos h
theorem one_tag (t : List UInt8) (h : hdOf isLet t = true) : oneL (58 :: t) = .ok (⟨2, t.takeWhile isWd, 0⟩, t.dropWhile isWd) := if_pos h
theorem one_num {b : UInt8} (t : List UInt8) (h : isDig b = true) : oneL (b :: t) = numL (b :: t) := by
 obtain ⟨-, -, -, g4, g5, -⟩ := dig_facts h
 show (if isLet b = true then _ else if b = 58 then _ else if isDig b = true then numL (b :: t) else _) = _
 rw [if_neg (by rw [g5]; simp), if_neg g4, if_pos h]
theorem one_str {t x r : List UInt8} (h : textL t = some (x, r)) : oneL (34 :: t) = .ok (⟨4, x, 0⟩, r) := by
 show (match textL t with | none => (Except.error 4 : Except Int (Tok × List UInt8)) | some p => Except.ok (⟨4, p.1, 0⟩, p.2)) = _
 rw [h]
theorem one_open {t : List UInt8} (h : textL t = none) : oneL (34 :: t) = .error 4 := by
 show (match textL t with | none => (Except.error 4 : Except Int (Tok × List UInt8)) | some p => Except.ok (⟨4, p.1, 0⟩, p.2)) = _
 rw [h]
theorem one_mark {b : UInt8} (t : List UInt8) (h : b ∈ marks) : oneL (b :: t) = .ok (⟨5, [b], 0⟩, t) := by
 obtain ⟨-, -, -, g4, g5, g6, g7⟩ := mark_facts h
 show (if isLet b = true then _ else if b = 58 then _ else if isDig b = true then numL (b :: t) else if b = 34 then _ else if b ∈ marks then _ else _) = _
 rw [if_neg (by rw [g5]; simp), if_neg g4, if_neg (by rw [g6]; simp), if_neg g7, if_pos h]
theorem cutEnd_err (s : List UInt8) (acc : List Tok) (p : List UInt8 × Int) : cutEnd s acc (.error p) = ([], s.length - p.1.length, p.2) := rfl
theorem cutEnd_ok (s : List UInt8) (acc ts : List Tok) : cutEnd s acc (.ok ts) = (acc ++ ts, 0, 0) := rfl
end Go.Proofs.YtmkppkjikifdlaaGreatDoor.Tk
