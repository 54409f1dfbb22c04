/-
  DERIVED. Plain Lean, no program in sight: patterns as lists of pieces, what they match, and that going back to the last star decides it.
-/
import Derived.WalkKit
set_option linter.unusedVariables false
set_option linter.unusedSimpArgs false
namespace Go.Proofs.YtpfbkdbblpppdaaGreatDoor

structure Pc where
  c : UInt8
  one : Bool
  many : Bool

/-- the pieces of a pattern; the flag: behind a backslash -/
def pcsG : Bool → List UInt8 → List Pc
  | false, [] => []
  | true, [] => [⟨92, false, false⟩]
  | false, c :: r => if c = 92 then pcsG true r else ⟨c, (c.toNat : Int) == 63, (c.toNat : Int) == 42⟩ :: pcsG false r
  | true, c :: r => ⟨c, false, false⟩ :: pcsG false r
def pcs (l : List UInt8) : List Pc := pcsG false l

/-- a piece fits a byte -/
def Pc.fits (p : Pc) (c : UInt8) : Bool := p.one || p.c == c

/-- do pieces match a text? -/
def mt : List Pc → List UInt8 → Bool
  | [], s => s.isEmpty
  | p :: l, s => if p.many then (List.range (s.length + 1)).any (fun j => mt l (s.drop j)) else match s with
    | [] => false
    | c :: r => p.fits c && mt l r

theorem mt_many {p : Pc} {l : List Pc} {s : List UInt8} (h : p.many = true) : mt (p :: l) s = true ↔ ∃ j, j ≤ s.length ∧ mt l (s.drop j) = true := by
  simp only [mt, h, if_true, List.any_eq_true, List.mem_range]
  constructor
  · rintro ⟨j, hj, hm⟩; exact ⟨j, by omega, hm⟩
  · rintro ⟨j, hj, hm⟩; exact ⟨j, by omega, hm⟩
theorem mt_cons {p : Pc} {l : List Pc} {c : UInt8} {r : List UInt8} (h : p.many = false) : mt (p :: l) (c :: r) = (p.fits c && mt l r) := by simp [mt, h]
theorem mt_none {p : Pc} {l : List Pc} (h : p.many = false) : mt (p :: l) [] = false := by simp [mt, h]

/-- two matches, one behind the other, are one -/
theorem mt_append : ∀ (l m : List Pc) (s t : List UInt8), mt l s = true → mt m t = true → mt (l ++ m) (s ++ t) = true := by
  intro l
  induction l with
  | nil => intro m s t h1 h2; simp [mt] at h1; subst h1; simpa using h2
  | cons p l ih =>
    intro m s t h1 h2
    cases hp : p.many with
    | true =>
      rw [List.cons_append, mt_many hp]
      obtain ⟨j, hj, hm⟩ := (mt_many hp).1 h1
      exact ⟨j, by simp; omega, by rw [List.drop_append_of_le_length hj]; exact ih m _ t hm h2⟩
    | false =>
      cases s with
      | nil => rw [mt_none hp] at h1; cases h1
      | cons c r =>
        rw [mt_cons hp, Bool.and_eq_true] at h1
        rw [List.cons_append, List.cons_append, mt_cons hp, Bool.and_eq_true]
        exact ⟨h1.1, ih m r t h1.2 h2⟩

/-- a run of pieces that are no stars, against a run of bytes -/
def run : List Pc → List UInt8 → Prop
  | [], [] => True
  | p :: l, c :: r => p.many = false ∧ p.fits c = true ∧ run l r
  | _, _ => False
theorem run_length : ∀ (a : List Pc) (s : List UInt8), run a s → s.length = a.length
  | [], [], _ => rfl
  | p :: l, c :: r, h => by simp [run_length l r h.2.2]
  | [], _ :: _, h => by cases h
  | _ :: _, [], h => by cases h
theorem run_snoc : ∀ (a : List Pc) (s : List UInt8) (p : Pc) (c : UInt8), run a s → p.many = false → p.fits c = true → run (a ++ [p]) (s ++ [c])
  | [], [], p, c, _, h1, h2 => ⟨h1, h2, trivial⟩
  | q :: l, d :: r, p, c, h, h1, h2 => ⟨h.1, h.2.1, run_snoc l r p c h.2.2 h1 h2⟩
  | [], _ :: _, _, _, h, _, _ => by cases h
  | _ :: _, [], _, _, h, _, _ => by cases h
theorem mt_run : ∀ (a : List Pc) (s : List UInt8) (l : List Pc) (t : List UInt8), run a s → mt (a ++ l) (s ++ t) = mt l t
  | [], [], l, t, _ => rfl
  | p :: a, c :: s, l, t, h => by
    rw [List.cons_append, List.cons_append, mt_cons h.1, h.2.1, Bool.true_and]
    exact mt_run a s l t h.2.2
  | [], _ :: _, _, _, h => by cases h
  | _ :: _, [], _, _, h => by cases h
/-- pieces without a star eat just as many bytes as they are -/
theorem mt_eats : ∀ (a : List Pc) (l : List Pc) (t : List UInt8), (∀ p ∈ a, p.many = false) → mt (a ++ l) t = true → a.length ≤ t.length ∧ mt l (t.drop a.length) = true
  | [], l, t, _, h => ⟨Nat.zero_le _, h⟩
  | p :: a, l, t, hn, h => by
    have hp := hn p (by simp)
    cases t with
    | nil => rw [List.cons_append, mt_none hp] at h; cases h
    | cons c r =>
      rw [List.cons_append, mt_cons hp, Bool.and_eq_true] at h
      have := mt_eats a l r (fun q hq => hn q (by simp [hq])) h.2
      exact ⟨by simp; omega, by simpa using this.2⟩
theorem run_nostar : ∀ (a : List Pc) (s : List UInt8), run a s → ∀ p ∈ a, p.many = false
  | [], [], _ => by simp
  | p :: l, c :: r, h => by
    intro q hq
    rcases List.mem_cons.1 hq with rfl | hq
    · exact h.1
    · exact run_nostar l r h.2.2 q hq
  | [], _ :: _, h => by cases h
  | _ :: _, [], h => by cases h

/-- the whole matches just if what stands behind the star q matches from somewhere at or behind from' -/
def Later (S : List UInt8) (L : List Pc) (q from' : Nat) : Prop := mt L S = true ↔ ∃ j, from' ≤ j ∧ j ≤ S.length ∧ mt (L.drop (q + 1)) (S.drop j) = true
/-- the loop of 'matches': where it stands (i in the text, k in the pieces; the last star, if one was met, and how far it has eaten) -/
structure Inv (S : List UInt8) (L : List Pc) (i k : Nat) (st : Option Nat) (from' : Nat) : Prop where
  hi : i ≤ S.length
  hk : k ≤ L.length
  none' : st = none → from' = 0 ∧ (mt L S = mt (L.drop k) (S.drop i))
  some' : ∀ q, st = some q → q < k ∧ from' ≤ i ∧ i - from' = k - (q + 1) ∧ run ((L.drop (q + 1)).take (k - (q + 1))) ((S.drop from').take (i - from')) ∧
    Later S L q from'

theorem drop_take_drop {α : Type} (l : List α) (a b : Nat) (h : a ≤ b) : (l.drop a) = (l.drop a).take (b - a) ++ l.drop b := by
  conv => lhs; rw [← List.take_append_drop (b - a) (l.drop a)]
  rw [List.drop_drop]; congr 2; omega

theorem Inv.here {S : List UInt8} {L : List Pc} {i k q from' : Nat} (h : Inv S L i k (some q) from') : mt (L.drop (q + 1)) (S.drop from') = mt (L.drop k) (S.drop i) := by
  obtain ⟨h1, h2, h3, h4, _⟩ := h.some' q rfl
  rw [drop_take_drop L (q + 1) k (by omega), drop_take_drop S from' i h2]
  exact mt_run _ _ _ _ h4

theorem inv_start (S : List UInt8) (L : List Pc) : Inv S L 0 0 none 0 :=
  ⟨Nat.zero_le _, Nat.zero_le _, fun _ => ⟨rfl, rfl⟩, fun q h => by cases h⟩

theorem inv_star {S : List UInt8} {L : List Pc} {i k from' : Nat} {st : Option Nat} (h : Inv S L i k st from') (hk : k < L.length) (hm : L[k].many = true) : Inv S L i (k + 1) (some k) i := by
  refine ⟨h.hi, hk, (fun h => by cases h), fun q hq => ?_⟩
  obtain rfl : k = q := by simpa using hq
  refine ⟨by omega, by omega, by omega, by simp [run], ?_⟩
  unfold Later
  have hd : L.drop k = L[k] :: L.drop (k + 1) := List.drop_eq_getElem_cons hk
  have hstar : ∀ t : Nat, mt (L.drop k) (S.drop t) = true ↔ ∃ j, j ≤ (S.drop t).length ∧ mt (L.drop (k + 1)) (S.drop (t + j)) = true := by
    intro t
    rw [hd, mt_many hm]
    simp only [List.drop_drop]
  cases st with
  | none =>
    rw [(h.none' rfl).2, hstar]
    constructor
    · rintro ⟨j, hj, hx⟩; simp at hj; exact ⟨i + j, by omega, by have := h.hi; omega, hx⟩
    · rintro ⟨j, h1, h2, hx⟩; exact ⟨j - i, by simp; omega, by rw [show i + (j - i) = j by omega]; exact hx⟩
  | some q =>
    obtain ⟨h1, h2, h3, h4, h5⟩ := h.some' q rfl
    unfold Later at h5
    rw [h5]
    clear h5
    constructor
    · rintro ⟨j, hj1, hj2, hx⟩
      rw [drop_take_drop L (q + 1) k (by omega)] at hx
      have he := mt_eats _ _ _ (run_nostar _ _ h4) hx
      have hlen : ((L.drop (q + 1)).take (k - (q + 1))).length = k - (q + 1) := by simp; omega
      rw [hlen, List.drop_drop] at he
      obtain ⟨j', hj', hy⟩ := (hstar _).1 he.2
      have e1 := he.1
      simp at hj' e1
      exact ⟨j + (k - (q + 1)) + j', by omega, by omega, hy⟩
    · rintro ⟨j, hj1, hj2, hx⟩
      refine ⟨from', Nat.le_refl _, by have := h.hi; omega, ?_⟩
      rw [h.here, hstar]
      exact ⟨j - i, by simp; omega, by rw [show i + (j - i) = j by omega]; exact hx⟩

theorem inv_fit {S : List UInt8} {L : List Pc} {i k from' : Nat} {st : Option Nat} (h : Inv S L i k st from') (hi : i < S.length) (hk : k < L.length) (hm : L[k].many = false) (hf : L[k].fits S[i] = true) :
    Inv S L (i + 1) (k + 1) st from' := by
  refine ⟨hi, hk, fun hn => ⟨(h.none' hn).1, ?_⟩, fun q hq => ?_⟩
  · rw [(h.none' hn).2, List.drop_eq_getElem_cons hk, List.drop_eq_getElem_cons hi, mt_cons hm, hf, Bool.true_and]
  · obtain ⟨h1, h2, h3, h4, h5⟩ := h.some' q hq
    refine ⟨by omega, by omega, by omega, ?_, h5⟩
    have e1 : (L.drop (q + 1)).take (k + 1 - (q + 1)) = (L.drop (q + 1)).take (k - (q + 1)) ++ [L[k]] := by
      rw [show k + 1 - (q + 1) = k - (q + 1) + 1 by omega, List.take_succ_eq_append_getElem (by simp; omega)]
      congr 2; simp; congr 1; omega
    have e2 : (S.drop from').take (i + 1 - from') = (S.drop from').take (i - from') ++ [S[i]] := by
      rw [show i + 1 - from' = i - from' + 1 by omega, List.take_succ_eq_append_getElem (by simp; omega)]
      congr 2; simp; congr 1; omega
    rw [e1, e2]
    exact run_snoc _ _ _ _ h4 hm hf

/-- nothing fits here -/
def Stuck (S : List UInt8) (L : List Pc) (i k : Nat) : Prop := i < S.length ∧ (k = L.length ∨ ∃ (hk : k < L.length) (hi : i < S.length), L[k].many = false ∧ L[k].fits S[i] = false)
theorem Stuck.no {S : List UInt8} {L : List Pc} {i k : Nat} (h : Stuck S L i k) : mt (L.drop k) (S.drop i) = false := by
  obtain ⟨hi, h⟩ := h
  rw [List.drop_eq_getElem_cons hi]
  rcases h with rfl | ⟨hk, _, hm, hf⟩
  · simp [mt, hi]
  · rw [List.drop_eq_getElem_cons hk, mt_cons hm, hf, Bool.false_and]

theorem inv_back {S : List UInt8} {L : List Pc} {i k q from' : Nat} (h : Inv S L i k (some q) from') (hs : Stuck S L i k) : Inv S L (from' + 1) (q + 1) (some q) (from' + 1) := by
  obtain ⟨h1, h2, h3, h4, h5⟩ := h.some' q rfl
  refine ⟨by have := hs.1; omega, by have := h.hk; omega, (fun h => by cases h), fun q' hq => ?_⟩
  obtain rfl : q = q' := by simpa using hq
  refine ⟨by omega, by omega, by omega, by simp [run], ?_⟩
  unfold Later
  unfold Later at h5
  rw [h5]
  clear h5
  constructor
  · rintro ⟨j, hj1, hj2, hx⟩
    by_cases e : j = from'
    · subst e; rw [h.here, hs.no] at hx; cases hx
    · exact ⟨j, by omega, hj2, hx⟩
  · rintro ⟨j, hj1, hj2, hx⟩; exact ⟨j, by omega, hj2, hx⟩
theorem inv_fail {S : List UInt8} {L : List Pc} {i k from' : Nat} (h : Inv S L i k none from') (hs : Stuck S L i k) : mt L S = false := by
  rw [(h.none' rfl).2, hs.no]
/-- the text's end -/
theorem inv_end {S : List UInt8} {L : List Pc} {k from' : Nat} {st : Option Nat} (h : Inv S L S.length k st from') : mt L S = mt (L.drop k) [] := by
  cases st with
  | none => rw [(h.none' rfl).2]; simp
  | some q =>
    obtain ⟨h1, h2, h3, h4, h5⟩ := h.some' q rfl
    have hh := h.here
    rw [List.drop_length] at hh
    unfold Later at h5
    rw [← hh, Bool.eq_iff_iff, h5]
    clear h5 hh
    constructor
    · rintro ⟨j, hj1, hj2, hx⟩
      have hx' := hx
      rw [drop_take_drop L (q + 1) k (by omega)] at hx
      have he := (mt_eats _ _ _ (run_nostar _ _ h4) hx).1
      simp at he
      have hk := h.hk
      obtain rfl : j = from' := by omega
      exact hx'
    · intro hx; exact ⟨from', Nat.le_refl _, h2, hx⟩
theorem mt_nil_all : ∀ l : List Pc, mt l [] = l.all (·.many)
  | [] => rfl
  | p :: l => by
    cases hp : p.many with
    | true =>
      rw [List.all_cons, hp, Bool.true_and, ← mt_nil_all l, Bool.eq_iff_iff, mt_many hp]
      constructor
      · rintro ⟨j, _, h⟩; simpa using h
      · intro h; exact ⟨0, Nat.le_refl _, by simpa using h⟩
    | false => rw [mt_none hp, List.all_cons, hp, Bool.false_and]

/-- the loop's measure -/
def stN : Option Nat → Nat
  | none => 0
  | some q => q + 1
def mmu (n m i : Nat) (st : Option Nat) (from' : Nat) : Nat := (m - stN st) * ((n + 2) * (n + 2)) + ((n + 1 - from') * (n + 2) + (n + 1 - i))
theorem mmu_star {n m i k from' : Nat} {st : Option Nat} (h1 : from' ≤ i) (h3 : k < m) (h4 : ∀ q, st = some q → q < k) : mmu n m i (some k) i < mmu n m i st from' := by
  unfold mmu
  have a : (n + 1 - i) * (n + 2) ≤ (n + 1 - from') * (n + 2) := Nat.mul_le_mul_right _ (by omega)
  have b : (m - (k + 1) + 1) * ((n + 2) * (n + 2)) ≤ (m - stN st) * ((n + 2) * (n + 2)) := Nat.mul_le_mul_right _ (by
    cases st with
    | none => simp [stN]; omega
    | some q => have := h4 q rfl; simp [stN]; omega)
  rw [Nat.add_mul, Nat.one_mul] at b
  have c : 0 < (n + 2) * (n + 2) := Nat.mul_pos (by omega) (by omega)
  show (m - (k + 1)) * ((n + 2) * (n + 2)) + _ < _
  omega
theorem mmu_fit {n m i from' : Nat} {st : Option Nat} (h2 : i < n) : mmu n m (i + 1) st from' < mmu n m i st from' := by
  unfold mmu; omega
theorem mmu_back {n m i q from' : Nat} (h1 : from' ≤ i) (h2 : i < n) : mmu n m (from' + 1) (some q) (from' + 1) < mmu n m i (some q) from' := by
  unfold mmu
  have a : (n + 1 - from') * (n + 2) = (n + 1 - (from' + 1)) * (n + 2) + (n + 2) := by
    rw [show n + 1 - from' = (n + 1 - (from' + 1)) + 1 by omega, Nat.add_mul, Nat.one_mul]
  omega
end Go.Proofs.YtpfbkdbblpppdaaGreatDoor
