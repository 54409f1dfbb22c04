/-
  DERIVED. Scripts cut into tokens: plain laws of blanks, of numbers with K and M, of what is no token, of many tokens. No program in sight.
-/
import Derived.Test.YtlgbmnmoobpkkaaDoorTokLaws
namespace Go.Proofs.YtlgbmnmoobpkkaaDoor.Tk

theorem cutEnd_err (s : List UInt8) (acc : List Tok) (p : List UInt8 × Int) : cutEnd s acc (.error p) = ([], s.length - p.1.length, p.2) := rfl
theorem cutEnd_ok (s : List UInt8) (acc ts : List Tok) : cutEnd s acc (.ok ts) = (acc ++ ts, 0, 0) := rfl
theorem map_err {ε α β : Type} (f : α → β) (e : ε) : Except.map f (.error e) = .error e := rfl

/-! lengths -/
theorem dec_len : ∀ (k n : Nat), n < 10 ^ (k + 1) → (Go.Lib.decDigits n).length ≤ k + 1
  | 0, n, h => by rw [Go.Lib.decDigits, dif_pos (by simpa using h)]; exact Nat.le_refl _
  | k + 1, n, h => by
    by_cases h10 : n < 10
    · rw [Go.Lib.decDigits, dif_pos h10]; simp
    · have := dec_len k (n / 10) (by rw [Nat.pow_succ] at h; omega)
      rw [Go.Lib.decDigits, dif_neg h10, List.length_append]
      simp only [List.length_cons, List.length_nil]; omega
theorem esc_len : ∀ s : List UInt8, (esc s).length ≤ 2 * s.length
  | [] => Nat.le_refl _
  | c :: s => by
    have := esc_len s
    rw [show esc (c :: s) = (if c = 34 ∨ c = 92 then [92, c] else [c]) ++ esc s from rfl, List.length_append, List.length_cons]
    split <;> simp only [List.length_cons, List.length_nil] <;> omega
/-- a token that may be, of a text that is short -/
def GoodTok (t : Tok) : Prop := checkT t = 0 ∧ t.text.length ≤ 30
theorem form_len {t : Tok} (h : GoodTok t) : (formL t).length ≤ 62 := by
  obtain ⟨k, x, n⟩ := t
  obtain ⟨h, hx⟩ := h
  simp only at hx
  have he := esc_len x
  unfold formL
  simp only
  by_cases h3 : k = 3
  · subst h3
    rw [if_pos rfl]
    unfold checkT at h
    simp only [if_true] at h
    split at h
    · cases h
    · rename_i hn
      obtain ⟨i, rfl⟩ : ∃ i : Nat, n = i := ⟨n.toNat, by omega⟩
      unfold Go.Lib.itoa
      rw [if_neg (by omega), Int.toNat_natCast]
      have := dec_len 9 i (by omega)
      omega
  · rw [if_neg h3]
    split
    · rw [List.length_cons]; omega
    · split
      · show (34 :: (esc x ++ [34])).length ≤ 62
        simp only [List.length_cons, List.length_append, List.length_nil]; omega
      · omega
theorem jn_len : ∀ ts : List Tok, (∀ t ∈ ts, GoodTok t) → (jn ts).length ≤ 63 * ts.length
  | [], _ => Nat.le_refl _
  | t :: ts, h => by
    have h1 := form_len (h t (List.mem_cons_self ..)); have h2 := jn_len ts (fun x hx => h x (List.mem_cons_of_mem _ hx))
    have e : jn (t :: ts) = formL t ++ [32] ++ jn ts := by simp [jn]
    rw [e]
    simp only [List.length_append, List.length_cons, List.length_nil]; omega

/-! blanks -/
def Blank (b : List UInt8) : Prop := ∀ r, skipL (b ++ r) = skipL r
theorem Blank.nil : Blank [] := fun _ => rfl
theorem Blank.append {a b : List UInt8} (ha : Blank a) (hb : Blank b) : Blank (a ++ b) := fun r => by rw [List.append_assoc, ha, hb]
def blkL : Nat → List UInt8
  | 0 => [32]
  | 1 => [9]
  | 2 => [13, 10]
  | 3 => [47, 42, 32, 97, 59, 32, 42, 47]
  | 4 => [47, 42, 42, 47, 32]
  | 5 => [35, 32, 98, 32, 123, 10]
  | _ => [10, 35, 10]
theorem blk_len (i : Nat) : (blkL i).length ≤ 8 := by
  unfold blkL; split <;> decide
theorem blk_blank (i : Nat) : Blank (blkL i) := by
  intro r
  match i with
  | 0 => exact skip_ws r (by decide)
  | 1 => exact skip_ws r (by decide)
  | 2 => exact (skip_ws (10 :: r) (by decide)).trans (skip_ws r (by decide))
  | 3 => exact skip_open (l := [47, 42, 32, 97, 59, 32, 42, 47] ++ r) rfl rfl rfl
  | 4 => exact (skip_open (l := [47, 42, 42, 47, 32] ++ r) (t := 32 :: r) rfl rfl rfl).trans (skip_ws r (by decide))
  | 5 => exact (skip_hash (l := [35, 32, 98, 32, 123, 10] ++ r) rfl).trans (skip_ws r (by decide))
  | i + 6 => exact ((skip_ws (35 :: 10 :: r) (by decide)).trans (skip_hash (l := [35, 10] ++ r) rfl)).trans (skip_ws r (by decide))
/-- tokens, each with a blank and what says nothing behind it -/
def bj (ps : List (Tok × List UInt8)) : List UInt8 := ps.flatMap fun p => formL p.1 ++ 32 :: p.2
theorem cut_bj : ∀ (ps : List (Tok × List UInt8)) (n : Nat) (r : List UInt8), (∀ p ∈ ps, checkT p.1 = 0 ∧ Blank p.2) → n + ps.length ≤ 400 → cutR n (bj ps ++ r) = (cutR (n + ps.length) r).map (ps.map Prod.fst ++ ·)
  | [], n, r, _, _ => by
    show cutR n r = (cutR (n + 0) r).map _
    rw [List.map_nil, Except.map_nil']; rfl
  | p :: ps, n, r, h, hn => by
    obtain ⟨h1, h2⟩ := h p (List.mem_cons_self ..)
    have ih := cut_bj ps (n + 1) r (fun x hx => h x (List.mem_cons_of_mem _ hx)) (by rw [List.length_cons] at hn; omega)
    have e : bj (p :: ps) ++ r = formL p.1 ++ 32 :: (p.2 ++ (bj ps ++ r)) := by simp [bj]
    rw [List.length_cons] at hn ⊢
    rw [e, cut_one h1 (by omega), cutR_skip (h2 _), ih, Except.map_cons', Except.map_map', show n + 1 + ps.length = n + (ps.length + 1) by omega]
    rfl
/-- BLANKS AND COMMENTS BETWEEN TOKENS SAY NOTHING -/
theorem token_blanks {ps : List (Tok × List UInt8)} (h : ∀ p ∈ ps, checkT p.1 = 0 ∧ Blank p.2) (hn : ps.length ≤ 15) (hl : (bj ps).length ≤ 1998) :
    cutL (bj ps) = (ps.map Prod.fst, 0, 0) ∧ cutL (bj ps ++ [47, 42]) = ([], (bj ps).length, 4) := by
  constructor
  · have := cut_bj ps 0 [] h (by omega)
    rw [List.append_nil] at this
    rw [cutL_eq (by omega), this, cutR_end (by rw [skip_nil]) (by rw [skip_nil])]
    show ([] ++ (ps.map Prod.fst ++ []), 0, 0) = _
    simp
  · have := cut_bj ps 0 [47, 42] h (by omega)
    have hs : skipL [47, 42] = (false, [47, 42]) := by decide
    rw [cutL_eq (by rw [List.length_append]; simp only [List.length_cons, List.length_nil]; omega), this, cutR_torn (by rw [hs]), hs]
    rw [map_err, cutEnd_err, List.length_append]
    rfl
theorem blanks_none : cutL [47, 42, 32, 97, 32, 42, 47, 32, 35, 32, 98] = ([], 0, 0) := by decide +kernel

/-! numbers -/
/-- K IS 1024 TIMES, M THAT TIMES 1024 -/
theorem times_k (k : Nat) (hk : k < 2047) : cutL (Go.Lib.decDigits k ++ 75 :: 32 :: (Go.Lib.decDigits k ++ [107])) = ([⟨3, [], ((1024 * k : Nat) : Int)⟩, ⟨3, [], ((1024 * k : Nat) : Int)⟩], 0, 0) := by
  have hlen := dec_len 3 k (by omega)
  obtain ⟨f1, f2, f3⟩ := dec_facts k
  have e : k <<< 10 = 1024 * k := by rw [Nat.shiftLeft_eq]; omega
  have o1 := one_at (i := k) (k := 10) (c := 75) (r := 32 :: (Go.Lib.decDigits k ++ [107])) (r' := 32 :: (Go.Lib.decDigits k ++ [107])) (by decide) rfl (by show isWd 32 = false; decide) (by show k ≤ 2097151; omega)
  have o2 := one_at (i := k) (k := 10) (c := 107) (r := []) (r' := []) (by decide) rfl rfl (by show k ≤ 2097151; omega)
  rw [e] at o1 o2
  rw [cutL_eq (by simp only [List.length_append, List.length_cons, List.length_nil]; omega)]
  cases hd : Go.Lib.decDigits k with
  | nil => exact absurd hd f3
  | cons a l =>
    rw [hd] at o1 o2 f1
    rw [List.all_cons, Bool.and_eq_true] at f1
    obtain ⟨g1, g2, g3, -⟩ := dig_facts f1.1
    rw [List.cons_append] at o1 o2
    rw [List.cons_append, cutR_tok g1 g2 g3 (by decide) o1, cutR_skip (skip_ws _ (by decide)), List.cons_append, cutR_tok g1 g2 g3 (by decide) o2, cutR_end (by rw [skip_nil]) (by rw [skip_nil])]
    rfl
theorem times_m (k : Nat) (hk : k < 2047) : cutL (Go.Lib.decDigits k ++ [77]) = ([⟨3, [], ((1048576 * k : Nat) : Int)⟩], 0, 0) := by
  have hlen := dec_len 3 k (by omega)
  obtain ⟨f1, f2, f3⟩ := dec_facts k
  have e : k <<< 20 = 1048576 * k := by rw [Nat.shiftLeft_eq]; omega
  have o1 := one_at (i := k) (k := 20) (c := 77) (r := []) (r' := []) (by decide) rfl rfl (by show k ≤ 2047; omega)
  rw [e] at o1
  rw [cutL_eq (by simp only [List.length_append, List.length_cons, List.length_nil]; omega)]
  cases hd : Go.Lib.decDigits k with
  | nil => exact absurd hd f3
  | cons a l =>
    rw [hd] at o1 f1
    rw [List.all_cons, Bool.and_eq_true] at f1
    obtain ⟨g1, g2, g3, -⟩ := dig_facts f1.1
    rw [List.cons_append] at o1
    rw [List.cons_append, cutR_tok g1 g2 g3 (by decide) o1, cutR_end (by rw [skip_nil]) (by rw [skip_nil])]
    rfl
theorem times_over : cutL [50, 48, 52, 56, 77] = ([], 0, 6) := by decide +kernel
theorem times_kb (k : Nat) (hk : k < 2047) : cutL (Go.Lib.decDigits k ++ [75, 98]) = ([], 0, 3) := by
  have hlen := dec_len 3 k (by omega)
  obtain ⟨f1, f2, f3⟩ := dec_facts k
  obtain ⟨w1, w2⟩ := while_app (c := 75) [98] f1 (by decide)
  have hnum : numL (Go.Lib.decDigits k ++ [75, 98]) = .error 3 := by
    unfold numL
    rw [w1, w2, if_pos (show hdOf isWd (shiftL [75, 98]).2 = true by decide)]
  rw [cutL_eq (by simp only [List.length_append, List.length_cons, List.length_nil]; omega)]
  cases hd : Go.Lib.decDigits k with
  | nil => exact absurd hd f3
  | cons a l =>
    rw [hd] at hnum f1
    rw [List.all_cons, Bool.and_eq_true] at f1
    obtain ⟨g1, g2, g3, -⟩ := dig_facts f1.1
    rw [List.cons_append] at hnum ⊢
    rw [cutR_no g1 g2 g3 (by decide) ((one_num _ f1.1).trans hnum)]
    rw [cutEnd_err, Nat.sub_self]
theorem times_join (k : Nat) (hk : k < 2047) : joinL [⟨3, [], (k : Int)⟩] = (Go.Lib.decDigits k ++ [32], 0) := by
  have hlen := dec_len 3 k (by omega)
  have hc : checkT ⟨3, [], (k : Int)⟩ = 0 := by
    unfold checkT
    simp only [if_true]
    rw [if_neg (by omega)]
  have e : jn [⟨3, [], (k : Int)⟩] = Go.Lib.decDigits k ++ [32] := by
    show (Go.Lib.itoa (k : Int) ++ [32]) ++ [] = _
    unfold Go.Lib.itoa
    rw [if_neg (by omega), Int.toNat_natCast, List.append_nil]
  rw [joinL, if_neg (by simp), join_jn _ [] (fun t ht => by obtain rfl := List.mem_singleton.1 ht; exact hc) (by rw [e]; simp only [List.length_append, List.length_cons, List.length_nil]; omega), e]
  rfl

/-! what is no token -/
def badL : Nat → List UInt8 × Int
  | 0 => ([64], 3)
  | 1 => ([34, 97], 4)
  | 2 => ([58, 32, 97], 3)
  | 3 => (List.replicate 20 57, 6)
  | 4 => ([49, 120], 3)
  | 5 => ([47], 3)
  | 6 => ([34, 92], 4)
  | 7 => ([0], 3)
  | 8 => ([45, 49], 3)
  | _ => ([92], 3)
theorem bad_cut (i n : Nat) (hn : n < 400) : cutR n (badL i).1 = .error ((badL i).1, (badL i).2) := by
  have h : skipL (badL i).1 = (true, (badL i).1) ∧ (badL i).1 ≠ [] ∧ oneL (badL i).1 = .error (badL i).2 := by
    match i with
    | 0 => exact ⟨rfl, List.cons_ne_nil _ _, rfl⟩
    | 1 => exact ⟨rfl, List.cons_ne_nil _ _, rfl⟩
    | 2 => exact ⟨rfl, List.cons_ne_nil _ _, rfl⟩
    | 3 => exact ⟨rfl, List.cons_ne_nil _ _, rfl⟩
    | 4 => exact ⟨rfl, List.cons_ne_nil _ _, rfl⟩
    | 5 => exact ⟨rfl, List.cons_ne_nil _ _, rfl⟩
    | 6 => exact ⟨rfl, List.cons_ne_nil _ _, rfl⟩
    | 7 => exact ⟨rfl, List.cons_ne_nil _ _, rfl⟩
    | 8 => exact ⟨rfl, List.cons_ne_nil _ _, rfl⟩
    | i + 9 => exact ⟨rfl, List.cons_ne_nil _ _, rfl⟩
  obtain ⟨h1, h2, h3⟩ := h
  have := cutR_bad (n := n) (l := (badL i).1) (e := (badL i).2) (by rw [h1]) (by rw [h1]; exact h2) (by omega) (by rw [h1]; exact h3)
  rw [this, h1]
theorem bad_len (i : Nat) : (badL i).1.length ≤ 20 := by
  unfold badL; split <;> decide
/-- THE FIRST TOKEN THAT IS NONE IS TOLD BY ITS PLACE -/
theorem token_place {ts : List Tok} (h : ∀ t ∈ ts, GoodTok t) (hn : ts.length ≤ 15) (i : Nat) : joinL ts = (jn ts, 0) ∧ cutL (jn ts ++ (badL i).1) = ([], (jn ts).length, (badL i).2) := by
  have hl := jn_len ts h; have hb := bad_len i
  refine ⟨(token_back (fun t ht => (h t ht).1) (by omega) (by omega)).1, ?_⟩
  have := cut_jn ts 0 (badL i).1 (fun t ht => (h t ht).1) (by omega)
  rw [cutL_eq (by rw [List.length_append]; omega), this, bad_cut i _ (by omega)]
  rw [map_err, cutEnd_err, List.length_append, Nat.add_sub_cancel]

/-! many tokens -/
def semi : Tok := ⟨5, [59], 0⟩
theorem semis : ∀ (j n : Nat), n ≤ 400 → cutR n (List.replicate j 59) = if n + j ≤ 400 then .ok (List.replicate j semi) else .error (List.replicate (n + j - 400) 59, 5)
  | 0, n, h => by rw [if_pos (by omega)]; exact cutR_end (by rw [List.replicate_zero, skip_nil]) (by rw [List.replicate_zero, skip_nil])
  | j + 1, n, h => by
    rw [List.replicate_succ]
    have hs := skip_stay (c := 59) (List.replicate j 59) (by decide) (by decide) (by decide)
    by_cases h4 : n = 400
    · subst h4
      rw [if_neg (by omega), cutR_full (by rw [hs]) (by rw [hs]; exact List.cons_ne_nil _ _), hs, show 400 + (j + 1) - 400 = j + 1 by omega, List.replicate_succ]
    · rw [cutR_tok (by decide) (by decide) (by decide) h4 (one_mark _ (by decide)), semis j (n + 1) (by omega)]
      by_cases h5 : n + (j + 1) ≤ 400
      · rw [if_pos (by omega), if_pos h5, List.replicate_succ]; rfl
      · rw [if_neg (by omega), if_neg h5, show n + 1 + j - 400 = n + (j + 1) - 400 by omega]; rfl
theorem jn_semis : ∀ k : Nat, (jn (List.replicate k semi)).length = 2 * k
  | 0 => rfl
  | k + 1 => by
    have := jn_semis k
    have e : jn (List.replicate (k + 1) semi) = [59, 32] ++ jn (List.replicate k semi) := by rw [List.replicate_succ]; rfl
    rw [e, List.length_append, this]
    simp only [List.length_cons, List.length_nil]; omega
/-- THERE ARE NOT TOO MANY TOKENS -/
theorem token_many (k : Nat) (hk : k < 800) : (joinL (List.replicate k semi) = if 400 < k then ([], 5) else (jn (List.replicate k semi), 0)) ∧ cutL (List.replicate k 59) = if 400 < k then ([], 400, 5) else (List.replicate k semi, 0, 0) := by
  have hj := jn_semis k
  constructor
  · by_cases h : 400 < k
    · rw [if_pos h, joinL, if_pos (by rw [List.length_replicate]; exact h)]
    · rw [if_neg h, joinL, if_neg (by rw [List.length_replicate]; exact h)]
      exact join_jn _ [] (fun t ht => by rw [(List.mem_replicate.1 ht).2]; decide) (by rw [List.nil_append]; omega)
  · rw [cutL_eq (by rw [List.length_replicate]; omega), semis k 0 (by omega)]
    by_cases h : 400 < k
    · rw [if_neg (by omega), if_pos h]
      rw [cutEnd_err, List.length_replicate, List.length_replicate, show k - (0 + k - 400) = 400 by omega]
    · rw [if_pos (by omega), if_neg h]
      rw [cutEnd_ok, List.nil_append]
end Go.Proofs.YtlgbmnmoobpkkaaDoor.Tk
