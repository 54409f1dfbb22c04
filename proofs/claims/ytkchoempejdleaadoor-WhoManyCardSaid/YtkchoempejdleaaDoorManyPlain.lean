/-
  DERIVED. Plain laws: a list has its addresses in order, whatever words stand beside them.
-/
import Derived.Test.YtkchoempejdleaaDoorBadPlain
namespace Go.Proofs.YtkchoempejdleaaDoor
open Go.RowKit

theorem quotL_skip : ∀ (x l : List UInt8), (∀ c ∈ x, c ≠ 34 ∧ c ≠ 92) → quotL (x ++ l) = quotL l
  | [], _, _ => rfl
  | c :: x, l, h => by
    have hc := h c (List.mem_cons_self ..)
    show quotL (c :: (x ++ l)) = _
    rw [quotL_else c _ hc.1 hc.2]
    exact quotL_skip x l (fun d hd => h d (List.mem_cons_of_mem _ hd))
/-- the text of an address -/
def adT (l d : List UInt8) : List UInt8 := wordL l ++ 64 :: (wordL d ++ [46, 111, 114, 103])
def adV (l d : List UInt8) : List UInt8 × List UInt8 := (wordL l, wordL d ++ [46, 111, 114, 103])
/-- .. as it stands in a list -/
def itT (p : Nat) (l d v : List UInt8) : List UInt8 :=
  if p = 0 then adT l d else if p = 1 then 60 :: (adT l d ++ [62]) else if p = 2 then wordL v ++ [32, 98, 46, 32, 60] ++ adT l d ++ [62, 32] else [34, 120, 44, 32, 92, 34, 32] ++ wordL v ++ [64, 34, 60] ++ adT l d ++ [62]
def spT (p : Nat) : List UInt8 := if p = 0 then [44] else if p = 1 then [44, 32] else [32, 44, 9]
theorem word_head (l : List UInt8) : ∃ c t, wordL l = c :: t ∧ isBl c = false ∧ c ≠ 34 ∧ c ≠ 60 := by
  cases h : wordL l with
  | nil => exact absurd h (word_ne l)
  | cons c t =>
    have := word_atoms l
    rw [h, List.all_cons, Bool.and_eq_true] at this
    exact ⟨c, t, rfl, atom_plain c this.1⟩
/-- in angles -/
theorem addr_angle (f : Bool) (l d r : List UInt8) : addrL' f (60 :: (adT l d ++ 62 :: r)) = some (adV l d, r) := by
  have e : adT l d ++ 62 :: r = wordL l ++ 64 :: ((wordL d ++ [46, 111, 114, 103]) ++ 62 :: r) := by unfold adT; simp
  have hr := run_stop (wordL l) 64 ((wordL d ++ [46, 111, 114, 103]) ++ 62 :: r) (word_rn l) (by decide)
  have hb := bare_at (wordL l) (wordL d ++ [46, 111, 114, 103]) 62 r (dom_rn d) (by decide)
  rw [if_pos (chk_words l d)] at hb
  rw [addr_lt f _ (adT l d ++ 62 :: r) rfl, e, hr.1, hr.2, hb]
  rfl
theorem addr_item (p : Nat) (l d v r : List UInt8) (hr : Stops r) : ∃ r', addrL' true (itT p l d v ++ r) = some (adV l d, r') ∧ skipL r' = skipL r := by
  unfold itT
  split
  · refine ⟨r, ?_, rfl⟩
    have := addr_words l d r hr
    have e : adT l d ++ r = wordL l ++ 64 :: ((wordL d ++ [46, 111, 114, 103]) ++ r) := by unfold adT; simp
    rw [e]; exact this
  · split
    · refine ⟨r, ?_, rfl⟩
      have e : 60 :: (adT l d ++ [62]) ++ r = 60 :: (adT l d ++ 62 :: r) := by simp
      rw [e]; exact addr_angle true l d r
    · split
      · refine ⟨32 :: r, ?_, rfl⟩
        obtain ⟨c, t, hw, h1, h2, h3⟩ := word_head v
        have e : wordL v ++ [32, 98, 46, 32, 60] ++ adT l d ++ [62, 32] ++ r = wordL v ++ 32 :: (98 :: 46 :: 32 :: 60 :: (adT l d ++ 62 :: 32 :: r)) := by simp
        rw [e]
        have hs : skipL (wordL v ++ 32 :: (98 :: 46 :: 32 :: 60 :: (adT l d ++ 62 :: 32 :: r))) = wordL v ++ 32 :: (98 :: 46 :: 32 :: 60 :: (adT l d ++ 62 :: 32 :: r)) := by
          rw [hw]
          show (if isBl c then _ else _) = _
          rw [h1]; rfl
        have hn : nextL (wordL v ++ 32 :: (98 :: 46 :: 32 :: 60 :: (adT l d ++ 62 :: 32 :: r))) = c := by rw [hw]; rfl
        refine (addr_word true (wordL v) 32 _ _ rfl (by rw [hw]; rfl) (word_rn v) (by decide) hs (by rw [hn]; exact h2) (by rw [hn]; exact h3) (.inl (by decide))).trans ?_
        refine (skip_bl 32 _ false (by decide)).trans ?_
        refine (addr_word false [98, 46] 32 (60 :: (adT l d ++ 62 :: 32 :: r)) _ rfl rfl (by decide) (by decide) rfl (by show (98 : UInt8) ≠ 34; decide) (by show (98 : UInt8) ≠ 60; decide) (.inr rfl)).trans ?_
        refine (skip_bl 32 _ false (by decide)).trans ?_
        exact addr_angle false l d (32 :: r)
      · refine ⟨r, ?_, rfl⟩
        have e : [34, 120, 44, 32, 92, 34, 32] ++ wordL v ++ [64, 34, 60] ++ adT l d ++ [62] ++ r = 34 :: ([120, 44, 32] ++ 92 :: 34 :: ((32 :: (wordL v ++ [64])) ++ 34 :: 60 :: (adT l d ++ 62 :: r))) := by simp
        rw [e, addr_quote true _ _ rfl]
        have hv : ∀ c ∈ 32 :: (wordL v ++ [64]), c ≠ 34 ∧ c ≠ 92 := by
          intro c hc
          rcases List.mem_cons.1 hc with rfl | hc
          · exact ⟨by decide, by decide⟩
          · rcases List.mem_append.1 hc with h | h
            · have := List.all_eq_true.1 (word_atoms v) c h
              exact ⟨by rintro rfl; exact absurd this (by decide), by rintro rfl; exact absurd this (by decide)⟩
            · obtain rfl := List.mem_singleton.1 h
              exact ⟨by decide, by decide⟩
        rw [quotL_skip [120, 44, 32] _ (by decide), quotL_92 92 34 _ rfl, quotL_skip _ _ hv, quotL_34 34 _ rfl]
        exact addr_angle false l d r
/-- one person: how she stands, her words -/
structure Pn where
  (p s : Nat) (l d v : List UInt8)
def Pn.it (q : Pn) : List UInt8 := itT q.p q.l q.d q.v
def Pn.ad (q : Pn) : List UInt8 × List UInt8 := adV q.l q.d
def restT : List Pn → List UInt8
  | [] => []
  | q :: qs => spT q.s ++ (q.it ++ restT qs)
theorem rest_stops (qs : List Pn) : Stops (restT qs) := by
  cases qs with
  | nil => exact stops_nil
  | cons q qs =>
    unfold restT spT
    split
    · exact stops_cons 44 _ (by decide)
    · split
      · exact stops_cons 44 _ (by decide)
      · exact stops_cons 32 _ (by decide)
theorem blanks_addr (b : List UInt8) (hb : b = [] ∨ b = [32] ∨ b = [9]) (t : List UInt8) : addrL' true (b ++ t) = addrL' true t := by
  rcases hb with rfl | rfl | rfl
  · rfl
  · exact skip_bl 32 t true (by decide)
  · exact skip_bl 9 t true (by decide)
theorem list_many : ∀ (qs : List Pn) (q : Pn) (b : List UInt8), (b = [] ∨ b = [32] ∨ b = [9]) → listL (b ++ (q.it ++ restT qs)) = some (q.ad :: qs.map Pn.ad)
  | [], q, b, hb => by
    obtain ⟨r', h1, h2⟩ := addr_item q.p q.l q.d q.v (restT []) (rest_stops [])
    have h3 : addrL' true (b ++ (q.it ++ restT [])) = some (q.ad, r') := (blanks_addr b hb _).trans h1
    exact list_end h3 h2
  | q2 :: qs, q, b, hb => by
    obtain ⟨r', h1, h2⟩ := addr_item q.p q.l q.d q.v (restT (q2 :: qs)) (rest_stops _)
    have h3 : addrL' true (b ++ (q.it ++ restT (q2 :: qs))) = some (q.ad, r') := (blanks_addr b hb _).trans h1
    obtain ⟨b2, hb2, hs⟩ : ∃ b2, (b2 = [] ∨ b2 = [32] ∨ b2 = [9]) ∧ skipL (restT (q2 :: qs)) = 44 :: (b2 ++ (q2.it ++ restT qs)) := by
      show ∃ b2, (b2 = [] ∨ b2 = [32] ∨ b2 = [9]) ∧ skipL (spT q2.s ++ (q2.it ++ restT qs)) = 44 :: (b2 ++ (q2.it ++ restT qs))
      unfold spT
      split
      · exact ⟨[], .inl rfl, rfl⟩
      · split
        · exact ⟨[32], .inr (.inl rfl), rfl⟩
        · exact ⟨[9], .inr (.inr rfl), rfl⟩
    rw [list_next h3 (h2.trans hs), list_many qs q2 b2 hb2]
    rfl
/-- the text of the first j -/
def manyT (q : Nat → Pn) : Nat → List UInt8
  | 0 => []
  | j + 1 => manyT q j ++ ((if j = 0 then [] else spT (q j).s) ++ (q j).it)
theorem restT_snoc (qs : List Pn) (q : Pn) : restT (qs ++ [q]) = restT qs ++ (spT q.s ++ q.it) := by
  induction qs with
  | nil => show spT q.s ++ (q.it ++ []) = [] ++ _; simp
  | cons a qs ih =>
    show spT a.s ++ (a.it ++ restT (qs ++ [q])) = _
    rw [ih]
    show _ = spT a.s ++ (a.it ++ restT qs) ++ _
    simp
theorem manyT_eq (q : Nat → Pn) : ∀ j, manyT q (j + 1) = (q 0).it ++ restT ((List.range j).map fun i => q (i + 1))
  | 0 => by show [] ++ ([] ++ (q 0).it) = _; simp [restT]
  | j + 1 => by
    rw [manyT, manyT_eq q j, List.range_succ, List.map_append, List.map_singleton, restT_snoc, if_neg (by omega)]
    simp
theorem list_manyT (q : Nat → Pn) (j : Nat) : listL (manyT q (j + 1)) = some ((List.range (j + 1)).map fun i => (q i).ad) := by
  rw [manyT_eq]
  have := list_many ((List.range j).map fun i => q (i + 1)) (q 0) [] (.inl rfl)
  rw [List.nil_append] at this
  rw [this, List.range_succ_eq_map]
  simp
end Go.Proofs.YtkchoempejdleaaDoor
