/-
  DERIVED. No program: what Decode answers; tapes, and what is recovered of them.
-/
import Derived.Test.YtaeejmggmgejcaaDoorBCheck
import Derived.Test.YtaeejmggmgejcaaDoorBatchBackPlain
namespace Go.Proofs.YtaeejmggmgejcaaDoor
open Go

/-- what Decode answers -/
def decodeV (l : List UInt8) : (Nat × List Ent) × Int :=
  if 100000 < l.length then ((0, []), 1)
  else match (decodeL l).2 with
    | none => ((0, []), 4)
    | some (_ :: _) => ((0, []), 3)
    | some [] => if bcheckV (decodeL l).1.1 (decodeL l).1.2 = 0 then ((decodeL l).1, 0) else ((0, []), bcheckV (decodeL l).1.1 (decodeL l).1.2)
abbrev Bat := Nat × List Ent
def GoodB (b : Bat) : Prop := bcheckV b.1 b.2 = 0
theorem GoodB.fits {b : Bat} (h : GoodB b) : b.1 < 256 ∧ b.2.length < 256 ∧ ∀ x ∈ b.2, Fits x := by
  obtain ⟨h1, h2, h3⟩ := bcheck_inv h
  exact ⟨by omega, by omega, fun x hx => (small_of_form (h3 x hx)).fits⟩
theorem entL_le (x : Ent) (h : Small x) : (entL x).length ≤ 2123 := by
  obtain ⟨_, _, _, h1, h2, h3⟩ := h
  unfold entL textE
  simp only [List.length_append, wideL_length, List.length_cons, List.length_nil]
  omega
theorem entsL_le : ∀ (xs : List Ent), (∀ x ∈ xs, Small x) → (entsL xs).length ≤ xs.length * 2123
  | [], _ => Nat.le_refl _
  | x :: l, h => by
    have h1 := entL_le x (h x (List.mem_cons_self ..))
    have h2 := entsL_le l fun y hy => h y (List.mem_cons_of_mem _ hy)
    show (entL x ++ entsL l).length ≤ (l.length + 1) * 2123
    rw [List.length_append]; omega
theorem GoodB.len {b : Bat} (h : GoodB b) : (batchL b.1 b.2).length ≤ 21300 := by
  obtain ⟨h1, h2, h3⟩ := bcheck_inv h
  have := entsL_le b.2 fun x hx => small_of_form (h3 x hx)
  show (entsL b.2).length + 1 + 1 ≤ _
  omega
theorem decodeV_ok {l : List UInt8} (h : (decodeV l).2 = 0) : l = batchL (decodeV l).1.1 (decodeV l).1.2 ∧ GoodB (decodeV l).1 := by
  unfold decodeV at h ⊢
  by_cases hl : 100000 < l.length
  · rw [if_pos hl] at h; cases h
  · rw [if_neg hl] at h ⊢
    cases hd : (decodeL l).2 with
    | none => rw [hd] at h; cases h
    | some r =>
      rw [hd] at h
      cases r with
      | cons c r => cases h
      | nil =>
        simp only at h ⊢
        by_cases hc : bcheckV (decodeL l).1.1 (decodeL l).1.2 = 0
        · rw [if_pos hc]
          have := (decode_back hd).1
          rw [List.append_nil] at this
          exact ⟨this, hc⟩
        · rw [if_neg hc] at h; exact absurd h hc
theorem decodeV_batch {b : Bat} (h : GoodB b) : decodeV (batchL b.1 b.2) = (b, 0) := by
  obtain ⟨h1, h2, h3⟩ := h.fits
  have hl := h.len
  have hd := decode_batch b.1 b.2 [] h1 h2 h3
  rw [List.append_nil] at hd
  unfold decodeV
  rw [if_neg (by omega), hd]
  simp only
  rw [if_pos (show bcheckV b.1 b.2 = 0 from h)]
theorem decodeV_tail {b : Bat} (h : GoodB b) (c : UInt8) : (decodeV (batchL b.1 b.2 ++ [c])).2 = 3 := by
  obtain ⟨h1, h2, h3⟩ := h.fits
  have hl := h.len
  have hd := decode_batch b.1 b.2 [c] h1 h2 h3
  unfold decodeV
  rw [if_neg (by rw [List.length_append]; simp; omega), hd]
theorem decodeV_torn {b : Bat} (h : GoodB b) (p : Nat) (hp : p < (batchL b.1 b.2).length) : (decodeV ((batchL b.1 b.2).take p)).2 = 4 := by
  obtain ⟨h1, h2, h3⟩ := h.fits
  have hl := h.len
  have hd := decode_torn b.1 b.2 p h1 h2 h3 hp
  unfold decodeV
  rw [if_neg (by rw [List.length_take]; omega), hd]

/-! tapes -/
def frameL (b : Bat) : List UInt8 := wideL (batchL b.1 b.2).length 3 ++ batchL b.1 b.2
def tapeL (bs : List Bat) : List UInt8 := bs.flatMap frameL
theorem tapeL_append (a b : List Bat) : tapeL (a ++ b) = tapeL a ++ tapeL b := by simp [tapeL]
theorem tapeL_one (b : Bat) : tapeL [b] = frameL b := by simp [tapeL]
theorem tapeL_cons (b : Bat) (l : List Bat) : tapeL (b :: l) = frameL b ++ tapeL l := rfl
theorem frameL_len (b : Bat) : (frameL b).length = (batchL b.1 b.2).length + 3 := by unfold frameL; rw [List.length_append, wideL_length]; omega
theorem frameL_pos (b : Bat) : 5 ≤ (frameL b).length := by
  rw [frameL_len]
  show 5 ≤ (entsL b.2).length + 1 + 1 + 3
  omega
/-- what is read first of a tape's bytes -/
def stepL (l : List UInt8) : Option (Bat × List UInt8) :=
  match (takeL (numL 3 (some l)).1 (numL 3 (some l)).2).2 with
  | none => none
  | some rest => if (decodeV (takeL (numL 3 (some l)).1 (numL 3 (some l)).2).1).2 = 0 then some ((decodeV (takeL (numL 3 (some l)).1 (numL 3 (some l)).2).1).1, rest) else none
theorem stepL_some {l rest : List UInt8} {b : Bat} (h : stepL l = some (b, rest)) : l = frameL b ++ rest ∧ GoodB b := by
  unfold stepL at h
  cases hr : (takeL (numL 3 (some l)).1 (numL 3 (some l)).2).2 with
  | none => rw [hr] at h; cases h
  | some r =>
    rw [hr] at h
    simp only at h
    by_cases hd : (decodeV (takeL (numL 3 (some l)).1 (numL 3 (some l)).2).1).2 = 0
    · rw [if_pos hd] at h
      obtain ⟨h1, h2⟩ := Prod.mk.inj (Option.some.inj h)
      obtain ⟨l1, e1, e2, e3⟩ := take_snd hr
      obtain ⟨l0, f1, f2, f3⟩ := num_snd e1
      obtain rfl := Option.some.inj f1
      obtain ⟨g1, g2⟩ := decodeV_ok hd
      rw [h1] at g1 g2
      refine ⟨?_, g2⟩
      rw [f2, e2, h2]
      unfold frameL
      rw [← g1, e3, List.append_assoc]
    · rw [if_neg hd] at h; cases h
theorem stepL_frame {b : Bat} (rest : List UInt8) (h : GoodB b) : stepL (frameL b ++ rest) = some (b, rest) := by
  have hl := h.len
  have hn : numL 3 (some (frameL b ++ rest)) = ((batchL b.1 b.2).length, some (batchL b.1 b.2 ++ rest)) := by
    unfold frameL
    rw [List.append_assoc]
    exact num_wide _ 3 _ (by have : (256 : Nat) ^ 3 = 16777216 := by decide
                             omega)
  unfold stepL
  rw [hn, take_app]
  simp only
  rw [decodeV_batch h]
  rfl
theorem stepL_torn {b : Bat} (p : Nat) (h : GoodB b) (hp : p < (frameL b).length) : stepL ((frameL b).take p) = none := by
  have hl := h.len
  rw [frameL_len] at hp
  unfold stepL
  by_cases h3 : p < 3
  · rw [num_short 3 _ (by rw [List.length_take]; omega)]
    rfl
  · have e : (frameL b).take p = wideL (batchL b.1 b.2).length 3 ++ (batchL b.1 b.2).take (p - 3) := by
      unfold frameL
      rw [List.take_append, wideL_length, List.take_of_length_le (by rw [wideL_length]; omega)]
    rw [e, num_wide _ 3 _ (by have : (256 : Nat) ^ 3 = 16777216 := by decide
                              omega)]
    simp only
    rw [take_short _ _ (by rw [List.length_take]; omega)]
theorem stepL_nil : stepL [] = none := by
  unfold stepL
  rw [num_short 3 [] (by decide)]
  rfl
/-- 'of the bytes l the batches bs are recovered, rest is left' -/
def Rec (l : List UInt8) (bs : List Bat) (rest : List UInt8) : Prop := l = tapeL bs ++ rest ∧ (∀ b ∈ bs, GoodB b) ∧ stepL rest = none
theorem Rec.unique : ∀ {bs cs : List Bat} {l r s : List UInt8}, Rec l bs r → Rec l cs s → bs = cs ∧ r = s
  | [], [], l, r, s, ⟨h1, _, _⟩, ⟨k1, _, _⟩ => ⟨rfl, h1.symm.trans k1⟩
  | [], c :: cs, l, r, s, ⟨h1, _, h3⟩, ⟨k1, k2, _⟩ => by
    have : stepL l = none := by rw [h1]; exact h3
    rw [k1, tapeL_cons, List.append_assoc, stepL_frame _ (k2 c (List.mem_cons_self ..))] at this
    cases this
  | b :: bs, [], l, r, s, ⟨h1, h2, _⟩, ⟨k1, _, k3⟩ => by
    have : stepL l = none := by rw [k1]; exact k3
    rw [h1, tapeL_cons, List.append_assoc, stepL_frame _ (h2 b (List.mem_cons_self ..))] at this
    cases this
  | b :: bs, c :: cs, l, r, s, ⟨h1, h2, h3⟩, ⟨k1, k2, k3⟩ => by
    have e1 : stepL l = some (b, tapeL bs ++ r) := by rw [h1, tapeL_cons, List.append_assoc, stepL_frame _ (h2 b (List.mem_cons_self ..))]
    have e2 : stepL l = some (c, tapeL cs ++ s) := by rw [k1, tapeL_cons, List.append_assoc, stepL_frame _ (k2 c (List.mem_cons_self ..))]
    obtain ⟨rfl, ht⟩ := Prod.mk.inj (Option.some.inj (e1.symm.trans e2))
    obtain ⟨rfl, hr⟩ := Rec.unique (l := tapeL bs ++ r) ⟨rfl, fun x hx => h2 x (List.mem_cons_of_mem _ hx), h3⟩ ⟨ht, fun x hx => k2 x (List.mem_cons_of_mem _ hx), k3⟩
    exact ⟨rfl, hr⟩
theorem Rec.whole {bs : List Bat} (h : ∀ b ∈ bs, GoodB b) : Rec (tapeL bs) bs [] := ⟨(List.append_nil _).symm, h, stepL_nil⟩
/-- OF A TORN TAPE JUST THE WHOLE BATCHES COUNT -/
theorem rec_torn : ∀ (bs : List Bat) (k : Nat), (∀ b ∈ bs, GoodB b) → k ≤ (tapeL bs).length → ∃ j rest, j ≤ bs.length ∧ Rec ((tapeL bs).take k) (bs.take j) rest ∧ (j = bs.length ↔ k = (tapeL bs).length) ∧ (∀ i, i ≤ bs.length → (tapeL (bs.take i)).length ≤ k → i ≤ j)
  | [], k, _, hk => by
    obtain rfl : k = 0 := Nat.le_zero.1 hk
    exact ⟨0, [], Nat.le_refl _, ⟨rfl, (fun b hb => by cases hb), stepL_nil⟩, ⟨fun _ => rfl, fun _ => rfl⟩, fun i hi _ => hi⟩
  | b :: bs, k, h, hk => by
    have hb := h b (List.mem_cons_self ..)
    have hbs : ∀ x ∈ bs, GoodB x := fun x hx => h x (List.mem_cons_of_mem _ hx)
    have hp := frameL_pos b
    rw [tapeL_cons, List.length_append] at hk
    by_cases hc : k < (frameL b).length
    · refine ⟨0, (frameL b).take k, Nat.zero_le _, ⟨?_, (fun b hb => by cases hb), stepL_torn k hb hc⟩, ⟨(fun e => by cases e), fun e => ?_⟩, fun i hi hl => ?_⟩
      · rw [tapeL_cons, List.take_append_of_le_length (by omega)]; rfl
      · rw [tapeL_cons, List.length_append] at e; omega
      · cases i with
        | zero => exact Nat.le_refl _
        | succ i =>
          rw [List.take_succ_cons, tapeL_cons, List.length_append] at hl
          omega
    · obtain ⟨j, rest, h1, ⟨h2, h3, h4⟩, h5, h6⟩ := rec_torn bs (k - (frameL b).length) hbs (by omega)
      refine ⟨j + 1, rest, Nat.succ_le_succ h1, ⟨?_, ?_, h4⟩, ?_, fun i hi hl => ?_⟩
      · rw [tapeL_cons, List.take_append, List.take_of_length_le (by omega), h2, List.take_succ_cons, tapeL_cons, List.append_assoc]
      · intro x hx
        rw [List.take_succ_cons] at hx
        rcases List.mem_cons.1 hx with rfl | hx
        · exact hb
        · exact h3 x hx
      · rw [tapeL_cons, List.length_append, List.length_cons]
        constructor
        · intro e; have := h5.1 (by omega); omega
        · intro e; have := h5.2 (by omega); omega
      · cases i with
        | zero => exact Nat.zero_le _
        | succ i =>
          rw [List.take_succ_cons, tapeL_cons, List.length_append] at hl
          have := h6 i (by simpa using hi) (by omega)
          omega
end Go.Proofs.YtaeejmggmgejcaaDoor
