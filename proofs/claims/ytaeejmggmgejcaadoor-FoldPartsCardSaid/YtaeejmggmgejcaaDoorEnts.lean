/-
  DERIVED. Entries in memory: rows of six cells; and the entry that raw numbers make.
-/
import Derived.Test.YtaeejmggmgejcaaDoorForm
namespace Go.Proofs.YtaeejmggmgejcaaDoor
open Go.RowKit

/-- the cells of an entry -/
def entC (x : Ent) : List Value := [.int .i64 x.kind, .string ⟨x.box.toArray⟩, .int .i64 x.uid, .int .i64 x.flags, .string ⟨x.to.toArray⟩, .string ⟨x.text.toArray⟩]
def ecells (xs : List Ent) : List Value := xs.flatMap entC
theorem ecells_length (xs : List Ent) : (ecells xs).length = xs.length * 6 := by
  induction xs with
  | nil => rfl
  | cons a l ih => show (entC a ++ ecells l).length = (l.length + 1) * 6; rw [List.length_append, ih]; show 6 + _ = _; omega
theorem ecells_snoc (xs : List Ent) (x : Ent) : ecells (xs ++ [x]) = ecells xs ++ entC x := by simp [ecells]
theorem ecells_at : ∀ (xs : List Ent) (i j : Nat) (x : Ent), xs[i]? = some x → j < 6 → (ecells xs)[i * 6 + j]? = (entC x)[j]?
  | [], i, j, x, h, _ => by simp at h
  | a :: l, 0, j, x, h, hj => by
    obtain rfl : a = x := by simpa using h
    show (entC a ++ ecells l)[0 * 6 + j]? = _
    rw [Nat.zero_mul, Nat.zero_add, List.getElem?_append_left (by show j < 6; omega)]
  | a :: l, i + 1, j, x, h, hj => by
    show (entC a ++ ecells l)[(i + 1) * 6 + j]? = _
    rw [List.getElem?_append_right (by show 6 ≤ _; omega), show (i + 1) * 6 + j - (entC a).length = i * 6 + j by show (i + 1) * 6 + j - 6 = _; omega]
    exact ecells_at l i j x (by simpa using h) hj
/-- 'in block g, from row i on, lies the entry x' -/
def EntIn (w : World) (g i : Nat) (x : Ent) : Prop :=
  w.cell? ⟨g, i * 6, none⟩ = some (.int .i64 x.kind) ∧ w.cell? ⟨g, i * 6 + 1, none⟩ = some (.string ⟨x.box.toArray⟩) ∧ w.cell? ⟨g, i * 6 + 2, none⟩ = some (.int .i64 x.uid) ∧ w.cell? ⟨g, i * 6 + 3, none⟩ = some (.int .i64 x.flags) ∧
  w.cell? ⟨g, i * 6 + 4, none⟩ = some (.string ⟨x.to.toArray⟩) ∧ w.cell? ⟨g, i * 6 + 5, none⟩ = some (.string ⟨x.text.toArray⟩)
theorem EntIn.down {w w' : World} {g i : Nat} {x : Ent} (h : EntIn w g i x) (hb : Below w.heap.size w w') : EntIn w' g i x :=
  ⟨moved h.1 hb (Nat.le_refl _), moved h.2.1 hb (Nat.le_refl _), moved h.2.2.1 hb (Nat.le_refl _), moved h.2.2.2.1 hb (Nat.le_refl _), moved h.2.2.2.2.1 hb (Nat.le_refl _), moved h.2.2.2.2.2 hb (Nat.le_refl _)⟩
/-- 'the slice v holds the entries xs' -/
def EntsAt (w : World) (v : Value) (xs : List Ent) : Prop :=
  ∃ G cap, v = .slice G xs.length cap ∧ xs.length ≤ cap ∧ ∀ i x, xs[i]? = some x → ∃ g, G = some ⟨g, 0, none⟩ ∧ g < w.heap.size ∧ EntIn w g i x
theorem EntsAt.down {w w' : World} {v : Value} {xs : List Ent} (h : EntsAt w v xs) (hb : Below w.heap.size w w') : EntsAt w' v xs := by
  obtain ⟨G, cap, hv, hc, hf⟩ := h
  refine ⟨G, cap, hv, hc, fun i x hi => ?_⟩
  obtain ⟨g, hG, hg, h0⟩ := hf i x hi
  exact ⟨g, hG, Nat.lt_of_lt_of_le hg hb.size, h0.down hb⟩
theorem EntsAt.of_row {w : World} {base : Nat} {v : Value} {xs : List Ent} (h : w.ownsRow base 44 6 v xs.length (ecells xs)) : EntsAt w v xs := by
  by_cases h0 : 0 < xs.length
  · have hcap := h.2
    obtain ⟨g, cap, rfl, _, hg⟩ := World.ownsRow.form h h0
    have hc : xs.length ≤ cap := by
      rcases hcap with ⟨h, _⟩ | ⟨_, _, _, h, _, _, hc, _⟩
      · cases h
      · cases h; exact hc
    refine ⟨_, cap, rfl, hc, fun i x hi => ⟨g, rfl, hg, ?_⟩⟩
    have hl : i < xs.length := (List.getElem?_eq_some_iff.1 hi).1
    have e := fun j hj => ecells_at xs i j x hi hj
    exact ⟨(h.cellAt (i * 6 + 0) (by omega)).trans (e 0 (by omega)), (h.cellAt (i * 6 + 1) (by omega)).trans (e 1 (by omega)), (h.cellAt (i * 6 + 2) (by omega)).trans (e 2 (by omega)),
      (h.cellAt (i * 6 + 3) (by omega)).trans (e 3 (by omega)), (h.cellAt (i * 6 + 4) (by omega)).trans (e 4 (by omega)), (h.cellAt (i * 6 + 5) (by omega)).trans (e 5 (by omega))⟩
  · rcases h.2 with ⟨h1, h2⟩ | ⟨g, cap, _, h1, _⟩
    · refine ⟨none, 0, by rw [h1, h2], by omega, fun i f hi => ?_⟩
      have hl : i < xs.length := (List.getElem?_eq_some_iff.1 hi).1
      omega
    · refine ⟨_, cap, h1, by omega, fun i f hi => ?_⟩
      have hl : i < xs.length := (List.getElem?_eq_some_iff.1 hi).1
      omega
/-- a batch as a value -/
def BatchAt (w : World) (v : Value) (user : Nat) (xs : List Ent) : Prop := ∃ u, v = .agg #[.int .i64 user, u] ∧ EntsAt w u xs

/-! the entry that raw numbers make -/
/-- raw numbers -/
structure Raw where
  (kind box uid flags dest : Int) (text : ByteArray)
def boxNames : List (List UInt8) := [[73, 78, 66, 79, 88], [119, 111, 114, 107], [106, 117, 110, 107], [97], [98], [99]]
def boxL (n : Int) : List UInt8 := boxNames.getD (pick n (6 : Nat)) []
def entOf (c : Raw) : Ent :=
  let k := 1 + pick c.kind (6 : Nat)
  ⟨k, if k = 2 ∨ k = 3 then pick c.flags (32 : Nat) else 0, if k = 3 ∨ k = 5 then 1 + pick c.uid (8 : Nat) else 0, if k ≠ 6 then boxL c.box else [],
    if k = 5 then boxL c.dest else if k = 6 then [97, 64, 98, 46, 99] else [], if k = 2 then c.text.data.toList.take 300 else if k = 6 then c.text.data.toList.take 100 else []⟩
theorem boxL_ok (n : Int) : nameCode (boxL n) = 0 ∧ (boxL n).length ≤ 5 := by
  have h := pick_lt n 6 (by omega)
  unfold boxL
  generalize pick n (6 : Nat) = k at h
  have : k = 0 ∨ k = 1 ∨ k = 2 ∨ k = 3 ∨ k = 4 ∨ k = 5 := by omega
  rcases this with rfl | rfl | rfl | rfl | rfl | rfl <;> decide
theorem one_spool : oneL [97, 64, 98, 46, 99] = true := by decide +kernel
theorem entOf_form (c : Raw) : formV (entOf c) = 0 := by
  have h1 := pick_lt c.kind 6 (by omega)
  have h2 := pick_lt c.flags 32 (by omega)
  have h3 := pick_lt c.uid 8 (by omega)
  have hb := boxL_ok c.box
  have ht := boxL_ok c.dest
  unfold entOf
  generalize pick c.kind (6 : Nat) = k at h1
  generalize pick c.flags (32 : Nat) = f at h2
  generalize pick c.uid (8 : Nat) = u at h3
  have : k = 0 ∨ k = 1 ∨ k = 2 ∨ k = 3 ∨ k = 4 ∨ k = 5 := by omega
  rcases this with rfl | rfl | rfl | rfl | rfl | rfl
  · rw [form_last _ (by simp) (by simp [shapeOK]) (by simp) (by simp) (by simpa using hb.1)]; simp
  · rw [form_last _ (by simp) (by simp [shapeOK]) (by simp; omega) (by simp; omega) (by simpa using hb.1)]; simp
  · rw [form_last _ (by simp) (by simp [shapeOK]) (by simp; omega) (by simp) (by simpa using hb.1)]; simp
  · rw [form_last _ (by simp) (by simp [shapeOK]) (by simp) (by simp) (by simpa using hb.1)]; simp
  · rw [form_last _ (by simp) (by simp [shapeOK]) (by simp; omega) (by simp) (by simpa using hb.1)]; simpa using ht.1
  · rw [form_spool _ (by simp) (by simp [shapeOK]) (by simp) (by simp; omega)]; simp [one_spool]
/-- an entry is small -/
def Small (x : Ent) : Prop := x.kind < 256 ∧ x.uid < 16777216 ∧ x.flags < 256 ∧ x.box.length ≤ 12 ∧ x.to.length ≤ 100 ∧ x.text.length ≤ 2000
theorem Small.fits {x : Ent} (h : Small x) : Fits x := ⟨h.1, h.2.2.1, h.2.1, by have := h.2.2.2.1; omega, by have := h.2.2.2.2.1; omega, by have := h.2.2.2.2.2; omega⟩
/-- what may be is small -/
theorem small_of_form {x : Ent} (h : formV x = 0) : Small x := by
  by_cases h1 : 1 ≤ x.kind ∧ x.kind ≤ 6
  · by_cases hs : shapeOK x = true
    · by_cases hr : 31 < x.flags ∨ 1048576 < x.uid
      · rw [form_range x h1 hs hr] at h; cases h
      · by_cases ht : 2000 < x.text.length
        · rw [form_size x h1 hs hr ht] at h; cases h
        · by_cases h6 : x.kind = 6
          · rw [form_spool x h6 hs hr ht] at h
            split at h
            · rename_i hh
              have hbox : x.box = [] := by
                unfold shapeOK at hs
                rw [if_neg (by omega), if_neg (by omega), if_neg (by omega), if_neg (by omega)] at hs
                simp only [Bool.and_eq_true, beq_iff_eq] at hs
                exact hs.1.1
              exact ⟨by omega, by omega, by omega, by rw [hbox]; simp, hh.2, by omega⟩
            · cases h
          · by_cases hn : nameCode x.box = 0
            · have hbl : x.box.length ≤ 12 := by
                unfold nameCode at hn
                split at hn
                · cases hn
                · omega
              rw [form_last x (by omega) hs hr ht hn] at h
              refine ⟨by omega, by omega, by omega, hbl, ?_, by omega⟩
              by_cases h5 : x.kind = 5
              · rw [if_pos h5] at h
                unfold nameCode at h
                split at h
                · cases h
                · omega
              · have hto : x.to = [] := by
                  unfold shapeOK at hs
                  by_cases h14 : x.kind = 1 ∨ x.kind = 4
                  · rw [if_pos h14] at hs; simp only [Bool.and_eq_true, beq_iff_eq] at hs; exact hs.1.2
                  · rw [if_neg h14] at hs
                    by_cases h2 : x.kind = 2
                    · rw [if_pos h2] at hs; simp only [Bool.and_eq_true, beq_iff_eq] at hs; exact hs.2
                    · rw [if_neg h2, if_pos (by omega)] at hs; simp only [Bool.and_eq_true, beq_iff_eq] at hs; exact hs.1
                rw [hto]; simp
            · rw [form_name x (by omega) hs hr ht hn] at h; exact absurd h hn
    · rw [form_shape x h1 (by simpa using hs)] at h; cases h
  · rw [form_kind x h1] at h; cases h
end Go.Proofs.YtaeejmggmgejcaaDoor
