/-
  DERIVED. Plain Lean: patterns of masked texts, stars and question marks.
-/
import Derived.Test.YtlghlcekakbmnaaPlainMatch
import Derived.Test.YtlghlcekakbmnaaText
namespace Go.Proofs.Ytlghlcekakbmnaa

def lits (l : List UInt8) : List Pc := l.map fun c => ⟨c, false, false⟩
theorem run_lits : ∀ a : List UInt8, run (lits a) a
  | [] => trivial
  | c :: a => ⟨rfl, by simp [Pc.fits], run_lits a⟩
theorem lits_nostar (a : List UInt8) : ∀ p ∈ lits a, p.many = false := by
  intro p hp; simp only [lits, List.mem_map] at hp; obtain ⟨c, _, rfl⟩ := hp; rfl
theorem lits_length (a : List UInt8) : (lits a).length = a.length := by simp [lits]
theorem mt_lits_pre (a : List UInt8) (l : List Pc) (t : List UInt8) : mt (lits a ++ l) (a ++ t) = mt l t := mt_run _ _ _ _ (run_lits a)
theorem mt_lits (a : List UInt8) : mt (lits a) a = true := by
  have := mt_lits_pre a [] []
  simpa [mt] using this
theorem mt_lits_of : ∀ (a s : List UInt8), mt (lits a) s = true → s = a
  | [], s, h => by simpa [lits, mt] using h
  | c :: a, [], h => by simp [lits, mt] at h
  | c :: a, d :: s, h => by
    have h' : (Pc.fits ⟨c, false, false⟩ d && mt (lits a) s) = true := h
    rw [Bool.and_eq_true] at h'
    rw [mt_lits_of a s h'.2]
    have : c = d := by simpa [Pc.fits] using h'.1
    rw [this]
theorem pcsG_mask : ∀ (a p : List UInt8), pcsG false (maskL a ++ p) = lits a ++ pcsG false p
  | [], p => rfl
  | c :: a, p => by
    show pcsG false (92 :: c :: (maskL a ++ p)) = _
    rw [pcsG, if_pos rfl, pcsG, pcsG_mask a p]
    rfl
theorem pcs_mask (a : List UInt8) : pcs (maskL a) = lits a := by
  have := pcsG_mask a []
  simpa [pcs, pcsG] using this
theorem pcs_mask_app (a p : List UInt8) : pcs (maskL a ++ p) = lits a ++ pcs p := pcsG_mask a p
def starP : Pc := ⟨42, false, true⟩
theorem pcs_star (l : List UInt8) : pcs (42 :: l) = starP :: pcs l := rfl
theorem pcs_one : pcs [63] = [⟨63, true, false⟩] := rfl
theorem foldL_app (a b : List UInt8) : foldL (a ++ b) = foldL a ++ foldL b := by simp [foldL]
theorem foldL_mask (a : List UInt8) : foldL (maskL a) = maskL (foldL a) := by
  induction a with
  | nil => rfl
  | cons c a ih =>
    show sml 92 :: sml c :: foldL (maskL a) = 92 :: sml c :: maskL (foldL a)
    rw [ih]; rfl
theorem sml_sml (c : UInt8) : sml (sml c) = sml c := by
  by_cases h : 65 ≤ c.toNat ∧ c.toNat ≤ 90
  · exact sml_no _ (by rw [sml_up c h.1 h.2]; omega)
  · rw [sml_no c h, sml_no c h]
theorem foldL_foldL (a : List UInt8) : foldL (foldL a) = foldL a := by
  simp only [foldL, List.map_map]; congr 1; funext c; exact sml_sml c
theorem mt_star_all (s : List UInt8) : mt [starP] s = true := by
  rw [mt_many rfl]; exact ⟨s.length, Nat.le_refl _, by simp [mt]⟩
theorem mt_star_skip (l : List Pc) (s t : List UInt8) (h : mt l t = true) : mt (starP :: l) (s ++ t) = true := by
  rw [mt_many rfl]; exact ⟨s.length, by simp, by simpa using h⟩
theorem mt_star_star (l : List Pc) (s : List UInt8) : mt (starP :: starP :: l) s = mt (starP :: l) s := by
  rw [Bool.eq_iff_iff, mt_many rfl, mt_many rfl]
  constructor
  · rintro ⟨j, hj, h⟩
    obtain ⟨i, hi, h2⟩ := (mt_many rfl).1 h
    rw [List.drop_drop] at h2
    simp at hi
    exact ⟨j + i, by omega, h2⟩
  · rintro ⟨j, hj, h⟩
    refine ⟨j, hj, ?_⟩
    rw [mt_many rfl]; exact ⟨0, Nat.zero_le _, by simpa using h⟩
theorem mt_congr_pre : ∀ (a l m : List Pc) (s : List UInt8), (∀ s, mt l s = mt m s) → mt (a ++ l) s = mt (a ++ m) s
  | [], l, m, s, h => h s
  | p :: a, l, m, s, h => by
    have ih := fun s => mt_congr_pre a l m s h
    simp only [List.cons_append, mt, ih]
theorem take_of_lits : ∀ (q u v : List UInt8), u.length = q.length → mt (lits q ++ [starP]) (u ++ v) = true → u = q
  | [], u, v, h, _ => List.eq_nil_of_length_eq_zero h
  | c :: q, [], v, h, _ => by simp at h
  | c :: q, d :: u, v, h, hm => by
    have h' : (Pc.fits ⟨c, false, false⟩ d && mt (lits q ++ [starP]) (u ++ v)) = true := hm
    rw [Bool.and_eq_true] at h'
    rw [take_of_lits q u v (by simpa using h) h'.2]
    have : c = d := by simpa [Pc.fits] using h'.1
    rw [this]
/-- a run of bytes that lies in a text, and the stars around -/
theorem mt_inside (q t : List UInt8) : mt (starP :: (lits q ++ [starP])) t = true ↔ ∃ a b, t = a ++ (q ++ b) := by
  rw [mt_many rfl]
  constructor
  · rintro ⟨j, hj, h⟩
    have he := mt_eats _ _ _ (lits_nostar q) h
    refine ⟨t.take j, (t.drop j).drop q.length, ?_⟩
    have hrun : (t.drop j).take q.length = q := by
      have h2 : mt (lits q ++ [starP]) ((t.drop j).take q.length ++ (t.drop j).drop q.length) = true := by rw [List.take_append_drop]; exact h
      exact take_of_lits q _ _ (by rw [lits_length] at he; simp; simp at he; omega) h2
    conv => lhs; rw [← List.take_append_drop j t, ← List.take_append_drop q.length (t.drop j), hrun]
  · rintro ⟨a, b, rfl⟩
    exact ⟨a.length, by simp, by simp only [List.drop_left]; rw [mt_lits_pre]; exact mt_star_all b⟩
/-- pieces of two patterns, one behind the other, when the first one does not end with a backslash -/
theorem pcsG_app : ∀ (x y : List UInt8) (f : Bool), (f = true → x ≠ []) → x.getLast? ≠ some 92 → pcsG f (x ++ y) = pcsG f x ++ pcsG false y
  | [], y, f, h, _ => by
    cases f with
    | false => rfl
    | true => exact absurd rfl (h rfl)
  | c :: x, y, false, _, hl => by
    by_cases hc : c = 92
    · subst hc
      have hx : x ≠ [] := by rintro rfl; simp at hl
      rw [List.cons_append, pcsG, if_pos rfl, pcsG, if_pos rfl]
      exact pcsG_app x y true (fun _ => hx) (by rw [List.getLast?_cons_of_ne_nil hx] at hl; exact hl)
    · rw [List.cons_append, pcsG, if_neg hc, pcsG, if_neg hc, List.cons_append]
      rw [pcsG_app x y false (fun h => by cases h) (by
        by_cases hx : x = []
        · subst hx; simp
        · rw [List.getLast?_cons_of_ne_nil hx] at hl; exact hl)]
  | c :: x, y, true, _, hl => by
    rw [List.cons_append, pcsG, pcsG, List.cons_append]
    rw [pcsG_app x y false (fun h => by cases h) (by
        by_cases hx : x = []
        · subst hx; simp
        · rw [List.getLast?_cons_of_ne_nil hx] at hl; exact hl)]
theorem sml_92 (c : UInt8) (h : sml c = 92) : c = 92 := by
  by_cases hc : 65 ≤ c.toNat ∧ c.toNat ≤ 90
  · have := sml_up c hc.1 hc.2
    rw [h] at this
    have h92 : (92 : UInt8).toNat = 92 := rfl
    omega
  · rwa [sml_no c hc] at h
theorem foldL_last (x : List UInt8) (h : x.getLast? ≠ some 92) : (foldL x).getLast? ≠ some 92 := by
  intro hh
  rw [foldL, List.getLast?_map] at hh
  cases hx : x.getLast? with
  | none => rw [hx] at hh; cases hh
  | some c =>
    rw [hx] at hh
    simp at hh
    exact h (by rw [hx, sml_92 c hh])
end Go.Proofs.Ytlghlcekakbmnaa
