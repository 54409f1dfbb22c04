/-
  DERIVED. Plain laws: what is parsed may be.
-/
import Derived.Test.YtkchoempejdleaaDoorLetterTorn
namespace Go.Proofs.YtkchoempejdleaaDoor
open Go.RowKit

theorem crlf_tail {c : UInt8} {l : List UInt8} (h : sepL [13, 10] (c :: l) = none) : sepL [13, 10] l = none ∧ ¬ [13, 10].isPrefixOf (c :: l) = true := by
  have hp : ¬ [13, 10].isPrefixOf (c :: l) = true := by
    intro h2; rw [sepL, if_pos h2] at h; cases h
  refine ⟨?_, hp⟩
  rw [sepL, if_neg hp] at h
  cases hs : sepL [13, 10] l with
  | none => rfl
  | some q => rw [hs] at h; cases h
theorem crlf_drop : ∀ (l : List UInt8) (k : Nat), sepL [13, 10] l = none → sepL [13, 10] (l.drop k) = none
  | [], k, _ => by rw [List.drop_nil]; rfl
  | c :: l, 0, h => h
  | c :: l, k + 1, h => crlf_drop l k (crlf_tail h).1
theorem crlf_join : ∀ (x : List UInt8) (c : UInt8) (y : List UInt8), c ≠ 10 → sepL [13, 10] x = none → sepL [13, 10] (c :: y) = none → sepL [13, 10] (x ++ c :: y) = none
  | [], c, y, _, _, h => h
  | d :: x, c, y, hc, hx, hy => by
    obtain ⟨h1, hp⟩ := crlf_tail hx
    have hp2 : ¬ [13, 10].isPrefixOf (d :: (x ++ c :: y)) = true := by
      intro h2
      cases x with
      | nil =>
        simp [List.isPrefixOf] at h2
        exact hc h2.2.symm
      | cons e x => apply hp; simpa [List.isPrefixOf] using h2
    show sepL [13, 10] (d :: (x ++ c :: y)) = none
    rw [sepL, if_neg hp2, crlf_join x c y hc h1 hy]; rfl
/-- what stands ahead of the first line's end holds none -/
theorem sep_first : ∀ (l x r : List UInt8), sepL [13, 10] l = some (x, r) → sepL [13, 10] x = none
  | [], x, r, h => by cases h
  | c :: l, x, r, h => by
    by_cases hp : [13, 10].isPrefixOf (c :: l) = true
    · rw [sepL, if_pos hp] at h
      obtain ⟨rfl, _⟩ := Prod.mk.inj (Option.some.inj h)
      rfl
    · have hj := sep_join h
      rw [sepL, if_neg hp] at h
      cases hs : sepL [13, 10] l with
      | none => rw [hs] at h; cases h
      | some q =>
        obtain ⟨x', r'⟩ := q
        rw [hs] at h
        obtain ⟨rfl, rfl⟩ := Prod.mk.inj (Option.some.inj h)
        have ih := sep_first l x' r' hs
        have hp2 : ¬ [13, 10].isPrefixOf (c :: x') = true := by
          intro h2
          apply hp
          rw [hj]
          rw [List.isPrefixOf_iff_prefix] at h2 ⊢
          exact h2.trans (List.prefix_append _ _)
        show sepL [13, 10] (c :: x') = none
        rw [sepL, if_neg hp2, ih]; rfl
theorem trim_left_drop (l cs : List UInt8) : ∃ k, Lib.trimLeftS l cs = l.drop k := by
  unfold Lib.trimLeftS
  induction l with
  | nil => exact ⟨0, rfl⟩
  | cons a l ih =>
    rw [List.dropWhile_cons]
    split
    · obtain ⟨k, h⟩ := ih
      exact ⟨k + 1, h⟩
    · exact ⟨0, rfl⟩
theorem trim_right_take (l cs : List UInt8) : ∃ k, Lib.trimRightS l cs = l.take k := by
  obtain ⟨k, h⟩ := trim_left_drop l.reverse cs
  unfold Lib.trimLeftS at h
  unfold Lib.trimRightS
  rw [h]
  exact ⟨l.length - k, by rw [List.drop_reverse, List.reverse_reverse]⟩
theorem trim_infix (l : List UInt8) : ∃ i k, trimV l = (l.take i).drop k := by
  unfold trimV Lib.trimS
  obtain ⟨i, hi⟩ := trim_right_take l [32, 9]
  rw [hi]
  obtain ⟨k, hk⟩ := trim_left_drop (l.take i) [32, 9]
  exact ⟨i, k, hk⟩
theorem trim_len (l : List UInt8) : (trimV l).length ≤ l.length := by
  obtain ⟨i, k, h⟩ := trim_infix l
  rw [h, List.length_drop, List.length_take]; omega
theorem trim_crlf (l : List UInt8) (h : sepL [13, 10] l = none) : sepL [13, 10] (trimV l) = none := by
  obtain ⟨i, k, e⟩ := trim_infix l
  rw [e]
  exact crlf_drop _ _ (crlf_take _ _ h)
theorem head_drop (l : List UInt8) (p : UInt8 → Bool) : ∀ c, (l.dropWhile p).head? = some c → p c = false := by
  intro c h
  cases hd : l.dropWhile p with
  | nil => rw [hd] at h; cases h
  | cons a b =>
    rw [hd] at h
    obtain rfl := Option.some.inj h
    have := List.head_dropWhile_not p (l := l) (by rw [hd]; simp)
    simp only [hd, List.head_cons] at this
    simpa using this
theorem last_drop (l : List UInt8) (p : UInt8 → Bool) (c : UInt8) (h : (l.dropWhile p).getLast? = some c) : l.getLast? = some c := by
  have hs := List.dropWhile_suffix (l := l) p
  obtain ⟨t, ht⟩ := hs
  rw [← ht, List.getLast?_append, h]
  rfl
theorem trim_trim (l : List UInt8) : trimV (trimV l) = trimV l := by
  refine trim_id _ ?_ ?_
  · intro c hc
    unfold trimV Lib.trimS Lib.trimLeftS at hc
    have := head_drop _ _ c hc
    rw [blank_cut] at this
    exact this
  · intro c hc
    unfold trimV Lib.trimS Lib.trimLeftS at hc
    have h1 := last_drop _ _ c hc
    unfold Lib.trimRightS at h1
    rw [List.getLast?_reverse] at h1
    have := head_drop _ _ c h1
    rw [blank_cut] at this
    exact this
/-- a field as it was read -/
def Raw (f : Fld) : Prop := nameOK f.1 = true ∧ sepL [13, 10] f.2 = none
theorem raw_good (f : Fld) (h : Raw f) : Good (trimF f) := ⟨h.1, trim_crlf _ h.2, trim_trim _⟩
theorem showF_cons (f : Fld) (l : List Fld) : (showF (f :: l)).length = f.1.length + f.2.length + 4 + (showF l).length := by
  show (fieldL f ++ showF l).length = _
  rw [List.length_append]
  unfold fieldL
  simp only [List.length_append, List.length_cons, List.length_nil]
  omega
theorem showF_app (a b : List Fld) : (showF (a ++ b)).length = (showF a).length + (showF b).length := by
  unfold showF
  rw [List.flatMap_append, List.length_append]
theorem trimF_size : ∀ fs : List Fld, (showF (fs.map trimF)).length ≤ (showF fs).length
  | [] => Nat.le_refl _
  | f :: fs => by
    have ih := trimF_size fs
    have h1 := trim_len f.2
    rw [List.map_cons, showF_cons, showF_cons]
    show f.1.length + (trimV f.2).length + 4 + _ ≤ _
    omega
theorem updV_size (line : List UInt8) : ∀ (i : Nat) (fs : List Fld), (showF (updV (· ++ line) i fs)).length ≤ (showF fs).length + line.length
  | i, [] => by unfold updV; show 0 ≤ _; omega
  | 0, f :: fs => by
    show (showF ((f.1, f.2 ++ line) :: fs)).length ≤ _
    rw [showF_cons, showF_cons]
    simp only [List.length_append]
    omega
  | i + 1, f :: fs => by
    have := updV_size line i fs
    show (showF (f :: updV (· ++ line) i fs)).length ≤ _
    rw [showF_cons, showF_cons]
    omega
theorem updV_raw (line : List UInt8) (hl : ∀ v, sepL [13, 10] v = none → sepL [13, 10] (v ++ line) = none) : ∀ (i : Nat) (fs : List Fld), (∀ f ∈ fs, Raw f) → ∀ f ∈ updV (· ++ line) i fs, Raw f
  | i, [], h => by unfold updV; exact h
  | 0, f :: fs, h => by
    intro f' hf
    rcases List.mem_cons.1 hf with rfl | hf
    · have := h f (List.mem_cons_self ..)
      exact ⟨this.1, hl _ this.2⟩
    · exact h f' (List.mem_cons_of_mem _ hf)
  | i + 1, f :: fs, h => by
    intro f' hf
    rcases List.mem_cons.1 hf with rfl | hf
    · exact h f' (List.mem_cons_self ..)
    · exact updV_raw line hl i fs (fun g hg => h g (List.mem_cons_of_mem _ hg)) f' hf
theorem parse_inv : ∀ (k i : Nat) (fs : List Fld) (s : List UInt8), s.length < k → (∀ f ∈ fs, Raw f) → fs.length ≤ 30 → (showF fs).length + s.length ≤ 2000 + 4 * fs.length →
    ((parseP k i fs s).2.2 ≠ 0 → (parseP k i fs s).1 = ([], [])) ∧ ((parseP k i fs s).2.2 = 0 → (∀ f ∈ (parseP k i fs s).1.1, Good f) ∧ (parseP k i fs s).1.1.length ≤ 30 ∧ (showF (parseP k i fs s).1.1).length ≤ 2120 ∧ (parseP k i fs s).1.2.length ≤ 2120)
  | 0, i, fs, s, h, _, _, _ => absurd h (Nat.not_lt_zero _)
  | k + 1, i, fs, s, h, hr, hl, hz => by
    cases hs : sepL [13, 10] s with
    | none => rw [parseP, hs]; exact ⟨fun _ => rfl, fun h => by cases h⟩
    | some p =>
      obtain ⟨line, rest⟩ := p
      have hlen := sep_len hs
      have h2 : ([13, 10] : List UInt8).length = 2 := rfl
      rw [h2] at hlen
      have hcl := sep_first _ _ _ hs
      rw [parseP, hs]
      show ((if line.isEmpty then _ else _ : Parsed).2.2 ≠ 0 → _) ∧ _
      by_cases he : line.isEmpty = true
      · simp only [he, if_true]
        refine ⟨fun h => absurd rfl h, fun _ => ⟨?_, by simpa using hl, ?_, by omega⟩⟩
        · intro f hf
          obtain ⟨f0, h0, rfl⟩ := List.mem_map.1 hf
          exact raw_good f0 (hr f0 h0)
        · have := trimF_size fs
          show (showF (fs.map trimF)).length ≤ 2120
          omega
      · simp only [he]
        by_cases hb : (isBlank (line.headD 0) && decide (0 < fs.length)) = true
        · have hup := updV_size line (fs.length - 1) fs
          have hrw : ∀ v, sepL [13, 10] v = none → sepL [13, 10] (v ++ line) = none := by
            intro v hv
            cases line with
            | nil => exact absurd rfl he
            | cons c y =>
              refine crlf_join v c y ?_ hv hcl
              rintro rfl
              rw [Bool.and_eq_true] at hb
              exact absurd hb.1 (by show ¬ isBlank 10 = true; decide)
          have := parse_inv k (i + 1) (updV (· ++ line) (fs.length - 1) fs) rest (by omega) (updV_raw line hrw _ fs hr) (by rw [updV_length]; exact hl) (by rw [updV_length]; omega)
          simp only [hb, if_true]
          exact this
        · simp only [hb]
          cases h58 : sepL [58] line with
          | none => exact ⟨fun _ => rfl, fun h => by cases h⟩
          | some nv =>
            obtain ⟨n, v⟩ := nv
            have hl2 := sep_len h58
            have h3 : ([58] : List UInt8).length = 1 := rfl
            rw [h3] at hl2
            have hj := sep_join h58
            show ((if nameOK n then _ else _ : Parsed).2.2 ≠ 0 → _) ∧ _
            by_cases hn : nameOK n = true
            · simp only [hn, if_true]
              by_cases h30 : fs.length = 30
              · simp only [h30, if_true]
                exact ⟨fun _ => rfl, fun h => by cases h⟩
              · simp only [h30, if_false]
                have hv : sepL [13, 10] v = none := by
                  have : v = line.drop (n.length + 1) := by
                    rw [hj, List.drop_append]
                    simp
                  rw [this]
                  exact crlf_drop _ _ hcl
                refine parse_inv k (i + 1) (fs ++ [(n, v)]) rest (by omega) ?_ (by simp; omega) ?_
                · intro f hf
                  rcases List.mem_append.1 hf with h | h
                  · exact hr f h
                  · obtain rfl := List.mem_singleton.1 h
                    exact ⟨hn, hv⟩
                · rw [showF_app, showF_cons, List.length_append]
                  show _ + (n.length + v.length + 4 + 0) + _ ≤ 2000 + 4 * (fs.length + 1)
                  omega
            · simp only [hn]
              exact ⟨fun _ => rfl, fun h => by cases h⟩
end Go.Proofs.YtkchoempejdleaaDoor
