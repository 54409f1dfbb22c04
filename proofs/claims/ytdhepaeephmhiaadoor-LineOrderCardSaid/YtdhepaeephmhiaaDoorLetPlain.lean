/-
  DERIVED. No program: what a message's text is parsed to, in plain words.
-/
import Derived.Lib.IndexMore
import Derived.Lib.SlTrimSet
import Derived.Lib.IndexBytes
namespace Go.Proofs.YtdhepaeephmhiaaDoor
open Go

/-- split at the first 'sep' -/
def sepL (sep : List UInt8) : List UInt8 → Option (List UInt8 × List UInt8)
  | [] => none
  | c :: l => if sep.isPrefixOf (c :: l) then some ([], (c :: l).drop sep.length) else (sepL sep l).map fun p => (c :: p.1, p.2)
theorem sep_index (sep : List UInt8) (hne : sep ≠ []) : ∀ l, (sepL sep l = none ∧ Lib.index l sep = -1) ∨ (∃ i : Nat, Lib.index l sep = i ∧ sepL sep l = some (l.take i, l.drop (i + sep.length)))
  | [] => by
    left
    refine ⟨rfl, ?_⟩
    cases sep with
    | nil => exact absurd rfl hne
    | cons a t => rfl
  | c :: l => by
    by_cases hp : sep.isPrefixOf (c :: l) = true
    · right
      refine ⟨0, ?_, ?_⟩
      · unfold Lib.index; rw [if_pos hp]; rfl
      · rw [sepL, if_pos hp, Nat.zero_add]; rfl
    · rcases sep_index sep hne l with ⟨h1, h2⟩ | ⟨i, h1, h2⟩
      · left
        refine ⟨by rw [sepL, if_neg hp, h1]; rfl, ?_⟩
        unfold Lib.index; rw [if_neg hp, h2]; rfl
      · right
        refine ⟨i + 1, ?_, ?_⟩
        · unfold Lib.index
          rw [if_neg hp, h1, if_neg (by rw [beq_iff_eq]; omega)]
          omega
        · rw [sepL, if_neg hp, h2, show i + 1 + sep.length = (i + sep.length) + 1 by omega]
          rfl
theorem cut_sep (sep l : List UInt8) (hne : sep ≠ []) : Lib.cut l sep = match sepL sep l with | some p => (p.1, p.2, true) | none => (l, [], false) := by
  unfold Lib.cut
  rcases sep_index sep hne l with ⟨h1, h2⟩ | ⟨i, h1, h2⟩
  · rw [h1, h2, if_neg (by omega)]
  · rw [h1, h2, if_pos (by omega)]
    simp
theorem cut_some {sep l x r : List UInt8} (hne : sep ≠ []) (h : sepL sep l = some (x, r)) : Lib.cut l sep = (x, r, true) := by rw [cut_sep sep l hne, h]
theorem cut_none {sep l : List UInt8} (hne : sep ≠ []) (h : sepL sep l = none) : Lib.cut l sep = (l, [], false) := by rw [cut_sep sep l hne, h]
theorem contains_sep (sep l : List UInt8) (hne : sep ≠ []) : Lib.contains l sep = (sepL sep l).isSome := by
  unfold Lib.contains
  rcases sep_index sep hne l with ⟨h1, h2⟩ | ⟨i, h1, h2⟩
  · rw [h1, h2]; rfl
  · rw [h1, h2]; simp
theorem sep_join {sep : List UInt8} : ∀ {l x r : List UInt8}, sepL sep l = some (x, r) → l = x ++ (sep ++ r)
  | [], x, r, h => by cases h
  | c :: l, x, r, h => by
    by_cases hp : sep.isPrefixOf (c :: l) = true
    · rw [sepL, if_pos hp] at h
      obtain ⟨rfl, rfl⟩ := Prod.mk.inj (Option.some.inj h)
      have := List.prefix_iff_eq_append.1 (List.isPrefixOf_iff_prefix.1 hp)
      exact this.symm
    · rw [sepL, if_neg hp] at h
      cases hs : sepL sep l with
      | none => rw [hs] at h; cases h
      | some p =>
        obtain ⟨x', r'⟩ := p
        rw [hs] at h
        obtain ⟨rfl, rfl⟩ := Prod.mk.inj (Option.some.inj h)
        rw [sep_join hs]; rfl
theorem sep_len {sep l x r : List UInt8} (h : sepL sep l = some (x, r)) : l.length = x.length + sep.length + r.length := by
  rw [sep_join h]; simp only [List.length_append]; omega
/-- a text with no line's end in it, and one behind it -/
theorem sep_crlf : ∀ (x r : List UInt8), sepL [13, 10] x = none → sepL [13, 10] (x ++ 13 :: 10 :: r) = some (x, r)
  | [], r, _ => rfl
  | c :: x, r, h => by
    by_cases hp : [13, 10].isPrefixOf (c :: x) = true
    · rw [sepL, if_pos hp] at h; cases h
    · have h2 : sepL [13, 10] x = none := by
        rw [sepL, if_neg hp] at h
        cases hs : sepL [13, 10] x with
        | none => rfl
        | some p => rw [hs] at h; cases h
      have hp2 : ¬ [13, 10].isPrefixOf (c :: (x ++ 13 :: 10 :: r)) = true := by
        intro h3
        cases x with
        | nil => simp [List.isPrefixOf] at h3
        | cons d x =>
          apply hp
          simpa [List.isPrefixOf] using h3
      show sepL [13, 10] (c :: (x ++ 13 :: 10 :: r)) = _
      rw [sepL, if_neg hp2, sep_crlf x r h2]
      rfl
theorem sep_byte (c : UInt8) : ∀ (x r : List UInt8), c ∉ x → sepL [c] (x ++ c :: r) = some (x, r)
  | [], r, _ => by
    show sepL [c] (c :: r) = _
    rw [sepL, if_pos (by simp [List.isPrefixOf])]; rfl
  | d :: x, r, h => by
    have hd : ¬ [c].isPrefixOf (d :: (x ++ c :: r)) = true := by
      simp [List.isPrefixOf]
      intro e; exact h (by rw [e]; exact List.mem_cons_self ..)
    show sepL [c] (d :: (x ++ c :: r)) = _
    rw [sepL, if_neg hd, sep_byte c x r (fun e => h (List.mem_cons_of_mem _ e))]
    rfl
theorem sep_byte_none (c : UInt8) : ∀ (x : List UInt8), c ∉ x → sepL [c] x = none
  | [], _ => rfl
  | d :: x, h => by
    have hd : ¬ [c].isPrefixOf (d :: x) = true := by
      simp [List.isPrefixOf]
      intro e; exact h (by rw [e]; exact List.mem_cons_self ..)
    rw [sepL, if_neg hd, sep_byte_none c x (fun e => h (List.mem_cons_of_mem _ e))]
    rfl

/-- may it be a field's name? -/
def nameOK (l : List UInt8) : Bool := l.all (fun c => !(decide (c < 33) || decide (126 < c) || c == 58)) && !l.isEmpty
def isBlank (c : UInt8) : Bool := c == 32 || c == 9
def trimV (l : List UInt8) : List UInt8 := Lib.trimS l [32, 9]
abbrev Fld := List UInt8 × List UInt8
/-- a value is turned -/
def updV (g : List UInt8 → List UInt8) : Nat → List Fld → List Fld
  | _, [] => []
  | 0, f :: l => (f.1, g f.2) :: l
  | i + 1, f :: l => f :: updV g i l
theorem updV_length (g : List UInt8 → List UInt8) : ∀ (i : Nat) (l : List Fld), (updV g i l).length = l.length
  | _, [] => by unfold updV; rfl
  | 0, f :: l => rfl
  | i + 1, f :: l => by show (updV g i l).length + 1 = l.length + 1; rw [updV_length g i l]
theorem upd_mem (g : List UInt8 → List UInt8) : ∀ (i : Nat) (l : List Fld) (f : Fld), f ∈ updV g i l → f ∈ l ∨ ∃ f0 ∈ l, f.2 = g f0.2
  | _, [], f, h => by unfold updV at h; exact .inl h
  | 0, a :: l, f, h => by
    rcases List.mem_cons.1 h with rfl | h
    · exact .inr ⟨a, List.mem_cons_self .., rfl⟩
    · exact .inl (List.mem_cons_of_mem _ h)
  | i + 1, a :: l, f, h => by
    rcases List.mem_cons.1 h with rfl | h
    · exact .inl (List.mem_cons_self ..)
    · rcases upd_mem g i l f h with h | ⟨f0, h, h2⟩
      · exact .inl (List.mem_cons_of_mem _ h)
      · exact .inr ⟨f0, List.mem_cons_of_mem _ h, h2⟩
def trimF (f : Fld) : Fld := (f.1, trimV f.2)
theorem upd_trim : ∀ (i : Nat) (l : List Fld), i < l.length → updV trimV i ((l.take i).map trimF ++ l.drop i) = (l.take (i + 1)).map trimF ++ l.drop (i + 1)
  | _, [], h => absurd h (Nat.not_lt_zero _)
  | 0, f :: l, _ => rfl
  | i + 1, f :: l, h => by
    show trimF f :: updV trimV i ((l.take i).map trimF ++ l.drop i) = trimF f :: ((l.take (i + 1)).map trimF ++ l.drop (i + 1))
    rw [upd_trim i l (Nat.lt_of_succ_lt_succ h)]
/-- what Parse answers: the fields and the body, the place, the error's number -/
abbrev Parsed := (List Fld × List UInt8) × Nat × Nat
def parseP : Nat → Nat → List Fld → List UInt8 → Parsed
  | 0, _, _, _ => (([], []), 0, 4)
  | k + 1, i, fs, s =>
    match sepL [13, 10] s with
    | none => (([], []), i, 4)
    | some (line, rest) =>
      if line.isEmpty then ((fs.map trimF, rest), 0, 0)
      else if isBlank (line.headD 0) && decide (0 < fs.length) then parseP k (i + 1) (updV (· ++ line) (fs.length - 1) fs) rest
      else match sepL [58] line with
        | none => (([], []), i, 3)
        | some (n, v) => if nameOK n then (if fs.length = 30 then (([], []), i, 5) else parseP k (i + 1) (fs ++ [(n, v)]) rest) else (([], []), i, 3)
theorem parseP_fuel : ∀ (k k' i : Nat) (fs : List Fld) (s : List UInt8), s.length < k → s.length < k' → parseP k i fs s = parseP k' i fs s
  | 0, _, _, _, s, h, _ => absurd h (Nat.not_lt_zero _)
  | _ + 1, 0, _, _, s, _, h => absurd h (Nat.not_lt_zero _)
  | k + 1, k' + 1, i, fs, s, h, h' => by
    rw [parseP, parseP]
    cases hs : sepL [13, 10] s with
    | none => rfl
    | some p =>
      obtain ⟨line, rest⟩ := p
      have hl := sep_len hs
      have h2 : ([13, 10] : List UInt8).length = 2 := rfl
      rw [h2] at hl
      show (if line.isEmpty then _ else _) = (if line.isEmpty then _ else _)
      split
      · rfl
      · split
        · exact parseP_fuel k k' _ _ rest (by omega) (by omega)
        · cases sepL [58] line with
          | none => rfl
          | some nv =>
            obtain ⟨n, v⟩ := nv
            show (if nameOK n then _ else _) = (if nameOK n then _ else _)
            split
            · split
              · rfl
              · exact parseP_fuel k k' _ _ rest (by omega) (by omega)
            · rfl
def parseL (i : Nat) (fs : List Fld) (s : List UInt8) : Parsed := parseP (s.length + 1) i fs s
theorem parse_short {i : Nat} {fs : List Fld} {s : List UInt8} (h : sepL [13, 10] s = none) : parseL i fs s = (([], []), i, 4) := by
  unfold parseL; rw [parseP, h]
theorem parse_end {i : Nat} {fs : List Fld} {s rest : List UInt8} (h : sepL [13, 10] s = some ([], rest)) : parseL i fs s = ((fs.map trimF, rest), 0, 0) := by
  unfold parseL; rw [parseP, h]; rfl
theorem parse_fold {i : Nat} {fs : List Fld} {s line rest : List UInt8} (h : sepL [13, 10] s = some (line, rest)) (h1 : line.isEmpty = false) (h2 : (isBlank (line.headD 0) && decide (0 < fs.length)) = true) :
    parseL i fs s = parseL (i + 1) (updV (· ++ line) (fs.length - 1) fs) rest := by
  have hl := sep_len h
  have h3 : ([13, 10] : List UInt8).length = 2 := rfl
  rw [h3] at hl
  unfold parseL; rw [parseP, h]
  show (if line.isEmpty then _ else if _ then _ else _) = _
  rw [h1, h2]
  exact parseP_fuel _ _ _ _ rest (by omega) (by omega)
theorem parse_nocolon {i : Nat} {fs : List Fld} {s line rest : List UInt8} (h : sepL [13, 10] s = some (line, rest)) (h1 : line.isEmpty = false) (h2 : (isBlank (line.headD 0) && decide (0 < fs.length)) = false) (h3 : sepL [58] line = none) :
    parseL i fs s = (([], []), i, 3) := by
  unfold parseL; rw [parseP, h]
  show (if line.isEmpty then _ else if _ then _ else _) = _
  rw [h1, h2, h3]
  rfl
theorem parse_bad {i : Nat} {fs : List Fld} {s line rest n v : List UInt8} (h : sepL [13, 10] s = some (line, rest)) (h1 : line.isEmpty = false) (h2 : (isBlank (line.headD 0) && decide (0 < fs.length)) = false) (h3 : sepL [58] line = some (n, v)) (h4 : nameOK n = false) :
    parseL i fs s = (([], []), i, 3) := by
  unfold parseL; rw [parseP, h]
  show (if line.isEmpty then _ else if _ then _ else _) = _
  rw [h1, h2, h3]
  show (if nameOK n then _ else _) = _
  rw [h4]
  rfl
theorem parse_full {i : Nat} {fs : List Fld} {s line rest n v : List UInt8} (h : sepL [13, 10] s = some (line, rest)) (h1 : line.isEmpty = false) (h2 : (isBlank (line.headD 0) && decide (0 < fs.length)) = false) (h3 : sepL [58] line = some (n, v)) (h4 : nameOK n = true) (h5 : fs.length = 30) :
    parseL i fs s = (([], []), i, 5) := by
  unfold parseL; rw [parseP, h]
  show (if line.isEmpty then _ else if _ then _ else _) = _
  rw [h1, h2, h3]
  show (if nameOK n then (if fs.length = 30 then _ else _) else _) = _
  rw [h4, if_pos h5]
  rfl
theorem parse_field {i : Nat} {fs : List Fld} {s line rest n v : List UInt8} (h : sepL [13, 10] s = some (line, rest)) (h1 : line.isEmpty = false) (h2 : (isBlank (line.headD 0) && decide (0 < fs.length)) = false) (h3 : sepL [58] line = some (n, v)) (h4 : nameOK n = true) (h5 : fs.length ≠ 30) :
    parseL i fs s = parseL (i + 1) (fs ++ [(n, v)]) rest := by
  have hl := sep_len h
  have h6 : ([13, 10] : List UInt8).length = 2 := rfl
  rw [h6] at hl
  unfold parseL; rw [parseP, h]
  show (if line.isEmpty then _ else if _ then _ else _) = _
  rw [h1, h2, h3]
  show (if nameOK n then (if fs.length = 30 then _ else _) else _) = _
  rw [h4, if_neg h5]
  exact parseP_fuel _ _ _ _ rest (by omega) (by omega)
/-- the cells of fields -/
def fcells (l : List Fld) : List Value := l.flatMap fun f => [.string ⟨f.1.toArray⟩, .string ⟨f.2.toArray⟩]
theorem fcells_cons (f : Fld) (l : List Fld) : fcells (f :: l) = .string ⟨f.1.toArray⟩ :: .string ⟨f.2.toArray⟩ :: fcells l := rfl
theorem fcells_length (l : List Fld) : (fcells l).length = l.length * 2 := by
  induction l with
  | nil => rfl
  | cons a l ih => rw [fcells_cons]; simp only [List.length_cons]; omega
theorem fcells_snoc (l : List Fld) (a : Fld) : fcells (l ++ [a]) = fcells l ++ [.string ⟨a.1.toArray⟩, .string ⟨a.2.toArray⟩] := by simp [fcells]
theorem fcells_at : ∀ (l : List Fld) (i : Nat) (f : Fld), l[i]? = some f → (fcells l)[i * 2]? = some (.string ⟨f.1.toArray⟩) ∧ (fcells l)[i * 2 + 1]? = some (.string ⟨f.2.toArray⟩)
  | [], i, f, h => by simp at h
  | a :: l, 0, f, h => by obtain rfl : a = f := by simpa using h
                          exact ⟨rfl, rfl⟩
  | a :: l, i + 1, f, h => by
    have := fcells_at l i f (by simpa using h)
    rw [fcells_cons, show (i + 1) * 2 = i * 2 + 1 + 1 by omega]
    exact this
theorem fcells_upd (g : List UInt8 → List UInt8) : ∀ (i : Nat) (l : List Fld) (f : Fld), l[i]? = some f → fcells (updV g i l) = (fcells l).set (i * 2 + 1) (.string ⟨(g f.2).toArray⟩)
  | i, [], f, h => by simp at h
  | 0, a :: l, f, h => by obtain rfl : a = f := by simpa using h
                          rfl
  | i + 1, a :: l, f, h => by
    have := fcells_upd g i l f (by simpa using h)
    show fcells (a :: updV g i l) = _
    rw [fcells_cons, fcells_cons, this, show (i + 1) * 2 + 1 = (i * 2 + 1) + 1 + 1 by omega]
    rfl
end Go.Proofs.YtdhepaeephmhiaaDoor
