/-
  DERIVED. 'atom' and 'dotted' of who: what each answers. The pieces between dots.
-/
import Derived.Test.YtobdokabelilmaaDoorBase
import Derived.Test.YtobdokabelilmaaDoorKit
import Derived.Test.YtobdokabelilmaaDoorShelf
import Derived.Lib.IndexLaws
import Derived.Lib.SplitLaws
namespace Go.Proofs.YtobdokabelilmaaDoor
open Go.RowKit

/-- the bytes of an atom beside letters and digits -/
def atomB : List UInt8 := [33, 35, 36, 37, 38, 39, 42, 43, 45, 47, 61, 63, 94, 95, 123, 124, 125, 126, 96]
def isAtom (c : UInt8) : Bool := (decide (97 ≤ c.toNat) && decide (c.toNat ≤ 122)) || (decide (65 ≤ c.toNat) && decide (c.toNat ≤ 90)) || (decide (48 ≤ c.toNat) && decide (c.toNat ≤ 57)) || atomB.contains c
theorem index_mem (l : List UInt8) (c : UInt8) : decide (0 ≤ Lib.indexByte l c) = l.contains c := by
  induction l with
  | nil => rfl
  | cons b l ih =>
    have hg := Lib.indexByte_ge l c
    rw [Lib.indexByte]
    by_cases h : b = c
    · subst h; simp
    · have hb : (b == c) = false := by simpa using h
      rw [if_neg (by rw [hb]; decide), List.contains_cons]
      have hc : (c == b) = false := by simpa using fun e => h e.symm
      rw [hc, Bool.false_or, ← ih]
      by_cases hm : Lib.indexByte l c = -1
      · rw [hm]; rfl
      · rw [if_neg (by simpa using hm)]
        have h1 : 0 ≤ Lib.indexByte l c := by omega
        have h2 : 0 ≤ Lib.indexByte l c + 1 := by omega
        rw [decide_eq_true h1, decide_eq_true h2]

set_option maxHeartbeats 1000000 in
theorem atom_any (c : UInt8) (w : World) :
    Calls Tryd.prog 97 #[.int .u8 (c.toNat : Int)] w fun e w' => e = .returned (.bool (isAtom c)) ∧ w = w' := by
  obtain ⟨n, hn⟩ : ∃ n, n = c.toNat := ⟨_, rfl⟩
  have hA : Hid (isAtom c = ((decide (97 ≤ n) && decide (n ≤ 122)) || (decide (65 ≤ n) && decide (n ≤ 90)) || (decide (48 ≤ n) && decide (n ≤ 57)) || atomB.contains c)) := by unfold Hid isAtom; rw [hn]
  have hI : Hid (∀ w, Calls Tryd.prog 99 #[.string ⟨#[33, 35, 36, 37, 38, 39, 42, 43, 45, 47, 61, 63, 94, 95, 123, 124, 125, 126, 96]⟩, .int .u8 (n : Int)] w fun e w' => ∃ z : Int, e = .returned (.int .i64 z) ∧ Hid (decide (0 ≤ z) = atomB.contains c) ∧ w = w') := by
    unfold Hid
    intro w
    refine (Tryd.strings_IndexByte _ _ w).mono ?_
    rintro e w' ⟨rfl, rfl⟩
    refine ⟨_, rfl, ?_, rfl⟩
    rw [hn, show ((c.toNat : Int)).toNat.toUInt8 = c by simp]
    exact index_mem atomB c
  rw [← hn]
  have hN := Lib.hid hn
  clear hn
  have hcase : (97 ≤ n ∧ n ≤ 122) ∨ (65 ≤ n ∧ n ≤ 90) ∨ (48 ≤ n ∧ n ≤ 57) ∨ n < 48 ∨ (57 < n ∧ n < 65) ∨ (90 < n ∧ n < 97) ∨ 122 < n := by omega
  go_enter Tryd.func97, Tryd.ntmps97
  rcases hcase with ⟨h1, h2⟩ | ⟨h1, h2⟩ | ⟨h1, h2⟩ | h1 | ⟨h1, h2⟩ | ⟨h1, h2⟩ | h1
  · go_wp2
    go_ret
    exact ⟨by rw [hA.out]; simp [h1, h2], rfl⟩
  · have h3 : n < 97 := by omega
    have h4 : ¬ 97 ≤ n := by omega
    go_wp2
    go_ret
    exact ⟨by rw [hA.out]; simp [h1, h2], rfl⟩
  · have h3 : n < 97 := by omega
    have h4 : n < 65 := by omega
    go_wp2
    go_ret
    exact ⟨by rw [hA.out]; simp [h1, h2], rfl⟩
  · have h3 : decide (97 ≤ n) = false := decide_eq_false (by omega)
    have h4 : decide (65 ≤ n) = false := decide_eq_false (by omega)
    have h5 : decide (48 ≤ n) = false := decide_eq_false (by omega)
    go_wp2_with (refine (hI.out _).mono ?_; rintro e w' ⟨z, rfl, hz, rfl⟩)
    go_ret
    exact ⟨by rw [hA.out, h3, h4, h5, ← hz.out]; simp; try omega, rfl⟩
  · have h3 : decide (97 ≤ n) = false := decide_eq_false (by omega)
    have h4 : decide (65 ≤ n) = false := decide_eq_false (by omega)
    have h5 : decide (n ≤ 57) = false := decide_eq_false (by omega)
    have h6 : 48 ≤ n := by omega
    go_wp2_with (refine (hI.out _).mono ?_; rintro e w' ⟨z, rfl, hz, rfl⟩)
    go_ret
    exact ⟨by rw [hA.out, h3, h4, h5, ← hz.out]; simp; try omega, rfl⟩
  · have h3 : decide (97 ≤ n) = false := decide_eq_false (by omega)
    have h4 : decide (n ≤ 90) = false := decide_eq_false (by omega)
    have h5 : decide (n ≤ 57) = false := decide_eq_false (by omega)
    have h6 : 48 ≤ n := by omega
    have h7 : 65 ≤ n := by omega
    go_wp2_with (refine (hI.out _).mono ?_; rintro e w' ⟨z, rfl, hz, rfl⟩)
    go_ret
    exact ⟨by rw [hA.out, h3, h4, h5, ← hz.out]; simp; try omega, rfl⟩
  · have h3 : decide (n ≤ 122) = false := decide_eq_false (by omega)
    have h4 : decide (n ≤ 90) = false := decide_eq_false (by omega)
    have h5 : decide (n ≤ 57) = false := decide_eq_false (by omega)
    have h6 : 48 ≤ n := by omega
    have h7 : 65 ≤ n := by omega
    have h8 : 97 ≤ n := by omega
    go_wp2_with (refine (hI.out _).mono ?_; rintro e w' ⟨z, rfl, hz, rfl⟩)
    go_ret
    exact ⟨by rw [hA.out, h3, h4, h5, ← hz.out]; simp; try omega, rfl⟩

/-- atoms with dots between; 'st': an atom is about to begin -/
def dotOK : Bool → List UInt8 → Bool
  | st, [] => !st
  | st, c :: l => if c = 46 then !st && dotOK true l else isAtom c && dotOK false l
def pieceOK (p : List UInt8) : Bool := !p.isEmpty && p.all isAtom

theorem index_eq (c : UInt8) (l : List UInt8) : Lib.index (c :: l) [c] = 0 := by rw [Lib.index]; simp [List.isPrefixOf]
theorem index_ne (b c : UInt8) (l : List UInt8) (h : b ≠ c) : Lib.index (b :: l) [c] = if Lib.index l [c] == -1 then -1 else Lib.index l [c] + 1 := by
  have hp : ([c] : List UInt8).isPrefixOf (b :: l) = false := by simp [List.isPrefixOf, Ne.symm h]
  rw [Lib.index, hp]; simp
theorem split_eq (c : UInt8) (l : List UInt8) : Lib.split (c :: l) [c] = [] :: Lib.split l [c] := by
  unfold Lib.split
  rw [Lib.count_cons_eq, Nat.add_comm, Lib.splitK, index_eq]
  rfl
theorem split_ne (b c : UInt8) (l : List UInt8) (h : b ≠ c) : ∃ p r, Lib.split l [c] = p :: r ∧ Lib.split (b :: l) [c] = (b :: p) :: r := by
  unfold Lib.split
  rw [Lib.count_cons_ne b c l h]
  cases hc : Lib.count l [c] with
  | zero => exact ⟨l, [], rfl, rfl⟩
  | succ k =>
    rw [Lib.splitK, Lib.splitK, index_ne b c l h]
    have hg := Lib.index_ge l [c]
    by_cases hm : Lib.index l [c] = -1
    · rw [hm]; exact ⟨l, [], rfl, rfl⟩
    · obtain ⟨j, hj⟩ : ∃ j : Nat, Lib.index l [c] = j := ⟨(Lib.index l [c]).toNat, by omega⟩
      rw [hj]
      have h1 : (((j : Int)) == -1) = false := beq_eq_false_iff_ne.2 (by omega)
      have h2 : (((j : Int) + 1) == -1) = false := beq_eq_false_iff_ne.2 (by omega)
      have h3 : ((j : Int) + 1).toNat = j + 1 := by omega
      simp only [h1, h2, h3, if_false, Bool.false_eq_true, Int.toNat_natCast, Nat.add_zero]
      exact ⟨_, _, rfl, rfl⟩
theorem split_dots : ∀ (l : List UInt8), ∃ p r, Lib.split l [46] = p :: r ∧ (p.all isAtom && r.all pieceOK) = dotOK false l ∧ (pieceOK p && r.all pieceOK) = dotOK true l
  | [] => ⟨[], [], rfl, rfl, rfl⟩
  | c :: l => by
    obtain ⟨p, r, hs, h1, h2⟩ := split_dots l
    by_cases h : c = 46
    · subst h
      refine ⟨[], Lib.split l [46], split_eq 46 l, ?_, ?_⟩
      · rw [dotOK, if_pos rfl, hs, List.all_cons, h2]; rfl
      · rw [dotOK, if_pos rfl]; rfl
    · obtain ⟨p', r', hs', he⟩ := split_ne c 46 l h
      rw [hs] at hs'
      obtain ⟨rfl, rfl⟩ := List.cons.inj hs'
      refine ⟨c :: p, r, he, ?_, ?_⟩
      · rw [dotOK, if_neg h, List.all_cons, Bool.and_assoc, h1]
      · rw [dotOK, if_neg h, pieceOK, List.all_cons, ← h1]; simp [Bool.and_assoc]
theorem dots_all (l : List UInt8) : (Lib.split l [46]).all pieceOK = dotOK true l := by
  obtain ⟨p, r, hs, _, h2⟩ := split_dots l
  rw [hs, List.all_cons, h2]
end Go.Proofs.YtobdokabelilmaaDoor
