/-
  DERIVED. No program: arguments that are structs of strings, opened.
-/
import Derived.Lib.SmallJoins
import Derived.OpenShut
set_option linter.unusedVariables false
set_option linter.unusedSimpArgs false
namespace Go.Proofs.YtpfbkdbblpppdaaGreatDoor
open Go Go.Joins Go.Deep Go.ChangeShapes Go.WideShapes
section
variable {H : Type} {enc : TypeId × Value → H} {P : Program} {w : World} {base : Nat} {spare : Nat → Bool} {held : Bool}
theorem str_of_trod {t : TypeId} {n : Nat} {v : Value} {y : DataW H × List MemPlace} (ht : P.underlying t = some .string) (h : DataW.trod enc P w base spare held n t [v] = some y) : ∃ s : ByteArray, v = .string s ∧ s.size ≤ maxLen := by
  obtain ⟨s, hs, _, hz⟩ := DataW.trod_string ht h
  exact ⟨s, by simpa using hs, hz⟩
theorem open_str2 {r : Reach} {b0 : Nat} {t ts : TypeId} {f0 f1 : Field} {v : Value} {d : DataW H} {p : List MemPlace} (hs : P.underlying t = some (.struct #[f0, f1])) (hone : oneCellFields P #[f0, f1] = true) (hC : P.cellsOf t = 2)
    (hstr : P.underlying ts = some .string) (e0 : f0.type = ts) (e1 : f1.type = ts)
    (hv : Value.okWide P w r b0 t v) (h : DataW.Trod enc P w base spare held t v d p) : ∃ x y : ByteArray, v = .agg #[.string x, .string y] ∧ x.size ≤ maxLen ∧ y.size ≤ maxLen := by
  obtain ⟨v0, v1, y0, y1, n, rfl, _, _, h0, h1⟩ := open_agg2 hs hone hC hv h
  rw [e0] at h0; rw [e1] at h1
  obtain ⟨x, rfl, hx⟩ := str_of_trod hstr h0
  obtain ⟨y, rfl, hy⟩ := str_of_trod hstr h1
  exact ⟨x, y, rfl, hx, hy⟩
theorem open_str3 {r : Reach} {b0 : Nat} {t ts : TypeId} {f0 f1 f2 : Field} {v : Value} {d : DataW H} {p : List MemPlace} (hs : P.underlying t = some (.struct #[f0, f1, f2])) (hone : oneCellFields P #[f0, f1, f2] = true) (hC : P.cellsOf t = 3)
    (hstr : P.underlying ts = some .string) (e0 : f0.type = ts) (e1 : f1.type = ts) (e2 : f2.type = ts)
    (hv : Value.okWide P w r b0 t v) (h : DataW.Trod enc P w base spare held t v d p) : ∃ x y z : ByteArray, v = .agg #[.string x, .string y, .string z] ∧ x.size ≤ maxLen ∧ y.size ≤ maxLen ∧ z.size ≤ maxLen := by
  obtain ⟨v0, v1, v2, y0, y1, y2, n, rfl, _, _, h0, h1, h2⟩ := open_agg3 hs hone hC hv h
  rw [e0] at h0; rw [e1] at h1; rw [e2] at h2
  obtain ⟨x, rfl, hx⟩ := str_of_trod hstr h0
  obtain ⟨y, rfl, hy⟩ := str_of_trod hstr h1
  obtain ⟨z, rfl, hz⟩ := str_of_trod hstr h2
  exact ⟨x, y, z, rfl, hx, hy, hz⟩
end
end Go.Proofs.YtpfbkdbblpppdaaGreatDoor
