/-
  DERIVED. No program: an argument that is a struct of raw numbers (five ints and a text), opened.
-/
import Derived.Test.YthllhakgcnfmcaaDoorRawOpen
namespace Go.Proofs.YthllhakgcnfmcaaDoor
open Go Go.Joins Go.Deep Go.ChangeShapes Go.WideShapes Go.RowKit
section
variable {H : Type} {enc : TypeId × Value → H} {P : Program} {w : World} {base : Nat} {spare : Nat → Bool} {held : Bool}
theorem chore_open {r : Reach} {b0 : Nat} {t ti ts : TypeId} {fs : Array Field} {v : Value} {d : DataW H} {p : List MemPlace} (he : P.underlying t = some (.struct fs)) (hone : oneCellFields P fs = true) (hC : P.cellsOf t = 6) (hfs : fs.size = 6)
    (hti : P.underlying ti = some (.int .i64)) (hts : P.underlying ts = some .string) (hall : ∀ (j : Nat) (f : Field), fs[j]? = some f → f.type = if j < 5 then ti else ts) (hv : Value.okWide P w r b0 t v) (h : DataW.Trod enc P w base spare held t v d p) :
    ∃ c : Raw, v = .agg #[.int .i64 c.kind, .int .i64 c.box, .int .i64 c.uid, .int .i64 c.flags, .int .i64 c.dest, .string c.text] ∧ RawOK c := by
  obtain ⟨cs, rfl, hsz⟩ := okWide_struct he hv
  obtain ⟨fuel, hf⟩ := h
  have hf' : DataW.trod enc P w base spare held fuel t cs.toList = some (d, p) := hf
  obtain ⟨c, hc, hok⟩ := chore_cells he hone hfs hti hts hall (by rw [Array.length_toList]; exact hsz.trans hC) hf'
  exact ⟨c, by rw [← Array.toArray_toList (xs := cs), hc], hok⟩
end
end Go.Proofs.YthllhakgcnfmcaaDoor
