/-
  DERIVED. No program: arguments that are slices of structs of strings, opened.
-/
import Derived.Test.YtdhepaeephmhiaaDoorOpen
import Derived.Deep.Slices
import Derived.Deep.Fields
import Derived.ChangeSame
namespace Go.Proofs.YtdhepaeephmhiaaDoor
open Go Go.Joins Go.Deep Go.ChangeShapes Go.WideShapes
section
variable {H : Type} {enc : TypeId × Value → H} {P : Program} {w : World} {base : Nat} {spare : Nat → Bool} {held : Bool}
/-- the text that lies at a place -/
def strAt (w : World) (a : Addr) : ByteArray := match w.cell? a with
  | some (.string s) => s
  | _ => ⟨#[]⟩
/-- 'the slice holds len rows of k texts' -/
def StrRows (w : World) (a : Option Addr) (len k : Nat) (x : Nat → Nat → ByteArray) : Prop :=
  ∀ i, i < len → ∃ b off, a = some ⟨b, off, none⟩ ∧ b < w.heap.size ∧ ∀ j, j < k → w.cell? ⟨b, off + (i * k + j), none⟩ = some (.string (x i j)) ∧ (x i j).size ≤ maxLen
/-- the cells of one struct of strings -/
theorem str_cells {e ts : TypeId} {fs : Array Field} {fuel : Nat} {cs : List Value} {x : DataW H × List MemPlace} (he : P.underlying e = some (.struct fs)) (hone : oneCellFields P fs = true)
    (hstr : P.underlying ts = some .string) (hall : ∀ (j : Nat) (f : Field), fs[j]? = some f → f.type = ts) (hcl : cs.length = fs.size) (h : DataW.trod enc P w base spare held fuel e cs = some x) (j : Nat) (hj : j < fs.size) :
    ∃ s : ByteArray, cs[j]? = some (.string s) ∧ s.size ≤ maxLen := by
  obtain ⟨ys, n, _, _, _, hyl, hf⟩ := DataW.trod_struct he h
  have hfj : fs[j]? = some fs[j] := Array.getElem?_eq_getElem hj
  obtain ⟨ho, hk⟩ := hone_of hone j _ hfj
  have h1 := hf j _ hfj
  rw [ho, hk, List.drop_eq_getElem_cons (by omega : j < cs.length), hall j _ hfj, List.getElem?_eq_getElem (by omega : j < ys.length)] at h1
  obtain ⟨s, hs, hz⟩ := str_of_trod hstr (show DataW.trod enc P w base spare held n ts [cs[j]'(by omega)] = _ from h1)
  exact ⟨s, by rw [List.getElem?_eq_getElem (by omega : j < cs.length), hs], hz⟩
theorem rows_open {t e ts : TypeId} {fs : Array Field} {a : Option Addr} {len cap : Nat} {d : DataW H} {p : List MemPlace} (ht : P.underlying t = some (.slice e)) (he : P.underlying e = some (.struct fs)) (hone : oneCellFields P fs = true) (hC : P.cellsOf e = fs.size)
    (hpos : 0 < fs.size) (hstr : P.underlying ts = some .string) (hall : ∀ (j : Nat) (f : Field), fs[j]? = some f → f.type = ts) (h : DataW.Trod enc P w base spare held t (.slice a len cap) d p) : ∃ x, StrRows w a len fs.size x ∧ len ≤ maxLen := by
  obtain ⟨fuel, hf⟩ := h
  rcases open_slice ht hf with ⟨hcs, _⟩ | ⟨x, l, c, m, n, D, Pl, hcs, hb, hl, hm, hmm, hx, hi⟩
  · simp [Value.cells] at hcs
    obtain ⟨rfl, rfl, rfl⟩ := hcs
    exact ⟨fun _ _ => ⟨#[]⟩, fun i hi => absurd hi (Nat.not_lt_zero i), Nat.zero_le _⟩
  · simp [Value.cells] at hcs
    obtain ⟨rfl, rfl, rfl⟩ := hcs
    have hlm : len ≤ m := by rw [hmm]; split <;> omega
    have hat : ∀ i j, i < len → j < fs.size → w.cell? (x.add (i * fs.size + j)) = some (.string (strAt w (x.add (i * fs.size + j)))) ∧ (strAt w (x.add (i * fs.size + j))).size ≤ maxLen := by
      intro i j h1 h2
      obtain ⟨cs', hc, ht'⟩ := hi i (by omega)
      rw [hC] at hc
      obtain ⟨_, hcl, hcat⟩ := World.cells?_some hc
      obtain ⟨s, hs, hz⟩ := str_cells he hone hstr hall (by omega) ht' j h2
      have hcell := hcat j h2
      rw [hs, Go.Deep.add_add] at hcell
      have : strAt w (x.add (i * fs.size + j)) = s := by unfold strAt; rw [hcell]
      rw [this]
      exact ⟨hcell, hz⟩
    obtain ⟨b, off, spot⟩ := x
    refine ⟨fun i j => strAt w (Addr.add ⟨b, off, spot⟩ (i * fs.size + j)), fun i h1 => ?_, Nat.le_trans hl hm⟩
    have h00 := (hat 0 0 (by omega) hpos).1
    rw [Nat.zero_mul] at h00
    have hspot : spot = none := by simpa [Addr.add] using World.cell?_spot h00
    subst hspot
    refine ⟨b, off, rfl, World.block_lt_of_cell? w ⟨b, off, none⟩ (by simpa [Addr.add] using h00), fun j hj => ?_⟩
    have := hat i j h1 hj
    rw [Addr.add_lit] at this
    show w.cell? ⟨b, off + (i * fs.size + j), none⟩ = some (.string (strAt w (Addr.add ⟨b, off, none⟩ (i * fs.size + j)))) ∧ (strAt w (Addr.add ⟨b, off, none⟩ (i * fs.size + j))).size ≤ maxLen
    rw [Addr.add_lit]
    exact this
end
end Go.Proofs.YtdhepaeephmhiaaDoor
