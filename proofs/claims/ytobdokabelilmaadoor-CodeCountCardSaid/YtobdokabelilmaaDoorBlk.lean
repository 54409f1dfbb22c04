/-
  DERIVED. Blocks of two strings in memory (an address).
-/
import Derived.Test.YtobdokabelilmaaDoorCheck
namespace Go.Proofs.YtobdokabelilmaaDoor
open Go.RowKit

/-- 'block b holds the strings x, y, and they may be written' -/
def Two (w : World) (b : Nat) (x y : ByteArray) : Prop :=
  w.cell? ⟨b, 0, none⟩ = some (.string x) ∧ w.cell? ⟨b, 1, none⟩ = some (.string y) ∧ w.frozen? ⟨b, 0, none⟩ = false ∧ w.frozen? ⟨b, 1, none⟩ = false ∧ b < w.heap.size
theorem Two.below {B : Nat} {w w' : World} {b : Nat} {x y : ByteArray} (h : Two w b x y) (hb : Below B w w') (hB : w.heap.size ≤ B) : Two w' b x y :=
  have hl : b < B := Nat.lt_of_lt_of_le h.2.2.2.2 hB
  ⟨moved h.1 hb hB, moved h.2.1 hb hB, (hb.frozen (p := ⟨b, 0, none⟩) hl).trans h.2.2.1, (hb.frozen (p := ⟨b, 1, none⟩) hl).trans h.2.2.2.1, Nat.lt_of_lt_of_le h.2.2.2.2 hb.size⟩
theorem Two.alloc (w : World) (x y : ByteArray) (t : TypeId) : Two (w.alloc (.cells #[.string x, .string y] t)) w.heap.size x y := by
  have hh : (w.alloc (.cells #[.string x, .string y] t (0, 0))).heap[w.heap.size]? = some (.cells #[.string x, .string y] t (0, 0)) := heap_alloc_new w _
  refine ⟨alloc_cell w _ t 0 _ rfl, alloc_cell w _ t 1 _ rfl, ?_, ?_, by simp⟩
  · simp only [World.frozen?, hh]; simp
  · simp only [World.frozen?, hh]; simp
theorem Two.set0 {w : World} {b : Nat} {x y : ByteArray} (h : Two w b x y) (x' : ByteArray) : Two (w.setCell ⟨b, 0, none⟩ (.string x')) b x' y :=
  ⟨World.cell?_setCell_same _ _ _ h.1, (World.cell?_setCell_other _ _ _ _ (by simp)).trans h.2.1, (World.frozen?_setCell ..).trans h.2.2.1, (World.frozen?_setCell ..).trans h.2.2.2.1, by have := h.2.2.2.2; simpa [World.setCell] using this⟩
theorem Two.set1 {w : World} {b : Nat} {x y : ByteArray} (h : Two w b x y) (y' : ByteArray) : Two (w.setCell ⟨b, 1, none⟩ (.string y')) b x y' :=
  ⟨(World.cell?_setCell_other _ _ _ _ (by simp)).trans h.1, World.cell?_setCell_same _ _ _ h.2.1, (World.frozen?_setCell ..).trans h.2.2.1, (World.frozen?_setCell ..).trans h.2.2.2.1, by have := h.2.2.2.2; simpa [World.setCell] using this⟩
theorem Two.set {w : World} {b : Nat} {x y : ByteArray} (h : Two w b x y) (x' y' : ByteArray) : Two ((w.setCell ⟨b, 0, none⟩ (.string x')).setCell ⟨b, 1, none⟩ (.string y')) b x' y' := (h.set0 x').set1 y'
/-- a store elsewhere -/
theorem Two.else0 {w : World} {b c i : Nat} {x y : ByteArray} (h : Two w b x y) (hc : b ≠ c) (v : Value) : Two (w.setCell ⟨c, i, none⟩ v) b x y :=
  ⟨(World.cell?_setCell_other _ _ _ _ (by intro e; exact hc (congrArg Addr.block e).symm)).trans h.1, (World.cell?_setCell_other _ _ _ _ (by intro e; exact hc (congrArg Addr.block e).symm)).trans h.2.1, (World.frozen?_setCell ..).trans h.2.2.1, (World.frozen?_setCell ..).trans h.2.2.2.1, by have := h.2.2.2.2; simpa [World.setCell] using this⟩
end Go.Proofs.YtobdokabelilmaaDoor
