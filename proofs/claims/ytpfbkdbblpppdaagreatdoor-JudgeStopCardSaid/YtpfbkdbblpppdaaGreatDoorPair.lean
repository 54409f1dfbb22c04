/-
  DERIVED. A block of two cells in memory (a message: its fields and its body).
-/
import Derived.Test.YtpfbkdbblpppdaaGreatDoorKit
import Derived.Test.YtpfbkdbblpppdaaGreatDoorBase
import Derived.Lib.BufferOwn
set_option linter.unusedVariables false
set_option linter.unusedSimpArgs false
namespace Go.Proofs.YtpfbkdbblpppdaaGreatDoor
open Go.RowKit

/-- 'block b holds u, v, and they may be written' -/
def Pair (w : World) (b : Nat) (u v : Value) : Prop :=
  w.cell? ⟨b, 0, none⟩ = some u ∧ w.cell? ⟨b, 1, none⟩ = some v ∧ w.frozen? ⟨b, 0, none⟩ = false ∧ w.frozen? ⟨b, 1, none⟩ = false ∧ b < w.heap.size
theorem Pair.below {B : Nat} {w w' : World} {b : Nat} {x y : Value} (h : Pair w b x y) (hb : Below B w w') (hB : b < B) : Pair w' b x y :=
  ⟨(hb.cell (p := ⟨b, 0, none⟩) hB).trans h.1, (hb.cell (p := ⟨b, 1, none⟩) hB).trans h.2.1, (hb.frozen (p := ⟨b, 0, none⟩) hB).trans h.2.2.1, (hb.frozen (p := ⟨b, 1, none⟩) hB).trans h.2.2.2.1, Nat.lt_of_lt_of_le h.2.2.2.2 hb.size⟩
theorem Pair.alloc (w : World) (x y : Value) (t : TypeId) : Pair (w.alloc (.cells #[x, y] t)) w.heap.size x y := by
  have hh : (w.alloc (.cells #[x, y] t (0, 0))).heap[w.heap.size]? = some (.cells #[x, y] t (0, 0)) := heap_alloc_new w _
  refine ⟨alloc_cell w _ t 0 _ rfl, alloc_cell w _ t 1 _ rfl, ?_, ?_, by simp⟩
  · simp only [World.frozen?, hh]; simp
  · simp only [World.frozen?, hh]; simp
theorem Pair.set0 {w : World} {b : Nat} {x y : Value} (h : Pair w b x y) (x' : Value) : Pair (w.setCell ⟨b, 0, none⟩ x') b x' y :=
  ⟨World.cell?_setCell_same _ _ _ h.1, (World.cell?_setCell_other _ _ _ _ (by simp)).trans h.2.1, (World.frozen?_setCell ..).trans h.2.2.1, (World.frozen?_setCell ..).trans h.2.2.2.1, by have := h.2.2.2.2; simpa [World.setCell] using this⟩
theorem Pair.set1 {w : World} {b : Nat} {x y : Value} (h : Pair w b x y) (y' : Value) : Pair (w.setCell ⟨b, 1, none⟩ y') b x y' :=
  ⟨(World.cell?_setCell_other _ _ _ _ (by simp)).trans h.1, World.cell?_setCell_same _ _ _ h.2.1, (World.frozen?_setCell ..).trans h.2.2.1, (World.frozen?_setCell ..).trans h.2.2.2.1, by have := h.2.2.2.2; simpa [World.setCell] using this⟩
theorem Pair.set {w : World} {b : Nat} {x y : Value} (h : Pair w b x y) (x' y' : Value) : Pair ((w.setCell ⟨b, 0, none⟩ x').setCell ⟨b, 1, none⟩ y') b x' y' := (h.set0 x').set1 y'
theorem Pair.else0 {w : World} {b c i : Nat} {x y : Value} (h : Pair w b x y) (hc : b ≠ c) (v : Value) : Pair (w.setCell ⟨c, i, none⟩ v) b x y :=
  ⟨(World.cell?_setCell_other _ _ _ _ (by intro e; exact hc (congrArg Addr.block e).symm)).trans h.1, (World.cell?_setCell_other _ _ _ _ (by intro e; exact hc (congrArg Addr.block e).symm)).trans h.2.1, (World.frozen?_setCell ..).trans h.2.2.1, (World.frozen?_setCell ..).trans h.2.2.2.1, by have := h.2.2.2.2; simpa [World.setCell] using this⟩
theorem Pair.kept {w w' : World} {b : Nat} {x y : Value} {o : Option Nat} (h : Pair w b x y) (g : w.grownBy w' o) (hb : some b ≠ o) : Pair w' b x y := by
  have hk := g.block b h.2.2.2.2 hb
  exact ⟨(World.cell?_of_block (w := w) (a := ⟨b, 0, none⟩) hk).trans h.1, (World.cell?_of_block (w := w) (a := ⟨b, 1, none⟩) hk).trans h.2.1, (World.frozen?_of_block (w := w) (a := ⟨b, 0, none⟩) hk).trans h.2.2.1, (World.frozen?_of_block (w := w) (a := ⟨b, 1, none⟩) hk).trans h.2.2.2.1, Nat.lt_of_lt_of_le h.2.2.2.2 g.size⟩
theorem row_base {w : World} {base base' e size n : Nat} {v : Value} {l : List Value} (hb : base' ≤ base) (h : w.ownsRow base e size v n l) : w.ownsRow base' e size v n l := by
  refine ⟨h.1, ?_⟩
  rcases h.2 with h | ⟨g, cap, cur, h1, h2, h3⟩
  · exact .inl h
  · exact .inr ⟨g, cap, cur, h1, Nat.le_trans hb h2, h3⟩
theorem row_down {w w' : World} {base e size n : Nat} {v : Value} {l : List Value} (h : w.ownsRow base e size v n l) (hb : Below w.heap.size w w') : w'.ownsRow base e size v n l :=
  h.kept (row := none) ⟨hb.os, hb.tape, hb.output, hb.size, fun k hk _ => hb.block k hk⟩ (by cases hv : v.ownBlock <;> simp)
theorem row_else {w : World} {base e size n b : Nat} {v : Value} {l : List Value} (h : w.ownsRow base e size v n l) (hb : b < base) (i : Nat) (u : Value) : (w.setCell ⟨b, i, none⟩ u).ownsRow base e size v n l :=
  h.kept (Go.Lib.grownBy_setB (World.grownBy.refl w (some b)) i u) (by
    cases hv : v.ownBlock with
    | none => exact .inl rfl
    | some k => exact .inr (by intro e; have := (h.lt k hv).1; have := Option.some.inj e; omega))
theorem row_off {w : World} {base e size n b : Nat} {v : Value} {l : List Value} (h : w.ownsRow base e size v n l) (hne : v.ownBlock ≠ some b) (i : Nat) (u : Value) : (w.setCell ⟨b, i, none⟩ u).ownsRow base e size v n l :=
  h.kept (Go.Lib.grownBy_setB (World.grownBy.refl w (some b)) i u) (.inr hne)
theorem row_apart {w : World} {base e size n b : Nat} {v : Value} {l : List Value} (h : w.ownsRow base e size v n l) (hb : b < base) : some b ≠ v.ownBlock := by
  intro e
  have := (h.lt b e.symm).1
  omega
theorem below_row {B : Nat} {w wr w' : World} {base e size n : Nat} {v : Value} {l : List Value} (hb : Below B w wr) (hB : B ≤ w.heap.size) (h : wr.ownsRow base e size v n l) (hbase : B ≤ base) (g : wr.grownBy w' v.ownBlock) : Below B w w' :=
  ⟨g.os.trans hb.os, g.tape.trans hb.tape, g.output.trans hb.output, Nat.le_trans hb.size g.size, fun k hk => (g.block k (Nat.lt_of_lt_of_le (Nat.lt_of_lt_of_le hk hB) hb.size) (row_apart h (Nat.lt_of_lt_of_le hk hbase))).trans (hb.block k hk)⟩
end Go.Proofs.YtpfbkdbblpppdaaGreatDoor
