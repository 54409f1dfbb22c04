/-
  DERIVED. A block of so many cells in memory that may be written.
-/
import Derived.Test.YtpfbkdbblpppdaaGreatDoorKit
import Derived.Test.YtpfbkdbblpppdaaGreatDoorBase
import Derived.Lib.BufferOwn
set_option linter.unusedVariables false
set_option linter.unusedSimpArgs false
namespace Go.Proofs.YtpfbkdbblpppdaaGreatDoor
open Go.RowKit

/-- 'block b holds the values vs, and they may be written' -/
def Has (w : World) (b : Nat) (vs : List Value) : Prop :=
  (∀ i v, vs[i]? = some v → w.cell? ⟨b, i, none⟩ = some v) ∧ (∀ i, i < vs.length → w.frozen? ⟨b, i, none⟩ = false) ∧ b < w.heap.size
theorem Has.alloc (w : World) (vs : List Value) (t : TypeId) : Has (w.alloc (.cells vs.toArray t)) w.heap.size vs := by
  have hh : (w.alloc (.cells vs.toArray t (0, 0))).heap[w.heap.size]? = some (.cells vs.toArray t (0, 0)) := heap_alloc_new w _
  refine ⟨fun i v h => alloc_cell w _ t i _ (by simpa using h), fun i h => ?_, by simp⟩
  simp only [World.frozen?, hh]; simp
theorem Has.down {w w' : World} {b : Nat} {vs : List Value} (h : Has w b vs) (hb : Below w.heap.size w w') : Has w' b vs :=
  ⟨fun i v hv => moved (h.1 i v hv) hb (Nat.le_refl _), fun i hi => (hb.frozen (p := ⟨b, i, none⟩) h.2.2).trans (h.2.1 i hi), Nat.lt_of_lt_of_le h.2.2 hb.size⟩
theorem Has.below {B : Nat} {w w' : World} {b : Nat} {vs : List Value} (h : Has w b vs) (hb : Below B w w') (hB : b < B) : Has w' b vs :=
  ⟨fun i v hv => (hb.cell (p := ⟨b, i, none⟩) hB).trans (h.1 i v hv), fun i hi => (hb.frozen (p := ⟨b, i, none⟩) hB).trans (h.2.1 i hi), Nat.lt_of_lt_of_le h.2.2 hb.size⟩
theorem Has.kept {w w' : World} {b : Nat} {vs : List Value} {o : Option Nat} (h : Has w b vs) (g : w.grownBy w' o) (hb : some b ≠ o) : Has w' b vs := by
  have hk := g.block b h.2.2 hb
  exact ⟨fun i v hv => (World.cell?_of_block (w := w) (a := ⟨b, i, none⟩) hk).trans (h.1 i v hv), fun i hi => (World.frozen?_of_block (w := w) (a := ⟨b, i, none⟩) hk).trans (h.2.1 i hi), Nat.lt_of_lt_of_le h.2.2 g.size⟩
theorem Has.else' {w : World} {b c i : Nat} {vs : List Value} (h : Has w b vs) (hc : b ≠ c) (u : Value) : Has (w.setCell ⟨c, i, none⟩ u) b vs :=
  ⟨fun j v hv => (World.cell?_setCell_other _ _ _ _ (by intro e; exact hc (congrArg Addr.block e).symm)).trans (h.1 j v hv), fun j hj => (World.frozen?_setCell ..).trans (h.2.1 j hj), by have := h.2.2; simpa [World.setCell] using this⟩
theorem Has.set' {w : World} {b i : Nat} {vs : List Value} (h : Has w b vs) (u : Value) (hi : i < vs.length) : Has (w.setCell ⟨b, i, none⟩ u) b (vs.set i u) := by
  refine ⟨fun j v hv => ?_, fun j hj => (World.frozen?_setCell ..).trans (h.2.1 j (by simpa using hj)), by have := h.2.2; simpa [World.setCell] using this⟩
  by_cases e : j = i
  · subst e
    rw [List.getElem?_set_self hi] at hv
    obtain rfl := Option.some.inj hv
    exact World.cell?_setCell_same _ _ _ (h.1 j _ (List.getElem?_eq_getElem hi))
  · rw [List.getElem?_set_ne (fun e2 => e e2.symm)] at hv
    exact (World.cell?_setCell_other _ _ _ _ (by intro e2; exact e (congrArg Addr.off e2).symm)).trans (h.1 j v hv)
theorem Has.two {w : World} {b : Nat} {a0 a1 : Value} (h : Has w b [a0, a1]) : w.cell? ⟨b, 0, none⟩ = some a0 ∧ w.cell? ⟨b, 1, none⟩ = some a1 ∧ w.frozen? ⟨b, 0, none⟩ = false ∧ w.frozen? ⟨b, 1, none⟩ = false :=
  ⟨h.1 0 _ rfl, h.1 1 _ rfl, h.2.1 0 (by simp), h.2.1 1 (by simp)⟩
theorem Has.six {w : World} {b : Nat} {a0 a1 a2 a3 a4 a5 : Value} (h : Has w b [a0, a1, a2, a3, a4, a5]) :
    w.cell? ⟨b, 0, none⟩ = some a0 ∧ w.cell? ⟨b, 1, none⟩ = some a1 ∧ w.cell? ⟨b, 2, none⟩ = some a2 ∧ w.cell? ⟨b, 3, none⟩ = some a3 ∧ w.cell? ⟨b, 4, none⟩ = some a4 ∧ w.cell? ⟨b, 5, none⟩ = some a5 :=
  ⟨h.1 0 _ rfl, h.1 1 _ rfl, h.1 2 _ rfl, h.1 3 _ rfl, h.1 4 _ rfl, h.1 5 _ rfl⟩
theorem Has.six_free {w : World} {b : Nat} {a0 a1 a2 a3 a4 a5 : Value} (h : Has w b [a0, a1, a2, a3, a4, a5]) :
    w.frozen? ⟨b, 0, none⟩ = false ∧ w.frozen? ⟨b, 1, none⟩ = false ∧ w.frozen? ⟨b, 2, none⟩ = false ∧ w.frozen? ⟨b, 3, none⟩ = false ∧ w.frozen? ⟨b, 4, none⟩ = false ∧ w.frozen? ⟨b, 5, none⟩ = false :=
  ⟨h.2.1 0 (by simp), h.2.1 1 (by simp), h.2.1 2 (by simp), h.2.1 3 (by simp), h.2.1 4 (by simp), h.2.1 5 (by simp)⟩
theorem news_of (w : World) (cs : List Value) (t : TypeId) : ∀ j u, cs[j]? = some u → (w.alloc (.cells cs.toArray t)).cell? (Addr.add ⟨w.heap.size, 0, none⟩ j) = some u := by
  intro j u hj
  rw [Addr.add_lit, Nat.zero_add]
  exact (Has.alloc w cs t).1 j u hj
end Go.Proofs.YtpfbkdbblpppdaaGreatDoor
