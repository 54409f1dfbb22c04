/- On the way. -/
import Derived.Test.YtmkppkjikifdlaaGreatDoorTScCmds
import Derived.Deep.DeepCutAuto
import Derived.Deep.CutBlock
import Derived.Deep.RegionHeld3
import Derived.IntWalk
set_option linter.unusedVariables false
set_option linter.unusedSimpArgs false
namespace Go.Proofs.YtmkppkjikifdlaaGreatDoor.Sc
open Go.RowKit
open Tk (Tok)
def res12 : List Value := [.int .i64 0, .slice none 0 0, .int .i64 0, .int .i64 0, .int .i64 0, .slice none 0 0, .slice none 0 0, .bool false, .int .i64 0, .slice none 0 0, .slice none 0 0, .slice none 0 0]
def put12 (W : World) (R : Nat) (a0 a1 a2 a3 a4 a5 a6 a7 a8 a9 a10 a11 : Value) : World := ((((((((((((W.setCell ⟨R, 0, none⟩ a0).setCell ⟨R, 1, none⟩ a1).setCell ⟨R, 2, none⟩ a2).setCell ⟨R, 3, none⟩ a3).setCell ⟨R, 4, none⟩ a4).setCell ⟨R, 5, none⟩ a5).setCell ⟨R, 6, none⟩ a6).setCell ⟨R, 7, none⟩ a7).setCell ⟨R, 8, none⟩ a8).setCell ⟨R, 9, none⟩ a9).setCell ⟨R, 10, none⟩ a10).setCell ⟨R, 11, none⟩ a11)
theorem put12_has {W : World} {R : Nat} (h : Has W R res12) (a0 a1 a2 a3 a4 a5 a6 a7 a8 a9 a10 a11 : Value) : Has (put12 W R a0 a1 a2 a3 a4 a5 a6 a7 a8 a9 a10 a11) R [a0, a1, a2, a3, a4, a5, a6, a7, a8, a9, a10, a11] := by
 have h0 := h.set' (i := 0) a0 (by simp [res12])
 have h1 := h0.set' (i := 1) a1 (by simp [res12])
 have h2 := h1.set' (i := 2) a2 (by simp [res12])
 have h3 := h2.set' (i := 3) a3 (by simp [res12])
 have h4 := h3.set' (i := 4) a4 (by simp [res12])
 have h5 := h4.set' (i := 5) a5 (by simp [res12])
 have h6 := h5.set' (i := 6) a6 (by simp [res12])
 have h7 := h6.set' (i := 7) a7 (by simp [res12])
 have h8 := h7.set' (i := 8) a8 (by simp [res12])
 have h9 := h8.set' (i := 9) a9 (by simp [res12])
 have h10 := h9.set' (i := 10) a10 (by simp [res12])
 have h11 := h10.set' (i := 11) a11 (by simp [res12])
 exact h11
theorem put12_same {W : World} {R b : Nat} (hb : b ≠ R) (a0 a1 a2 a3 a4 a5 a6 a7 a8 a9 a10 a11 : Value) : (put12 W R a0 a1 a2 a3 a4 a5 a6 a7 a8 a9 a10 a11).heap[b]? = W.heap[b]? := by
 unfold put12
 rw [Below.heap_setCell _ _ _ _ hb, Below.heap_setCell _ _ _ _ hb, Below.heap_setCell _ _ _ _ hb, Below.heap_setCell _ _ _ _ hb, Below.heap_setCell _ _ _ _ hb, Below.heap_setCell _ _ _ _ hb, Below.heap_setCell _ _ _ _ hb, Below.heap_setCell _ _ _ _ hb, Below.heap_setCell _ _ _ _ hb, Below.heap_setCell _ _ _ _ hb, Below.heap_setCell _ _ _ _ hb, Below.heap_setCell _ _ _ _ hb]
theorem put12_size {W : World} {R : Nat} (a0 a1 a2 a3 a4 a5 a6 a7 a8 a9 a10 a11 : Value) : W.heap.size ≤ (put12 W R a0 a1 a2 a3 a4 a5 a6 a7 a8 a9 a10 a11).heap.size := by simp [put12, World.setCell]
end Go.Proofs.YtmkppkjikifdlaaGreatDoor.Sc
