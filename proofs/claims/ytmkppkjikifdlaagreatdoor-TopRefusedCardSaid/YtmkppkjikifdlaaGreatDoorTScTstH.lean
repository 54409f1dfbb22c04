/- On the way. -/
import Derived.Test.YtmkppkjikifdlaaGreatDoorTScTest
set_option linter.unusedVariables false
set_option linter.unusedSimpArgs false
namespace Go.Proofs.YtmkppkjikifdlaaGreatDoor.Sc
open Go.RowKit
open Tk (Tok)
theorem sat_str {w : World} {F : Dom} {b : Nat} {s : Str} (h : Has w b [.string ⟨s.toArray⟩]) (hF : F b) : SAt cStr w F (.slice (some ⟨b, 0, none⟩) 1 1) [s] := by
 refine ⟨_, 1, rfl, Nat.le_refl _, fun i y hi => ?_⟩
 have h0 : i = 0 := by have := (List.getElem?_eq_some_iff.1 hi).1; simp at this; omega
 subst h0
 obtain rfl : s = y := Option.some.inj hi
 exact ⟨b, 0, rfl, hF, h.2.2, strC s, rfl, fun j u hj => by simpa using h.1 j u hj⟩
def strs (l : List Str) : List Value := l.map fun s => .string ⟨s.toArray⟩
theorem info_str : (Tryz.prog.info? 9).map (fun i => (i.zero, i.size, i.bytes)) = some (some (.string ⟨#[]⟩), 1, 16) := by kernel_rfl
theorem sat_own {w : World} {base g cap n : Nat} {e : TypeId} {l : List Str} {F : Dom} (h : w.ownsRow base e 1 (.slice (some ⟨g, 0, none⟩) n cap) n (strs l)) (hn : n = l.length) (hF : F g) : SAt cStr w F (.slice (some ⟨g, 0, none⟩) n cap) l := by
 subst hn
 have hc : l.length ≤ cap := by
  obtain ⟨_, ⟨h1, _⟩ | ⟨g', cap', cur, h1, _, _, h2, _⟩⟩ := h
  ·cases h1
  ·cases h1; exact h2
 refine ⟨_, cap, rfl, hc, fun i y hi => ?_⟩
 obtain ⟨hlt, he⟩ := List.getElem?_eq_some_iff.1 hi
 have hh := h.cellAt i (by omega)
 have hy : (strs l)[i]? = some (.string ⟨y.toArray⟩) := by unfold strs; rw [List.getElem?_map, hi]; rfl
 rw [hy] at hh
 refine ⟨g, 0, rfl, hF, World.block_lt_of_cell? _ _ hh, strC y, rfl, fun j u hj => ?_⟩
 have h0 : j = 0 := by have := (List.getElem?_eq_some_iff.1 hj).1; simp [strC] at this; omega
 subst h0
 obtain rfl : Value.string ⟨y.toArray⟩ = u := Option.some.inj hj
 have hx : 0 + i * cStr.size + 0 = i := by show 0 + i * 1 + 0 = i; omega
 rw [hx]; exact hh
theorem sat_lt {w : World} {F : Dom} {v : Value} {l : List Str} (h : SAt cStr w F v l) : SAt cStr w (fun b => F b ∧ b < w.heap.size) v l := by
 obtain ⟨G, cap, hv, hc, hf⟩ := h
 refine ⟨G, cap, hv, hc, fun i x hi => ?_⟩
 obtain ⟨g, off, hG, hg0, hg, vs, h1, h2⟩ := hf i x hi
 exact ⟨g, off, hG, ⟨hg0, hg⟩, hg, vs, h1, h2⟩
def put8 (W : World) (R : Nat) (a0 a1 a2 a3 a4 a5 a6 a7 : Value) : World := (((((((W.setCell ⟨R, 0, none⟩ a0).setCell ⟨R, 1, none⟩ a1).setCell ⟨R, 2, none⟩ a2).setCell ⟨R, 3, none⟩ a3).setCell ⟨R, 4, none⟩ a4).setCell ⟨R, 5, none⟩ a5).setCell ⟨R, 6, none⟩ a6).setCell ⟨R, 7, none⟩ a7
theorem put8_has {W : World} {R : Nat} (h : Has W R res8) (a0 a1 a2 a3 a4 a5 a6 a7 : Value) : Has (put8 W R a0 a1 a2 a3 a4 a5 a6 a7) R [a0, a1, a2, a3, a4, a5, a6, a7] := by
 have h0 := h.set' (i := 0) a0 (by simp [res8])
 have h1 := h0.set' (i := 1) a1 (by simp [res8])
 have h2 := h1.set' (i := 2) a2 (by simp [res8])
 have h3 := h2.set' (i := 3) a3 (by simp [res8])
 have h4 := h3.set' (i := 4) a4 (by simp [res8])
 have h5 := h4.set' (i := 5) a5 (by simp [res8])
 have h6 := h5.set' (i := 6) a6 (by simp [res8])
 exact h6.set' (i := 7) a7 (by simp [res8])
theorem put8_same {W : World} {R b : Nat} (hb : b ≠ R) (a0 a1 a2 a3 a4 a5 a6 a7 : Value) : (put8 W R a0 a1 a2 a3 a4 a5 a6 a7).heap[b]? = W.heap[b]? := by
 unfold put8
 rw [Below.heap_setCell _ _ _ _ hb, Below.heap_setCell _ _ _ _ hb, Below.heap_setCell _ _ _ _ hb, Below.heap_setCell _ _ _ _ hb, Below.heap_setCell _ _ _ _ hb, Below.heap_setCell _ _ _ _ hb, Below.heap_setCell _ _ _ _ hb, Below.heap_setCell _ _ _ _ hb]
theorem put8_size {W : World} {R : Nat} (a0 a1 a2 a3 a4 a5 a6 a7 : Value) : W.heap.size ≤ (put8 W R a0 a1 a2 a3 a4 a5 a6 a7).heap.size := by simp [put8, World.setCell]
end Go.Proofs.YtmkppkjikifdlaaGreatDoor.Sc
