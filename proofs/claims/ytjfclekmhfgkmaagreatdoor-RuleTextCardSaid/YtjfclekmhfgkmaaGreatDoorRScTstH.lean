/- On the way. -/
import Derived.Test.YtjfclekmhfgkmaaGreatDoorRScTest
set_option linter.unusedVariables false
set_option linter.unusedSimpArgs false
namespace Go.Proofs.YtjfclekmhfgkmaaGreatDoor.Sc
open Go.RowKit
open Tk (Tok)
theorem sat_str {w : World} {F : Dom} {b : Nat} {s : Str} (h : Has w b [.string ⟨s.toArray⟩]) (hF : F b) : SAt cStr w F (.slice (some ⟨b, 0, none⟩) 1 1) [s] := by
 refine ⟨_, 1, rfl, Nat.le_refl _, fun i y hi => ?_⟩
 have h0 : i = 0 := by have := (List.getElem?_eq_some_iff.1 hi).1; simp at this; omega
 subst h0
 obtain rfl : s = y := Option.some.inj hi
 exact ⟨b, 0, rfl, hF, h.2.2, strC s, rfl, fun j u hj => by simpa using h.1 j u hj⟩
theorem sat_else {α : Type} {c : Cod α} {w : World} {T i : Nat} {v : Value} {xs : List α} (h : SAt c w (fun b => T < b) v xs) (u : Value) {d : Nat} (hd : d ≤ T) : SAt c (w.setCell ⟨d, i, none⟩ u) (fun b => T < b) v xs :=
 h.stable (fun x hx _ => Below.heap_setCell _ _ _ _ (by show x ≠ d; have : T < x := hx; omega)) (by simp [World.setCell])
def strs (l : List Str) : List Value := l.map fun s => .string ⟨s.toArray⟩
theorem strs_at (l : List Str) (k : Nat) (h : k < l.length) : (strs l)[k]? = some (.string ⟨(l.getD k []).toArray⟩) := by
 unfold strs; rw [List.getElem?_map, List.getElem?_eq_getElem h, List.getD, List.getElem?_eq_getElem h]; rfl
theorem has_far {w w' : World} {b : Nat} {vs : List Value} {row : Option Nat} (h : Has w b vs) (hg : w.grownBy w' row) (hne : some b ≠ row) : Has w' b vs :=
 ⟨fun i u hi => hg.cell (h.1 i u hi) hne, fun i hi => (hg.frozen_far _ h.2.2 hne).trans (h.2.1 i hi), Nat.lt_of_lt_of_le h.2.2 hg.size⟩
theorem info_str : (Tryz.prog.info? 9).map (fun i => (i.zero, i.size, i.bytes)) = some (some (.string ⟨#[]⟩), 1, 16) := by kernel_rfl
theorem sat_own {w : World} {base g cap n : Nat} {e : TypeId} {l : List Str} {F : Dom} (h : w.ownsRow base e 1 (.slice (some ⟨g, 0, none⟩) n cap) n (strs l)) (hn : n = l.length) (hF : F g) : SAt cStr w F (.slice (some ⟨g, 0, none⟩) n cap) l := by
 subst hn
 have hc : l.length ≤ cap := by
  obtain ⟨_, ⟨h1, _⟩ | ⟨g', cap', cur, h1, _, _, h2, _⟩⟩ := h
  ·cases h1
  ·cases h1; exact h2
 refine ⟨_, cap, rfl, hc, fun i y hi => ?_⟩
 obtain ⟨hlt, he⟩ := List.getElem?_eq_some_iff.1 hi
 have hh := h.cellAt i (by omega)
 have hy : (strs l)[i]? = some (.string ⟨y.toArray⟩) := by unfold strs; rw [List.getElem?_map, hi]; rfl
 rw [hy] at hh
 refine ⟨g, 0, rfl, hF, World.block_lt_of_cell? _ _ hh, strC y, rfl, fun j u hj => ?_⟩
 have h0 : j = 0 := by have := (List.getElem?_eq_some_iff.1 hj).1; simp [strC] at this; omega
 subst h0
 obtain rfl : Value.string ⟨y.toArray⟩ = u := Option.some.inj hj
 have hx : 0 + i * cStr.size + 0 = i := by show 0 + i * 1 + 0 = i; omega
 rw [hx]; exact hh
theorem tb_grow {w wz wy : World} {S b n cap : Nat} {e : TypeId} {xs ts l : List Value} (h : TB w wz S xs ts) (hr : wz.ownsRow (S + 1 + 1 + 1) e 1 (.slice (some ⟨b, 0, none⟩) n cap) n l) (hg : wz.grownBy wy (some b)) (hS : w.heap.size ≤ S) : TB w wy S xs ts := by
 have hb : S + 1 + 1 + 1 ≤ b := (hr.lt b rfl).1
 exact ⟨has_far h.stick hg (by simp; omega), has_far h.res hg (by simp; omega), has_far h.tst hg (by simp; omega), below_row h.bel (Nat.le_refl _) hr (by omega) hg⟩
theorem sat_lt {w : World} {F : Dom} {v : Value} {l : List Str} (h : SAt cStr w F v l) : SAt cStr w (fun b => F b ∧ b < w.heap.size) v l := by
 obtain ⟨G, cap, hv, hc, hf⟩ := h
 refine ⟨G, cap, hv, hc, fun i x hi => ?_⟩
 obtain ⟨g, off, hG, hg0, hg, vs, h1, h2⟩ := hf i x hi
 exact ⟨g, off, hG, ⟨hg0, hg⟩, hg, vs, h1, h2⟩
def put8 (W : World) (R : Nat) (a0 a1 a2 a3 a4 a5 a6 a7 : Value) : World := (((((((W.setCell ⟨R, 0, none⟩ a0).setCell ⟨R, 1, none⟩ a1).setCell ⟨R, 2, none⟩ a2).setCell ⟨R, 3, none⟩ a3).setCell ⟨R, 4, none⟩ a4).setCell ⟨R, 5, none⟩ a5).setCell ⟨R, 6, none⟩ a6).setCell ⟨R, 7, none⟩ a7
theorem put8_has {W : World} {R : Nat} (h : Has W R res8) (a0 a1 a2 a3 a4 a5 a6 a7 : Value) : Has (put8 W R a0 a1 a2 a3 a4 a5 a6 a7) R [a0, a1, a2, a3, a4, a5, a6, a7] := by
 have h0 := h.set' (i := 0) a0 (by simp [res8])
 have h1 := h0.set' (i := 1) a1 (by simp [res8])
 have h2 := h1.set' (i := 2) a2 (by simp [res8])
 have h3 := h2.set' (i := 3) a3 (by simp [res8])
 have h4 := h3.set' (i := 4) a4 (by simp [res8])
 have h5 := h4.set' (i := 5) a5 (by simp [res8])
 have h6 := h5.set' (i := 6) a6 (by simp [res8])
 exact h6.set' (i := 7) a7 (by simp [res8])
theorem put8_same {W : World} {R b : Nat} (hb : b ≠ R) (a0 a1 a2 a3 a4 a5 a6 a7 : Value) : (put8 W R a0 a1 a2 a3 a4 a5 a6 a7).heap[b]? = W.heap[b]? := by
 unfold put8
 rw [Below.heap_setCell _ _ _ _ hb, Below.heap_setCell _ _ _ _ hb, Below.heap_setCell _ _ _ _ hb, Below.heap_setCell _ _ _ _ hb, Below.heap_setCell _ _ _ _ hb, Below.heap_setCell _ _ _ _ hb, Below.heap_setCell _ _ _ _ hb, Below.heap_setCell _ _ _ _ hb]
theorem put8_size {W : World} {R : Nat} (a0 a1 a2 a3 a4 a5 a6 a7 : Value) : W.heap.size ≤ (put8 W R a0 a1 a2 a3 a4 a5 a6 a7).heap.size := by simp [put8, World.setCell]
theorem put8_below {w W : World} {R : Nat} (h : Below w.heap.size w W) (hR : w.heap.size ≤ R) (a0 a1 a2 a3 a4 a5 a6 a7 : Value) : Below w.heap.size w (put8 W R a0 a1 a2 a3 a4 a5 a6 a7) :=
 (((((((h.setCell hR a0).setCell hR a1).setCell hR a2).setCell hR a3).setCell hR a4).setCell hR a5).setCell hR a6).setCell hR a7
theorem leaf_end {S : Nat} {t : Tst} {m : Nat} {k at' part n : Int} {neg : Bool} {vn vk : Value} {nm ks : List Str} {xs ts : List Value} {a : Act} {W w : World} (ht : a.tmps.getD 4 undef = .pointer (some ⟨S + 1, 0, none⟩)) (hd : a.defers = []) (h : TB w W S xs ts) (hS : w.heap.size ≤ S)
    (hn : SAt cStr W (fun b => S + 1 + 1 < b) vn nm) (hk : SAt cStr W (fun b => S + 1 + 1 < b) vk ks) (he : t = ⟨k, at', part, nm, ks, neg, n, []⟩) :
    bodyPost Tryz.prog Tryz.f44 (TestPost t (m + 1) w) .ret a (put8 W (S + 1) (.int .i64 k) (.int .i64 at') (.int .i64 part) vn vk (.bool neg) (.int .i64 n) (.slice none 0 0)) := by
 subst he
 have hsm : Same (fun b => S + 1 + 1 < b) W (put8 W (S + 1) (.int .i64 k) (.int .i64 at') (.int .i64 part) vn vk (.bool neg) (.int .i64 n) (.slice none 0 0)) := fun b hb _ => put8_same (by omega) _ _ _ _ _ _ _ _
 have hsz := put8_size (W := W) (R := S + 1) (.int .i64 k) (.int .i64 at') (.int .i64 part) vn vk (.bool neg) (.int .i64 n) (.slice none 0 0)
 refine test_end ht hd (put8_has h.res _ _ _ _ _ _ _ _) ?_ (put8_below h.bel (by omega) _ _ _ _ _ _ _ _)
 exact ⟨_, _, _, rfl, (hn.stable hsm hsz).mono (fun b hb => by omega), (hk.stable hsm hsz).mono (fun b hb => by omega), SAt.nil _ _ _⟩
theorem key_grow {w wz wy : World} {S b g cap cap' : Nat} {xs ts : List Value} {vn : Value} {nm : List Str} {k1 k2 : Str} (h : TB w wz S xs ts) (hr : wz.ownsRow (S + 1 + 1 + 1) 9 1 (.slice (some ⟨b, 0, none⟩) 1 cap) 1 (strs [k1])) (hS : w.heap.size ≤ S)
    (hn : SAt cStr wz (fun x => S + 1 + 1 < x ∧ x < b) vn nm) (hg : wz.grownBy wy (some b)) (hown : wy.ownsRow (S + 1 + 1 + 1) 9 1 (.slice (some ⟨g, 0, none⟩) (1 + 1) cap') (1 + 1) (strs [k1] ++ [.string ⟨k2.toArray⟩])) :
    TB w wy S xs ts ∧ SAt cStr wy (fun x => S + 1 + 1 < x) vn nm ∧ SAt cStr wy (fun x => S + 1 + 1 < x) (.slice (some ⟨g, 0, none⟩) (1 + 1) cap') [k1, k2] := by
 refine ⟨tb_grow h hr hg hS, (hn.stable (Same.of_grown hg (fun x hx hF => by obtain rfl : b = x := Option.some.inj hx; omega)) hg.size).mono (fun x hx => hx.1), ?_⟩
 have hb : S + 1 + 1 + 1 ≤ g := (hown.lt g rfl).1
 exact sat_own (l := [k1, k2]) hown rfl (by omega)
def KeyNew (w : World) (S : Nat) (xs : List Value) (lf : Tst) (wx : World) : Prop := ∃ (k m p : Int) (Gn : Option Addr) (cn : Nat) (nm : List Str) (Gk : Option Addr) (ck : Nat) (ks : List Str),
 TB w wx S xs [.int .i64 k, .int .i64 m, .int .i64 p, .slice Gn nm.length cn, .slice Gk ks.length ck, .bool false, .int .i64 0, .slice none 0 0] ∧ SAt cStr wx (fun b => S + 1 + 1 < b) (.slice Gn nm.length cn) nm ∧ SAt cStr wx (fun b => S + 1 + 1 < b) (.slice Gk ks.length ck) ks ∧ lf = ⟨k, m, p, nm, ks, false, 0, []⟩
end Go.Proofs.YtjfclekmhfgkmaaGreatDoor.Sc
