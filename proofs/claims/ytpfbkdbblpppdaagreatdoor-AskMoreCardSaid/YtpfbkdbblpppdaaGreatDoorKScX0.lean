/-
  DERIVED. Of: ScTest, ScTstH.
-/
import Derived.Test.YtpfbkdbblpppdaaGreatDoorDScT
import Derived.Test.YtpfbkdbblpppdaaGreatDoorDScStkMem
import Derived.Test.YtpfbkdbblpppdaaGreatDoorKScStkMem
import Derived.Test.YtpfbkdbblpppdaaGreatDoorDScPut
import Derived.Test.YtpfbkdbblpppdaaGreatDoorKScTree
import Derived.Test.YtpfbkdbblpppdaaGreatDoorProg
import Derived.Deep.DeepCutAuto
import Derived.Deep.CutBlock
import Derived.Deep.RegionLaw
import Derived.Deep.RegionHeld3
import Derived.BigRegion
import Derived.Deep.AppendLies
import Derived.Handy
import Derived.WalkKit
import Derived.WalkLawsBesides
import Derived.WalkSpells
import Derived.Lib.Hide
import Derived.Maps.AppendAt
import Derived.Lib.ConvBytes
import Derived.Lib.BufferOwn
import Derived.Outline
import Derived.LoopTactic
set_option linter.unusedVariables false
set_option linter.unusedSimpArgs false
namespace Go.Proofs.YtpfbkdbblpppdaaGreatDoor.Sc
open Go.RowKit
open Tk (Tok)

theorem has_six {w : World} {b : Nat} {a0 a1 a2 a3 a4 a5 : Value} (h : Has w b [a0, a1, a2, a3, a4, a5]) :
    w.cell? ⟨b, 0, none⟩ = some a0 ∧ w.cell? ⟨b, 1, none⟩ = some a1 ∧ w.cell? ⟨b, 2, none⟩ = some a2 ∧ w.cell? ⟨b, 3, none⟩ = some a3 ∧ w.cell? ⟨b, 4, none⟩ = some a4 ∧ w.cell? ⟨b, 5, none⟩ = some a5 :=
  ⟨h.1 0 _ rfl, h.1 1 _ rfl, h.1 2 _ rfl, h.1 3 _ rfl, h.1 4 _ rfl, h.1 5 _ rfl⟩
def res8 : List Value := [.int .i64 0, .int .i64 0, .int .i64 0, .slice none 0 0, .slice none 0 0, .bool false, .int .i64 0, .slice none 0 0]
/-- on the way through Test: the stick, the result's variable, the test's variable -/
structure TB (w wx : World) (S : Nat) (xs ts : List Value) : Prop where
  stick : Has wx S xs
  res : Has wx (S + 1) res8
  tst : Has wx (S + 1 + 1) ts
  bel : Below w.heap.size w wx
theorem TB.down {w wx wy : World} {S : Nat} {xs ts : List Value} (h : TB w wx S xs ts) (hb : Below wx.heap.size wx wy) : TB w wy S xs ts := ⟨h.stick.down hb, h.res.down hb, h.tst.down hb, bt h.bel hb⟩
theorem TB.put {w wx : World} {S i : Nat} {xs ts : List Value} (h : TB w wx S xs ts) (u : Value) (hi : i < ts.length) (hS : w.heap.size ≤ S) : TB w (wx.setCell ⟨S + 1 + 1, i, none⟩ u) S xs (ts.set i u) :=
  ⟨h.stick.else' (by omega) u, h.res.else' (by omega) u, h.tst.set' u hi, h.bel.setCell (by show w.heap.size ≤ S + 1 + 1; omega) u⟩
theorem tb_start (w : World) (xs ts : List Value) (t1 t2 t3 : TypeId) : TB w (((w.alloc (.cells xs.toArray t1)).alloc (.cells res8.toArray t2)).alloc (.cells ts.toArray t3)) w.heap.size xs ts := by
  have h1 := Has.alloc w xs t1
  have h2 := Has.alloc (w.alloc (.cells xs.toArray t1)) res8 t2
  have h3 := Has.alloc ((w.alloc (.cells xs.toArray t1)).alloc (.cells res8.toArray t2)) ts t3
  rw [World.size_alloc] at h2
  rw [World.size_alloc, World.size_alloc] at h3
  have b1 : Below (w.alloc (.cells xs.toArray t1)).heap.size (w.alloc (.cells xs.toArray t1)) ((w.alloc (.cells xs.toArray t1)).alloc (.cells res8.toArray t2)) := ba (Below.refl _ _) _
  have b2 : Below ((w.alloc (.cells xs.toArray t1)).alloc (.cells res8.toArray t2)).heap.size ((w.alloc (.cells xs.toArray t1)).alloc (.cells res8.toArray t2)) (((w.alloc (.cells xs.toArray t1)).alloc (.cells res8.toArray t2)).alloc (.cells ts.toArray t3)) := ba (Below.refl _ _) _
  exact ⟨(h1.down b1).down b2, h2.down b2, h3, ba (ba (ba (Below.refl _ _) _) _) _⟩
end Go.Proofs.YtpfbkdbblpppdaaGreatDoor.Sc
namespace Go.Proofs.YtpfbkdbblpppdaaGreatDoor.Sc
open Go.RowKit
open Tk (Tok)

theorem has_far {w w' : World} {b : Nat} {vs : List Value} {row : Option Nat} (h : Has w b vs) (hg : w.grownBy w' row) (hne : some b ≠ row) : Has w' b vs :=
  ⟨fun i u hi => hg.cell (h.1 i u hi) hne, fun i hi => (hg.frozen_far _ h.2.2 hne).trans (h.2.1 i hi), Nat.lt_of_lt_of_le h.2.2 hg.size⟩
theorem info_str : (Tryz.prog.info? 9).map (fun i => (i.zero, i.size, i.bytes)) = some (some (.string ⟨#[]⟩), 1, 16) := by kernel_rfl
theorem sat_own {w : World} {base g cap n : Nat} {e : TypeId} {l : List Str} {F : Dom} (h : w.ownsRow base e 1 (.slice (some ⟨g, 0, none⟩) n cap) n (strs l)) (hn : n = l.length) (hF : F g) : SAt cStr w F (.slice (some ⟨g, 0, none⟩) n cap) l := by
  subst hn
  have hc : l.length ≤ cap := by
    obtain ⟨_, ⟨h1, _⟩ | ⟨g', cap', cur, h1, _, _, h2, _⟩⟩ := h
    · cases h1
    · cases h1; exact h2
  refine ⟨_, cap, rfl, hc, fun i y hi => ?_⟩
  obtain ⟨hlt, he⟩ := List.getElem?_eq_some_iff.1 hi
  have hh := h.cellAt i (by omega)
  have hy : (strs l)[i]? = some (.string ⟨y.toArray⟩) := by unfold strs; rw [List.getElem?_map, hi]; rfl
  rw [hy] at hh
  refine ⟨g, 0, rfl, hF, World.block_lt_of_cell? _ _ hh, strC y, rfl, fun j u hj => ?_⟩
  have h0 : j = 0 := by have := (List.getElem?_eq_some_iff.1 hj).1; simp [strC] at this; omega
  subst h0
  obtain rfl : Value.string ⟨y.toArray⟩ = u := Option.some.inj hj
  have hx : 0 + i * cStr.size + 0 = i := by show 0 + i * 1 + 0 = i; omega
  rw [hx]; exact hh
theorem tb_grow {w wz wy : World} {S b n cap : Nat} {e : TypeId} {xs ts l : List Value} (h : TB w wz S xs ts) (hr : wz.ownsRow (S + 1 + 1 + 1) e 1 (.slice (some ⟨b, 0, none⟩) n cap) n l) (hg : wz.grownBy wy (some b)) (hS : w.heap.size ≤ S) : TB w wy S xs ts := by
  have hb : S + 1 + 1 + 1 ≤ b := (hr.lt b rfl).1
  exact ⟨has_far h.stick hg (by simp; omega), has_far h.res hg (by simp; omega), has_far h.tst hg (by simp; omega), below_row h.bel (Nat.le_refl _) hr (by omega) hg⟩
def put8 (W : World) (R : Nat) (a0 a1 a2 a3 a4 a5 a6 a7 : Value) : World := (((((((W.setCell ⟨R, 0, none⟩ a0).setCell ⟨R, 1, none⟩ a1).setCell ⟨R, 2, none⟩ a2).setCell ⟨R, 3, none⟩ a3).setCell ⟨R, 4, none⟩ a4).setCell ⟨R, 5, none⟩ a5).setCell ⟨R, 6, none⟩ a6).setCell ⟨R, 7, none⟩ a7
theorem put8_has {W : World} {R : Nat} (h : Has W R res8) (a0 a1 a2 a3 a4 a5 a6 a7 : Value) : Has (put8 W R a0 a1 a2 a3 a4 a5 a6 a7) R [a0, a1, a2, a3, a4, a5, a6, a7] := by
  have h0 := h.set' (i := 0) a0 (by simp [res8])
  have h1 := h0.set' (i := 1) a1 (by simp [res8])
  have h2 := h1.set' (i := 2) a2 (by simp [res8])
  have h3 := h2.set' (i := 3) a3 (by simp [res8])
  have h4 := h3.set' (i := 4) a4 (by simp [res8])
  have h5 := h4.set' (i := 5) a5 (by simp [res8])
  have h6 := h5.set' (i := 6) a6 (by simp [res8])
  exact h6.set' (i := 7) a7 (by simp [res8])
theorem put8_below {w W : World} {R : Nat} (h : Below w.heap.size w W) (hR : w.heap.size ≤ R) (a0 a1 a2 a3 a4 a5 a6 a7 : Value) : Below w.heap.size w (put8 W R a0 a1 a2 a3 a4 a5 a6 a7) :=
  (((((((h.setCell hR a0).setCell hR a1).setCell hR a2).setCell hR a3).setCell hR a4).setCell hR a5).setCell hR a6).setCell hR a7
end Go.Proofs.YtpfbkdbblpppdaaGreatDoor.Sc
