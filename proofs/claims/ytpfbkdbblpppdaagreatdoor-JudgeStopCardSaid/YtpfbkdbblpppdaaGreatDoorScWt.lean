/-
  DERIVED. The writer of tokens: test: the walk.
-/
import Derived.Test.YtpfbkdbblpppdaaGreatDoorScPut
import Derived.Deep.RegionHeld3
import Derived.BigRegion
import Derived.Deep.DeepCutAuto
import Derived.Deep.CutBlock
set_option linter.unusedVariables false
set_option linter.unusedSimpArgs false
namespace Go.Proofs.YtpfbkdbblpppdaaGreatDoor.Sc
open Go.RowKit
open Tk (Tok)

/-- 'at g lies the table' -/
def TabAt (w : World) (g : Nat) (tab : List Str) : Prop := ∀ j s, tab[j]? = some s → w.cell? ⟨g, j, none⟩ = some (.string ⟨s.toArray⟩)
theorem TabAt.below {B : Nat} {w w' : World} {g : Nat} {tab : List Str} (h : TabAt w g tab) (hb : Below B w w') (hg : g < B) : TabAt w' g tab := fun j s hj => (hb.cell (p := ⟨g, j, none⟩) hg).trans (h j s hj)
structure Tabs (w : World) (B : Nat) : Prop where
  t : TabAt w 3 tstTab
  c : TabAt w 1 cmdTab
  m : TabAt w 5 matTab
  p : TabAt w 4 parTab
  low : 3 < B ∧ 1 < B ∧ 5 < B ∧ 4 < B
theorem Tabs.below {B : Nat} {w w' : World} (h : Tabs w B) (hb : Below B w w') : Tabs w' B := ⟨h.t.below hb h.low.1, h.c.below hb h.low.2.1, h.m.below hb h.low.2.2.1, h.p.below hb h.low.2.2.2, h.low⟩
theorem Tabs.up {B B' : Nat} {w : World} (h : Tabs w B) (hB : B ≤ B') : Tabs w B' := ⟨h.t, h.c, h.m, h.p, by have := h.low; omega⟩
theorem tab_at {w : World} {g : Nat} {tab : List Str} (h : TabAt w g tab) {k : Int} (_h0 : 0 ≤ k) (hk : k.toNat < tab.length) : w.cell? ⟨g, k.toNat, none⟩ = some (.string ⟨(wd tab k).toArray⟩) := h k.toNat _ (by unfold wd; rw [List.getD, List.getElem?_eq_getElem hk]; rfl)
theorem Tabs.down {B : Nat} {w w' : World} (h : Tabs w B) (hB : B ≤ w.heap.size) (hb : Below w.heap.size w w') : Tabs w' B := h.below (hb.mono hB)
/-- what the writer is told at a test -/
def WtT (n : Nat) : Prop := ∀ (t : Tst) (vs : List Value) (F : Dom) (base R : Nat) (l : List Tok) (w : World), (cTst n).rep w F t vs → FormT t → (∀ b, F b → b < base) → base ≤ w.heap.size → Tabs w base → Wr w base R l → l.length + (wT t).length ≤ 4000000 →
    Calls Tryz.prog 140 #[.pointer (some ⟨R, 0, none⟩), .agg vs.toArray] w fun e w' => e = .returned (.tuple #[]) ∧ Wr w' base R (l ++ wT t) ∧ WStep R w w'
/-- behind the first word -/
theorem wt_start {w : World} {base R : Nat} {l : List Tok} {vs : List Value} {t : TypeId} (hz : base ≤ w.heap.size) (ht : Tabs w base) (hw : Wr w base R l) :
    Has (w.alloc (.cells vs.toArray t)) w.heap.size vs ∧ Tabs (w.alloc (.cells vs.toArray t)) base ∧ Wr (w.alloc (.cells vs.toArray t)) base R l ∧ WStep R w (w.alloc (.cells vs.toArray t)) ∧ rowB (w.alloc (.cells vs.toArray t)) R ≠ some w.heap.size ∧ w.heap.size ≠ R ∧ base ≤ (w.alloc (.cells vs.toArray t)).heap.size := by
  have hb : Below w.heap.size w (w.alloc (.cells vs.toArray t)) := ba (Below.refl _ _) _
  have hs : WStep R w (w.alloc (.cells vs.toArray t)) := (WStep.refl R w).down hw.new.1 hb
  refine ⟨Has.alloc w vs t, ht.down hz hb, hw.down hb, hs, ?_, hw.new.2.1, Nat.le_trans hz hb.size⟩
  rw [rowB_of (hb.block R hw.new.1)]; exact hw.new.2.2
/-- items of tests, from place i on -/
def seqI : Nat → List (List Tok) → List Tok
  | _, [] => []
  | i, x :: l => M (if i = 0 then 40 else 44) :: (x ++ seqI (i + 1) l)
theorem seqI_app : ∀ (a b : List (List Tok)) (i : Nat), seqI i (a ++ b) = seqI i a ++ seqI (i + a.length) b
  | [], b, i => rfl
  | s :: a, b, i => by
    show M _ :: (s ++ seqI (i + 1) (a ++ b)) = M _ :: (s ++ seqI (i + 1) a) ++ _
    rw [seqI_app a b (i + 1), show i + 1 + a.length = i + (s :: a).length by simp; omega]; simp
theorem seqI_succ : ∀ (l : List (List Tok)) (i : Nat), seqI (i + 1) l = l.flatMap fun y => M 44 :: y
  | [], _ => rfl
  | s :: l, i => by
    show M 44 :: (s ++ seqI (i + 1 + 1) l) = _
    rw [seqI_succ l (i + 1)]; simp
theorem seqT_items (l : List (List Tok)) : seqT l = seqI 0 l := by
  cases l with
  | nil => rfl
  | cons x l =>
    show M 40 :: x ++ l.flatMap (fun y => M 44 :: y) = M 40 :: (x ++ seqI 1 l)
    rw [seqI_succ]; simp
theorem seq_step (l : List Tst) (j : Nat) (h : j < l.length) : seqI 0 ((l.take (j + 1)).map wT) = seqI 0 ((l.take j).map wT) ++ [M (if j = 0 then 40 else 44)] ++ wT l[j] := by
  rw [List.take_succ_eq_append_getElem h, List.map_append, seqI_app, List.length_map, List.length_take, Nat.min_eq_left (by omega), Nat.zero_add, List.append_assoc]
  show _ ++ M _ :: (wT l[j] ++ []) = _
  rw [List.append_nil]; rfl
theorem seq_len (l : List Tst) (j : Nat) : (seqI 0 ((l.take j).map wT)).length ≤ (seqT (l.map wT)).length := by
  rw [seqT_items]
  have h := seqI_app ((l.take j).map wT) ((l.drop j).map wT) 0
  rw [← List.map_append, List.take_append_drop] at h
  rw [h, List.length_append]; omega
end Go.Proofs.YtpfbkdbblpppdaaGreatDoor.Sc
