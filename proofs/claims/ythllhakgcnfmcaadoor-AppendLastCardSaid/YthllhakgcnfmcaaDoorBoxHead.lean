/-
  DERIVED. What the laws of boxes share: Entry of raw numbers, Apply with its answer known.
-/
import Derived.Test.YthllhakgcnfmcaaDoorBoxState
import Derived.Test.YthllhakgcnfmcaaDoorBoxKeep
import Derived.Test.YthllhakgcnfmcaaDoorBoxLaws
namespace Go.Proofs.YthllhakgcnfmcaaDoor
open Go.RowKit

theorem i64k (n : Nat) (h : n ≤ 1000000) : Int64 (n : Int) := ⟨by omega, by omega⟩
theorem raw_ok {k b u f d : Int} {t : ByteArray} (h1 : Int64 k) (h2 : Int64 b) (h3 : Int64 u) (h4 : Int64 f) (h5 : Int64 d) (h6 : t.size ≤ maxLen) : RawOK ⟨k, b, u, f, d, t⟩ :=
  ⟨h1, h2, h3, h4, h5, by unfold maxLen at h6; show t.size ≤ _; omega⟩
theorem i64z : Int64 0 := ⟨by decide, by decide⟩
def EntPost (x : Ent) (w : World) (e : Ending) (w' : World) : Prop := e = .returned (.agg #[.int .i64 x.kind, .string ⟨x.box.toArray⟩, .int .i64 x.uid, .int .i64 x.flags, .string ⟨x.to.toArray⟩, .string ⟨x.text.toArray⟩]) ∧ Below w.heap.size w w'
theorem entry_c (c : Raw) (w : World) (h : RawOK c) : Calls Tryd.prog 13 #[.agg #[.int .i64 c.kind, .int .i64 c.box, .int .i64 c.uid, .int .i64 c.flags, .int .i64 c.dest, .string c.text]] w (EntPost (entOf c) w) := entry_any c w h
/-- Apply that is refused -/
theorem apply_err {s t : St} {x : Ent} {k : Int} (hr : allS s [x] = (t, k)) (hk : k ≠ 0) (vB vS : Value) (F : Dom) (m : Int) (w : World) (hB : SAt cBox w F vB s.boxes) (hS : SAt cEnt w F vS s.spool) (hg : GoodS s) (hx : formV x = 0)
    (hm : w.cell? ⟨0, 0, none⟩ = some (.int .i64 m)) : Calls Tryd.prog 14 #[.agg #[vB, vS], .agg #[.int .i64 x.kind, .string ⟨x.box.toArray⟩, .int .i64 x.uid, .int .i64 x.flags, .string ⟨x.to.toArray⟩, .string ⟨x.text.toArray⟩]] w
      (fun e w' => e = .returned (.tuple #[.agg #[.slice none 0 0, .slice none 0 0], .int .i64 k]) ∧ Below w.heap.size w w') := by
  have := Apply_any s x vB vS F m w hB hS hg (small_of_form hx) hm
  rw [hr] at this
  refine this.mono fun e w' h => ?_
  unfold ApPost at h
  rwa [if_neg (by exact hk)] at h
/-- Apply that is done -/
theorem apply_ok {s t : St} {x : Ent} (hr : allS s [x] = (t, 0)) (vB vS : Value) (F : Dom) (m : Int) (w : World) (hB : SAt cBox w F vB s.boxes) (hS : SAt cEnt w F vS s.spool) (hg : GoodS s) (hx : formV x = 0)
    (hm : w.cell? ⟨0, 0, none⟩ = some (.int .i64 m)) : Calls Tryd.prog 14 #[.agg #[vB, vS], .agg #[.int .i64 x.kind, .string ⟨x.box.toArray⟩, .int .i64 x.uid, .int .i64 x.flags, .string ⟨x.to.toArray⟩, .string ⟨x.text.toArray⟩]] w
      (fun e w' => (∃ G1 c1 G2 c2, e = .returned (.tuple #[.agg #[.slice G1 t.boxes.length c1, .slice G2 t.spool.length c2], .int .i64 0]) ∧ OwnV w' w.heap.size (.slice G1 t.boxes.length c1) (.slice G2 t.spool.length c2) t) ∧ Below w.heap.size w w') := by
  have := Apply_any s x vB vS F m w hB hS hg (small_of_form hx) hm
  rw [hr] at this
  refine this.mono fun e w' h => ?_
  unfold ApPost at h
  rwa [if_pos rfl] at h
theorem good_mails {s : St} (hg : GoodS s) : ∀ b ∈ s.boxes, b.mails.length ≤ 1000 := fun b hb => by have := (hg.ok b hb).2.2.2.1; omega
/-- a variable R that holds a state in blocks other than R -/
def VarS (w : World) (R : Nat) (v1 v2 : Value) (s : St) : Prop := Has w R [v1, v2] ∧ SAt cBox w (fun b => b ≠ R) v1 s.boxes ∧ SAt cEnt w (fun b => b ≠ R) v2 s.spool
theorem SAt.lower {α : Type} {c : Cod α} {w : World} {F : Dom} {v : Value} {xs : List α} (hc : ∀ {F : Dom} {x vs}, c.rep w F x vs → c.rep w (fun b => F b ∧ b < w.heap.size) x vs) (h : SAt c w F v xs) : SAt c w (fun b => F b ∧ b < w.heap.size) v xs := by
  obtain ⟨G, cap, hv, hcp, hf⟩ := h
  refine ⟨G, cap, hv, hcp, fun i x hi => ?_⟩
  obtain ⟨g, off, hG, hF, hg, vs, h1, h2⟩ := hf i x hi
  exact ⟨g, off, hG, ⟨hF, hg⟩, hg, vs, hc h1, h2⟩
theorem flat_lower {α : Type} {k : Nat} {f : α → List Value} {hf : ∀ x, (f x).length = k} {w : World} {F : Dom} {v : Value} {xs : List α} (h : SAt (Cod.flat k f hf) w F v xs) : SAt (Cod.flat k f hf) w (fun b => F b ∧ b < w.heap.size) v xs := h.lower (fun h => h)
theorem box_lower {w : World} {F : Dom} {v : Value} {xs : List Bx} (h : SAt cBox w F v xs) : SAt cBox w (fun b => F b ∧ b < w.heap.size) v xs := h.lower (fun ⟨u, e, k⟩ => ⟨u, e, flat_lower k⟩)
/-- a state that an answer holds, laid into a new variable -/
theorem VarS.new {w : World} {F : Dom} {v1 v2 : Value} {s : St} (h1 : SAt cBox w F v1 s.boxes) (h2 : SAt cEnt w F v2 s.spool) (t : TypeId) : VarS (w.alloc (.cells #[v1, v2] t)) w.heap.size v1 v2 s :=
  have hb := ba (Below.refl w.heap.size w) (.cells #[v1, v2] t)
  ⟨Has.alloc w [v1, v2] t, ((box_lower h1).down hb).mono (fun b h => by have := h.2; omega), ((flat_lower h2).down hb).mono (fun b h => by have := h.2; omega)⟩
theorem VarS.down {w w' : World} {R : Nat} {v1 v2 : Value} {s : St} (h : VarS w R v1 v2 s) (hb : Below w.heap.size w w') : VarS w' R v1 v2 s := ⟨h.1.down hb, h.2.1.down hb, h.2.2.down hb⟩
theorem OwnS.into {w : World} {base : Nat} {vB vS : Value} {s : St} (h : OwnV w base vB vS s) (hb : base ≤ w.heap.size) (t : TypeId) : ∃ qs, Opn (w.alloc (.cells #[vB, vS] t)) base w.heap.size s qs vB vS := by
  obtain ⟨qs, h1, h2⟩ := h
  exact ⟨qs, h1, Has.alloc w [vB, vS] t, hb, h2.down (ba (Below.refl _ _) _), fun r hr e => by have := (World.ownsRow.lt (h2.1 r hr) _ e).2; omega⟩
end Go.Proofs.YthllhakgcnfmcaaDoor
