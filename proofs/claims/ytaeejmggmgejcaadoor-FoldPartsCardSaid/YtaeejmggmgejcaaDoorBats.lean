/-
  DERIVED. Batches in memory: rows of two cells, the second a slice of entries.
-/
import Derived.Test.YtaeejmggmgejcaaDoorEnts
import Derived.Test.YtaeejmggmgejcaaDoorDecPlain
import Derived.Test.YtaeejmggmgejcaaDoorPair
import Derived.Deep.AppendLies
namespace Go.Proofs.YtaeejmggmgejcaaDoor
open Go.RowKit

theorem infoBat : (Tryd.prog.info? 34).map (fun i => (i.zero, i.size, i.bytes)) = some (some (.agg #[.int .i64 0, .slice none 0 0]), 2, 32) := by kernel_rfl
/-- entries stay where another block grows, if that is none of theirs -/
theorem EntsAt.kept {w w' : World} {v : Value} {xs : List Ent} {o : Option Nat} (h : EntsAt w v xs) (g : w.grownBy w' o) (ho : ∀ b, o = some b → ∀ s, w.cell? ⟨b, 1, none⟩ ≠ some (.string s)) : EntsAt w' v xs := by
  obtain ⟨G, cap, hv, hc0, hf⟩ := h
  refine ⟨G, cap, hv, hc0, fun i x hi => ?_⟩
  obtain ⟨b, hG, hb, h0⟩ := hf i x hi
  have hl : i < xs.length := (List.getElem?_eq_some_iff.1 hi).1
  obtain ⟨b', hG', hb', h1⟩ := hf 0 xs[0] (List.getElem?_eq_getElem (by omega))
  obtain rfl : b' = b := by rw [hG'] at hG; cases hG; rfl
  have hne : some b' ≠ o := by
    intro e
    have := h1.2.1
    rw [Nat.zero_mul, Nat.zero_add] at this
    exact ho b' e.symm _ this
  have hk := g.block b' hb hne
  have hc : ∀ j, w'.cell? ⟨b', j, none⟩ = w.cell? ⟨b', j, none⟩ := fun j => World.cell?_of_block (w := w) (a := ⟨b', j, none⟩) hk
  exact ⟨b', hG, Nat.lt_of_lt_of_le hb g.size, (hc _).trans h0.1, (hc _).trans h0.2.1, (hc _).trans h0.2.2.1, (hc _).trans h0.2.2.2.1, (hc _).trans h0.2.2.2.2.1, (hc _).trans h0.2.2.2.2.2⟩
/-- 'in block g, from place p on, lies the batch b' -/
def BatIn (w : World) (g p : Nat) (b : Bat) : Prop := ∃ v, w.cell? ⟨g, p, none⟩ = some (.int .i64 b.1) ∧ w.cell? ⟨g, p + 1, none⟩ = some v ∧ EntsAt w v b.2
theorem BatIn.down {w w' : World} {g p : Nat} {b : Bat} (h : BatIn w g p b) (hb : Below w.heap.size w w') : BatIn w' g p b := by
  obtain ⟨v, h1, h2, h3⟩ := h
  exact ⟨v, moved h1 hb (Nat.le_refl _), moved h2 hb (Nat.le_refl _), h3.down hb⟩
/-- 'the slice v holds the batches bs' -/
def BatsAt (w : World) (v : Value) (bs : List Bat) : Prop := ∃ G cap, v = .slice G bs.length cap ∧ bs.length ≤ cap ∧ ∀ i b, bs[i]? = some b → ∃ g, G = some ⟨g, 0, none⟩ ∧ g < w.heap.size ∧ BatIn w g (i * 2) b
theorem BatsAt.down {w w' : World} {v : Value} {bs : List Bat} (h : BatsAt w v bs) (hb : Below w.heap.size w w') : BatsAt w' v bs := by
  obtain ⟨G, cap, hv, hc, hf⟩ := h
  refine ⟨G, cap, hv, hc, fun i b hi => ?_⟩
  obtain ⟨g, hG, hg, h0⟩ := hf i b hi
  exact ⟨g, hG, Nat.lt_of_lt_of_le hg hb.size, h0.down hb⟩
/-- the first of them -/
theorem BatsAt.take {w : World} {G : Option Addr} {n cap : Nat} {bs : List Bat} (h : BatsAt w (.slice G n cap) bs) (k : Nat) (hk : k ≤ bs.length) : BatsAt w (.slice G k k) (bs.take k) := by
  obtain ⟨G', cap', hv, hc, hf⟩ := h
  cases hv
  refine ⟨G, k, by rw [List.length_take, Nat.min_eq_left hk], by rw [List.length_take]; omega, fun i b hi => ?_⟩
  rw [List.getElem?_take] at hi
  split at hi
  · exact hf i b hi
  · cases hi
abbrev BV := Bat × Value
def pcells (ps : List BV) : List Value := ps.flatMap fun p => [.int .i64 p.1.1, p.2]
theorem pcells_length (ps : List BV) : (pcells ps).length = ps.length * 2 := by
  induction ps with
  | nil => rfl
  | cons a l ih => show (([.int .i64 a.1.1, a.2] : List Value) ++ pcells l).length = (l.length + 1) * 2; rw [List.length_append, ih]; show 2 + _ = _; omega
theorem pcells_snoc (ps : List BV) (p : BV) : pcells (ps ++ [p]) = pcells ps ++ [.int .i64 p.1.1, p.2] := by simp [pcells]
theorem pcells_at : ∀ (ps : List BV) (i j : Nat) (p : BV), ps[i]? = some p → j < 2 → (pcells ps)[i * 2 + j]? = ([.int .i64 p.1.1, p.2] : List Value)[j]?
  | [], i, j, x, h, _ => by simp at h
  | a :: l, 0, j, x, h, hj => by
    obtain rfl : a = x := by simpa using h
    show (([.int .i64 a.1.1, a.2] : List Value) ++ pcells l)[0 * 2 + j]? = _
    rw [Nat.zero_mul, Nat.zero_add, List.getElem?_append_left (by show j < 2; omega)]
  | a :: l, i + 1, j, x, h, hj => by
    show (([.int .i64 a.1.1, a.2] : List Value) ++ pcells l)[(i + 1) * 2 + j]? = _
    rw [List.getElem?_append_right (by show 2 ≤ _; omega), show (i + 1) * 2 + j - ([.int .i64 a.1.1, a.2] : List Value).length = i * 2 + j by show (i + 1) * 2 + j - 2 = _; omega]
    exact pcells_at l i j x (by simpa using h) hj
/-- 'v owns the batches ps' -/
def BRow (w : World) (base : Nat) (v : Value) (ps : List BV) : Prop := w.ownsRow base 34 2 v ps.length (pcells ps) ∧ (∀ p ∈ ps, EntsAt w p.2 p.1.2) ∧ (ps = [] → v = .slice none 0 0)
theorem BRow.nil (w : World) (base : Nat) : BRow w base (.slice none 0 0) [] := ⟨World.ownsRow_nil _ _ _ _, (fun p hp => by cases hp), fun _ => rfl⟩
theorem BRow.down {w w' : World} {base : Nat} {v : Value} {ps : List BV} (h : BRow w base v ps) (hb : Below w.heap.size w w') : BRow w' base v ps := ⟨row_down h.1 hb, fun p hp => (h.2.1 p hp).down hb, h.2.2⟩
/-- another block grows -/
theorem BRow.kept {w w' : World} {base : Nat} {v : Value} {ps : List BV} {o : Option Nat} (h : BRow w base v ps) (g : w.grownBy w' o) (hv : v.ownBlock = none ∨ v.ownBlock ≠ o) (ho : ∀ b, o = some b → ∀ s, w.cell? ⟨b, 1, none⟩ ≠ some (.string s)) : BRow w' base v ps :=
  ⟨h.1.kept g hv, fun p hp => (h.2.1 p hp).kept g ho, h.2.2⟩
theorem BRow.set {w : World} {base R i : Nat} {v u : Value} {ps : List BV} (h : BRow w base v ps) (hR : R < base) (hs : ∀ s, w.cell? ⟨R, 1, none⟩ ≠ some (.string s)) : BRow (w.setCell ⟨R, i, none⟩ u) base v ps :=
  h.kept (Go.Lib.grownBy_setB (World.grownBy.refl w (some R)) i u) (by
    cases hv : v.ownBlock with
    | none => exact .inl rfl
    | some k => exact .inr (by intro e; have := (h.1.lt k hv).1; have := Option.some.inj e; omega)) (fun b e => by obtain rfl := Option.some.inj e; exact hs)
theorem BRow.nostr {w : World} {base : Nat} {v : Value} {ps : List BV} (h : BRow w base v ps) : ∀ b, v.ownBlock = some b → ∀ s, w.cell? ⟨b, 1, none⟩ ≠ some (.string s) := by
  intro b hb s hs
  obtain ⟨h1, h2, h3⟩ := h
  cases ps with
  | nil => rw [h3 rfl] at hb; cases hb
  | cons p l =>
    obtain ⟨g, cap, rfl, _, _⟩ := World.ownsRow.form h1 (by simp)
    obtain rfl : g = b := Option.some.inj hb
    have e := h1.cellAt (0 * 2 + 1) (by simp; omega)
    rw [pcells_at (p :: l) 0 1 p rfl (by omega), Nat.zero_mul, Nat.zero_add, hs] at e
    obtain ⟨G, c, hp, _⟩ := h2 p (List.mem_cons_self ..)
    have : some (Value.string s) = some p.2 := e
    rw [hp] at this
    cases this
theorem BRow.bats {w : World} {base : Nat} {v : Value} {ps : List BV} (h : BRow w base v ps) : BatsAt w v (ps.map Prod.fst) := by
  obtain ⟨h1, h2, h3⟩ := h
  by_cases h0 : 0 < ps.length
  · have hcap := h1.2
    obtain ⟨g, cap, rfl, _, hg⟩ := World.ownsRow.form h1 h0
    have hc : ps.length ≤ cap := by
      rcases hcap with ⟨h, _⟩ | ⟨_, _, _, h, _, _, hc, _⟩
      · cases h
      · cases h; exact hc
    refine ⟨_, cap, by rw [List.length_map], by rw [List.length_map]; exact hc, fun i b hi => ⟨g, rfl, hg, ?_⟩⟩
    rw [List.getElem?_map] at hi
    obtain ⟨p, hp, rfl⟩ := Option.map_eq_some_iff.1 hi
    have hl : i < ps.length := (List.getElem?_eq_some_iff.1 hp).1
    have e := fun j hj => pcells_at ps i j p hp hj
    exact ⟨p.2, (h1.cellAt (i * 2 + 0) (by omega)).trans (e 0 (by omega)), (h1.cellAt (i * 2 + 1) (by omega)).trans (e 1 (by omega)), h2 p (List.mem_of_getElem? hp)⟩
  · obtain rfl : ps = [] := List.eq_nil_of_length_eq_zero (by omega)
    rw [h3 rfl]
    exact ⟨none, 0, rfl, Nat.le_refl _, fun i b hi => by simp at hi⟩
theorem BRow.snoc {w w' : World} {base g cap : Nat} {v u : Value} {ps : List BV} {b : Bat} (h : BRow w base v ps) (hu : EntsAt w u b.2) (hown : w'.ownsRow base 34 2 (.slice (some ⟨g, 0, none⟩) (ps.length + 1) cap) (ps.length + 1) (pcells ps ++ [.int .i64 b.1, u])) (hg : w.grownBy w' v.ownBlock) :
    BRow w' base (.slice (some ⟨g, 0, none⟩) (ps.length + 1) cap) (ps ++ [(b, u)]) := by
  refine ⟨?_, fun p hp => ?_, fun e => by simp at e⟩
  · rw [pcells_snoc, List.length_append]; exact hown
  · rcases List.mem_append.1 hp with hp | hp
    · exact (h.2.1 p hp).kept hg h.nostr
    · obtain rfl := List.mem_singleton.1 hp
      exact hu.kept hg h.nostr
end Go.Proofs.YtaeejmggmgejcaaDoor
