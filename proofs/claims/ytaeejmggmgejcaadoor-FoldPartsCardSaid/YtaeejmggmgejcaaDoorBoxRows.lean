/-
  DERIVED. A state in memory of one's own: rows that do not meet. No program is walked here.
-/
import Derived.Test.YtaeejmggmgejcaaDoorBoxMem
namespace Go.Proofs.YtaeejmggmgejcaaDoor
open Go.RowKit

structure Row where
  v : Value
  e : TypeId
  size : Nat
  n : Nat
  cells : List Value
def Row.At (w : World) (base : Nat) (r : Row) : Prop := w.ownsRow base r.e r.size r.v r.n r.cells
/-- rows of one's own, in blocks of their own -/
def Rows (w : World) (base : Nat) (l : List Row) : Prop := (∀ r ∈ l, r.At w base) ∧ ∀ (i j : Nat) (a b : Row), l[i]? = some a → l[j]? = some b → i ≠ j → a.v.ownBlock = none ∨ a.v.ownBlock ≠ b.v.ownBlock
theorem Rows.down {w w' : World} {base : Nat} {l : List Row} (h : Rows w base l) (hb : Below w.heap.size w w') : Rows w' base l := ⟨fun r hr => row_down (h.1 r hr) hb, h.2⟩
theorem Rows.else' {w w' : World} {base R : Nat} {l : List Row} (h : Rows w base l) (g : w.grownBy w' (some R)) (hR : ∀ r ∈ l, r.v.ownBlock ≠ some R) : Rows w' base l :=
  ⟨fun r hr => (h.1 r hr).kept g (.inr (hR r hr)), h.2⟩
/-- row i grows, or is written -/
theorem Rows.put {w w' : World} {base i : Nat} {l : List Row} {r r' : Row} (h : Rows w base l) (hi : l[i]? = some r) (g : w.grownBy w' r.v.ownBlock) (h' : r'.At w' base)
    (hv : r'.v.ownBlock = r.v.ownBlock ∨ r'.v.ownBlock = none ∨ ∃ H, r'.v.ownBlock = some H ∧ w.heap.size ≤ H) : Rows w' base (l.set i r') := by
  have hlt : i < l.length := (List.getElem?_eq_some_iff.1 hi).1
  refine ⟨fun x hx => ?_, fun a b x y hx hy hab => ?_⟩
  · obtain ⟨j, hj, rfl⟩ := List.getElem_of_mem hx
    rw [List.length_set] at hj
    rw [List.getElem_set]
    split
    · exact h'
    · rename_i hne
      refine (h.1 l[j] (List.getElem_mem _)).kept g ?_
      rcases h.2 j i _ _ (List.getElem?_eq_getElem hj) hi (fun e => hne e.symm) with h0 | h0
      · exact .inl h0
      · exact .inr h0
  · rw [List.getElem?_set] at hx hy
    by_cases ha : i = a
    · subst ha
      rw [if_pos rfl, if_pos hlt] at hx
      obtain rfl := Option.some.inj hx
      rw [if_neg hab] at hy
      rcases hv with e | e | ⟨H, e, hH⟩
      · rw [e]; exact h.2 i b r y hi hy hab
      · exact .inl e
      · right
        intro e2
        have hm := List.mem_of_getElem? hy
        have := (World.ownsRow.lt (h.1 y hm) H (by rw [← e2, e])).2
        omega
    · rw [if_neg ha] at hx
      by_cases hb : i = b
      · subst hb
        rw [if_pos rfl, if_pos hlt] at hy
        obtain rfl := Option.some.inj hy
        rcases hv with e | e | ⟨H, e, hH⟩
        · rw [e]; exact h.2 a i x r hx hi hab
        · cases hxb : x.v.ownBlock with
          | none => exact .inl rfl
          | some k => right; rw [e]; intro e2; cases e2
        · right
          intro e2
          have hm := List.mem_of_getElem? hx
          have := (World.ownsRow.lt (h.1 x hm) H (by rw [e2, e])).2
          omega
      · rw [if_neg hb] at hy
        exact h.2 a b x y hx hy hab
/-- one more row, that is nil or new -/
theorem Rows.add {w w' : World} {base : Nat} {l : List Row} {r : Row} (h : Rows w' base l) (h' : r.At w' base) (hlow : ∀ x ∈ l, ∀ k, x.v.ownBlock = some k → k < w.heap.size) (hv : r.v.ownBlock = none ∨ ∃ H, r.v.ownBlock = some H ∧ w.heap.size ≤ H) : Rows w' base (l ++ [r]) := by
  refine ⟨fun x hx => ?_, fun a b x y hx hy hab => ?_⟩
  · rcases List.mem_append.1 hx with hx | hx
    · exact h.1 x hx
    · obtain rfl := List.mem_singleton.1 hx; exact h'
  · have key : ∀ (a : Nat) (x : Row), (l ++ [r])[a]? = some x → (l[a]? = some x) ∨ (a = l.length ∧ x = r) := by
      intro a x hx
      rcases Nat.lt_or_ge a l.length with h0 | h0
      · rw [List.getElem?_append_left h0] at hx; exact .inl hx
      · rw [List.getElem?_append_right h0] at hx
        cases hd : a - l.length with
        | zero => rw [hd] at hx; exact .inr ⟨by omega, (Option.some.inj hx).symm⟩
        | succ q => rw [hd] at hx; simp at hx
    rcases key a x hx with hx' | ⟨ha, hxr⟩ <;> rcases key b y hy with hy' | ⟨hb, hyr⟩
    · exact h.2 a b x y hx' hy' hab
    · rw [hyr]
      rcases hv with e | ⟨H, e, hH⟩
      · cases hxb : x.v.ownBlock with
        | none => exact .inl rfl
        | some k => right; rw [e]; intro e2; cases e2
      · right; intro e2
        have := hlow x (List.mem_of_getElem? hx') H (by rw [e2, e])
        omega
    · rw [hxr]
      rcases hv with e | ⟨H, e, hH⟩
      · exact .inl e
      · right; intro e2
        have := hlow y (List.mem_of_getElem? hy') H (by rw [← e2, e])
        omega
    · exact absurd (ha.trans hb.symm) hab

abbrev BQ := Bx × Value
def bxC (q : BQ) : List Value := [.string ⟨q.1.name.toArray⟩, .int .i64 q.1.next, q.2]
def bxcells (qs : List BQ) : List Value := qs.flatMap bxC
def rowB (vB : Value) (qs : List BQ) : Row := ⟨vB, 52, 3, qs.length, bxcells qs⟩
def rowS (vS : Value) (sp : List Ent) : Row := ⟨vS, 44, 6, sp.length, sp.flatMap entC⟩
def rowM (q : BQ) : Row := ⟨q.2, 54, 3, q.1.mails.length, q.1.mails.flatMap mailC⟩
def rowsOf (qs : List BQ) (vB vS : Value) (sp : List Ent) : List Row := rowB vB qs :: rowS vS sp :: qs.map rowM
/-- the values vB, vS hold the state s, in memory of their own from base on -/
def OwnV (w : World) (base : Nat) (vB vS : Value) (s : St) : Prop := ∃ qs : List BQ, s.boxes = qs.map Prod.fst ∧ Rows w base (rowsOf qs vB vS s.spool)
/-- the variable at block R holds the state s, in memory of its own from base on -/
def OwnS (w : World) (base R : Nat) (s : St) : Prop := ∃ (qs : List BQ) (vB vS : Value), s.boxes = qs.map Prod.fst ∧ Has w R [vB, vS] ∧ base ≤ R ∧ Rows w base (rowsOf qs vB vS s.spool) ∧ ∀ r ∈ rowsOf qs vB vS s.spool, r.v.ownBlock ≠ some R
theorem OwnV.down {w w' : World} {base : Nat} {vB vS : Value} {s : St} (h : OwnV w base vB vS s) (hb : Below w.heap.size w w') : OwnV w' base vB vS s := by
  obtain ⟨qs, h1, h2⟩ := h
  exact ⟨qs, h1, h2.down hb⟩
theorem bxcells_at (qs : List BQ) (i j : Nat) (q : BQ) (hq : qs[i]? = some q) (hj : j < 3) : (bxcells qs)[i * 3 + j]? = (bxC q)[j]? := by
  have he : hcells (qs.map fun x => (x, bxC x)) = qs.flatMap bxC := by unfold hcells; rw [List.flatMap_map]
  have := hcells_at (k := 3) (ps := qs.map fun x => (x, bxC x)) (fun p hp => by obtain ⟨x, _, rfl⟩ := List.mem_map.1 hp; rfl) i j (q, bxC q) (by rw [List.getElem?_map, hq]; rfl) hj
  rwa [he] at this
/-- boxes of one's own, read -/
theorem Rows.boxes {w : World} {base : Nat} {qs : List BQ} {vB vS : Value} {sp : List Ent} {F : Dom} (h : Rows w base (rowsOf qs vB vS sp)) (hF : ∀ b, base ≤ b → F b) : SAt cBox w F vB (qs.map Prod.fst) := by
  have h1 : (rowB vB qs).At w base := h.1 _ (List.mem_cons_self ..)
  have he : hcells (qs.map fun x => (x.1, bxC x)) = bxcells qs := by unfold hcells bxcells; rw [List.flatMap_map]
  have hM : ∀ q ∈ qs, SAt cMail w F q.2 q.1.mails := fun q hq => SAt.of_row (h.1 (rowM q) (List.mem_cons_of_mem _ (List.mem_cons_of_mem _ (List.mem_map_of_mem hq)))) hF
  -- what the boxes point at: all but the boxes' own block
  have ho : ORow cBox 52 w base (fun b => base ≤ b ∧ vB.ownBlock ≠ some b) vB (qs.map fun x => (x.1, bxC x)) := by
    refine ⟨?_, fun p hp => ?_, fun b hb hh => hh.2 hb⟩
    · rw [he, List.length_map]; exact h1
    · obtain ⟨q, hq, rfl⟩ := List.mem_map.1 hp
      refine ⟨q.2, rfl, ?_⟩
      have hrow : (rowM q).At w base := h.1 (rowM q) (List.mem_cons_of_mem _ (List.mem_cons_of_mem _ (List.mem_map_of_mem hq)))
      obtain ⟨i, hi, hqi⟩ := List.getElem_of_mem hq
      have hap := h.2 (i + 2) 0 (rowM q) (rowB vB qs) (by show (qs.map rowM)[i]? = _; rw [List.getElem?_map, List.getElem?_eq_getElem hi, hqi]; rfl) rfl (by omega)
      have hap2 : q.2.ownBlock = none ∨ q.2.ownBlock ≠ vB.ownBlock := hap
      obtain ⟨G, cap, hv, hc, hall⟩ := (SAt.of_row hrow (F := fun b => base ≤ b) (fun b h => h) : SAt cMail w (fun b => base ≤ b) q.2 q.1.mails)
      refine ⟨G, cap, hv, hc, fun k x hx => ?_⟩
      obtain ⟨g, off, hG, hg0, hg, hat⟩ := hall k x hx
      refine ⟨g, off, hG, ⟨hg0, fun e => ?_⟩, hg, ?_⟩
      · have hqb : q.2.ownBlock = some g := by rw [hv, hG]; rfl
        rcases hap2 with h0 | h0
        · rw [hqb] at h0; cases h0
        · exact h0 (hqb.trans e.symm)
      · obtain ⟨vs, hvs, hcs⟩ := hat
        exact ⟨vs, hvs, hcs⟩
  have := ho.sat hF (fun b hb => hF b hb.1)
  rwa [List.map_map, show (Prod.fst ∘ fun x : BQ => (x.1, bxC x)) = Prod.fst from rfl] at this
theorem Rows.spool {w : World} {base : Nat} {qs : List BQ} {vB vS : Value} {sp : List Ent} {F : Dom} (h : Rows w base (rowsOf qs vB vS sp)) (hF : ∀ b, base ≤ b → F b) : SAt cEnt w F vS sp :=
  SAt.of_row (h.1 (rowS vS sp) (List.mem_cons_of_mem _ (List.mem_cons_self ..))) hF
end Go.Proofs.YtaeejmggmgejcaaDoor
