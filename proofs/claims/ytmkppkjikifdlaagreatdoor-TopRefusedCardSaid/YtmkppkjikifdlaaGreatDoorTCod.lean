/- On the way. -/
import Derived.Test.YtmkppkjikifdlaaGreatDoorTKtA
import Derived.Deep.AppendLies
set_option linter.unusedVariables false
set_option linter.unusedSimpArgs false
namespace Go.Proofs.YtmkppkjikifdlaaGreatDoor
open Go.RowKit
abbrev Dom := Nat → Prop
def Same (F : Dom) (w w' : World) : Prop := ∀ b, F b → b < w.heap.size → w'.heap[b]? = w.heap[b]?
theorem Same.refl (F : Dom) (w : World) : Same F w w := fun _ _ _ => rfl
theorem Same.of_below {F : Dom} {w w' : World} (h : Below w.heap.size w w') : Same F w w' := fun b _ hb => h.block b hb
theorem Same.of_grown {F : Dom} {w w' : World} {o : Option Nat} (h : w.grownBy w' o) (ho : ∀ b, o = some b → ¬ F b) : Same F w w' := fun b hF hb => h.block b hb (fun e => ho b e.symm hF)
theorem Same.cell {F : Dom} {w w' : World} {b o : Nat} {u : Value} (h : Same F w w') (hF : F b) (hc : w.cell? ⟨b, o, none⟩ = some u) : w'.cell? ⟨b, o, none⟩ = some u :=
 (World.cell?_of_block (a := ⟨b, o, none⟩) (h b hF (World.block_lt_of_cell? w ⟨b, o, none⟩ hc))).trans hc
theorem Same.mono {F F' : Dom} {w w' : World} (h : Same F w w') (hF : ∀ b, F' b → F b) : Same F' w w' := fun b hb hl => h b (hF b hb) hl
structure Cod (α : Type) where
 size : Nat
 rep : World → Dom → α → List Value → Prop
 len : ∀ {w F x vs}, rep w F x vs → vs.length = size
 stable : ∀ {w w' F x vs}, rep w F x vs → Same F w w' → w.heap.size ≤ w'.heap.size → rep w' F x vs
 mono : ∀ {w F F' x vs}, rep w F x vs → (∀ b, F b → F' b) → rep w F' x vs
def Cod.flat {α : Type} (size : Nat) (f : α → List Value) (hf : ∀ x, (f x).length = size) : Cod α where
 size := size
 rep := fun _ _ x vs => vs = f x
 len := fun h => by rw [h]; exact hf _
 stable := fun h _ _ => h
 mono := fun h _ => h
def CAt {α : Type} (c : Cod α) (w : World) (F : Dom) (g p : Nat) (x : α) : Prop := ∃ vs, c.rep w F x vs ∧ ∀ j u, vs[j]? = some u → w.cell? ⟨g, p + j, none⟩ = some u
theorem CAt.stable {α : Type} {c : Cod α} {w w' : World} {F : Dom} {g p : Nat} {x : α} (h : CAt c w F g p x) (hs : Same F w w') (hg : F g) (hz : w.heap.size ≤ w'.heap.size) : CAt c w' F g p x := by
 obtain ⟨vs, h1, h2⟩ := h
 exact ⟨vs, c.stable h1 hs hz, fun j u hj => hs.cell hg (h2 j u hj)⟩
def SAt {α : Type} (c : Cod α) (w : World) (F : Dom) (v : Value) (xs : List α) : Prop :=
 ∃ G cap, v = .slice G xs.length cap ∧ xs.length ≤ cap ∧ ∀ i x, xs[i]? = some x → ∃ g off, G = some ⟨g, off, none⟩ ∧ F g ∧ g < w.heap.size ∧ CAt c w F g (off + i * c.size) x
theorem SAt.stable {α : Type} {c : Cod α} {w w' : World} {F : Dom} {v : Value} {xs : List α} (h : SAt c w F v xs) (hs : Same F w w') (hz : w.heap.size ≤ w'.heap.size) : SAt c w' F v xs := by
 obtain ⟨G, cap, hv, hc, hf⟩ := h
 refine ⟨G, cap, hv, hc, fun i x hi => ?_⟩
 obtain ⟨g, off, hG, hF, hg, hx⟩ := hf i x hi
 exact ⟨g, off, hG, hF, Nat.lt_of_lt_of_le hg hz, hx.stable hs hF hz⟩
theorem SAt.down {α : Type} {c : Cod α} {w w' : World} {F : Dom} {v : Value} {xs : List α} (h : SAt c w F v xs) (hb : Below w.heap.size w w') : SAt c w' F v xs := h.stable (Same.of_below hb) hb.size
theorem CAt.mono {α : Type} {c : Cod α} {w : World} {F F' : Dom} {g p : Nat} {x : α} (h : CAt c w F g p x) (hF : ∀ b, F b → F' b) : CAt c w F' g p x := by
 obtain ⟨vs, h1, h2⟩ := h
 exact ⟨vs, c.mono h1 hF, h2⟩
theorem SAt.mono {α : Type} {c : Cod α} {w : World} {F F' : Dom} {v : Value} {xs : List α} (h : SAt c w F v xs) (hF : ∀ b, F b → F' b) : SAt c w F' v xs := by
 obtain ⟨G, cap, hv, hc, hf⟩ := h
 refine ⟨G, cap, hv, hc, fun i x hi => ?_⟩
 obtain ⟨g, off, hG, hg0, hg, hx⟩ := hf i x hi
 exact ⟨g, off, hG, hF g hg0, hg, hx.mono hF⟩
theorem SAt.nil {α : Type} (c : Cod α) (w : World) (F : Dom) : SAt c w F (.slice none 0 0) [] := ⟨none, 0, rfl, Nat.le_refl _, fun i x h => by simp at h⟩
theorem SAt.form {α : Type} {c : Cod α} {w : World} {F : Dom} {v : Value} {xs : List α} (h : SAt c w F v xs) : ∃ G cap, v = .slice G xs.length cap ∧ xs.length ≤ cap := by
 obtain ⟨G, cap, hv, hc, _⟩ := h
 exact ⟨G, cap, hv, hc⟩
theorem SAt.get {α : Type} {c : Cod α} {w : World} {F : Dom} {G : Option Addr} {n cap : Nat} {xs : List α} (h : SAt c w F (.slice G n cap) xs) (i : Nat) (hi : i < xs.length) : ∃ g off vs, G = some ⟨g, off, none⟩ ∧ F g ∧ g < w.heap.size ∧ c.rep w F xs[i] vs ∧ ∀ j u, vs[j]? = some u → w.cell? ⟨g, off + i * c.size + j, none⟩ = some u := by
 obtain ⟨G', cap', hv, hc, hf⟩ := h
 cases hv
 obtain ⟨g, off, hG, hF, hg, vs, h1, h2⟩ := hf i xs[i] (List.getElem?_eq_getElem hi)
 exact ⟨g, off, vs, hG, hF, hg, h1, h2⟩
theorem SAt.take {α : Type} {c : Cod α} {w : World} {F : Dom} {G : Option Addr} {n cap : Nat} {xs : List α} (h : SAt c w F (.slice G n cap) xs) (k cap' : Nat) (hk : k ≤ xs.length) (hc : k ≤ cap') : SAt c w F (.slice G k cap') (xs.take k) := by
 obtain ⟨G', c', hv, hcc, hf⟩ := h
 cases hv
 refine ⟨G, cap', by rw [List.length_take, Nat.min_eq_left hk], by rw [List.length_take]; omega, fun i x hi => ?_⟩
 rw [List.getElem?_take] at hi
 split at hi
 ·exact hf i x hi
 ·cases hi
theorem SAt.drop {α : Type} {c : Cod α} {w : World} {F : Dom} {g off n cap : Nat} {xs : List α} (h : SAt c w F (.slice (some ⟨g, off, none⟩) n cap) xs) (k : Nat) (cap' : Nat) (_hk : k ≤ xs.length) (hc : xs.length - k ≤ cap') : SAt c w F (.slice (some ⟨g, off + k * c.size, none⟩) (xs.length - k) cap') (xs.drop k) := by
 obtain ⟨G', c', hv, hcc, hf⟩ := h
 cases hv
 refine ⟨_, cap', by rw [List.length_drop], by rw [List.length_drop]; omega, fun i x hi => ?_⟩
 rw [List.getElem?_drop] at hi
 obtain ⟨g', off', hG, hF, hg, hx⟩ := hf (k + i) x hi
 cases hG
 refine ⟨g, off + k * c.size, rfl, hF, hg, ?_⟩
 rw [show off + k * c.size + i * c.size = off + (k + i) * c.size by rw [Nat.add_mul]; omega]
 exact hx
abbrev Held (α : Type) := List (α × List Value)
def hcells {α : Type} (ps : Held α) : List Value := ps.flatMap Prod.snd
def Fits' {α : Type} (k : Nat) (ps : Held α) : Prop := ∀ p ∈ ps, p.2.length = k
theorem hcells_length {α : Type} {k : Nat} : ∀ {ps : Held α}, Fits' k ps → (hcells ps).length = ps.length * k
 | [], _ => by simp [hcells]
 | p :: l, h => by
  have h1 := h p (List.mem_cons_self ..)
  have h2 := hcells_length (ps := l) (fun q hq => h q (List.mem_cons_of_mem _ hq))
  show (p.2 ++ hcells l).length = (l.length + 1) * k
  rw [List.length_append, h1, h2, Nat.add_mul]; omega
theorem hcells_snoc {α : Type} (ps : Held α) (p : α × List Value) : hcells (ps ++ [p]) = hcells ps ++ p.2 := by simp [hcells]
theorem hcells_at {α : Type} {k : Nat} : ∀ {ps : Held α}, Fits' k ps → ∀ (i j : Nat) (p : α × List Value), ps[i]? = some p → j < k → (hcells ps)[i * k + j]? = p.2[j]?
 | [], _, i, j, p, h, _ => by simp at h
 | a :: l, hf, 0, j, p, h, hj => by
  obtain rfl : a = p := by simpa using h
  have h1 := hf a (List.mem_cons_self ..)
  show (a.2 ++ hcells l)[0 * k + j]? = _
  rw [Nat.zero_mul, Nat.zero_add, List.getElem?_append_left (by omega)]
 | a :: l, hf, i + 1, j, p, h, hj => by
  have h1 := hf a (List.mem_cons_self ..)
  show (a.2 ++ hcells l)[(i + 1) * k + j]? = _
  rw [List.getElem?_append_right (by rw [h1, Nat.add_mul]; omega), show (i + 1) * k + j - a.2.length = i * k + j by rw [h1, Nat.add_mul]; omega]
  exact hcells_at (fun q hq => hf q (List.mem_cons_of_mem _ hq)) i j p (by simpa using h) hj
def ORow {α : Type} (c : Cod α) (e : TypeId) (w : World) (base : Nat) (S : Dom) (v : Value) (ps : Held α) : Prop :=
 w.ownsRow base e c.size v ps.length (hcells ps) ∧ (∀ p ∈ ps, c.rep w S p.1 p.2) ∧ (∀ b, v.ownBlock = some b → ¬ S b)
theorem ORow.fits {α : Type} {c : Cod α} {e : TypeId} {w : World} {base : Nat} {S : Dom} {v : Value} {ps : Held α} (h : ORow c e w base S v ps) : Fits' c.size ps := fun p hp => c.len (h.2.1 p hp)
theorem ORow.nil {α : Type} (c : Cod α) (e : TypeId) (w : World) (base : Nat) (S : Dom) : ORow c e w base S (.slice none 0 0) [] := ⟨World.ownsRow_nil _ _ _ _, (fun p hp => by cases hp), fun b hb => by cases hb⟩
theorem ORow.down {α : Type} {c : Cod α} {e : TypeId} {w w' : World} {base : Nat} {S : Dom} {v : Value} {ps : Held α} (h : ORow c e w base S v ps) (hb : Below w.heap.size w w') : ORow c e w' base S v ps :=
 ⟨row_down h.1 hb, fun p hp => c.stable (h.2.1 p hp) (Same.of_below hb) hb.size, h.2.2⟩
theorem ORow.kept {α : Type} {c : Cod α} {e : TypeId} {w w' : World} {base : Nat} {S : Dom} {v : Value} {ps : Held α} {o : Option Nat} (h : ORow c e w base S v ps) (g : w.grownBy w' o) (hv : v.ownBlock = none ∨ v.ownBlock ≠ o) (ho : ∀ b, o = some b → ¬ S b) : ORow c e w' base S v ps :=
 ⟨h.1.kept g hv, fun p hp => c.stable (h.2.1 p hp) (Same.of_grown g ho) g.size, h.2.2⟩
theorem ORow.snoc {α : Type} {c : Cod α} {e : TypeId} {w w' : World} {base g cap H : Nat} {S T : Dom} {v : Value} {ps : Held α} {x : α} {vs : List Value} (h : ORow c e w base S v ps) (hST : ∀ b, S b → T b) (hx : c.rep w T x vs) (hlow : ∀ b, T b → b < H) (hT : ∀ b, v.ownBlock = some b → ¬ T b)
    (hown : w'.ownsRow base e c.size (.slice (some ⟨g, 0, none⟩) (ps.length + 1) cap) (ps.length + 1) (hcells ps ++ vs)) (hg : w.grownBy w' v.ownBlock) (hat : v.ownBlock = some g ∨ g = H) :
    ORow c e w' base T (.slice (some ⟨g, 0, none⟩) (ps.length + 1) cap) (ps ++ [(x, vs)]) := by
 refine ⟨?_, fun p hp => ?_, fun b hb => ?_⟩
 ·rw [hcells_snoc, List.length_append]; exact hown
 ·rcases List.mem_append.1 hp with hp | hp
  ·exact c.stable (c.mono (h.2.1 p hp) hST) (Same.of_grown hg hT) hg.size
  ·obtain rfl := List.mem_singleton.1 hp
   exact c.stable hx (Same.of_grown hg hT) hg.size
 ·obtain rfl : g = b := Option.some.inj hb
  rcases hat with h1 | h1
  ·exact hT g h1
  ·intro hh; have := hlow g hh; omega
theorem ORow.sat {α : Type} {c : Cod α} {e : TypeId} {w : World} {base : Nat} {S F : Dom} {v : Value} {ps : Held α} (h : ORow c e w base S v ps) (hF : ∀ b, base ≤ b → F b) (hS : ∀ b, S b → F b) : SAt c w F v (ps.map Prod.fst) := by
 have hfits := h.fits
 obtain ⟨h1, h2, _⟩ := h
 by_cases h0 : 0 < ps.length
 ·have hcap := h1.2
  obtain ⟨g, cap, rfl, hb, hg⟩ := World.ownsRow.form h1 h0
  have hc : ps.length ≤ cap := by
   rcases hcap with ⟨h, _⟩ | ⟨_, _, _, h, _, _, hc, _⟩
   ·cases h
   ·cases h; exact hc
  refine ⟨_, cap, by rw [List.length_map], by rw [List.length_map]; exact hc, fun i x hi => ⟨g, 0, rfl, hF g hb, hg, ?_⟩⟩
  rw [List.getElem?_map] at hi
  obtain ⟨p, hp, rfl⟩ := Option.map_eq_some_iff.1 hi
  have hl : i < ps.length := (List.getElem?_eq_some_iff.1 hp).1
  have hm := List.mem_of_getElem? hp
  refine ⟨p.2, c.mono (h2 p hm) hS, fun j u hj => ?_⟩
  have hjl : j < c.size := by have := (List.getElem?_eq_some_iff.1 hj).1; have := c.len (h2 p hm); omega
  rw [Nat.zero_add]
  have hlt : i * c.size + j < ps.length * c.size := by
   have : (i + 1) * c.size ≤ ps.length * c.size := Nat.mul_le_mul_right _ hl
   rw [Nat.add_mul] at this; omega
  rw [h1.cellAt (i * c.size + j) hlt, hcells_at hfits i j p hp hjl]
  exact hj
 ·obtain rfl : ps = [] := List.eq_nil_of_length_eq_zero (by omega)
  rcases h1.2 with ⟨rfl, _⟩ | ⟨g, cap, cur, rfl, _, _, hc, _⟩
  ·exact SAt.nil c w F
  ·exact ⟨_, cap, rfl, Nat.zero_le _, fun i x hi => by simp at hi⟩
theorem flat_at {α : Type} {k : Nat} {f : α → List Value} (hf : ∀ x, (f x).length = k) (xs : List α) (j : Nat) (u : Value) (h : (xs.flatMap f)[j]? = some u) : ∃ x, xs[j / k]? = some x ∧ (f x)[j % k]? = some u := by
 have hfit : Fits' k (xs.map fun x => (x, f x)) := fun p hp => by obtain ⟨x, _, rfl⟩ := List.mem_map.1 hp; exact hf x
 have he : hcells (xs.map fun x => (x, f x)) = xs.flatMap f := by unfold hcells; rw [List.flatMap_map]
 have hj := (List.getElem?_eq_some_iff.1 h).1
 rw [← he, hcells_length hfit, List.length_map] at hj
 have hk : 0 < k := by
  rcases Nat.eq_zero_or_pos k with h0 | h0
  ·subst h0; omega
  ·exact h0
 have hi : j / k < xs.length := Nat.div_lt_of_lt_mul (by rw [Nat.mul_comm]; exact hj)
 have hp : (xs.map fun x => (x, f x))[j / k]? = some (xs[j / k], f xs[j / k]) := by rw [List.getElem?_map, List.getElem?_eq_getElem hi]; rfl
 have := hcells_at hfit (j / k) (j % k) _ hp (Nat.mod_lt _ hk)
 rw [he, Nat.mul_comm, Nat.div_add_mod, h] at this
 exact ⟨xs[j / k], List.getElem?_eq_getElem hi, this.symm⟩
theorem SAt.cells {α : Type} {k : Nat} {f : α → List Value} {hf : ∀ x, (f x).length = k} {w : World} {F : Dom} {x : Addr} {n cap : Nat} {xs : List α} (h : SAt (Cod.flat k f hf) w F (.slice (some x) n cap) xs) : ∀ j u, (xs.flatMap f)[j]? = some u → w.cell? (x.add j) = some u := by
 intro j u hj
 obtain ⟨y, h1, h2⟩ := flat_at hf xs j u hj
 obtain ⟨G, c, hv, hc, hall⟩ := h
 obtain ⟨g, off, hG, hF, hg, vs, hvs, hcell⟩ := hall _ y h1
 obtain rfl : vs = f y := hvs
 cases hv; cases hG
 rw [Addr.add_lit]
 have := hcell _ u h2
 have e : off + j / k * (Cod.flat k f hf).size + j % k = off + j := by
  show off + j / k * k + j % k = off + j
  rw [Nat.add_assoc, Nat.mul_comm, Nat.div_add_mod]
 rwa [e] at this
theorem SAt.of_row {α : Type} {k : Nat} {f : α → List Value} {hf : ∀ x, (f x).length = k} {w : World} {F : Dom} {base : Nat} {e : TypeId} {v : Value} {xs : List α} (h : w.ownsRow base e k v xs.length (xs.flatMap f)) (hF : ∀ b, base ≤ b → F b) : SAt (Cod.flat k f hf) w F v xs := by
 have he : hcells (xs.map fun x => (x, f x)) = xs.flatMap f := by unfold hcells; rw [List.flatMap_map]
 have ho : ORow (Cod.flat k f hf) e w base (fun _ => False) v (xs.map fun x => (x, f x)) := by
  refine ⟨?_, fun p hp => ?_, fun b _ h => h⟩
  ·rw [he, List.length_map]; exact h
  ·obtain ⟨x, _, rfl⟩ := List.mem_map.1 hp; rfl
 have := ho.sat hF (fun b h => h.elim)
 rwa [List.map_map, show (Prod.fst ∘ fun x => (x, f x)) = (id : α → α) from rfl, List.map_id] at this
end Go.Proofs.YtmkppkjikifdlaaGreatDoor
