/- On the way. -/
import Derived.Test.YtmkppkjikifdlaaGreatDoorTScRd7
import Derived.Deep.RegionHeld3
set_option linter.unusedVariables false
set_option linter.unusedSimpArgs false
namespace Go.Proofs.YtmkppkjikifdlaaGreatDoor.Sc
open Go.RowKit
open Tk (Tok)
def PanicOr (Qp : List PanicEntry → World → Prop) (Q : Exit → Act → World → Prop) : Exit → Act → World → Prop
 | .panic c, a, w => a.defers = [] ∧ Qp c w
 | e, a, w => Q e a w
theorem PanicOr.normal {Qp : List PanicEntry → World → Prop} {Q : Exit → Act → World → Prop} {a : Act} {w : World} (h : Q .normal a w) : PanicOr Qp Q .normal a w := h
theorem wp_region_panic {P : Program} {id : Nat} {ops : Array Oper} {b : Bool} {Q : Exit → Act → World → Prop} {a : Act} {w : World} (Qp : List PanicEntry → World → Prop) (hQ : ∀ c a w, a.defers = [] → Qp c w → Q (.panic c) a w) (h : (Code.region id ops b).wp P (PanicOr Qp Q) a w) : (Code.region id ops b).wp P Q a w :=
 Code.wp_mono (fun e a w h => by
  cases e <;> first | exact h | exact hQ _ a w h.1 h.2) h
theorem any_at {P : Program} {md : Region.Mode} {ops : Array Oper} {Q : Exit → Act → World → Prop} {fuel : Nat} {listed : Array Bool} {a : Act} {w : World} (R : World → Prop) (hR : R w) (h : ∀ V, R V → wpAny P md ops Q fuel listed a V) : wpAny P md ops Q fuel listed a w := h w hR
structure P1 (w W V : World) (b T N m : Nat) (v : Value) (F : Dom) (all r : List Tok) (cs : List Value) (vt : Value) (ps : Held Tst) : Prop where
 rb : RB w V b T N v F all r cs
 row : ORow (cTst m) 158 V (T + 1) (DmB (T + 1) W vt) vt ps
 sz : W.heap.size ≤ V.heap.size
theorem DmB_off {B b : Nat} {W : World} {v : Value} (hb : b < B) : ¬ DmB B W v b := fun h => by have := h.1; omega
theorem P1.next {w W V V' : World} {b T N m : Nat} {v : Value} {F : Dom} {all r r' : List Tok} {cs : List Value} {vt : Value} {ps : Held Tst} (h : P1 w W V b T N m v F all r cs vt ps) (hr : RL V' b v F all r') (g : V.grownBy V' (some b)) : P1 w W V' b T N m v F all r' cs vt ps :=
 have h1 := h.rb.bN
 have h2 := h.rb.NT
 ⟨h.rb.next hr g, h.row.kept g (by
  by_cases e : vt.ownBlock = none
  ·exact .inl e
  ·refine .inr fun e2 => ?_
   have := (h.row.1.lt b e2).1
   omega) (fun x e => by obtain rfl : b = x := Option.some.inj e; exact DmB_off (by omega)), Nat.le_trans h.sz g.size⟩
theorem P1.down {w W V V' : World} {b T N m : Nat} {v : Value} {F : Dom} {all r : List Tok} {cs : List Value} {vt : Value} {ps : Held Tst} (h : P1 w W V b T N m v F all r cs vt ps) (g : Below V.heap.size V V') : P1 w W V' b T N m v F all r cs vt ps := h.next (h.rb.rd.below g) (gBelow g b)
def ElAt (W V : World) (m : Nat) (t : Tst) (vs : List Value) : Prop := (cTst m).rep V (fun x => W.heap.size ≤ x ∧ x < V.heap.size) t vs
theorem ElAt.next {W V V' : World} {m b : Nat} {t : Tst} {vs : List Value} (h : ElAt W V m t vs) (g : V.grownBy V' (some b)) (hb : b < W.heap.size) : ElAt W V' m t vs :=
 (cTst m).mono ((cTst m).stable h (Same.of_grown g (fun x e hF => by obtain rfl : b = x := Option.some.inj e; have := hF.1; omega)) g.size) (fun x hx => ⟨hx.1, Nat.lt_of_lt_of_le hx.2 g.size⟩)
theorem ElAt.down {W V V' : World} {m : Nat} {t : Tst} {vs : List Value} (h : ElAt W V m t vs) (g : Below V.heap.size V V') (hW : 0 < W.heap.size) : ElAt W V' m t vs := h.next (b := 0) (gBelow g 0) hW
theorem RB.offset {w0 w : World} {b T N g i : Nat} {v : Value} {F : Dom} {all l : List Tok} {cs : List Value} (h : RB w0 w b T N v F all l cs) (hg : T < g) (u : Value) : RB w0 (w.setCell ⟨g, i, none⟩ u) b T N v F all l cs :=
 have h1 := h.bN
 have h2 := h.NT
 have h3 := h.N0
 ⟨rl_far h.rd (by omega) u, h.t.else' (by omega) u, h.res.else' (by omega) u, grown_far h.gr (by omega) u, h.bN, h.NT, h.N0⟩
theorem RB.row {w0 w w' : World} {b T N : Nat} {v : Value} {F : Dom} {all l : List Tok} {cs : List Value} {o : Option Nat} (h : RB w0 w b T N v F all l cs) (g : w.grownBy w' o) (ho : ∀ x, o = some x → T < x) : RB w0 w' b T N v F all l cs :=
 have h1 := h.bN
 have h2 := h.NT
 have h3 := h.N0
 ⟨h.rd.grown g (fun x e => ⟨by have := ho x e; omega, fun hF => by have := ho x e; have := h.rd.low x hF; omega⟩), h.t.kept g (fun e => by have := ho T e.symm; omega), h.res.kept g (fun e => by have := ho N e.symm; omega),
  grown_row h.gr (Below.refl _ _) g (fun x e => by have := ho x e; omega), h.bN, h.NT, h.N0⟩
structure S2 (w V1 V : World) (b T N : Nat) (v : Value) (F : Dom) (all r : List Tok) (cs : List Value) (vt : Value) (g n cap : Nat) (xs : List Value) : Prop where
 rb : RB w V b T N v F all r cs
 own : V.ownsRow (T + 1) 158 8 (.slice (some ⟨g, 0, none⟩) (n + 1) cap) (n + 1) xs
 same : ∀ x, T < x → x < V1.heap.size → vt.ownBlock ≠ some x → V.heap[x]? = V1.heap[x]?
 sz : V1.heap.size ≤ V.heap.size
theorem S2.gT {w V1 V : World} {b T N g n cap : Nat} {v : Value} {F : Dom} {all r : List Tok} {cs xs : List Value} {vt : Value} (h : S2 w V1 V b T N v F all r cs vt g n cap xs) : T < g := (h.own.lt g rfl).1
theorem S2.start {w V w6 : World} {b T N g n cap : Nat} {v : Value} {F : Dom} {all r : List Tok} {cs xs : List Value} {vt : Value} (hr : RB w V b T N v F all r cs) (_hT : T + 1 ≤ V.heap.size) (hlo : ∀ x, vt.ownBlock = some x → T + 1 ≤ x) (hown : w6.ownsRow (T + 1) 158 8 (.slice (some ⟨g, 0, none⟩) (n + 1) cap) (n + 1) xs) (hg : V.grownBy w6 vt.ownBlock) (_hat : vt.ownBlock = some g ∨ g = V.heap.size) : S2 w V w6 b T N v F all r cs vt g n cap xs :=
 ⟨hr.row hg hlo, hown, fun x _ h2 h3 => hg.block x h2 (fun e => h3 e.symm), hg.size⟩
theorem S2.setT {w V1 V : World} {b T N g n cap i : Nat} {v : Value} {F : Dom} {all r : List Tok} {cs xs : List Value} {vt : Value} (h : S2 w V1 V b T N v F all r cs vt g n cap xs) (u : Value) (hi : i < cs.length) : S2 w V1 (V.setCell ⟨T, i, none⟩ u) b T N v F all r (cs.set i u) vt g n cap xs :=
 ⟨h.rb.set u hi, ownsRow_setCell_below h.own (show T < T + 1 by omega) u, fun x h1 h2 h3 => (Below.heap_setCell _ _ _ _ (by show x ≠ T; omega)).trans (h.same x h1 h2 h3), by have := h.sz; simpa [World.setCell] using this⟩
theorem S2.one {w V1 V : World} {b T N g n cap : Nat} {v : Value} {F : Dom} {all r : List Tok} {cs xs : List Value} {vt : Value} (h : S2 w V1 V b T N v F all r cs vt g n cap xs) (hat : vt.ownBlock = some g ∨ g = V1.heap.size) (j : Nat) (u : Value) : S2 w V1 (V.setCell ⟨g, j, none⟩ u) b T N v F all r cs vt g n cap (xs.set j u) :=
 ⟨h.rb.offset h.gT u, (h.own.stored j u).1, fun x h1 h2 h3 => (Below.heap_setCell _ _ _ _ (by
  show x ≠ g
  rintro rfl
  rcases hat with e | e
  ·exact h3 e
  ·omega)).trans (h.same x h1 h2 h3), by have := h.sz; simpa [World.setCell] using this⟩
theorem set_app {xs : List Value} {z0 z1 z2 z3 z4 z5 z6 z7 a0 a1 a2 a3 a4 a5 a6 a7 : Value} {k : Nat} (h : xs.length = k) : ((((((((xs ++ [z0, z1, z2, z3, z4, z5, z6, z7]).set k a0).set (k + 1) a1).set (k + 2) a2).set (k + 3) a3).set (k + 4) a4).set (k + 5) a5).set (k + 6) a6).set (k + 7) a7 = xs ++ [a0, a1, a2, a3, a4, a5, a6, a7] := by
 subst h
 rw [List.set_append_right _ _ (Nat.le_refl _), List.set_append_right _ _ (by omega), List.set_append_right _ _ (by omega), List.set_append_right _ _ (by omega), List.set_append_right _ _ (by omega), List.set_append_right _ _ (by omega), List.set_append_right _ _ (by omega), List.set_append_right _ _ (by omega)]
 simp
theorem S2.st8 {w V1 V : World} {b T N g n cap : Nat} {v : Value} {F : Dom} {all r : List Tok} {cs ys : List Value} {vt z0 z1 z2 z3 z4 z5 z6 z7 : Value} (h : S2 w V1 V b T N v F all r cs vt g n cap (ys ++ [z0, z1, z2, z3, z4, z5, z6, z7])) (hy : ys.length = n * 8) (hat : vt.ownBlock = some g ∨ g = V1.heap.size) (a0 a1 a2 a3 a4 a5 a6 a7 : Value) :
    S2 w V1 ((((((((V.setCell ⟨g, n * 8, none⟩ a0).setCell ⟨g, n * 8 + 1, none⟩ a1).setCell ⟨g, n * 8 + 2, none⟩ a2).setCell ⟨g, n * 8 + 3, none⟩ a3).setCell ⟨g, n * 8 + 4, none⟩ a4).setCell ⟨g, n * 8 + 5, none⟩ a5).setCell ⟨g, n * 8 + 6, none⟩ a6).setCell ⟨g, n * 8 + 7, none⟩ a7) b T N v F all r cs vt g n cap (ys ++ [a0, a1, a2, a3, a4, a5, a6, a7]) := by
 have h8 := (((((((h.one hat (n * 8) a0).one hat (n * 8 + 1) a1).one hat (n * 8 + 2) a2).one hat (n * 8 + 3) a3).one hat (n * 8 + 4) a4).one hat (n * 8 + 5) a5).one hat (n * 8 + 6) a6).one hat (n * 8 + 7) a7
 rwa [set_app hy] at h8
theorem S2.cells8 {w V1 V : World} {b T N g n cap : Nat} {v : Value} {F : Dom} {all r : List Tok} {cs ys : List Value} {vt z0 z1 z2 z3 z4 z5 z6 z7 : Value} (h : S2 w V1 V b T N v F all r cs vt g n cap (ys ++ [z0, z1, z2, z3, z4, z5, z6, z7])) (hy : ys.length = n * 8) :
    V.cell? ⟨g, n * 8, none⟩ = some z0 ∧ V.cell? ⟨g, n * 8 + 1, none⟩ = some z1 ∧ V.cell? ⟨g, n * 8 + 2, none⟩ = some z2 ∧ V.cell? ⟨g, n * 8 + 3, none⟩ = some z3 ∧ V.cell? ⟨g, n * 8 + 4, none⟩ = some z4 ∧ V.cell? ⟨g, n * 8 + 5, none⟩ = some z5 ∧ V.cell? ⟨g, n * 8 + 6, none⟩ = some z6 ∧ V.cell? ⟨g, n * 8 + 7, none⟩ = some z7 ∧
    V.frozen? ⟨g, n * 8, none⟩ = false ∧ V.frozen? ⟨g, n * 8 + 1, none⟩ = false ∧ V.frozen? ⟨g, n * 8 + 2, none⟩ = false ∧ V.frozen? ⟨g, n * 8 + 3, none⟩ = false ∧ V.frozen? ⟨g, n * 8 + 4, none⟩ = false ∧ V.frozen? ⟨g, n * 8 + 5, none⟩ = false ∧ V.frozen? ⟨g, n * 8 + 6, none⟩ = false ∧ V.frozen? ⟨g, n * 8 + 7, none⟩ = false := by
 have key : ∀ j u, ([z0, z1, z2, z3, z4, z5, z6, z7] : List Value)[j]? = some u → V.cell? ⟨g, n * 8 + j, none⟩ = some u := fun j u hu => by
  have hj : j < 8 := (List.getElem?_eq_some_iff.1 hu).1
  rw [h.own.cellAt (n * 8 + j) (by omega), List.getElem?_append_right (by omega), hy, Nat.add_sub_cancel_left]
  exact hu
 have fr := fun j => h.own.frozenAt j
 exact ⟨key 0 _ rfl, key 1 _ rfl, key 2 _ rfl, key 3 _ rfl, key 4 _ rfl, key 5 _ rfl, key 6 _ rfl, key 7 _ rfl, fr _, fr _, fr _, fr _, fr _, fr _, fr _, fr _⟩
theorem row_fin {c : Cod Tst} {ty : TypeId} {W V w' : World} {T g cap : Nat} {vt : Value} {ps : Held Tst} {t : Tst} {vs : List Value} (hrow : ORow c ty V (T + 1) (DmB (T + 1) W vt) vt ps) (hW : W.heap.size ≤ V.heap.size) (hel : c.rep V (fun x => W.heap.size ≤ x ∧ x < V.heap.size) t vs) (hv : ∀ x, vt.ownBlock = some x → x < W.heap.size) (hT : T + 1 ≤ W.heap.size)
    (hown : w'.ownsRow (T + 1) ty c.size (.slice (some ⟨g, 0, none⟩) (ps.length + 1) cap) (ps.length + 1) (hcells ps ++ vs)) (hat : vt.ownBlock = some g ∨ g = V.heap.size) (hsame : ∀ x, T < x → x < V.heap.size → vt.ownBlock ≠ some x → w'.heap[x]? = V.heap[x]?) (hsz : V.heap.size ≤ w'.heap.size) :
    ORow c ty w' (T + 1) (DmB (T + 1) w' (.slice (some ⟨g, 0, none⟩) (ps.length + 1) cap)) (.slice (some ⟨g, 0, none⟩) (ps.length + 1) cap) (ps ++ [(t, vs)]) := by
 have hg : ∀ x, x < V.heap.size → vt.ownBlock ≠ some x → (Value.slice (some ⟨g, 0, none⟩) (ps.length + 1) cap).ownBlock ≠ some x := fun x h1 h2 e => by
  have e' : g = x := Option.some.inj e
  rcases hat with h | h
  ·exact h2 (e' ▸ h)
  ·omega
 refine ⟨?_, fun p hp => ?_, fun x hx hh => hh.2.2 hx⟩
 ·rw [hcells_snoc, List.length_append]; exact hown
 ·rcases List.mem_append.1 hp with hp | hp
  ·refine c.mono (c.stable (hrow.2.1 p hp) (fun x hx _ => hsame x (by have := hx.1; omega) (by have := hx.2.1; omega) hx.2.2) hsz) (fun x hx => ⟨hx.1, by have := hx.2.1; omega, hg x (by have := hx.2.1; omega) hx.2.2⟩)
  ·obtain rfl := List.mem_singleton.1 hp
   have hvx : ∀ x, W.heap.size ≤ x → vt.ownBlock ≠ some x := fun x h1 e => by have := hv x e; omega
   refine c.mono (c.stable hel (fun x hx _ => hsame x (by have := hx.1; omega) hx.2 (hvx x hx.1)) hsz) (fun x hx => ⟨by have := hx.1; omega, by have := hx.2; omega, hg x hx.2 (hvx x hx.1)⟩)
theorem ix0 {α : Type} {a0 : α} {l : List α} : (List.toArray (a0 :: l))[0]? = some a0 := rfl
theorem ix1 {α : Type} {a0 a1 : α} {l : List α} : (List.toArray (a0 :: a1 :: l))[1]? = some a1 := rfl
theorem ix2 {α : Type} {a0 a1 a2 : α} {l : List α} : (List.toArray (a0 :: a1 :: a2 :: l))[2]? = some a2 := rfl
theorem ix3 {α : Type} {a0 a1 a2 a3 : α} {l : List α} : (List.toArray (a0 :: a1 :: a2 :: a3 :: l))[3]? = some a3 := rfl
theorem ix4 {α : Type} {a0 a1 a2 a3 a4 : α} {l : List α} : (List.toArray (a0 :: a1 :: a2 :: a3 :: a4 :: l))[4]? = some a4 := rfl
theorem ix5 {α : Type} {a0 a1 a2 a3 a4 a5 : α} {l : List α} : (List.toArray (a0 :: a1 :: a2 :: a3 :: a4 :: a5 :: l))[5]? = some a5 := rfl
theorem ix6 {α : Type} {a0 a1 a2 a3 a4 a5 a6 : α} {l : List α} : (List.toArray (a0 :: a1 :: a2 :: a3 :: a4 :: a5 :: a6 :: l))[6]? = some a6 := rfl
theorem ix7 {α : Type} {a0 a1 a2 a3 a4 a5 a6 a7 : α} {l : List α} : (List.toArray (a0 :: a1 :: a2 :: a3 :: a4 :: a5 :: a6 :: a7 :: l))[7]? = some a7 := rfl
theorem ix8 {α : Type} {a0 a1 a2 a3 a4 a5 a6 a7 a8 : α} {l : List α} : (List.toArray (a0 :: a1 :: a2 :: a3 :: a4 :: a5 :: a6 :: a7 :: a8 :: l))[8]? = some a8 := rfl
theorem ix9 {α : Type} {a0 a1 a2 a3 a4 a5 a6 a7 a8 a9 : α} {l : List α} : (List.toArray (a0 :: a1 :: a2 :: a3 :: a4 :: a5 :: a6 :: a7 :: a8 :: a9 :: l))[9]? = some a9 := rfl
theorem ix10 {α : Type} {a0 a1 a2 a3 a4 a5 a6 a7 a8 a9 a10 : α} {l : List α} : (List.toArray (a0 :: a1 :: a2 :: a3 :: a4 :: a5 :: a6 :: a7 :: a8 :: a9 :: a10 :: l))[10]? = some a10 := rfl
theorem ix11 {α : Type} {a0 a1 a2 a3 a4 a5 a6 a7 a8 a9 a10 a11 : α} {l : List α} : (List.toArray (a0 :: a1 :: a2 :: a3 :: a4 :: a5 :: a6 :: a7 :: a8 :: a9 :: a10 :: a11 :: l))[11]? = some a11 := rfl
theorem ix12 {α : Type} {a0 a1 a2 a3 a4 a5 a6 a7 a8 a9 a10 a11 a12 : α} {l : List α} : (List.toArray (a0 :: a1 :: a2 :: a3 :: a4 :: a5 :: a6 :: a7 :: a8 :: a9 :: a10 :: a11 :: a12 :: l))[12]? = some a12 := rfl
theorem bnd_more {f : List Tok → PR Tst} {m : Nat} {r r4 : List Tok} (h : eatP 44 r = some r4) {β : Type} (g : List Tst → List Tok → PR β) : bnd (moreT f (m + 1) r) g = bnd (f r4) fun t q => bnd (moreT f m q) fun ts q2 => g (t :: ts) q2 := by
 rw [moreT, h]
 show bnd (bnd (f r4) _) g = _
 rw [bnd_assoc]
 cases f r4 with
 | error p => rfl
 | ok p =>
  show bnd (bnd (moreT f m p.2) _) g = bnd (moreT f m p.2) _
  rw [bnd_assoc]; rfl
theorem moreT_none {f : List Tok → PR Tst} {m : Nat} {r : List Tok} (h : eatP 44 r = none) : moreT f m r = .ok ([], r) := by
 cases m with
 | zero => rfl
 | succ m => rw [moreT, h]
end Go.Proofs.YtmkppkjikifdlaaGreatDoor.Sc
