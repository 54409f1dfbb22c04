/- On the way. -/
import Derived.Test.YtmkppkjikifdlaaGreatDoorTBxC
import Derived.Test.YtmkppkjikifdlaaGreatDoorTOpen
import Derived.Deep.Slices
import Derived.Deep.Fields
import Derived.ChangeSame
import Derived.SizedLaws
set_option linter.unusedVariables false
set_option linter.unusedSimpArgs false
namespace Go.Proofs.YtmkppkjikifdlaaGreatDoor
open Go Go.Joins Go.Deep Go.ChangeShapes Go.WideShapes Go.RowKit
section
variable {H : Type} {enc : TypeId × Value → H} {P : Program} {w : World} {base : Nat} {spare : Nat → Bool} {held : Bool}
theorem int_cell {t : TypeId} {n : Nat} {v : Value} {y : DataW H × List MemPlace} (ht : P.underlying t = some (.int .i64)) (h : DataW.trod enc P w base spare held n t [v] = some y) : ∃ z : Int, v = .int .i64 z ∧ Int64 z := by
 obtain ⟨z, hz, _, hw⟩ := DataW.trod_int ht h
 exact ⟨z, by simpa using hz, wf_bd hw⟩
theorem chore_cells {e ti ts : TypeId} {fs : Array Field} {fuel : Nat} {cs : List Value} {x : DataW H × List MemPlace} (he : P.underlying e = some (.struct fs)) (hone : oneCellFields P fs = true) (hfs : fs.size = 6)
    (hti : P.underlying ti = some (.int .i64)) (hts : P.underlying ts = some .string) (hall : ∀ (j : Nat) (f : Field), fs[j]? = some f → f.type = if j < 5 then ti else ts) (hcl : cs.length = 6) (h : DataW.trod enc P w base spare held fuel e cs = some x) :
    ∃ c : Raw, cs = [.int .i64 c.kind, .int .i64 c.box, .int .i64 c.uid, .int .i64 c.flags, .int .i64 c.dest, .string c.text] ∧ RawOK c := by
 obtain ⟨v0, v1, v2, v3, v4, v5, hv⟩ : ∃ v0 v1 v2 v3 v4 v5, cs = [v0, v1, v2, v3, v4, v5] := by
  match cs, hcl with
  | [v0, v1, v2, v3, v4, v5], _ => exact ⟨_, _, _, _, _, _, rfl⟩
 obtain ⟨ys, n, _, _, _, hyl, hf⟩ := DataW.trod_struct he h
 have cell : ∀ j (hj : j < 6), ∃ y, DataW.trod enc P w base spare held n (if j < 5 then ti else ts) [cs[j]'(by omega)] = some y := by
  intro j hj
  have hfj : fs[j]? = some (fs[j]'(by omega)) := Array.getElem?_eq_getElem (by omega)
  obtain ⟨ho, hk⟩ := hone_of hone j _ hfj
  have h1 := hf j _ hfj
  rw [ho, hk, List.drop_eq_getElem_cons (by omega : j < cs.length), hall j _ hfj, List.getElem?_eq_getElem (by omega : j < ys.length)] at h1
  exact ⟨_, h1⟩
 subst hv
 obtain ⟨y0, k0⟩ := cell 0 (by omega); obtain ⟨y1, k1⟩ := cell 1 (by omega); obtain ⟨y2, k2⟩ := cell 2 (by omega)
 obtain ⟨y3, k3⟩ := cell 3 (by omega); obtain ⟨y4, k4⟩ := cell 4 (by omega); obtain ⟨y5, k5⟩ := cell 5 (by omega)
 obtain ⟨z0, e0, w0⟩ := int_cell hti k0; obtain ⟨z1, e1, w1⟩ := int_cell hti k1; obtain ⟨z2, e2, w2⟩ := int_cell hti k2
 obtain ⟨z3, e3, w3⟩ := int_cell hti k3; obtain ⟨z4, e4, w4⟩ := int_cell hti k4
 obtain ⟨s, e5, w5⟩ := str_of_trod hts k5
 have e0' : v0 = _ := e0; have e1' : v1 = _ := e1; have e2' : v2 = _ := e2; have e3' : v3 = _ := e3; have e4' : v4 = _ := e4; have e5' : v5 = _ := e5
 exact ⟨⟨z0, z1, z2, z3, z4, s⟩, by rw [e0', e1', e2', e3', e4', e5'], w0, w1, w2, w3, w4, by unfold maxLen at w5; omega⟩
def intOf? (w : World) (a : Addr) : Int := match w.cell? a with
 | some (.int _ n) => n
 | _ => 0
def textOf? (w : World) (a : Addr) : ByteArray := match w.cell? a with
 | some (.string s) => s
 | _ => ⟨#[]⟩
def rawAt (w : World) (x : Addr) : Raw := ⟨intOf? w x, intOf? w (x.add 1), intOf? w (x.add 2), intOf? w (x.add 3), intOf? w (x.add 4), textOf? w (x.add 5)⟩
theorem chores_open2 {t e ti ts : TypeId} {fs : Array Field} {a : Option Addr} {len cap : Nat} {d : DataW H} {p : List MemPlace} (ht : P.underlying t = some (.slice e)) (he : P.underlying e = some (.struct fs)) (hone : oneCellFields P fs = true) (hC : P.cellsOf e = 6) (hfs : fs.size = 6)
    (hti : P.underlying ti = some (.int .i64)) (hts : P.underlying ts = some .string) (hall : ∀ (j : Nat) (f : Field), fs[j]? = some f → f.type = if j < 5 then ti else ts) (h : DataW.Trod enc P w base spare held t (.slice a len cap) d p) :
    ∃ cs : List Raw, cs.length = len ∧ RawsAt w a cs ∧ cs.length ≤ 9223372036854775807 ∧ cs.length ≤ cap := by
 obtain ⟨fuel, hf⟩ := h
 rcases open_slice ht hf with ⟨hcs, _⟩ | ⟨x, l, c, m, n, D, Pl, hcs, hb, hl, hm, hmm, hx, hi⟩
 ·simp [Value.cells] at hcs
  obtain ⟨rfl, rfl, rfl⟩ := hcs
  exact ⟨[], rfl, (fun i c hc => by simp at hc), Nat.zero_le _, Nat.zero_le _⟩
 ·simp [Value.cells] at hcs
  obtain ⟨rfl, rfl, rfl⟩ := hcs
  have hlm : len ≤ m := by rw [hmm]; split <;> omega
  refine ⟨(List.range len).map fun i => rawAt w (x.add (i * 6)), by simp, ?_, by simp; unfold maxLen at hm; omega, by simpa using hl⟩
  intro i c hc
  rw [List.getElem?_map] at hc
  obtain ⟨i', hi', rfl⟩ := Option.map_eq_some_iff.1 hc
  obtain ⟨hil, rfl⟩ := List.getElem?_eq_some_iff.1 hi'
  simp only [List.length_range] at hil
  rw [List.getElem_range]
  obtain ⟨cs', hc', ht'⟩ := hi i (by omega)
  rw [hC] at hc'
  obtain ⟨_, hcl, hcat⟩ := World.cells?_some hc'
  obtain ⟨c, rfl, hok⟩ := chore_cells he hone hfs hti hts hall hcl ht'
  obtain ⟨b, off, spot⟩ := x
  have hspot : spot = none := by
   obtain ⟨cs0, hc0, _⟩ := hi 0 (by omega)
   rw [hC] at hc0
   obtain ⟨_, hcl0, hcat0⟩ := World.cells?_some hc0
   have q0 := hcat0 0 (by omega)
   rw [List.getElem?_eq_getElem (by omega : 0 < cs0.length)] at q0
   simpa [Addr.add] using World.cell?_spot q0
  subst hspot
  have q : ∀ j, j < 6 → w.cell? ⟨b, off + i * 6 + j, none⟩ = ([.int .i64 c.kind, .int .i64 c.box, .int .i64 c.uid, .int .i64 c.flags, .int .i64 c.dest, .string c.text] : List Value)[j]? := by
   intro j hj
   have := hcat j hj
   rwa [Addr.add_lit, Addr.add_lit] at this
  have r0 : w.cell? ⟨b, off + i * 6, none⟩ = some (.int .i64 c.kind) := q 0 (by omega)
  have r1 : w.cell? ⟨b, off + i * 6 + 1, none⟩ = some (.int .i64 c.box) := q 1 (by omega)
  have r2 : w.cell? ⟨b, off + i * 6 + 2, none⟩ = some (.int .i64 c.uid) := q 2 (by omega)
  have r3 : w.cell? ⟨b, off + i * 6 + 3, none⟩ = some (.int .i64 c.flags) := q 3 (by omega)
  have r4 : w.cell? ⟨b, off + i * 6 + 4, none⟩ = some (.int .i64 c.dest) := q 4 (by omega)
  have r5 : w.cell? ⟨b, off + i * 6 + 5, none⟩ = some (.string c.text) := q 5 (by omega)
  have hraw : rawAt w ((⟨b, off, none⟩ : Addr).add (i * 6)) = c := by
   unfold rawAt intOf? textOf?
   simp only [Addr.add_lit, r0, r1, r2, r3, r4, r5]
  rw [hraw]
  exact ⟨b, off, rfl, World.block_lt_of_cell? w ⟨b, off + i * 6, none⟩ r0, r0, r1, r2, r3, r4, r5, hok⟩
theorem chores_open {t e ti ts : TypeId} {fs : Array Field} {a : Option Addr} {len cap : Nat} {d : DataW H} {p : List MemPlace} (ht : P.underlying t = some (.slice e)) (he : P.underlying e = some (.struct fs)) (hone : oneCellFields P fs = true) (hC : P.cellsOf e = 6) (hfs : fs.size = 6)
    (hti : P.underlying ti = some (.int .i64)) (hts : P.underlying ts = some .string) (hall : ∀ (j : Nat) (f : Field), fs[j]? = some f → f.type = if j < 5 then ti else ts) (h : DataW.Trod enc P w base spare held t (.slice a len cap) d p) :
    ∃ cs : List Raw, cs.length = len ∧ RawsAt w a cs ∧ cs.length ≤ 9223372036854775807 := by
 obtain ⟨cs, h1, h2, h3, _⟩ := chores_open2 ht he hone hC hfs hti hts hall h
 exact ⟨cs, h1, h2, h3⟩
end
end Go.Proofs.YtmkppkjikifdlaaGreatDoor
