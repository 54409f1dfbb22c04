/-
  DERIVED. An argument that is a slice of Pieces (two ints and a text), opened.
-/
import Derived.Test.YtpjiiipabbchiaaDoorTkToks
import Derived.Test.YtpjiiipabbchiaaDoorOpen
import Derived.Deep.Slices
import Derived.Deep.Fields
import Derived.ChangeSame
import Derived.SizedLaws
namespace Go.Proofs.YtpjiiipabbchiaaDoor.Tk
open Go Go.Joins Go.Deep Go.ChangeShapes Go.WideShapes Go.RowKit
section
variable {H : Type} {enc : TypeId × Value → H} {P : Program} {w : World} {base : Nat} {spare : Nat → Bool} {held : Bool}
theorem pc_int {t : TypeId} {n : Nat} {v : Value} {y : DataW H × List MemPlace} (ht : P.underlying t = some (.int .i64)) (h : DataW.trod enc P w base spare held n t [v] = some y) : ∃ z : Int, v = .int .i64 z ∧ (-9223372036854775808 ≤ z ∧ z ≤ 9223372036854775807) := by
  obtain ⟨z, hz, _, hw⟩ := DataW.trod_int ht h
  exact ⟨z, by simpa using hz, wf_bd hw⟩
theorem pc_cells {e ti ts : TypeId} {fs : Array Field} {fuel : Nat} {cs : List Value} {x : DataW H × List MemPlace} (he : P.underlying e = some (.struct fs)) (hone : oneCellFields P fs = true) (hfs : fs.size = 3)
    (hti : P.underlying ti = some (.int .i64)) (hts : P.underlying ts = some .string) (hall : ∀ (j : Nat) (f : Field), fs[j]? = some f → f.type = if j < 2 then ti else ts) (hcl : cs.length = 3) (h : DataW.trod enc P w base spare held fuel e cs = some x) :
    ∃ c : Pc, cs = pcC c ∧ GoodPc c := by
  obtain ⟨v0, v1, v2, hv⟩ : ∃ v0 v1 v2, cs = [v0, v1, v2] := by
    match cs, hcl with
    | [v0, v1, v2], _ => exact ⟨_, _, _, rfl⟩
  obtain ⟨ys, n, _, _, _, hyl, hf⟩ := DataW.trod_struct he h
  have cell : ∀ j (hj : j < 3), ∃ y, DataW.trod enc P w base spare held n (if j < 2 then ti else ts) [cs[j]'(by omega)] = some y := by
    intro j hj
    have hfj : fs[j]? = some (fs[j]'(by omega)) := Array.getElem?_eq_getElem (by omega)
    obtain ⟨ho, hk⟩ := hone_of hone j _ hfj
    have h1 := hf j _ hfj
    rw [ho, hk, List.drop_eq_getElem_cons (by omega : j < cs.length), hall j _ hfj, List.getElem?_eq_getElem (by omega : j < ys.length)] at h1
    exact ⟨_, h1⟩
  subst hv
  obtain ⟨y0, k0⟩ := cell 0 (by omega); obtain ⟨y1, k1⟩ := cell 1 (by omega); obtain ⟨y2, k2⟩ := cell 2 (by omega)
  obtain ⟨z0, e0, w0⟩ := pc_int hti k0; obtain ⟨z1, e1, w1⟩ := pc_int hti k1
  obtain ⟨s, e2, w2⟩ := str_of_trod hts k2
  have e0' : v0 = _ := e0; have e1' : v1 = _ := e1; have e2' : v2 = _ := e2
  exact ⟨(z0, z1, s), by rw [e0', e1', e2']; rfl, w0, w1, by unfold maxLen at w2; show s.size ≤ _; omega⟩
def pInt (w : World) (a : Addr) : Int := match w.cell? a with
  | some (.int _ n) => n
  | _ => 0
def pStr (w : World) (a : Addr) : ByteArray := match w.cell? a with
  | some (.string s) => s
  | _ => ⟨#[]⟩
def pcAt (w : World) (x : Addr) : Pc := (pInt w x, pInt w (x.add 1), pStr w (x.add 2))
theorem pcs_open {t e ti ts : TypeId} {fs : Array Field} {a : Option Addr} {len cap : Nat} {d : DataW H} {p : List MemPlace} (ht : P.underlying t = some (.slice e)) (he : P.underlying e = some (.struct fs)) (hone : oneCellFields P fs = true) (hC : P.cellsOf e = 3) (hfs : fs.size = 3)
    (hti : P.underlying ti = some (.int .i64)) (hts : P.underlying ts = some .string) (hall : ∀ (j : Nat) (f : Field), fs[j]? = some f → f.type = if j < 2 then ti else ts) (h : DataW.Trod enc P w base spare held t (.slice a len cap) d p) :
    ∃ cs : List Pc, SAt cPc w (fun _ => True) (.slice a len cap) cs ∧ ∀ c ∈ cs, GoodPc c := by
  obtain ⟨fuel, hf⟩ := h
  rcases open_slice ht hf with ⟨hcs, _⟩ | ⟨x, l, c, m, n, D, Pl, hcs, hb, hl, hm, hmm, hx, hi⟩
  · simp [Value.cells] at hcs
    obtain ⟨rfl, rfl, rfl⟩ := hcs
    exact ⟨[], SAt.nil _ _ _, fun c hc => by simp at hc⟩
  · simp [Value.cells] at hcs
    obtain ⟨rfl, rfl, rfl⟩ := hcs
    have hlm : len ≤ m := by rw [hmm]; split <;> omega
    have key : ∀ i, i < len → ∃ b off, some x = some ⟨b, off, none⟩ ∧ b < w.heap.size ∧ GoodPc (pcAt w (x.add (i * 3))) ∧ ∀ j u, (pcC (pcAt w (x.add (i * 3))))[j]? = some u → w.cell? ⟨b, off + i * 3 + j, none⟩ = some u := by
      intro i hil
      obtain ⟨cs', hc', ht'⟩ := hi i (by omega)
      rw [hC] at hc'
      obtain ⟨_, hcl, hcat⟩ := World.cells?_some hc'
      obtain ⟨c, rfl, hok⟩ := pc_cells he hone hfs hti hts hall hcl ht'
      obtain ⟨b, off, spot⟩ := x
      have hspot : spot = none := by
        obtain ⟨cs0, hc0, _⟩ := hi 0 (by omega)
        rw [hC] at hc0
        obtain ⟨_, hcl0, hcat0⟩ := World.cells?_some hc0
        have q0 := hcat0 0 (by omega)
        rw [List.getElem?_eq_getElem (by omega : 0 < cs0.length)] at q0
        simpa [Addr.add] using World.cell?_spot q0
      subst hspot
      have q : ∀ j, j < 3 → w.cell? ⟨b, off + i * 3 + j, none⟩ = (pcC c)[j]? := by
        intro j hj
        have := hcat j hj
        rwa [Addr.add_lit, Addr.add_lit] at this
      have r0 : w.cell? ⟨b, off + i * 3, none⟩ = some (.int .i64 c.1) := q 0 (by omega)
      have r1 : w.cell? ⟨b, off + i * 3 + 1, none⟩ = some (.int .i64 c.2.1) := q 1 (by omega)
      have r2 : w.cell? ⟨b, off + i * 3 + 2, none⟩ = some (.string c.2.2) := q 2 (by omega)
      have hraw : pcAt w ((⟨b, off, none⟩ : Addr).add (i * 3)) = c := by
        unfold pcAt pInt pStr
        simp only [Addr.add_lit, r0, r1, r2]
      rw [hraw]
      refine ⟨b, off, rfl, World.block_lt_of_cell? w ⟨b, off + i * 3, none⟩ r0, hok, fun j u hu => ?_⟩
      have hj : j < 3 := (List.getElem?_eq_some_iff.1 hu).1
      exact (q j hj).trans hu
    refine ⟨(List.range len).map fun i => pcAt w (x.add (i * 3)), ⟨some x, cap, by simp, by simpa using hl, ?_⟩, ?_⟩
    · intro i c hc
      rw [List.getElem?_map] at hc
      obtain ⟨i', hi', rfl⟩ := Option.map_eq_some_iff.1 hc
      obtain ⟨hil, rfl⟩ := List.getElem?_eq_some_iff.1 hi'
      simp only [List.length_range] at hil
      rw [List.getElem_range]
      obtain ⟨b, off, e1, e2, -, e4⟩ := key i hil
      exact ⟨b, off, e1, trivial, e2, _, rfl, e4⟩
    · intro c hc
      obtain ⟨i, hi', rfl⟩ := List.mem_map.1 hc
      obtain ⟨-, -, -, -, e3, -⟩ := key i (List.mem_range.1 hi')
      exact e3
end
end Go.Proofs.YtpjiiipabbchiaaDoor.Tk
