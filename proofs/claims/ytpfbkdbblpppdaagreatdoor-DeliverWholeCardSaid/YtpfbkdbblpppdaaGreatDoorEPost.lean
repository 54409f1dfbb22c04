/- On the way. -/
import Derived.Test.YtpfbkdbblpppdaaGreatDoorEJgD
set_option linter.unusedVariables false
set_option linter.unusedSimpArgs false
namespace Go.Proofs.YtpfbkdbblpppdaaGreatDoor
open Go Go.Joins Go.Deep Go.ChangeShapes Go.WideShapes
section
variable {H : Type} {enc : TypeId × Value → H} {P : Program} {w : World} {base : Nat} {spare : Nat → Bool} {held : Bool}
theorem three_strs {tp ts : TypeId} {fp : Array Field} {n : Nat} {v0 v1 v2 : Value} {y : DataW H × List MemPlace} (hp : P.underlying tp = some (.struct fp)) (hone : oneCellFields P fp = true) (hfp : fp.size = 3) (hts : P.underlying ts = some .string) (hall : ∀ (j : Nat) (f : Field), fp[j]? = some f → f.type = ts)
    (h : DataW.trod enc P w base spare held n tp [v0, v1, v2] = some y) : ∃ a b c : ByteArray, v0 = .string a ∧ v1 = .string b ∧ v2 = .string c ∧ a.size ≤ maxLen ∧ b.size ≤ maxLen ∧ c.size ≤ maxLen := by
 obtain ⟨a, ha, za⟩ := str_cells hp hone hts hall (by simp [hfp]) h 0 (by omega)
 obtain ⟨b, hb, zb⟩ := str_cells hp hone hts hall (by simp [hfp]) h 1 (by omega)
 obtain ⟨c, hc, zc⟩ := str_cells hp hone hts hall (by simp [hfp]) h 2 (by omega)
 exact ⟨a, b, c, by simpa using ha, by simpa using hb, by simpa using hc, za, zb, zc⟩
def postFields (P : Program) (fs : Array Field) (tp tl ts : TypeId) : Bool :=
 fs.size == 4 && ((fs[0]?.map fun f => (f.type, f.offset)) == some (tp, 0)) && ((fs[1]?.map fun f => (f.type, f.offset)) == some (tp, 3)) && ((fs[2]?.map fun f => (f.type, f.offset)) == some (tl, 6)) && ((fs[3]?.map fun f => (f.type, f.offset)) == some (ts, 7)) &&
  P.cellsOf tp == 3 && P.cellsOf tl == 1 && P.cellsOf ts == 1
theorem post_open {r : Reach} {b0 : Nat} {t tp tl te ts : TypeId} {fs fp fl : Array Field} {v : Value} {d : DataW H} {p : List MemPlace} (hs : P.underlying t = some (.struct fs)) (hC : P.cellsOf t = 8) (hF : postFields P fs tp tl ts = true)
    (hp : P.underlying tp = some (.struct fp)) (hone : oneCellFields P fp = true) (hfp : fp.size = 3) (hts : P.underlying ts = some .string) (hall : ∀ (j : Nat) (f : Field), fp[j]? = some f → f.type = ts)
    (hl : P.underlying tl = some (.slice te)) (he : P.underlying te = some (.struct fl)) (hone2 : oneCellFields P fl = true) (hCe : P.cellsOf te = fl.size) (hfl : fl.size = 2) (hall2 : ∀ (j : Nat) (f : Field), fl[j]? = some f → f.type = ts)
    (hv : Value.okWide P w r b0 t v) (h : DataW.Trod enc P w base spare held t v d p) :
    ∃ (a0 a1 a2 b0 b1 b2 : ByteArray) (G : Option Addr) (n c : Nat) (x : Nat → Nat → ByteArray) (bo : ByteArray), v = .agg #[.string a0, .string a1, .string a2, .string b0, .string b1, .string b2, .slice G n c, .string bo] ∧
     a0.size ≤ maxLen ∧ a1.size ≤ maxLen ∧ a2.size ≤ maxLen ∧ b0.size ≤ maxLen ∧ b1.size ≤ maxLen ∧ b2.size ≤ maxLen ∧ (StrRows w G n 2 x ∧ n ≤ maxLen) ∧ bo.size ≤ maxLen := by
 obtain ⟨cs, rfl, hsz⟩ := okWide_struct hs hv
 obtain ⟨fuel, hf⟩ := h
 have hf' : DataW.trod enc P w base spare held fuel t cs.toList = some (d, p) := hf
 have hlen : cs.toList.length = 8 := by rw [Array.length_toList]; exact hsz.trans hC
 obtain ⟨v0, v1, v2, v3, v4, v5, v6, v7, hcs⟩ : ∃ v0 v1 v2 v3 v4 v5 v6 v7, cs.toList = [v0, v1, v2, v3, v4, v5, v6, v7] := by
  match hc : cs.toList, hlen with
  | [v0, v1, v2, v3, v4, v5, v6, v7], _ => exact ⟨_, _, _, _, _, _, _, _, rfl⟩
 rw [hcs] at hf'
 obtain ⟨ys, n, _, _, _, hyl, hfld⟩ := DataW.trod_struct hs hf'
 simp only [postFields, Bool.and_eq_true, beq_iff_eq] at hF
 obtain ⟨⟨⟨⟨⟨⟨⟨g0, g1⟩, g2⟩, g3⟩, g4⟩, k1⟩, k2⟩, k3⟩ := hF
 obtain ⟨f0, e0, q0⟩ := Option.map_eq_some_iff.1 g1
 obtain ⟨f1, e1, q1⟩ := Option.map_eq_some_iff.1 g2
 obtain ⟨f2, e2, q2⟩ := Option.map_eq_some_iff.1 g3
 obtain ⟨f3, e3, q3⟩ := Option.map_eq_some_iff.1 g4
 simp only [Prod.mk.injEq] at q0 q1 q2 q3
 have h0 := hfld 0 f0 e0; have h1 := hfld 1 f1 e1; have h2 := hfld 2 f2 e2; have h3 := hfld 3 f3 e3
 rw [q0.1, q0.2, k1] at h0; rw [q1.1, q1.2, k1] at h1; rw [q2.1, q2.2, k2] at h2; rw [q3.1, q3.2, k3] at h3
 rw [List.getElem?_eq_getElem (by omega)] at h0 h1 h2 h3
 obtain ⟨a0, a1, a2, r0, r1, r2, z0, z1, z2⟩ := three_strs hp hone hfp hts hall (show DataW.trod enc P w base spare held n tp [v0, v1, v2] = _ from h0)
 obtain ⟨c0, c1, c2, s0, s1, s2, x0, x1, x2⟩ := three_strs hp hone hfp hts hall (show DataW.trod enc P w base spare held n tp [v3, v4, v5] = _ from h1)
 have h2' : DataW.trod enc P w base spare held n tl [v6] = some ys[2] := h2
 obtain ⟨bo, rb, zb⟩ := str_of_trod hts (show DataW.trod enc P w base spare held n ts [v7] = _ from h3)
 obtain ⟨G, k, c, r6⟩ : ∃ G k c, v6 = .slice G k c := by
  rcases open_slice hl h2' with ⟨hc, _⟩ | ⟨x, l, c, _, _, _, _, hc, _⟩
  ·exact ⟨none, 0, 0, by simpa using hc⟩
  ·exact ⟨some x, l, c, by simpa using hc⟩
 have hT : DataW.Trod enc P w base spare held tl (.slice G k c) ys[2].1 ys[2].2 := ⟨n, by rw [r6] at h2'; exact h2'⟩
 obtain ⟨x, hx, hk⟩ := rows_open hl he hone2 hCe (by omega) hts hall2 hT
 rw [hfl] at hx
 exact ⟨a0, a1, a2, c0, c1, c2, G, k, c, x, bo, by rw [← Array.toArray_toList (xs := cs), hcs, r0, r1, r2, s0, s1, s2, r6, rb], z0, z1, z2, x0, x1, x2, ⟨hx, hk⟩, zb⟩
end
end Go.Proofs.YtpfbkdbblpppdaaGreatDoor
