/-
  DERIVED. States of boxes in memory. No program is walked here.
-/
import Derived.Test.YtaeejmggmgejcaaDoorCod
import Derived.Test.YtaeejmggmgejcaaDoorHas
import Derived.Test.YtaeejmggmgejcaaDoorEnts
import Derived.Test.YtaeejmggmgejcaaDoorBoxPlain
namespace Go.Proofs.YtaeejmggmgejcaaDoor
open Go.RowKit

def mailC (m : Mail) : List Value := [.int .i64 m.uid, .int .i64 m.flags, .string ⟨m.text.toArray⟩]
def cMail : Cod Mail := Cod.flat 3 mailC (fun _ => rfl)
def cEnt : Cod Ent := Cod.flat 6 entC (fun _ => rfl)
/-- a box: its mails lie elsewhere -/
def cBox : Cod Bx where
  size := 3
  rep := fun w F b vs => ∃ u, vs = [.string ⟨b.name.toArray⟩, .int .i64 b.next, u] ∧ SAt cMail w F u b.mails
  len := fun ⟨_, h, _⟩ => by rw [h]; rfl
  stable := fun ⟨u, h, k⟩ hs hz => ⟨u, h, k.stable hs hz⟩
  mono := fun ⟨u, h, k⟩ hF => ⟨u, h, k.mono hF⟩
theorem infoMail : (Tryd.prog.info? 54).map (fun i => (i.zero, i.size, i.bytes)) = some (some (.agg #[.int .i64 0, .int .i64 0, .string ⟨#[]⟩]), 3, 32) := by kernel_rfl
theorem infoBx : (Tryd.prog.info? 52).map (fun i => (i.zero, i.size, i.bytes)) = some (some (.agg #[.string ⟨#[]⟩, .int .i64 0, .slice none 0 0]), 3, 48) := by kernel_rfl
theorem infoEnt2 : (Tryd.prog.info? 44).map (fun i => (i.zero, i.size, i.bytes)) = some (some (.agg #[.int .i64 0, .string ⟨#[]⟩, .int .i64 0, .int .i64 0, .string ⟨#[]⟩, .string ⟨#[]⟩]), 6, 72) := by kernel_rfl
/-- box j, as the walk reads it -/
theorem box_get {w wr : World} {F : Dom} {G : Option Addr} {n cap : Nat} {l : List Bx} (h : SAt cBox w F (.slice G n cap) l) (hb : Below w.heap.size w wr) (j : Nat) (hj : j < l.length) :
    ∃ g off a c, G = some ⟨g, off, none⟩ ∧ F g ∧ g < w.heap.size ∧ l[j].mails.length ≤ c ∧ SAt cMail wr F (.slice a l[j].mails.length c) l[j].mails ∧ wr.cell? ⟨g, off + j * 3, none⟩ = some (.string ⟨l[j].name.toArray⟩) ∧ wr.cell? ⟨g, off + j * 3 + 1, none⟩ = some (.int .i64 l[j].next) ∧ wr.cell? ⟨g, off + j * 3 + 2, none⟩ = some (.slice a l[j].mails.length c) := by
  obtain ⟨g, off, vs, hG, hF, hg, ⟨u, rfl, hu⟩, hc⟩ := (h.down hb).get j hj
  obtain ⟨g', off', vs', hG', _, hg', _, _⟩ := h.get j hj
  obtain ⟨e1, rfl⟩ : g' = g ∧ off' = off := by rw [hG] at hG'; cases hG'; exact ⟨rfl, rfl⟩
  obtain ⟨a, c, rfl, hac⟩ := hu.form
  exact ⟨g, off', a, c, hG, hF, e1 ▸ hg', hac, hu, hc 0 _ rfl, hc 1 _ rfl, hc 2 _ rfl⟩
theorem mail_get {w wr : World} {F : Dom} {G : Option Addr} {n cap : Nat} {l : List Mail} (h : SAt cMail w F (.slice G n cap) l) (hb : Below w.heap.size w wr) (j : Nat) (hj : j < l.length) :
    ∃ g off, G = some ⟨g, off, none⟩ ∧ F g ∧ g < w.heap.size ∧ wr.cell? ⟨g, off + j * 3, none⟩ = some (.int .i64 l[j].uid) ∧ wr.cell? ⟨g, off + j * 3 + 1, none⟩ = some (.int .i64 l[j].flags) ∧ wr.cell? ⟨g, off + j * 3 + 2, none⟩ = some (.string ⟨l[j].text.toArray⟩) := by
  obtain ⟨g, off, vs, hG, hF, hg, hv, hc⟩ := h.get j hj
  obtain rfl : vs = mailC l[j] := hv
  exact ⟨g, off, hG, hF, hg, moved (hc 0 _ rfl) hb (Nat.le_refl _), moved (hc 1 _ rfl) hb (Nat.le_refl _), moved (hc 2 _ rfl) hb (Nat.le_refl _)⟩
theorem ent_get {w wr : World} {F : Dom} {G : Option Addr} {n cap : Nat} {l : List Ent} (h : SAt cEnt w F (.slice G n cap) l) (hb : Below w.heap.size w wr) (j : Nat) (hj : j < l.length) :
    ∃ g off, G = some ⟨g, off, none⟩ ∧ F g ∧ g < w.heap.size ∧ wr.cell? ⟨g, off + j * 6, none⟩ = some (.int .i64 l[j].kind) ∧ wr.cell? ⟨g, off + j * 6 + 1, none⟩ = some (.string ⟨l[j].box.toArray⟩) ∧ wr.cell? ⟨g, off + j * 6 + 2, none⟩ = some (.int .i64 l[j].uid) ∧
      wr.cell? ⟨g, off + j * 6 + 3, none⟩ = some (.int .i64 l[j].flags) ∧ wr.cell? ⟨g, off + j * 6 + 4, none⟩ = some (.string ⟨l[j].to.toArray⟩) ∧ wr.cell? ⟨g, off + j * 6 + 5, none⟩ = some (.string ⟨l[j].text.toArray⟩) := by
  obtain ⟨g, off, vs, hG, hF, hg, hv, hc⟩ := h.get j hj
  obtain rfl : vs = entC l[j] := hv
  exact ⟨g, off, hG, hF, hg, moved (hc 0 _ rfl) hb (Nat.le_refl _), moved (hc 1 _ rfl) hb (Nat.le_refl _), moved (hc 2 _ rfl) hb (Nat.le_refl _), moved (hc 3 _ rfl) hb (Nat.le_refl _), moved (hc 4 _ rfl) hb (Nat.le_refl _), moved (hc 5 _ rfl) hb (Nat.le_refl _)⟩
theorem sumM_take (l : List Mail) (k : Nat) (h : k < l.length) : sumM (l.take (k + 1)) = sumM (l.take k) + l[k].text.length := by
  unfold sumM; rw [List.take_succ_eq_append_getElem h, List.map_append, List.sum_append]; simp
theorem sumB_take (l : List Bx) (k : Nat) (h : k < l.length) : sumB (l.take (k + 1)) = sumB (l.take k) + sumM l[k].mails := by
  unfold sumB; rw [List.take_succ_eq_append_getElem h, List.map_append, List.sum_append]; simp
theorem sumM_le (l : List Mail) (k : Nat) : sumM (l.take k) ≤ sumM l := by
  have h : sumM l = sumM (l.take k) + sumM (l.drop k) := by unfold sumM; rw [← List.sum_append, ← List.map_append, List.take_append_drop]
  omega
theorem sumB_le (l : List Bx) (k : Nat) : sumB (l.take k) ≤ sumB l := by
  have h : sumB l = sumB (l.take k) + sumB (l.drop k) := by unfold sumB; rw [← List.sum_append, ← List.map_append, List.take_append_drop]
  omega
end Go.Proofs.YtaeejmggmgejcaaDoor
