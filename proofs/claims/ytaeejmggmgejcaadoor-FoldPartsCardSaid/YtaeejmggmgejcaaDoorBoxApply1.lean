/-
  DERIVED. 'Apply' of box: the walk.
-/
import Derived.Test.YtaeejmggmgejcaaDoorBoxAll
namespace Go.Proofs.YtaeejmggmgejcaaDoor
open Go.RowKit

/-- what Apply answers -/
def ApPost (r : St × Int) (w : World) (e : Ending) (w' : World) : Prop :=
  (if r.2 = 0 then ∃ G1 c1 G2 c2, e = .returned (.tuple #[.agg #[.slice G1 r.1.boxes.length c1, .slice G2 r.1.spool.length c2], .int .i64 0]) ∧ OwnV w' w.heap.size (.slice G1 r.1.boxes.length c1) (.slice G2 r.1.spool.length c2) r.1
   else e = .returned (.tuple #[.agg #[.slice none 0 0, .slice none 0 0], .int .i64 r.2])) ∧ Below w.heap.size w w'
theorem ap_end {R : Nat} {r : St × Int} {G1 G2 : Option Addr} {c1 c2 : Nat} {a : Act} {W w : World} (ht : a.tmps.getD 4 undef = .pointer (some ⟨R, 0, none⟩)) (ht5 : a.tmps.getD 5 undef = .int .i64 0) (hd : a.defers = []) (hr : r.2 = 0)
    (h : Has W R [.slice G1 r.1.boxes.length c1, .slice G2 r.1.spool.length c2]) (he : OwnV W w.heap.size (.slice G1 r.1.boxes.length c1) (.slice G2 r.1.spool.length c2) r.1) (hb : Below w.heap.size w W) : bodyPost Tryd.prog Tryd.f11 (ApPost r w) .ret a W := by
  obtain ⟨c0, c1', _, _⟩ := h.two
  refine bodyPost_ret (v := .tuple #[.agg #[.slice G1 r.1.boxes.length c1, .slice G2 r.1.spool.length c2], .int .i64 0]) ?_ hd ⟨by rw [if_pos hr]; exact ⟨_, _, _, _, rfl, he⟩, hb⟩
  have ht' : a.tmps[4]?.getD undef = .pointer (some ⟨R, 0, none⟩) := by simpa using ht
  have ht5' : a.tmps[5]?.getD undef = .int .i64 0 := by simpa using ht5
  simp [results, Tryd.results11, go_sem, ht', ht5', c0, c1']
theorem ap_end0 {R : Nat} {r : St × Int} {a : Act} {W w : World} (ht : a.tmps.getD 4 undef = .pointer (some ⟨R, 0, none⟩)) (ht5 : a.tmps.getD 5 undef = .int .i64 r.2) (hd : a.defers = []) (hr : r.2 ≠ 0)
    (h : Has W R [.slice none 0 0, .slice none 0 0]) (hb : Below w.heap.size w W) : bodyPost Tryd.prog Tryd.f11 (ApPost r w) .ret a W := by
  obtain ⟨c0, c1', _, _⟩ := h.two
  refine bodyPost_ret (v := .tuple #[.agg #[.slice none 0 0, .slice none 0 0], .int .i64 r.2]) ?_ hd ⟨by rw [if_neg hr], hb⟩
  have ht' : a.tmps[4]?.getD undef = .pointer (some ⟨R, 0, none⟩) := by simpa using ht
  have ht5' : a.tmps[5]?.getD undef = .int .i64 r.2 := by simpa using ht5
  simp [results, Tryd.results11, go_sem, ht', ht5', c0, c1']
theorem ent_one (w : World) (x : Ent) (F : Dom) (hF : ∀ b, w.heap.size ≤ b → F b) (t : TypeId) : SAt cEnt (w.alloc (.cells (entC x).toArray t)) F (.slice (some ⟨w.heap.size, 0, none⟩) 1 1) [x] := by
  refine ⟨_, 1, rfl, Nat.le_refl _, fun i y hi => ⟨w.heap.size, 0, rfl, hF _ (Nat.le_refl _), by simp, entC y, rfl, fun j u hj => ?_⟩⟩
  cases i with
  | succ i => simp at hi
  | zero =>
    obtain rfl : x = y := by simpa using hi
    have := (Has.alloc w (entC x) t).1 j u hj
    simpa using this

set_option maxHeartbeats 4000000 in
set_option maxRecDepth 20000 in
theorem Apply_any (s : St) (x : Ent) (vB vS : Value) (F : Dom) (m : Int) (w : World) (hB : SAt cBox w F vB s.boxes) (hS : SAt cEnt w F vS s.spool) (hg : GoodS s) (hx : Small x)
    (hm : w.cell? ⟨0, 0, none⟩ = some (.int .i64 m)) : Calls Tryd.prog 11 #[.agg #[vB, vS], .agg #[.int .i64 x.kind, .string ⟨x.box.toArray⟩, .int .i64 x.uid, .int .i64 x.flags, .string ⟨x.to.toArray⟩, .string ⟨x.text.toArray⟩]] w (ApPost (allS s [x]) w) := by
  obtain ⟨Gb, cb, rfl, hcb⟩ := hB.form
  obtain ⟨Gs, cS, rfl, hcs⟩ := hS.form
  have hA := ba (ba (ba (ba (Below.refl w.heap.size w) (.cells #[.slice Gb s.boxes.length cb, .slice Gs s.spool.length cS] 29)) (.cells #[.int .i64 x.kind, .string ⟨x.box.toArray⟩, .int .i64 x.uid, .int .i64 x.flags, .string ⟨x.to.toArray⟩, .string ⟨x.text.toArray⟩] 44)) (.cells #[.slice none 0 0, .slice none 0 0] 29)) (.cells #[.int .i64 x.kind, .string ⟨x.box.toArray⟩, .int .i64 x.uid, .int .i64 x.flags, .string ⟨x.to.toArray⟩, .string ⟨x.text.toArray⟩] 44)
  have h2 := (Has.alloc ((w.alloc (.cells #[.slice Gb s.boxes.length cb, .slice Gs s.spool.length cS] 29)).alloc (.cells #[.int .i64 x.kind, .string ⟨x.box.toArray⟩, .int .i64 x.uid, .int .i64 x.flags, .string ⟨x.to.toArray⟩, .string ⟨x.text.toArray⟩] 44)) [.slice none 0 0, .slice none 0 0] 29).down (ba (Below.refl _ _) (.cells #[.int .i64 x.kind, .string ⟨x.box.toArray⟩, .int .i64 x.uid, .int .i64 x.flags, .string ⟨x.to.toArray⟩, .string ⟨x.text.toArray⟩] 44))
  simp only [World.size_alloc] at h2
  have hone := ent_one (((w.alloc (.cells #[.slice Gb s.boxes.length cb, .slice Gs s.spool.length cS] 29)).alloc (.cells #[.int .i64 x.kind, .string ⟨x.box.toArray⟩, .int .i64 x.uid, .int .i64 x.flags, .string ⟨x.to.toArray⟩, .string ⟨x.text.toArray⟩] 44)).alloc (.cells #[.slice none 0 0, .slice none 0 0] 29)) x (fun b => F b ∨ w.heap.size ≤ b) (fun b h => .inr (by simp at h; omega)) 44
  simp only [World.size_alloc] at hone
  have hcall := Lib.hid (all_any s [x] _ _ _ (fun b => F b ∨ w.heap.size ≤ b) m _ ((hB.down hA).mono (fun b h => .inl h)) ((hS.down hA).mono (fun b h => .inl h)) hg hone (by simp) (fun y hy => by obtain rfl := List.mem_singleton.1 hy; exact hx) (moved hm hA (Nat.le_refl _)))
  obtain ⟨r, hr⟩ : ∃ r, r = allS s [x] := ⟨_, rfl⟩
  rw [← hr] at hcall ⊢
  have HA := Lib.hid hA; have H2 := Lib.hid h2
  clear hA h2 hB hS hg hm hone hx hr
  go_enter Tryd.func11, Tryd.ntmps11
  go_wp2_with fail
  refine hcall.out.mono ?_
  rintro e w1 ⟨he, hb1⟩
  have HA1 := Lib.hid (bt HA.out hb1); have HR := Lib.hid (H2.out.down hb1)
  obtain ⟨d0, d1, g0, g1⟩ := HR.out.two
  have hz1 := HR.out.2.2
  clear hb1 H2 hcall
  by_cases hr0 : r.2 = 0
  · rw [if_pos hr0] at he
    obtain ⟨G1, c1, G2, c2, rfl, hv⟩ := he
    have HV := Lib.hid hv; have HR0 := Lib.hid hr0
    clear hv hr0
    go_wp2_with fail
    exact ap_end (R := w.heap.size + 1 + 1) rfl rfl rfl HR0.out ((HR.out.set' (i := 0) _ (by simp)).set' (i := 1) _ (by simp)) (((HV.out.else' (by simp)).else' (by simp)).base (by simp; omega)) ((HA1.out.setCell (p := ⟨w.heap.size + 1 + 1, 0, none⟩) (by show w.heap.size ≤ w.heap.size + 1 + 1; omega) _).setCell (p := ⟨w.heap.size + 1 + 1, 1, none⟩) (by show w.heap.size ≤ w.heap.size + 1 + 1; omega) _)
  · rw [if_neg hr0] at he
    subst he
    have HR0 := Lib.hid hr0
    clear hr0
    go_wp2_with fail
    exact ap_end0 (R := w.heap.size + 1 + 1) rfl rfl rfl HR0.out ((HR.out.set' (i := 0) _ (by simp)).set' (i := 1) _ (by simp)) ((HA1.out.setCell (p := ⟨w.heap.size + 1 + 1, 0, none⟩) (by show w.heap.size ≤ w.heap.size + 1 + 1; omega) _).setCell (p := ⟨w.heap.size + 1 + 1, 1, none⟩) (by show w.heap.size ≤ w.heap.size + 1 + 1; omega) _)
end Go.Proofs.YtaeejmggmgejcaaDoor
