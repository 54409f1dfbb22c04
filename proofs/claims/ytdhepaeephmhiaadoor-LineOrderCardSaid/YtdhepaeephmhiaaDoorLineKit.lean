/-
  DERIVED. A call of Line whose results are assigned anew: what stands behind it. Texts that are put together of words.
-/
import Derived.Test.YtdhepaeephmhiaaDoorLmtp8
import Derived.Test.YtdhepaeephmhiaaDoorLineLaws
import Derived.Deep.DeepCutAuto
import Derived.IntWalk
namespace Go.Proofs.YtdhepaeephmhiaaDoor
open Go.RowKit

theorem moved_drew {B : Nat} {w w' : World} {b o : Nat} {v : Value} (h : w.cell? ⟨b, o, none⟩ = some v) (hb : Below B w.drew w') (hB : w.drew.heap.size ≤ B) : w'.cell? ⟨b, o, none⟩ = some v := moved (w := w.drew) h hb hB
theorem cell_alloc {w : World} {a : Addr} {v : Value} (o : Obj) (h : w.cell? a = some v) : (w.alloc o).cell? a = some v := (World.cell?_alloc_lt _ _ _ (World.block_lt_of_cell? w a h)).trans h
theorem SesAt.mono {LB LB' : Nat} {w : World} {R : Nat} {v : Value} {s : Ses} (h : SesAt LB w R v s) (hl : LB' ≤ LB) : SesAt LB' w R v s := ⟨h.has, h.rcp.mono (fun b hh => ⟨hh.1, Nat.le_trans hl hh.2⟩)⟩
theorem SAt.lt {α : Type} {k : Nat} {f : α → List Value} {hf : ∀ x, (f x).length = k} {w : World} {F : Dom} {v : Value} {xs : List α} (h : SAt (Cod.flat k f hf) w F v xs) : SAt (Cod.flat k f hf) w (fun b => F b ∧ b < w.heap.size) v xs := by
  obtain ⟨G, cap, hv, hcp, hall⟩ := h
  refine ⟨G, cap, hv, hcp, fun i x hi => ?_⟩
  obtain ⟨g, off, hG, hF, hg, vs, h1, h2⟩ := hall i x hi
  exact ⟨g, off, hG, ⟨hF, hg⟩, hg, vs, h1, h2⟩
/-- behind a call of Line, its results assigned: p the session's block, z the code, vl the letters, e nothing wrong -/
def LineNew (r : Ses × Int × List Lt) (w0 : World) (p z vl e : Value) (wx : World) : Prop :=
  ∃ (R : Nat) (G : Option Addr) (c : Nat) (Gl : Option Addr) (cl : Nat), p = .pointer (some ⟨R, 0, none⟩) ∧ z = .int .i64 r.2.1 ∧ vl = .slice Gl r.2.2.length cl ∧ e = .int .i64 0 ∧ w0.heap.size ≤ R ∧
    SesAt w0.heap.size wx R (.slice G r.1.rcp.length c) r.1 ∧ SAt cLet wx (fun b => b ≠ R ∧ w0.heap.size ≤ b) (.slice Gl r.2.2.length cl) r.2.2 ∧ Below w0.heap.size w0 wx
theorem line_new {r : Ses × Int × List Lt} {w0 wa w1 : World} {G Gl : Option Addr} {c cl : Nat} {t : TypeId} (hw : w0.heap.size ≤ wa.heap.size) (hv : SAt cAd w1 (fun b => wa.heap.size ≤ b) (.slice G r.1.rcp.length c) r.1.rcp) (hl : SAt cLet w1 (fun b => wa.heap.size ≤ b) (.slice Gl r.2.2.length cl) r.2.2) (hb : Below w0.heap.size w0 w1) :
    LineNew r w0 (.pointer (some ⟨w1.heap.size, 0, none⟩)) (.int .i64 r.2.1) (.slice Gl r.2.2.length cl) (.int .i64 0) (w1.alloc (.cells #[.int .i64 r.1.step, .string ⟨r.1.frm.1.toArray⟩, .string ⟨r.1.frm.2.toArray⟩, .slice G r.1.rcp.length c, .string ⟨r.1.text.toArray⟩, .bool r.1.large] t)) := by
  have hA := ba (Below.refl w1.heap.size w1) (.cells #[.int .i64 r.1.step, .string ⟨r.1.frm.1.toArray⟩, .string ⟨r.1.frm.2.toArray⟩, .slice G r.1.rcp.length c, .string ⟨r.1.text.toArray⟩, .bool r.1.large] t)
  exact ⟨w1.heap.size, G, c, Gl, cl, rfl, rfl, rfl, rfl, hb.size, ⟨Has.alloc w1 (sesC r.1 (.slice G r.1.rcp.length c)) t, (hv.lt.down hA).mono (fun b h => ⟨by have := h.2; omega, Nat.le_trans hw h.1⟩)⟩, (hl.lt.down hA).mono (fun b h => ⟨by have := h.2; omega, Nat.le_trans hw h.1⟩), ba hb _⟩
theorem line_at {r : Ses × Int × List Lt} {w0 wa w1 : World} {G Gl : Option Addr} {c cl R : Nat} (hR : w0.heap.size ≤ R) (hw : R < wa.heap.size) (hk : Has w1 R zeroS.toList) (hv : SAt cAd w1 (fun b => wa.heap.size ≤ b) (.slice G r.1.rcp.length c) r.1.rcp) (hl : SAt cLet w1 (fun b => wa.heap.size ≤ b) (.slice Gl r.2.2.length cl) r.2.2) (hb : Below w0.heap.size w0 w1) :
    LineNew r w0 (.pointer (some ⟨R, 0, none⟩)) (.int .i64 r.2.1) (.slice Gl r.2.2.length cl) (.int .i64 0) ((((((w1.setCell ⟨R, 0, none⟩ (.int .i64 r.1.step)).setCell ⟨R, 1, none⟩ (.string ⟨r.1.frm.1.toArray⟩)).setCell ⟨R, 2, none⟩ (.string ⟨r.1.frm.2.toArray⟩)).setCell ⟨R, 3, none⟩ (.slice G r.1.rcp.length c)).setCell ⟨R, 4, none⟩ (.string ⟨r.1.text.toArray⟩)).setCell ⟨R, 5, none⟩ (.bool r.1.large)) := by
  have hgr : w1.grownBy ((((((w1.setCell ⟨R, 0, none⟩ (.int .i64 r.1.step)).setCell ⟨R, 1, none⟩ (.string ⟨r.1.frm.1.toArray⟩)).setCell ⟨R, 2, none⟩ (.string ⟨r.1.frm.2.toArray⟩)).setCell ⟨R, 3, none⟩ (.slice G r.1.rcp.length c)).setCell ⟨R, 4, none⟩ (.string ⟨r.1.text.toArray⟩)).setCell ⟨R, 5, none⟩ (.bool r.1.large)) (some R) :=
    Go.Lib.grownBy_setB (Go.Lib.grownBy_setB (Go.Lib.grownBy_setB (Go.Lib.grownBy_setB (Go.Lib.grownBy_setB (Go.Lib.grownBy_setB (World.grownBy.refl w1 (some R)) 0 _) 1 _) 2 _) 3 _) 4 _) 5 _
  refine ⟨R, G, c, Gl, cl, rfl, rfl, rfl, rfl, hR, ⟨?_, ?_⟩, ?_, below_grown hb hgr hR⟩
  · exact (((((hk.set' (i := 0) _ (by simp [zeroS])).set' (i := 1) _ (by simp [zeroS])).set' (i := 2) _ (by simp [zeroS])).set' (i := 3) _ (by simp [zeroS])).set' (i := 4) _ (by simp [zeroS])).set' (i := 5) _ (by simp [zeroS])
  · exact (hv.mono (fun b (h : _ ≤ b) => (⟨by omega, by omega⟩ : b ≠ R ∧ w0.heap.size ≤ b))).stable (Same.of_grown hgr (fun b e hh => hh.1 (Option.some.inj e).symm)) hgr.size
  · exact (hl.mono (fun b (h : _ ≤ b) => (⟨by omega, by omega⟩ : b ≠ R ∧ w0.heap.size ≤ b))).stable (Same.of_grown hgr (fun b e hh => hh.1 (Option.some.inj e).symm)) hgr.size
/-- the session's variable is assigned what Line answered -/
theorem ses_assign {LB R : Nat} {r : Ses} {w0 w1 : World} {G : Option Addr} {c S : Nat} {vs : List Value} (hS : S < w0.heap.size) (h : SesAt w0.heap.size w1 R (.slice G r.rcp.length c) r) (hb : w0.grownBy w1 (some S)) (hk : Has w1 S vs) (h6 : vs.length = 6) (hLB : LB ≤ w0.heap.size) :
    SesPost LB S r w0 ((((((w1.setCell ⟨S, 0, none⟩ (.int .i64 r.step)).setCell ⟨S, 1, none⟩ (.string ⟨r.frm.1.toArray⟩)).setCell ⟨S, 2, none⟩ (.string ⟨r.frm.2.toArray⟩)).setCell ⟨S, 3, none⟩ (.slice G r.rcp.length c)).setCell ⟨S, 4, none⟩ (.string ⟨r.text.toArray⟩)).setCell ⟨S, 5, none⟩ (.bool r.large)) := by
  obtain ⟨a0, a1, a2, a3, a4, a5, rfl⟩ : ∃ a0 a1 a2 a3 a4 a5, vs = [a0, a1, a2, a3, a4, a5] := by
    match vs, h6 with
    | [a0, a1, a2, a3, a4, a5], _ => exact ⟨_, _, _, _, _, _, rfl⟩
  have hgr : w1.grownBy ((((((w1.setCell ⟨S, 0, none⟩ (.int .i64 r.step)).setCell ⟨S, 1, none⟩ (.string ⟨r.frm.1.toArray⟩)).setCell ⟨S, 2, none⟩ (.string ⟨r.frm.2.toArray⟩)).setCell ⟨S, 3, none⟩ (.slice G r.rcp.length c)).setCell ⟨S, 4, none⟩ (.string ⟨r.text.toArray⟩)).setCell ⟨S, 5, none⟩ (.bool r.large)) (some S) :=
    Go.Lib.grownBy_setB (Go.Lib.grownBy_setB (Go.Lib.grownBy_setB (Go.Lib.grownBy_setB (Go.Lib.grownBy_setB (Go.Lib.grownBy_setB (World.grownBy.refl w1 (some S)) 0 _) 1 _) 2 _) 3 _) 4 _) 5 _
  refine SesPost.of (v := .slice G r.rcp.length c) ⟨?_, ?_⟩ (Go.Lib.grownBy_trans hb hgr)
  · exact (((((hk.set' (i := 0) _ (by simp)).set' (i := 1) _ (by simp)).set' (i := 2) _ (by simp)).set' (i := 3) _ (by simp)).set' (i := 4) _ (by simp)).set' (i := 5) _ (by simp)
  · exact (h.rcp.mono (fun b hh => (⟨by have := hh.2; omega, by have := hh.2; omega⟩ : b ≠ S ∧ LB ≤ b))).stable (Same.of_grown hgr (fun b e hh => hh.1 (Option.some.inj e).symm)) hgr.size
/-- behind a call of Line its session lies in a new block: the old variable may be written -/
theorem ses_fresh {W3 wr wa w4 : World} {q q' : Ses} {v : Value} {LB S : Nat} {G : Option Addr} {c : Nat} (t : TypeId) (hg : W3.grownBy wr (some S)) (hs : SesAt LB wr S v q) (hb : Below wr.heap.size wr wa) (hv : SAt cAd w4 (fun b => wa.heap.size ≤ b) (.slice G q'.rcp.length c) q'.rcp) (hb4 : Below wa.heap.size wa w4) (hS : S < W3.heap.size) :
    Has (w4.alloc (.cells #[.int .i64 q'.step, .string ⟨q'.frm.1.toArray⟩, .string ⟨q'.frm.2.toArray⟩, .slice G q'.rcp.length c, .string ⟨q'.text.toArray⟩, .bool q'.large] t)) S [.int .i64 q.step, .string ⟨q.frm.1.toArray⟩, .string ⟨q.frm.2.toArray⟩, v, .string ⟨q.text.toArray⟩, .bool q.large] ∧
    SesPost 0 S q' W3 (((((((w4.alloc (.cells #[.int .i64 q'.step, .string ⟨q'.frm.1.toArray⟩, .string ⟨q'.frm.2.toArray⟩, .slice G q'.rcp.length c, .string ⟨q'.text.toArray⟩, .bool q'.large] t)).setCell ⟨S, 0, none⟩ (.int .i64 q'.step)).setCell ⟨S, 1, none⟩ (.string ⟨q'.frm.1.toArray⟩)).setCell ⟨S, 2, none⟩ (.string ⟨q'.frm.2.toArray⟩)).setCell ⟨S, 3, none⟩ (.slice G q'.rcp.length c)).setCell ⟨S, 4, none⟩ (.string ⟨q'.text.toArray⟩)).setCell ⟨S, 5, none⟩ (.bool q'.large)) := by
  have hA := ba (Below.refl w4.heap.size w4) (.cells #[.int .i64 q'.step, .string ⟨q'.frm.1.toArray⟩, .string ⟨q'.frm.2.toArray⟩, .slice G q'.rcp.length c, .string ⟨q'.text.toArray⟩, .bool q'.large] t)
  have hbb := bt (bt hb hb4) hA
  have h1 := (hs.down hbb).six
  refine ⟨h1, ?_⟩
  have hz : wr.heap.size ≤ wa.heap.size := hb.size
  have hz3 : W3.heap.size ≤ wr.heap.size := hg.size
  refine ses_assign (R := w4.heap.size) hS ⟨Has.alloc w4 (sesC q' (.slice G q'.rcp.length c)) t, (hv.lt.down hA).mono (fun b h => ⟨by have := h.2; omega, by have : wa.heap.size ≤ b := h.1; omega⟩)⟩ (Go.Lib.grownBy_below hg hbb) h1 rfl (Nat.zero_le _)
theorem LinePost.form {r : Ses × Int × List Lt} {w w' : World} {e : Ending} (h : LinePost r w e w') : ∃ G c Gl cl, e = .returned (.tuple #[.agg #[.int .i64 r.1.step, .string ⟨r.1.frm.1.toArray⟩, .string ⟨r.1.frm.2.toArray⟩, .slice G r.1.rcp.length c, .string ⟨r.1.text.toArray⟩, .bool r.1.large], .int .i64 r.2.1, .slice Gl r.2.2.length cl, .int .i64 0]) ∧
    SAt cAd w' (fun b => w.heap.size ≤ b) (.slice G r.1.rcp.length c) r.1.rcp ∧ SAt cLet w' (fun b => w.heap.size ≤ b) (.slice Gl r.2.2.length cl) r.2.2 ∧ Below w.heap.size w w' := by
  obtain ⟨⟨v, vl, rfl, hv, hl⟩, hb⟩ := h
  obtain ⟨G, c, rfl, -⟩ := hv.form
  obtain ⟨Gl, cl, rfl, -⟩ := hl.form
  exact ⟨G, c, Gl, cl, rfl, hv, hl, hb⟩
theorem LinePost.form3 {s : Ses} {z : Int} {w w' : World} {e : Ending} (h : LinePost (s, z, []) w e w') : ∃ G c Gl cl, e = .returned (.tuple #[.agg #[.int .i64 s.step, .string ⟨s.frm.1.toArray⟩, .string ⟨s.frm.2.toArray⟩, .slice G s.rcp.length c, .string ⟨s.text.toArray⟩, .bool s.large], .int .i64 z, .slice Gl 0 cl, .int .i64 0]) ∧
    SAt cAd w' (fun b => w.heap.size ≤ b) (.slice G s.rcp.length c) s.rcp ∧ Below w.heap.size w w' := by
  obtain ⟨G, c, Gl, cl, h1, h2, -, h4⟩ := h.form
  exact ⟨G, c, Gl, cl, h1, h2, h4⟩
/-- one text, as a slice of its own -/
theorem str_one (w : World) (x : List UInt8) (F : Dom) (hF : F w.heap.size) (t : TypeId) : SAt cStr (w.alloc (.cells #[.string ⟨x.toArray⟩] t)) F (.slice (some ⟨w.heap.size, 0, none⟩) 1 1) [x] := by
  refine ⟨_, 1, rfl, Nat.le_refl _, fun i y hi => ?_⟩
  match i, hi with
  | 0, hi =>
    obtain rfl := Option.some.inj hi
    refine ⟨w.heap.size, 0, rfl, hF, by simp, strC x, rfl, fun j u hj => ?_⟩
    have := (Has.alloc w [.string ⟨x.toArray⟩] t).1 j u hj
    simpa using this
  | i + 1, hi => simp at hi
/-- texts that are put together -/
theorem ang_bytes (l d : List UInt8) : (⟨#[60]⟩ : ByteArray) ++ addrL l ++ ⟨#[64]⟩ ++ addrD d ++ ⟨#[62]⟩ = ⟨(angL (zAd l d)).toArray⟩ := by
  rw [← Lib.mk_data ((⟨#[60]⟩ : ByteArray) ++ addrL l ++ ⟨#[64]⟩ ++ addrD d ++ ⟨#[62]⟩)]
  congr 2
  simp [angL, zAd, addrL, addrD]
theorem pre_bytes (p : Array UInt8) (t : List UInt8) : (⟨p⟩ : ByteArray) ++ ⟨t.toArray⟩ = ⟨(p.toList ++ t).toArray⟩ := by
  rw [← Lib.mk_data ((⟨p⟩ : ByteArray) ++ ⟨t.toArray⟩)]
  congr 2
end Go.Proofs.YtdhepaeephmhiaaDoor
