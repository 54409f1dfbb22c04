/-
  DERIVED. 'Line' of lmtp: the walk.
-/
import Derived.Test.YtdhepaeephmhiaaDoorLmtp7
namespace Go.Proofs.YtdhepaeephmhiaaDoor
open Go.RowKit

abbrev Lt := Ad × Ad × List UInt8
def letC (x : Lt) : List Value := [.string ⟨x.1.1.toArray⟩, .string ⟨x.1.2.toArray⟩, .string ⟨x.2.1.1.toArray⟩, .string ⟨x.2.1.2.toArray⟩, .string ⟨x.2.2.toArray⟩]
def cLet : Cod Lt := Cod.flat 5 letC (fun _ => rfl)
def sesV (s : Ses) (v : Value) : Value := .agg #[.int .i64 s.step, .string ⟨s.frm.1.toArray⟩, .string ⟨s.frm.2.toArray⟩, v, .string ⟨s.text.toArray⟩, .bool s.large]
/-- what Line answers -/
def LinePost (r : Ses × Int × List Lt) (w : World) (e : Ending) (w' : World) : Prop :=
  (∃ v vl, e = .returned (.tuple #[.agg #[.int .i64 r.1.step, .string ⟨r.1.frm.1.toArray⟩, .string ⟨r.1.frm.2.toArray⟩, v, .string ⟨r.1.text.toArray⟩, .bool r.1.large], .int .i64 r.2.1, vl, .int .i64 0]) ∧ SAt cAd w' (fun b => w.heap.size ≤ b) v r.1.rcp ∧ SAt cLet w' (fun b => w.heap.size ≤ b) vl r.2.2) ∧ Below w.heap.size w w'
theorem line_end {R : Nat} {r : Ses × Int × List Lt} {v vl : Value} {a : Act} {W w : World} (ht : a.tmps.getD 6 undef = .pointer (some ⟨R, 0, none⟩)) (h7 : a.tmps.getD 7 undef = .int .i64 r.2.1) (h8 : a.tmps.getD 8 undef = vl) (h9 : a.tmps.getD 9 undef = .int .i64 0) (hd : a.defers = [])
    (h : Has W R (sesC r.1 v)) (hv : SAt cAd W (fun b => w.heap.size ≤ b) v r.1.rcp) (hl : SAt cLet W (fun b => w.heap.size ≤ b) vl r.2.2) (hb : Below w.heap.size w W) : bodyPost Tryd.prog Tryd.f12 (LinePost r w) .ret a W := by
  obtain ⟨c0, c1, c2, c3, c4, c5⟩ := (show Has W R [.int .i64 r.1.step, .string ⟨r.1.frm.1.toArray⟩, .string ⟨r.1.frm.2.toArray⟩, v, .string ⟨r.1.text.toArray⟩, .bool r.1.large] from h).six
  refine bodyPost_ret (v := .tuple #[.agg #[.int .i64 r.1.step, .string ⟨r.1.frm.1.toArray⟩, .string ⟨r.1.frm.2.toArray⟩, v, .string ⟨r.1.text.toArray⟩, .bool r.1.large], .int .i64 r.2.1, vl, .int .i64 0]) ?_ hd ⟨⟨v, vl, rfl, hv, hl⟩, hb⟩
  have ht' : a.tmps[6]?.getD undef = .pointer (some ⟨R, 0, none⟩) := by simpa using ht
  have h7' : a.tmps[7]?.getD undef = .int .i64 r.2.1 := by simpa using h7
  have h8' : a.tmps[8]?.getD undef = vl := by simpa using h8
  have h9' : a.tmps[9]?.getD undef = .int .i64 0 := by simpa using h9
  simp [results, Tryd.results12, go_sem, ht', h7', h8', h9', c0, c1, c2, c3, c4, c5]

theorem cell_else {w w' : World} {b o R : Nat} {u : Value} (g : w.grownBy w' (some R)) (hc : w.cell? ⟨b, o, none⟩ = some u) (hb : b ≠ R) : w'.cell? ⟨b, o, none⟩ = some u :=
  (World.cell?_of_block (w := w) (a := ⟨b, o, none⟩) (g.block b (World.block_lt_of_cell? w ⟨b, o, none⟩ hc) (fun e => hb (Option.some.inj e)))).trans hc
theorem str_lower {w : World} {F : Dom} {v : Value} {xs : List (List UInt8)} (h : SAt cStr w F v xs) : SAt cStr w (fun b => b < w.heap.size) v xs := by
  obtain ⟨G, cap, hv, hcp, hf⟩ := h
  refine ⟨G, cap, hv, hcp, fun i x hi => ?_⟩
  obtain ⟨g, off, hG, hF, hg, vs, h1, h2⟩ := hf i x hi
  exact ⟨g, off, hG, hg, hg, vs, h1, h2⟩
def zeroS : Array Value := #[.int .i64 0, .string ⟨#[]⟩, .string ⟨#[]⟩, .slice none 0 0, .string ⟨#[]⟩, .bool false]
/-- rcpts do not lie in the result's own block, which is empty -/
theorem rcp_else {w : World} {F : Dom} {b : Nat} {v : Value} {l : List Ad} {t : TypeId} (h : SAt cAd w F v l) (hz : w.heap[b]? = some (.cells zeroS t (0, 0))) (hok : ∀ a ∈ l, chk a.1 a.2 = 0) : SAt cAd w (fun c => F c ∧ c ≠ b) v l := by
  obtain ⟨G, cap, hv, hcp, hf⟩ := h
  refine ⟨G, cap, hv, hcp, fun i x hi => ?_⟩
  obtain ⟨g, off, hG, hF, hg, vs, h1, h2⟩ := hf i x hi
  refine ⟨g, off, hG, ⟨hF, ?_⟩, hg, vs, h1, h2⟩
  rintro rfl
  have hx := hok x (List.mem_of_getElem? hi)
  obtain rfl : vs = adC x := h1
  have h0 : w.cell? ⟨g, off + i * cAd.size + 0, none⟩ = some (.string ⟨x.1.toArray⟩) := h2 0 _ rfl
  have hne : x.1 ≠ [] := by
    intro e
    unfold chk at hx
    rw [e] at hx
    simp [dotOK] at hx
  generalize off + i * cAd.size + 0 = k at h0
  simp only [World.cell?, hz] at h0
  have : ∀ k : Nat, zeroS[k]? ≠ some (Value.string ⟨x.1.toArray⟩) := by
    intro k e
    have hk : k < 6 := (Array.getElem?_eq_some_iff.1 e).1
    match k, hk with
    | 0, _ => cases e
    | 1, _ => simp [zeroS] at e; exact hne e
    | 2, _ => simp [zeroS] at e; exact hne e
    | 3, _ => cases e
    | 4, _ => simp [zeroS] at e; exact hne e
    | 5, _ => cases e
  exact this k h0
/-- the result's block is written -/
theorem line_done {W w : World} {S R : Nat} {v : Value} {r : Ses × Int × List Lt} {a : Act} {t : TypeId} {z : Int}
    (hs : SesAt w.heap.size W S v r.1) (hz : W.heap[R]? = some (.cells zeroS t (0, 0))) (hg : GoodSes r.1) (hb : Below w.heap.size w W) (hR : w.heap.size ≤ R) (hh : Has W R zeroS.toList) (hl : r.2.2 = []) (hr : r.2.1 = z)
    (ht : a.tmps.getD 6 undef = .pointer (some ⟨R, 0, none⟩)) (h7 : a.tmps.getD 7 undef = .int .i64 z) (h8 : a.tmps.getD 8 undef = .slice none 0 0) (h9 : a.tmps.getD 9 undef = .int .i64 0) (hd : a.defers = []) :
    bodyPost Tryd.prog Tryd.f12 (LinePost r w) .ret a ((((((W.setCell ⟨R, 0, none⟩ (.int .i64 r.1.step)).setCell ⟨R, 1, none⟩ (.string ⟨r.1.frm.1.toArray⟩)).setCell ⟨R, 2, none⟩ (.string ⟨r.1.frm.2.toArray⟩)).setCell ⟨R, 3, none⟩ v).setCell ⟨R, 4, none⟩ (.string ⟨r.1.text.toArray⟩)).setCell ⟨R, 5, none⟩ (.bool r.1.large)) := by
  have hv := rcp_else hs.rcp hz hg.ok
  have hgr : W.grownBy ((((((W.setCell ⟨R, 0, none⟩ (.int .i64 r.1.step)).setCell ⟨R, 1, none⟩ (.string ⟨r.1.frm.1.toArray⟩)).setCell ⟨R, 2, none⟩ (.string ⟨r.1.frm.2.toArray⟩)).setCell ⟨R, 3, none⟩ v).setCell ⟨R, 4, none⟩ (.string ⟨r.1.text.toArray⟩)).setCell ⟨R, 5, none⟩ (.bool r.1.large)) (some R) :=
    Go.Lib.grownBy_setB (Go.Lib.grownBy_setB (Go.Lib.grownBy_setB (Go.Lib.grownBy_setB (Go.Lib.grownBy_setB (Go.Lib.grownBy_setB (World.grownBy.refl W (some R)) 0 _) 1 _) 2 _) 3 _) 4 _) 5 _
  subst hr
  refine line_end (R := R) (v := v) (vl := .slice none 0 0) ht h7 h8 h9 hd ?_ ?_ ?_ (below_grown hb hgr hR)
  · exact (((((hh.set' (i := 0) _ (by simp [zeroS])).set' (i := 1) _ (by simp [zeroS])).set' (i := 2) _ (by simp [zeroS])).set' (i := 3) _ (by simp [zeroS])).set' (i := 4) _ (by simp [zeroS])).set' (i := 5) _ (by simp [zeroS])
  · exact (hv.stable (Same.of_grown hgr (fun c e hh => hh.2 (Option.some.inj e).symm)) hgr.size).mono (fun _ h => h.1.2)
  · rw [hl]; exact SAt.nil _ _ _
theorem infoLet : (Tryd.prog.info? 55).map (fun i => (i.zero, i.size, i.bytes)) = some (some (.agg #[.string ⟨#[]⟩, .string ⟨#[]⟩, .string ⟨#[]⟩, .string ⟨#[]⟩, .string ⟨#[]⟩]), 5, 80) := by kernel_rfl
theorem news_five (w : World) (o : Obj) (a0 a1 a2 a3 a4 : Value) (t : TypeId) : ∀ j u, ([a0, a1, a2, a3, a4] : List Value)[j]? = some u → ((w.alloc o).alloc (.cells #[a0, a1, a2, a3, a4] t)).cell? (Addr.add ⟨w.heap.size + 1, 0, none⟩ j) = some u := by
  have := news_of (w.alloc o) [a0, a1, a2, a3, a4] t
  rw [World.size_alloc] at this
  exact this
theorem lets_take (f : Ad) (tx : List UInt8) (l : List Ad) (j : Nat) (h : j < l.length) : ((l.take (j + 1)).map fun a => ((f, a, tx) : Lt)).flatMap letC = ((l.take j).map fun a => ((f, a, tx) : Lt)).flatMap letC ++ [.string ⟨f.1.toArray⟩, .string ⟨f.2.toArray⟩, .string ⟨l[j].1.toArray⟩, .string ⟨l[j].2.toArray⟩, .string ⟨tx.toArray⟩] := by
  rw [List.take_succ_eq_append_getElem h, List.map_append, List.flatMap_append]
  rfl

set_option maxHeartbeats 8000000 in
set_option maxRecDepth 20000 in
theorem line_any (s : Ses) (v : Value) (F : Dom) (vk : Value) (known : List (List UInt8)) (Fk : Dom) (line : List UInt8) (m : Int) (w : World) (h : SAt cAd w F v s.rcp) (hg : GoodSes s) (hk : SAt cStr w Fk vk known) (hkl : known.length ≤ 1000) (hl : line.length ≤ 100000) (hm : w.cell? ⟨0, 0, none⟩ = some (.int .i64 m)) :
    Calls Tryd.prog 12 #[.agg #[.int .i64 s.step, .string ⟨s.frm.1.toArray⟩, .string ⟨s.frm.2.toArray⟩, v, .string ⟨s.text.toArray⟩, .bool s.large], vk, .string ⟨line.toArray⟩] w (LinePost (lineS s known line) w) := by
  have h5 := hg.some'; have h2000 := hg.text
  have HG := Lib.hid hg
  obtain ⟨Gk, ck, rfl, hck⟩ := hk.form
  obtain ⟨Gv, cv, rfl, hcv⟩ := h.form
  have hA := ba (ba (Below.refl w.heap.size w) (.cells #[.int .i64 s.step, .string ⟨s.frm.1.toArray⟩, .string ⟨s.frm.2.toArray⟩, .slice Gv s.rcp.length cv, .string ⟨s.text.toArray⟩, .bool s.large] 49)) (.cells #[.int .i64 0, .string ⟨#[]⟩, .string ⟨#[]⟩, .slice none 0 0, .string ⟨#[]⟩, .bool false] 49)
  have HX := Lib.hid ((Has.alloc w [.int .i64 s.step, .string ⟨s.frm.1.toArray⟩, .string ⟨s.frm.2.toArray⟩, .slice Gv s.rcp.length cv, .string ⟨s.text.toArray⟩, .bool s.large] 49).down (ba (Below.refl _ _) (.cells #[.int .i64 0, .string ⟨#[]⟩, .string ⟨#[]⟩, .slice none 0 0, .string ⟨#[]⟩, .bool false] 49)))
  have hr := Has.alloc (w.alloc (.cells #[.int .i64 s.step, .string ⟨s.frm.1.toArray⟩, .string ⟨s.frm.2.toArray⟩, .slice Gv s.rcp.length cv, .string ⟨s.text.toArray⟩, .bool s.large] 49)) [.int .i64 0, .string ⟨#[]⟩, .string ⟨#[]⟩, .slice none 0 0, .string ⟨#[]⟩, .bool false] 49
  simp only [World.size_alloc] at hr
  have HR := Lib.hid hr
  have hz0 := heap_alloc_new (w.alloc (.cells #[.int .i64 s.step, .string ⟨s.frm.1.toArray⟩, .string ⟨s.frm.2.toArray⟩, .slice Gv s.rcp.length cv, .string ⟨s.text.toArray⟩, .bool s.large] 49)) (.cells zeroS 49)
  rw [World.size_alloc] at hz0
  have HZ := Lib.hid hz0
  clear hz0
  have H := Lib.hid ((ad_lower h).down hA); have HK := Lib.hid ((str_lower hk).down hA); have HM := Lib.hid (moved hm hA (Nat.le_refl _)); have HA := Lib.hid hA; have HMW := Lib.hid hm
  clear h hk hm hA hr hg
  obtain ⟨c0, c1, c2, c3, c4, c5⟩ := HX.out.six
  go_enter Tryd.func12, Tryd.ntmps12
  go_wp2_with fail
  refine (lcheck_any s _ _ m _ H.out HG.out HM.out).mono ?_
  rintro e w1 ⟨rfl, hb1⟩
  have hS := ba (Below.refl w1.heap.size w1) (.cells #[.int .i64 s.step, .string ⟨s.frm.1.toArray⟩, .string ⟨s.frm.2.toArray⟩, .slice Gv s.rcp.length cv, .string ⟨s.text.toArray⟩, .bool s.large] 82)
  have hS1 := bt hb1 hS
  have HX1 := Lib.hid (HX.out.down hS1); have HR1 := Lib.hid (HR.out.down hS1); have H1 := Lib.hid (H.out.down hS1); have HK1 := Lib.hid (HK.out.down hS1); have HM1 := Lib.hid (moved HM.out hS1 (Nat.le_refl _)); have HA1 := Lib.hid (bt HA.out hS1)
  have HS1 := Lib.hid (Has.alloc w1 [.int .i64 s.step, .string ⟨s.frm.1.toArray⟩, .string ⟨s.frm.2.toArray⟩, .slice Gv s.rcp.length cv, .string ⟨s.text.toArray⟩, .bool s.large] 82)
  have hz1 : w.heap.size + 2 ≤ w1.heap.size := by have := hb1.size; simpa using this
  have HZ1 := Lib.hid ((hS1.block (w.heap.size + 1) (by simp)).trans HZ.out)
  obtain ⟨d0, d1, d2, d3, d4, d5⟩ := (HX.out.down hb1).six
  obtain ⟨e0, e1, e2, e3, e4, e5⟩ := HX1.out.six
  clear hb1 hS hS1 HX HR H HK HM HA c0 c1 c2 c3 c4 c5
  go_wp2_with fail
  refine (cloneA_any _ s.rcp _ _ H1.out (by omega)).mono ?_
  rintro e w2 ⟨⟨vC, rfl, hvc⟩, hb2⟩
  obtain ⟨B, hB⟩ : ∃ B, B = w1.heap.size := ⟨_, rfl⟩
  have hB2 : w.heap.size + 2 ≤ B := by omega
  rw [World.size_alloc, ← hB] at hvc
  obtain ⟨GC, cC, rfl, hcC⟩ := (SAt.of_row (f := adC) (hf := fun _ => rfl) (F := fun _ => True) hvc (fun _ _ => trivial)).form
  have HS2 := Lib.hid (HS1.out.down hb2)
  rw [← hB] at HS2
  have HX2 := Lib.hid (HX1.out.down hb2); have HR2 := Lib.hid (HR1.out.down hb2); have H2 := Lib.hid (H1.out.down hb2); have HK2 := Lib.hid (HK1.out.down hb2); have HM2 := Lib.hid (moved HM1.out hb2 (Nat.le_refl _)); have HA2 := Lib.hid (bt HA1.out hb2)
  have hz2 : B < w2.heap.size := HS2.out.2.2
  have HZ2 := Lib.hid ((hb2.block (w.heap.size + 1) (by simp; omega)).trans HZ1.out)
  have hmw := World.block_lt_of_cell? w ⟨0, 0, none⟩ HMW.out
  clear hb2 HX1 HR1 H1 HK1 HM1 HA1 HS1 HZ1 HZ HMW d0 d1 d2 d3 d4 d5 e0 e1 e2 e3 e4 e5
  have hg3 : w2.grownBy (w2.setCell ⟨B, 3, none⟩ (.slice GC s.rcp.length cC)) (some B) := Go.Lib.grownBy_setB (World.grownBy.refl w2 (some B)) 3 _
  have HS3 : Hid (SesAt w.heap.size (w2.setCell ⟨B, 3, none⟩ (.slice GC s.rcp.length cC)) B (.slice GC s.rcp.length cC) s) := ⟨HS2.out.set' (i := 3) (.slice GC s.rcp.length cC) (by simp), rcp_kept (SAt.of_row (f := adC) (hf := fun _ => rfl) hvc (fun b hb => ⟨by omega, by omega⟩)) hg3⟩
  have HX3 : Hid (Has (w2.setCell ⟨B, 3, none⟩ (.slice GC s.rcp.length cC)) w.heap.size [.int .i64 s.step, .string ⟨s.frm.1.toArray⟩, .string ⟨s.frm.2.toArray⟩, .slice Gv s.rcp.length cv, .string ⟨s.text.toArray⟩, .bool s.large]) := HX2.out.else' (by omega) _
  have HR3 : Hid (Has (w2.setCell ⟨B, 3, none⟩ (.slice GC s.rcp.length cC)) (w.heap.size + 1) zeroS.toList) := HR2.out.else' (by omega) _
  have HZ3 : Hid ((w2.setCell ⟨B, 3, none⟩ (.slice GC s.rcp.length cC)).heap[w.heap.size + 1]? = some (.cells zeroS 49 (0, 0))) := (hg3.block _ (by omega) (fun e => by have := Option.some.inj e; omega)).trans HZ2.out
  have H3 : Hid (SAt cAd (w2.setCell ⟨B, 3, none⟩ (.slice GC s.rcp.length cC)) (fun b => b < w.heap.size) (.slice Gv s.rcp.length cv) s.rcp) := H2.out.stable (Same.of_grown hg3 (fun b e hh => by have := Option.some.inj e; omega)) hg3.size
  have HK3 : Hid (SAt cStr (w2.setCell ⟨B, 3, none⟩ (.slice GC s.rcp.length cC)) (fun b => b < w.heap.size) (.slice Gk known.length ck) known) := HK2.out.stable (Same.of_grown hg3 (fun b e hh => by have := Option.some.inj e; omega)) hg3.size
  have HM3 : Hid ((w2.setCell ⟨B, 3, none⟩ (.slice GC s.rcp.length cC)).cell? ⟨0, 0, none⟩ = some (.int .i64 m)) := cell_else hg3 HM2.out (by show 0 ≠ B; have : 0 < w.heap.size := hmw; omega)
  have HB3 : Hid (Below w.heap.size w (w2.setCell ⟨B, 3, none⟩ (.slice GC s.rcp.length cC))) := below_grown HA2.out hg3 (by omega)
  obtain ⟨W3, hW3⟩ : ∃ W3, W3 = w2.setCell ⟨B, 3, none⟩ (.slice GC s.rcp.length cC) := ⟨_, rfl⟩
  have hz3 : B < W3.heap.size := by rw [hW3]; exact HS3.out.has.2.2
  rw [← hW3] at HS3 HX3 HR3 HZ3 H3 HK3 HM3 HB3
  have HW := Lib.hid hW3
  obtain ⟨-, -, -, k3, -, -⟩ := HS2.out.six
  obtain ⟨-, -, -, kf3, -, -⟩ := HS2.out.six_free
  rw [hB] at k3 kf3
  have HBQ := Lib.hid hB
  clear hB hg3 hW3 HX2 HR2 HZ2 H2 HK2 HM2 HA2 hvc hmw
  go_upto_region 6 with fail
  rw [← HBQ.out, ← HW.out]
  clear k3 kf3 HBQ HW HS2
  obtain ⟨c0, c1, c2, c3, c4, c5⟩ := HX3.out.six
  obtain ⟨d0, d1, d2, d3, d4, d5⟩ := HS3.out.six.six
  obtain ⟨f0, f1, f2, f3, f4, f5⟩ := HR3.out.six_free
  obtain ⟨e0, e1, e2, e3, e4, e5⟩ := HR3.out.six
  by_cases h5s : s.step = 5
  · have HO : Hid (lineS s known line = (s, 0, [])) := by unfold Hid lineS; rw [if_pos h5s]
    have q : ((s.step : Int) == 5) = true := by rw [h5s]; rfl
    clear h5s
    go_wp2_with fail
    rw [HO.out]
    exact line_done (r := (s, 0, [])) HS3.out HZ3.out HG.out HB3.out (by omega) HR3.out rfl rfl rfl rfl rfl rfl rfl
  have q5 : ((s.step : Int) == 5) = false := by simp; omega
  by_cases h4s : s.step = 4
  · have q4 : ((s.step : Int) != 4) = false := by rw [h4s]; rfl
    by_cases hdot : line = [46]
    · subst hdot
      have HO : Hid (lineS s known [46] = (ses0 1, 0, s.rcp.map fun a => (s.frm, a, s.text))) := by unfold Hid lineS; rw [if_neg h5s, if_neg (by omega), if_neg (by simp)]
      clear h5s h4s
      obtain ⟨i0, hi0, hz0, hz1, hz2⟩ := info_parts infoLet
      have HI := Lib.hid hi0; have HZ0 := Lib.hid hz0; have HZ1 := Lib.hid hz1; have HZ2' := Lib.hid hz2
      clear hi0 hz0 hz1 hz2
      go_wp2_with fail
      clear c0 c1 c2 c3 c4 c5 d0 d1 d2 d3 d4 d5 f0 f1 f2 f3 f4 f5 e0 e1 e2 e3 e4 e5 q5 q4
      go_loopw [13, 66] (fun v i wr => ∃ j : Nat, j ≤ s.rcp.length ∧ i = .int .i64 j ∧ wr.ownsRow W3.heap.size 55 5 v j (((s.rcp.take j).map fun a => ((s.frm, a, s.text) : Lt)).flatMap letC) ∧ Below W3.heap.size W3 wr) (fun _ i _ => s.rcp.length - (intOf i).toNat)
      case atStart => exact ⟨0, Nat.zero_le _, rfl, World.ownsRow_nil _ _ _ _, Below.refl _ _⟩
      case round =>
        obtain ⟨j, hj, rfl, hown, hb⟩ := hrel
        have hsz : W3.heap.size ≤ wr.heap.size := hb.size
        by_cases hlt : j < s.rcp.length
        · obtain ⟨g, off, rfl, -, hg, q0, q1⟩ := ad_get H3.out hb j hlt
          obtain ⟨x0, x1, x2, x3, x4, x5⟩ := (HX3.out.down hb).six
          have HLn := Lib.hid (lets_take s.frm s.text s.rcp j hlt)
          obtain ⟨L, hL⟩ : ∃ L, L = ((s.rcp.take j).map fun a => ((s.frm, a, s.text) : Lt)).flatMap letC := ⟨_, rfl⟩
          rw [← hL] at hown HLn
          clear hL
          generalize s.rcp[j] = a at q0 q1 HLn
          have HO2 := Lib.hid hown; have HB := Lib.hid hb
          have hA1 := ba (Below.refl wr.heap.size wr) (.cells #[.string ⟨a.1.toArray⟩, .string ⟨a.2.toArray⟩] 44)
          obtain ⟨n0, n1, -, -⟩ := (Has.alloc wr [.string ⟨a.1.toArray⟩, .string ⟨a.2.toArray⟩] 44).two
          replace x1 := moved x1 hA1 (Nat.le_refl _); replace x2 := moved x2 hA1 (Nat.le_refl _); replace x4 := moved x4 hA1 (Nat.le_refl _)
          clear hown hb hA1 x0 x3 x5
          go_wp2_with (at_builtin; refine wpList_append_lies _ (by rfl) _ _ _ (by rfl) W3.heap.size 55 i0 _ 5 80 Tryd.underlying50 HI.out HZ0.out HZ1.out HZ2'.out rfl (by omega) u13 j L (by rfl) ((HO2.out.alloc _).alloc _) ⟨wr.heap.size + 1, 0, none⟩ 1 1 [.string ⟨s.frm.1.toArray⟩, .string ⟨s.frm.2.toArray⟩, .string ⟨a.1.toArray⟩, .string ⟨a.2.toArray⟩, .string ⟨s.text.toArray⟩] (by rfl) (by rfl) (news_five wr _ _ _ _ _ _ _) (by simp [Value.oneCell']) (by omega) (by unfold maxLen; omega) (by omega) (by simp; omega) (wr.heap.size + 2) (by simp) ?_)
          intro g3 cap3 w3 hown3 hgrow hat hlt3
          have hb3 : Below W3.heap.size W3 w3 := below_row (ba (ba HB.out _) _) (Nat.le_refl _) ((HO2.out.alloc _).alloc _) (Nat.le_refl _) hgrow
          rw [← HLn.out] at hown3
          clear hgrow hat hlt3 x1 x2 x4 q0 q1 n0 n1
          go_wp2_with fail
          go_roundw
          case rel => exact ⟨j + 1, by omega, by go_num, hown3, hb3⟩
          case measure => simp [intOf]; omega
        · obtain rfl : j = s.rcp.length := by omega
          have HRr := Lib.hid (HR3.out.down hb)
          obtain ⟨f0, f1, f2, f3, f4, f5⟩ := HRr.out.six_free
          obtain ⟨e0, e1, e2, e3, e4, e5⟩ := HRr.out.six
          have HO2 := Lib.hid hown; have HBW := Lib.hid ((HB3.out.mono (Nat.le_refl _)).trans (hb.mono (by omega)))
          clear hown hb
          go_wp2_with fail
          rw [HO.out]
          have hgr : wr.grownBy ((((((wr.setCell ⟨w.heap.size + 1, 0, none⟩ (.int .i64 1)).setCell ⟨w.heap.size + 1, 1, none⟩ (.string ⟨#[]⟩)).setCell ⟨w.heap.size + 1, 2, none⟩ (.string ⟨#[]⟩)).setCell ⟨w.heap.size + 1, 3, none⟩ (.slice none 0 0)).setCell ⟨w.heap.size + 1, 4, none⟩ (.string ⟨#[]⟩)).setCell ⟨w.heap.size + 1, 5, none⟩ (.bool false)) (some (w.heap.size + 1)) :=
            Go.Lib.grownBy_setB (Go.Lib.grownBy_setB (Go.Lib.grownBy_setB (Go.Lib.grownBy_setB (Go.Lib.grownBy_setB (Go.Lib.grownBy_setB (World.grownBy.refl wr (some (w.heap.size + 1))) 0 _) 1 _) 2 _) 3 _) 4 _) 5 _
          have hrow : SAt cLet wr (fun b => b ≠ w.heap.size + 1 ∧ w.heap.size ≤ b) u13 (s.rcp.map fun a => ((s.frm, a, s.text) : Lt)) := by
            refine SAt.of_row (f := letC) (hf := fun _ => rfl) (base := W3.heap.size) (e := 55) ?_ (fun b hb => ⟨by omega, by omega⟩)
            have := HO2.out
            rw [List.take_length] at this
            rw [List.length_map]
            exact this
          refine line_end (R := w.heap.size + 1) (v := .slice none 0 0) (vl := u13) rfl rfl rfl rfl rfl ?_ (SAt.nil _ _ _) ?_ (below_grown HBW.out hgr (by omega))
          · exact (((((HRr.out.set' (i := 0) _ (by simp [zeroS])).set' (i := 1) _ (by simp [zeroS])).set' (i := 2) _ (by simp [zeroS])).set' (i := 3) _ (by simp [zeroS])).set' (i := 4) _ (by simp [zeroS])).set' (i := 5) _ (by simp [zeroS])
          · exact (hrow.stable (Same.of_grown hgr (fun c e hh => hh.1 (Option.some.inj e).symm)) hgr.size).mono (fun _ h => h.2)
    · have hd1 : (line == [46]) = false := beq_eq_false_iff_ne.2 hdot
      have hd2 : (line != [46]) = true := by simp [bne, hd1]
      have HC : Hid (Calls Tryd.prog 26 #[.pointer (some ⟨B, 0, none⟩), .string ⟨line.toArray⟩] W3 fun e w' => e = .returned (.tuple #[]) ∧ SesPost w.heap.size B (bodyS s line) W3 w') := body_any B _ s ⟨line.toArray⟩ W3 HS3.out (by show line.toArray.size ≤ _; simp; omega) h2000
      have HO : Hid (lineS s known line = (bodyS s line, 0, [])) := by unfold Hid lineS; rw [if_neg h5s, if_neg (by omega), if_pos hdot]
      have HGC := Lib.hid (bodyS_good line HG.out h4s)
      obtain ⟨r, hr⟩ : ∃ r, r = bodyS s line := ⟨_, rfl⟩
      rw [← hr] at HC HO HGC
      clear hr h5s h4s hdot c1 c2 c3 c4 c5 d0 d1 d2 d3 d4 d5 f0 f1 f2 f3 f4 f5 e0 e1 e2 e3 e4 e5
      go_wp2_with fail
      refine HC.out.mono ?_
      rintro e w4 ⟨rfl, ⟨v4, hs4⟩, hg4⟩
      obtain ⟨G4, k4, rfl, -⟩ := hs4.rcp.form
      have HS4 := Lib.hid hs4
      have HR4 := Lib.hid (HR3.out.kept hg4 (fun e => by have := Option.some.inj e; omega))
      have HZ4 := Lib.hid ((hg4.block _ (by omega) (fun e => by have := Option.some.inj e; omega)).trans HZ3.out)
      have HB4 := Lib.hid (below_grown HB3.out hg4 (by omega))
      obtain ⟨d0, d1, d2, d3, d4, d5⟩ := HS4.out.six.six
      obtain ⟨f0, f1, f2, f3, f4, f5⟩ := HR4.out.six_free
      obtain ⟨e0, e1, e2, e3, e4, e5⟩ := HR4.out.six
      clear hs4 hg4 HC HS3 HR3 HZ3 HB3 c0
      go_wp2_with fail
      rw [HO.out]
      exact line_done (r := (r, 0, [])) HS4.out HZ4.out HGC.out HB4.out (by omega) HR4.out rfl rfl rfl rfl rfl rfl rfl
  · have q4 : ((s.step : Int) != 4) = true := by simp; omega
    have HC : Hid (Calls Tryd.prog 25 #[.pointer (some ⟨B, 0, none⟩), .string ⟨line.toArray⟩, .slice Gk known.length ck] W3 fun e w' => e = .returned (.int .i64 (commandS s line known).2) ∧ SesPost w.heap.size B (commandS s line known).1 W3 w') := command_any B _ s ⟨line.toArray⟩ _ known _ m W3 HS3.out HK3.out hkl h5 (by show line.toArray.size ≤ _; simp; omega) (by omega) HM3.out
    have HO : Hid (lineS s known line = ((commandS s line known).1, (commandS s line known).2, [])) := by unfold Hid lineS; rw [if_neg h5s, if_pos h4s]
    have HGC := Lib.hid (commandS_good line known HG.out)
    obtain ⟨r, hr⟩ : ∃ r, r = commandS s line known := ⟨_, rfl⟩
    rw [← hr] at HC HO HGC
    clear hr h5s h4s c1 c2 c3 c4 c5 d0 d1 d2 d3 d4 d5 f0 f1 f2 f3 f4 f5 e0 e1 e2 e3 e4 e5
    go_wp2_with fail
    refine HC.out.mono ?_
    rintro e w4 ⟨rfl, ⟨v4, hs4⟩, hg4⟩
    obtain ⟨G4, k4, rfl, -⟩ := hs4.rcp.form
    have HS4 := Lib.hid hs4
    have HR4 := Lib.hid (HR3.out.kept hg4 (fun e => by have := Option.some.inj e; omega))
    have HZ4 := Lib.hid ((hg4.block _ (by omega) (fun e => by have := Option.some.inj e; omega)).trans HZ3.out)
    have HB4 := Lib.hid (below_grown HB3.out hg4 (by omega))
    obtain ⟨d0, d1, d2, d3, d4, d5⟩ := HS4.out.six.six
    obtain ⟨f0, f1, f2, f3, f4, f5⟩ := HR4.out.six_free
    obtain ⟨e0, e1, e2, e3, e4, e5⟩ := HR4.out.six
    clear hs4 hg4 HC HS3 HR3 HZ3 HB3 c0
    go_wp2_with fail
    rw [HO.out]
    exact line_done (r := (r.1, r.2, [])) HS4.out HZ4.out HGC.out HB4.out (by omega) HR4.out rfl rfl rfl rfl rfl rfl rfl
end Go.Proofs.YtdhepaeephmhiaaDoor
