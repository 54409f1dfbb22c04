/-
  DERIVED. 'add' of box: the walk.
-/
import Derived.Test.YtaeejmggmgejcaaDoorBoxOwn
import Derived.Test.YtaeejmggmgejcaaDoorBoxSize
import Derived.Deep.RegionLaw
import Derived.Deep.AppendLies
namespace Go.Proofs.YtaeejmggmgejcaaDoor
open Go.RowKit

theorem bxcells_set : ∀ (qs : List BQ) (i : Nat) (q : BQ) (b' : Bx) (v : Value), qs[i]? = some q → b'.name = q.1.name → ((bxcells qs).set (i * 3 + 2) v).set (i * 3 + 1) (.int .i64 b'.next) = bxcells (qs.set i (b', v))
  | [], i, q, b', v, h, _ => by simp at h
  | a :: l, 0, q, b', v, h, hn => by
    obtain rfl : a = q := by simpa using h
    show ([.string ⟨a.1.name.toArray⟩, .int .i64 b'.next, v] : List Value) ++ bxcells l = bxC (b', v) ++ bxcells l
    unfold bxC; rw [hn]
  | a :: l, i + 1, q, b', v, h, hn => by
    have ih := bxcells_set l i q b' v (by simpa using h) hn
    show ((bxC a ++ bxcells l).set ((i + 1) * 3 + 2) v).set ((i + 1) * 3 + 1) (.int .i64 b'.next) = bxC a ++ bxcells (l.set i (b', v))
    rw [← ih, List.set_append_right _ _ (by show 3 ≤ _; omega), List.set_append_right _ _ (by show 3 ≤ _; omega)]
    congr 2
    · congr 1
      show (i + 1) * 3 + 2 - 3 = _; omega
    · show (i + 1) * 3 + 1 - 3 = _; omega
theorem rows_set (qs : List BQ) (i : Nat) (vB vS v : Value) (sp : List Ent) (b' : Bx) : ((rowsOf qs vB vS sp).set (i + 2) (rowM (b', v))).set 0 (rowB vB (qs.set i (b', v))) = rowsOf (qs.set i (b', v)) vB vS sp := by
  unfold rowsOf; simp [List.map_set]
/-- the mails of box i grow, or are written; then the box's cells -/
theorem rows_mail {w w' : World} {base i g cap : Nat} {qs : List BQ} {vS v5 : Value} {sp : List Ent} {q : BQ} {b' : Bx} (h : Rows w base (rowsOf qs (.slice (some ⟨g, 0, none⟩) qs.length cap) vS sp)) (hq : qs[i]? = some q) (hgrow : w.grownBy w' q.2.ownBlock)
    (h' : (rowM (b', v5)).At w' base) (hv : v5.ownBlock = q.2.ownBlock ∨ v5.ownBlock = none ∨ ∃ H, v5.ownBlock = some H ∧ w.heap.size ≤ H) (hname : b'.name = q.1.name) :
    Rows ((w'.setCell ⟨g, i * 3 + 2, none⟩ v5).setCell ⟨g, i * 3 + 1, none⟩ (.int .i64 b'.next)) base (rowsOf (qs.set i (b', v5)) (.slice (some ⟨g, 0, none⟩) (qs.set i (b', v5)).length cap) vS sp) := by
  have h1 := h.put (i := i + 2) (r := rowM q) (r' := rowM (b', v5)) (by show (qs.map rowM)[i]? = _; rw [List.getElem?_map, hq]; rfl) hgrow h' hv
  have hB : (rowB (.slice (some ⟨g, 0, none⟩) qs.length cap) qs).At w' base := h1.1 _ (by unfold rowsOf; rw [List.set_cons_succ]; exact List.mem_cons_self ..)
  obtain ⟨s1, g1⟩ := World.ownsRow.stored hB (i * 3 + 2) v5
  obtain ⟨s2, g2⟩ := World.ownsRow.stored s1 (i * 3 + 1) (.int .i64 b'.next)
  rw [show (rowB (.slice (some ⟨g, 0, none⟩) qs.length cap) qs).cells = bxcells qs from rfl, bxcells_set qs i q b' v5 hq hname] at s2
  have h2 := h1.put (i := 0) (r := rowB (.slice (some ⟨g, 0, none⟩) qs.length cap) qs) (r' := rowB (.slice (some ⟨g, 0, none⟩) (qs.set i (b', v5)).length cap) (qs.set i (b', v5))) rfl (Go.Lib.grownBy_trans g1 g2)
    (by show World.ownsRow _ base 52 3 (.slice (some ⟨g, 0, none⟩) (qs.set i (b', v5)).length cap) (qs.set i (b', v5)).length _; rw [List.length_set]; exact s2) (.inl rfl)
  have e := rows_set qs i (.slice (some ⟨g, 0, none⟩) qs.length cap) vS v5 sp b'
  rw [List.length_set] at h2 ⊢
  rw [e] at h2
  exact h2
/-- what add answers -/
def AddPost (s : St) (i fl : Nat) (tx : List UInt8) (base R : Nat) (w : World) (e : Ending) (w' : World) : Prop :=
  (match addS s i fl tx with | none => e = .returned (.int .i64 5) ∧ OwnS w' base R s | some t => e = .returned (.int .i64 0) ∧ OwnS w' base R t) ∧ Below base w w'
theorem OwnS.down {w w' : World} {base R : Nat} {s : St} (h : OwnS w base R s) (hb : Below w.heap.size w w') : OwnS w' base R s := by
  obtain ⟨qs, vB, vS, h1, h2, h3, h4, h5⟩ := h
  exact ⟨qs, vB, vS, h1, h2.down hb, h3, h4.down hb, h5⟩
theorem OwnS.size {w : World} {base R : Nat} {s : St} (h : OwnS w base R s) : base ≤ w.heap.size := by
  obtain ⟨qs, vB, vS, h1, h2, h3, _⟩ := h
  have := h2.2.2; omega

theorem add_done {w w1 w5 : World} {base R i g cap g5 cap5 fl cm : Nat} {Gm : Option Addr} {qs : List BQ} {vS : Value} {s : St} {b : Bx} {tx : List UInt8} {o : Obj}
    (hrows : Rows w base (rowsOf qs (.slice (some ⟨g, 0, none⟩) qs.length cap) vS s.spool)) (hoff : OffR (rowsOf qs (.slice (some ⟨g, 0, none⟩) qs.length cap) vS s.spool) R) (hH : Has w R [.slice (some ⟨g, 0, none⟩) qs.length cap, vS])
    (hq : qs[i]? = some (b, .slice Gm b.mails.length cm)) (hbx : s.boxes = qs.map Prod.fst) (hbs : base ≤ w.heap.size) (hR : base ≤ R) (hgb : base ≤ g) (hD : Below w.heap.size w w1)
    (hrw : World.ownsRow (w1.drew.alloc o) base 54 3 (.slice Gm b.mails.length cm) b.mails.length (b.mails.flatMap mailC))
    (hgrow : (w1.drew.alloc o).grownBy w5 (Value.slice Gm b.mails.length cm).ownBlock)
    (hown5 : w5.ownsRow base 54 3 (.slice (some ⟨g5, 0, none⟩) (b.mails.length + 1) cap5) (b.mails.length + 1) (b.mails.flatMap mailC ++ [.int .i64 b.next, .int .i64 fl, .string ⟨tx.toArray⟩]))
    (hat : (Value.slice Gm b.mails.length cm).ownBlock = some g5 ∨ g5 = (w1.drew.alloc o).heap.size) (_hga : some g ≠ (Value.slice Gm b.mails.length cm).ownBlock) :
    (Ending.returned (.int .i64 0) = .returned (.int .i64 0) ∧ OwnS ((w5.setCell ⟨g, i * 3 + 2, none⟩ (.slice (some ⟨g5, 0, none⟩) (b.mails.length + 1) cap5)).setCell ⟨g, i * 3 + 1, none⟩ (.int .i64 ((b.next : Int) + 1))) base R ⟨s.boxes.set i ⟨b.name, b.next + 1, b.mails ++ [(⟨b.next, fl, tx⟩ : Mail)]⟩, s.spool⟩) ∧
      Below base w ((w5.setCell ⟨g, i * 3 + 2, none⟩ (.slice (some ⟨g5, 0, none⟩) (b.mails.length + 1) cap5)).setCell ⟨g, i * 3 + 1, none⟩ (.int .i64 ((b.next : Int) + 1))) := by
  have hda := ba (Below.drew (Below.refl w1.heap.size w1)) o
  have hb0 := bt hD hda
  have hrows' := hrows.down hb0
  have hH' := hH.down hb0
  have hz := hD.size
  have hRu : some R ≠ (Value.slice Gm b.mails.length cm).ownBlock := fun e => hoff (rowM (b, .slice Gm b.mails.length cm)) (List.mem_cons_of_mem _ (List.mem_cons_of_mem _ (List.mem_map_of_mem (List.mem_of_getElem? hq)))) e.symm
  have hRg : R ≠ g := fun e => hoff _ (List.mem_cons_self ..) (by rw [e]; rfl)
  have hrow5 : (rowM ((⟨b.name, b.next + 1, b.mails ++ [(⟨b.next, fl, tx⟩ : Mail)]⟩ : Bx), .slice (some ⟨g5, 0, none⟩) (b.mails.length + 1) cap5)).At w5 base := by
    show w5.ownsRow base 54 3 _ (b.mails ++ [(⟨b.next, fl, tx⟩ : Mail)]).length ((b.mails ++ [(⟨b.next, fl, tx⟩ : Mail)]).flatMap mailC)
    rw [List.length_append, List.flatMap_append]
    exact hown5
  have hv : (Value.slice (some ⟨g5, 0, none⟩) (b.mails.length + 1) cap5).ownBlock = (Value.slice Gm b.mails.length cm).ownBlock ∨ (Value.slice (some ⟨g5, 0, none⟩) (b.mails.length + 1) cap5).ownBlock = none ∨ ∃ H, (Value.slice (some ⟨g5, 0, none⟩) (b.mails.length + 1) cap5).ownBlock = some H ∧ (w1.drew.alloc o).heap.size ≤ H := by
    rcases hat with e | e
    · exact .inl e.symm
    · exact .inr (.inr ⟨g5, rfl, by omega⟩)
  have hfin := rows_mail (b' := ⟨b.name, b.next + 1, b.mails ++ [(⟨b.next, fl, tx⟩ : Mail)]⟩) hrows' hq hgrow hrow5 hv rfl
  refine ⟨⟨rfl, qs.set i ((⟨b.name, b.next + 1, b.mails ++ [(⟨b.next, fl, tx⟩ : Mail)]⟩ : Bx), .slice (some ⟨g5, 0, none⟩) (b.mails.length + 1) cap5), .slice (some ⟨g, 0, none⟩) (qs.set i ((⟨b.name, b.next + 1, b.mails ++ [(⟨b.next, fl, tx⟩ : Mail)]⟩ : Bx), .slice (some ⟨g5, 0, none⟩) (b.mails.length + 1) cap5)).length cap, vS, ?_, ?_, hR, hfin, ?_⟩, ?_⟩
  · show s.boxes.set i _ = _
    rw [List.map_set, hbx]
  · rw [List.length_set]
    exact ((hH'.kept hgrow hRu).else' hRg _).else' hRg _
  · rw [← rows_set]
    refine offR_put (offR_put ?_ (fun e => ?_)) (fun e => hRg (Option.some.inj e).symm)
    · rw [List.length_set]; exact hoff
    · obtain rfl : g5 = R := Option.some.inj e
      rcases hat with e | e
      · exact hRu e.symm
      · have := hH'.2.2; omega
  · have h1 := below_row (hb0.mono hbs) hbs hrw (Nat.le_refl _) hgrow
    exact (h1.setCell (p := ⟨g, i * 3 + 2, none⟩) hgb _).setCell (p := ⟨g, i * 3 + 1, none⟩) hgb _

set_option maxHeartbeats 8000000 in
set_option maxRecDepth 20000 in
theorem add_any (s : St) (i fl : Nat) (tx : List UInt8) (base R : Nat) (w : World) (h : OwnS w base R s) (hg : GoodS s) (hi : i < s.boxes.length) (_hfl : fl ≤ 31) (htx : tx.length ≤ 2000) :
    Calls Tryd.prog 24 #[.pointer (some ⟨R, 0, none⟩), .int .i64 i, .int .i64 fl, .string ⟨tx.toArray⟩] w (AddPost s i fl tx base R w) := by
  obtain ⟨i0, hi0, hz0, hz1, hz2⟩ := info_parts infoMail
  have HI := Lib.hid hi0; have HZ0 := Lib.hid hz0; have HZ1 := Lib.hid hz1; have HZ2 := Lib.hid hz2
  clear hi0 hz0 hz1 hz2
  have hbs := h.size
  have h0 := h
  obtain ⟨qs, vB, vS, hbx, hH, hR, hrows, hoff⟩ := h
  have hql : qs.length = s.boxes.length := by rw [hbx, List.length_map]
  have hlt : i < qs.length := by omega
  obtain ⟨q, hq⟩ : ∃ q, qs[i]? = some q := ⟨_, List.getElem?_eq_getElem hlt⟩
  have hbi : s.boxes[i]? = some q.1 := by rw [hbx, List.getElem?_map, hq]; rfl
  have hsat : SAt cBox w (fun b => base ≤ b) vB s.boxes := by rw [hbx]; exact hrows.boxes (fun b h => h)
  obtain ⟨b, u⟩ := q
  have hbok := hg.ok b (List.mem_of_getElem? hbi)
  obtain ⟨_, hn1, hn2, hml, _⟩ := hbok
  obtain ⟨g, cap, hvB, hgb, hgw⟩ := World.ownsRow.form (hrows.1 _ (List.mem_cons_self ..)) (show 0 < (rowB vB qs).n by show 0 < qs.length; omega)
  obtain rfl : vB = .slice (some ⟨g, 0, none⟩) qs.length cap := hvB
  obtain ⟨Gm, cm, rfl⟩ : ∃ G c, u = .slice G b.mails.length c := row_form (hrows.1 (rowM (b, u)) (List.mem_cons_of_mem _ (List.mem_cons_of_mem _ (List.mem_map_of_mem (List.mem_of_getElem? hq)))))
  obtain ⟨Gs, cs, rfl⟩ : ∃ G c, vS = .slice G s.spool.length c := row_form (hrows.1 (rowS vS s.spool) (List.mem_cons_of_mem _ (List.mem_cons_self ..)))
  have hown := hrows.1 _ (List.mem_cons_self ..)
  have hcell : ∀ j, j < 3 → w.cell? ⟨g, i * 3 + j, none⟩ = (bxC (b, .slice Gm b.mails.length cm))[j]? := fun j hj => (World.ownsRow.cellAt hown (i * 3 + j) (by show i * 3 + j < qs.length * 3; omega)).trans (bxcells_at qs i j _ hq hj)
  have x1 : w.cell? ⟨g, i * 3 + 1, none⟩ = some (.int .i64 b.next) := hcell 1 (by omega)
  have x2 : w.cell? ⟨g, i * 3 + 2, none⟩ = some (.slice Gm b.mails.length cm) := hcell 2 (by omega)
  have xf1 : w.frozen? ⟨g, i * 3 + 1, none⟩ = false := World.ownsRow.frozenAt hown (i * 3 + 1)
  have xf2 : w.frozen? ⟨g, i * 3 + 2, none⟩ = false := World.ownsRow.frozenAt hown (i * 3 + 2)
  obtain ⟨r0, r1, -, -⟩ := hH.two
  have H0 := Lib.hid h0; have HROWS := Lib.hid hrows; have HOFF := Lib.hid hoff; have HH := Lib.hid hH; have HSAT := Lib.hid hsat; have HQ := Lib.hid hq; have HBI := Lib.hid hbi; have HBX := Lib.hid hbx
  have hqc : qs.length ≤ 1000 := by have := hg.boxes; omega
  have HROOM := Lib.hid hg.room
  have HQL := Lib.hid hql
  have HMLS : Hid (∀ b ∈ s.boxes, b.mails.length ≤ 1000) := fun b hb => by have := (hg.ok b hb).2.2.2.1; omega
  have hbl := Lib.hid hg.boxes
  have hz : Hid (∀ w', Below w.heap.size w w' → Calls Tryd.prog 19 #[.agg #[.slice (some ⟨g, 0, none⟩) qs.length cap, .slice Gs s.spool.length cs]] w' fun e w'' => e = .returned (.int .i64 (sumB s.boxes)) ∧ Below w'.heap.size w' w'') :=
    fun w' hb => bsize_any _ Gs s.spool.length cs s.boxes _ w' (HSAT.out.down hb) (by have := hbl.out; omega) HMLS.out (by have := HROOM.out; omega)
  clear h0 hrows hoff hH hsat hq hbi hbx hcell hown hg hql
  by_cases c1 : b.mails.length = 30
  · have hadd : Hid (addS s i fl tx = none) := by unfold Hid addS; rw [HBI.out]; simp only; rw [if_pos (.inl c1)]
    have q1 : ((b.mails.length : Int) == 30) = true := by simp; omega
    clear c1
    go_enter Tryd.func24, Tryd.ntmps24
    go_wp2_with fail
    go_ret
    unfold AddPost
    rw [hadd.out]
    exact ⟨⟨rfl, H0.out⟩, Below.refl _ _⟩
  have q1 : ((b.mails.length : Int) == 30) = false := by simp; omega
  by_cases c2 : 1048576 < b.next
  · have hadd : Hid (addS s i fl tx = none) := by unfold Hid addS; rw [HBI.out]; simp only; rw [if_pos (.inr (.inl c2))]
    have q2 : decide ((1048576 : Int) < b.next) = true := decide_eq_true (by omega)
    clear c1
    go_enter Tryd.func24, Tryd.ntmps24
    go_wp2_with fail
    go_ret
    unfold AddPost
    rw [hadd.out]
    exact ⟨⟨rfl, H0.out⟩, Below.refl _ _⟩
  have q2 : decide ((1048576 : Int) < b.next) = false := decide_eq_false (by omega)
  obtain ⟨S, hS⟩ : ∃ S, S = sumB s.boxes := ⟨_, rfl⟩
  rw [← hS] at hz
  have hS6 : S ≤ 6000 := by rw [hS]; exact HROOM.out
  by_cases c3 : 6000 < S + tx.length
  · have hadd : Hid (addS s i fl tx = none) := by unfold Hid addS; rw [HBI.out]; simp only; rw [if_pos (.inr (.inr (by omega)))]
    have q3 : decide ((6000 : Int) < (S : Int) + tx.length) = true := decide_eq_true (by omega)
    clear c1 hS
    go_enter Tryd.func24, Tryd.ntmps24
    go_wp2_with fail
    refine (hz.out _ (Below.refl _ _)).mono ?_
    rintro e w1 ⟨rfl, hb1⟩
    have HD := Lib.hid hb1
    clear hb1
    go_wp2_with fail
    go_ret
    unfold AddPost
    rw [hadd.out]
    exact ⟨⟨rfl, H0.out.down HD.out⟩, HD.out.mono hbs⟩
  have hadd : Hid (addS s i fl tx = some ⟨s.boxes.set i ⟨b.name, b.next + 1, b.mails ++ [(⟨b.next, fl, tx⟩ : Mail)]⟩, s.spool⟩) := by
    unfold Hid addS; rw [HBI.out]; simp only; rw [if_neg (by omega)]
  have q3 : decide ((6000 : Int) < (S : Int) + tx.length) = false := decide_eq_false (by omega)
  clear hS
  go_enter Tryd.func24, Tryd.ntmps24
  go_wp2_with fail
  refine (hz.out _ (Below.refl _ _)).mono ?_
  rintro e w1 ⟨rfl, hb1⟩
  have y1 := moved x1 hb1 (Nat.le_refl _); have y2 := moved x2 hb1 (Nat.le_refl _)
  have yf1 : w1.frozen? ⟨g, i * 3 + 1, none⟩ = false := (hb1.frozen (p := ⟨g, i * 3 + 1, none⟩) hgw).trans xf1
  have yf2 : w1.frozen? ⟨g, i * 3 + 2, none⟩ = false := (hb1.frozen (p := ⟨g, i * 3 + 2, none⟩) hgw).trans xf2
  have HD := Lib.hid hb1
  clear hb1 x1 x2 xf1 xf2
  have hrowq : (rowM (b, .slice Gm b.mails.length cm)).At w base := HROWS.out.1 _ (List.mem_cons_of_mem _ (List.mem_cons_of_mem _ (List.mem_map_of_mem (List.mem_of_getElem? HQ.out))))
  have hga : some g ≠ (Value.slice Gm b.mails.length cm).ownBlock := by
    rcases HROWS.out.2 0 (i + 2) _ (rowM (b, .slice Gm b.mails.length cm)) rfl (by show (qs.map rowM)[i]? = _; rw [List.getElem?_map, HQ.out]; rfl) (by omega) with h | h
    · cases h
    · exact h
  have hrw1 := row_down hrowq HD.out
  have HRW : Hid (World.ownsRow (w1.drew.alloc (.cells #[.int .i64 b.next, .int .i64 fl, .string ⟨tx.toArray⟩] 54)) base 54 3 (.slice Gm b.mails.length cm) b.mails.length (b.mails.flatMap mailC)) := (row_down hrw1 (Below.drew (Below.refl w1.heap.size w1))).alloc _
  have hw1 := HD.out.size
  have hdr := Below.drew (Below.refl w1.heap.size w1)
  have hA := ba hdr (.cells #[.int .i64 b.next, .int .i64 fl, .string ⟨tx.toArray⟩] 54)
  have v1 := moved y1 hA (Nat.le_refl _); have v2 := moved y2 hA (Nat.le_refl _)
  have vf1 : (w1.drew.alloc (.cells #[.int .i64 b.next, .int .i64 fl, .string ⟨tx.toArray⟩] 54)).frozen? ⟨g, i * 3 + 1, none⟩ = false := (hA.frozen (p := ⟨g, i * 3 + 1, none⟩) (by show g < w1.heap.size; omega)).trans yf1
  have vf2 : (w1.drew.alloc (.cells #[.int .i64 b.next, .int .i64 fl, .string ⟨tx.toArray⟩] 54)).frozen? ⟨g, i * 3 + 2, none⟩ = false := (hA.frozen (p := ⟨g, i * 3 + 2, none⟩) (by show g < w1.heap.size; omega)).trans yf2
  have HV := Lib.hid (And.intro v1 (And.intro v2 (And.intro vf1 vf2))); have HA := Lib.hid hA
  clear v1 v2 vf1 vf2 hA hrowq hrw1 hdr yf1 yf2
  have n2 := moved y2 (ba (Below.refl w1.heap.size w1) (.cells #[.int .i64 b.next, .int .i64 fl, .string ⟨tx.toArray⟩] 54)) (Nat.le_refl _)
  go_wp2_with fail
  go_region_law (first
    | (refine step_append_lies _ (by rfl) _ _ _ (by rfl) base 54 i0 _ 3 32 Tryd.underlying50 HI.out HZ0.out HZ1.out HZ2.out rfl (by omega) (.slice Gm b.mails.length cm) b.mails.length (b.mails.flatMap mailC) (by rfl) HRW.out
        ⟨w1.heap.size, 0, none⟩ 1 1 [.int .i64 b.next, .int .i64 fl, .string ⟨tx.toArray⟩] (by rfl) (by rfl) (World.news_of_block (cs := #[.int .i64 b.next, .int .i64 fl, .string ⟨tx.toArray⟩]) (t := 54) (fr := (0, 0)) (heap_alloc_new w1 _)) (by simp [Value.oneCell'])
        (by omega) (by unfold maxLen; omega) (by omega) (by simp; omega) (w1.heap.size + 1) (by simp) ?_
       intro g5 cap5 w5 hown5 hgrow5 hat5 hlt5
       have z2 := (hgrow5.cell_far ⟨g, i * 3 + 2, none⟩ (by simp; omega) hga).trans HV.out.2.1
       have zf2 := (hgrow5.frozen_far ⟨g, i * 3 + 2, none⟩ (by simp; omega) hga).trans HV.out.2.2.2
       have z1 := (hgrow5.cell_far ⟨g, i * 3 + 1, none⟩ (by simp; omega) hga).trans HV.out.1
       have zf1 := (hgrow5.frozen_far ⟨g, i * 3 + 1, none⟩ (by simp; omega) hga).trans HV.out.2.2.1))
  all_goals
    have HO5 := Lib.hid hown5; have HG5 := Lib.hid hgrow5; have HAT := Lib.hid hat5
    clear hown5 hgrow5 hat5
    go_wp2_with fail
    go_ret
    unfold AddPost
    rw [hadd.out]
    refine add_done HROWS.out HOFF.out HH.out HQ.out HBX.out hbs hR hgb HD.out HRW.out HG5.out HO5.out (by
      rcases HAT.out with e | e
      · exact .inl e
      · exact .inr (by rw [e]; simp)) hga
end Go.Proofs.YtaeejmggmgejcaaDoor
