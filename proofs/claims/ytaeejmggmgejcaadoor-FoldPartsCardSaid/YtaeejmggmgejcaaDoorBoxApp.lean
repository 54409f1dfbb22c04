/-
  DERIVED. What becomes of a state of one's own when an entry is done. No program is walked here.
-/
import Derived.Test.YtaeejmggmgejcaaDoorBoxDelete
namespace Go.Proofs.YtaeejmggmgejcaaDoor
open Go.RowKit

/-- a state of one's own, opened -/
structure Opn (w : World) (base R : Nat) (s : St) (qs : List BQ) (vB vS : Value) : Prop where
  boxes : s.boxes = qs.map Prod.fst
  has : Has w R [vB, vS]
  low : base ≤ R
  rows : Rows w base (rowsOf qs vB vS s.spool)
  off : OffR (rowsOf qs vB vS s.spool) R
theorem OwnS.opn {w : World} {base R : Nat} {s : St} (h : OwnS w base R s) : ∃ qs vB vS, Opn w base R s qs vB vS := by
  obtain ⟨qs, vB, vS, h1, h2, h3, h4, h5⟩ := h
  exact ⟨qs, vB, vS, h1, h2, h3, h4, h5⟩
theorem Opn.own {w : World} {base R : Nat} {s : St} {qs : List BQ} {vB vS : Value} (h : Opn w base R s qs vB vS) : OwnS w base R s := ⟨qs, vB, vS, h.boxes, h.has, h.low, h.rows, h.off⟩
theorem Opn.down {w w' : World} {base R : Nat} {s : St} {qs : List BQ} {vB vS : Value} (h : Opn w base R s qs vB vS) (hb : Below w.heap.size w w') : Opn w' base R s qs vB vS := ⟨h.boxes, h.has.down hb, h.low, h.rows.down hb, h.off⟩
theorem Opn.form {w : World} {base R : Nat} {s : St} {qs : List BQ} {vB vS : Value} (h : Opn w base R s qs vB vS) : (∃ G c, vB = .slice G s.boxes.length c) ∧ ∃ G c, vS = .slice G s.spool.length c := by
  refine ⟨?_, ?_⟩
  · obtain ⟨G, c, e⟩ := row_form (h.rows.1 _ (List.mem_cons_self ..))
    exact ⟨G, c, by rw [h.boxes, List.length_map]; exact e⟩
  · exact row_form (h.rows.1 _ (List.mem_cons_of_mem _ (List.mem_cons_self ..)))
theorem Opn.sat {w : World} {base R : Nat} {s : St} {qs : List BQ} {vB vS : Value} (h : Opn w base R s qs vB vS) : SAt cBox w (fun b => base ≤ b) vB s.boxes := by
  rw [h.boxes]; exact h.rows.boxes (fun b h => h)
/-- one more entry to go out -/
theorem own_spool {w w5 : World} {base R g5 cap5 : Nat} {s : St} {x : Ent} {qs : List BQ} {vB : Value} {G : Option Addr} {c : Nat} (h : Opn w base R s qs vB (.slice G s.spool.length c)) (hgrow : w.grownBy w5 (Value.slice G s.spool.length c).ownBlock)
    (hown5 : w5.ownsRow base 44 6 (.slice (some ⟨g5, 0, none⟩) (s.spool.length + 1) cap5) (s.spool.length + 1) (s.spool.flatMap entC ++ entC x)) (hat : (Value.slice G s.spool.length c).ownBlock = some g5 ∨ g5 = w.heap.size) :
    OwnS (w5.setCell ⟨R, 1, none⟩ (.slice (some ⟨g5, 0, none⟩) (s.spool.length + 1) cap5)) base R ⟨s.boxes, s.spool ++ [x]⟩ := by
  have hRs : some R ≠ (Value.slice G s.spool.length c).ownBlock := fun e => h.off _ (List.mem_cons_of_mem _ (List.mem_cons_self ..)) e.symm
  have hg5 : g5 ≠ R := by
    intro e; subst e
    rcases hat with e | e
    · exact hRs e.symm
    · have := h.has.2.2; omega
  have hput := h.rows.put (i := 1) (r := rowS (.slice G s.spool.length c) s.spool) (r' := rowS (.slice (some ⟨g5, 0, none⟩) (s.spool.length + 1) cap5) (s.spool ++ [x])) rfl hgrow (by
    show w5.ownsRow base 44 6 _ (s.spool ++ [x]).length ((s.spool ++ [x]).flatMap entC)
    rw [List.length_append, List.flatMap_append]
    have : ([x] : List Ent).flatMap entC = entC x := by simp
    rw [this]; exact hown5) (by
    rcases hat with e | e
    · exact .inl e.symm
    · exact .inr (.inr ⟨g5, rfl, by omega⟩))
  have hoff : OffR ((rowsOf qs vB (.slice G s.spool.length c) s.spool).set 1 (rowS (.slice (some ⟨g5, 0, none⟩) (s.spool.length + 1) cap5) (s.spool ++ [x]))) R := offR_put h.off (fun e => hg5 (Option.some.inj e))
  exact ⟨qs, vB, .slice (some ⟨g5, 0, none⟩) (s.spool.length + 1) cap5, h.boxes, (h.has.kept hgrow hRs).set' (i := 1) _ (by simp), h.low, hput.else' (Go.Lib.grownBy_setB (World.grownBy.refl w5 (some R)) 1 _) hoff, hoff⟩
/-- one more box -/
theorem own_create {w w5 : World} {base R g5 cap5 : Nat} {s : St} {nm : List UInt8} {qs : List BQ} {vS : Value} {G : Option Addr} {c : Nat} (h : Opn w base R s qs (.slice G qs.length c) vS) (hgrow : w.grownBy w5 (Value.slice G qs.length c).ownBlock)
    (hown5 : w5.ownsRow base 52 3 (.slice (some ⟨g5, 0, none⟩) (qs.length + 1) cap5) (qs.length + 1) (bxcells qs ++ bxC (⟨nm, 1, []⟩, .slice none 0 0))) (hat : (Value.slice G qs.length c).ownBlock = some g5 ∨ g5 = w.heap.size) :
    OwnS (w5.setCell ⟨R, 0, none⟩ (.slice (some ⟨g5, 0, none⟩) (qs.length + 1) cap5)) base R ⟨s.boxes ++ [⟨nm, 1, []⟩], s.spool⟩ := by
  have hRs : some R ≠ (Value.slice G qs.length c).ownBlock := fun e => h.off _ (List.mem_cons_self ..) e.symm
  have hg5 : g5 ≠ R := by
    intro e; subst e
    rcases hat with e | e
    · exact hRs e.symm
    · have := h.has.2.2; omega
  have hadd : Rows w base (rowsOf qs (.slice G qs.length c) vS s.spool ++ [rowM (⟨nm, 1, []⟩, .slice none 0 0)]) :=
    h.rows.add (w := w) (World.ownsRow_nil _ _ _ _) (fun x hx k hk => (World.ownsRow.lt (h.rows.1 x hx) k hk).2) (.inl rfl)
  have hput := hadd.put (i := 0) (r := rowB (.slice G qs.length c) qs) (r' := rowB (.slice (some ⟨g5, 0, none⟩) (qs.length + 1) cap5) (qs ++ [(⟨nm, 1, []⟩, .slice none 0 0)])) rfl hgrow (by
    show w5.ownsRow base 52 3 _ (qs ++ [_]).length (bxcells (qs ++ [_]))
    rw [bxcells_snoc, List.length_append]; exact hown5) (by
    rcases hat with e | e
    · exact .inl e.symm
    · exact .inr (.inr ⟨g5, rfl, by omega⟩))
  have hoff : OffR ((rowsOf qs (.slice G qs.length c) vS s.spool ++ [rowM (⟨nm, 1, []⟩, .slice none 0 0)]).set 0 (rowB (.slice (some ⟨g5, 0, none⟩) (qs.length + 1) cap5) (qs ++ [(⟨nm, 1, []⟩, .slice none 0 0)]))) R :=
    offR_put (offR_add h.off (fun e => by cases e)) (fun e => hg5 (Option.some.inj e))
  rw [rows_last] at hput hoff
  exact ⟨_, _, vS, by show s.boxes ++ _ = _; rw [h.boxes, List.map_append]; rfl, (h.has.kept hgrow hRs).set' (i := 0) _ (by simp), h.low, hput.else' (Go.Lib.grownBy_setB (World.grownBy.refl w5 (some R)) 0 _) hoff, hoff⟩
/-- box i, where it lies -/
theorem Opn.box {w : World} {base R i : Nat} {s : St} {qs : List BQ} {vB vS : Value} {b : Bx} (h : Opn w base R s qs vB vS) (hb : s.boxes[i]? = some b) :
    ∃ g cap G c, vB = .slice (some ⟨g, 0, none⟩) s.boxes.length cap ∧ base ≤ g ∧ g < w.heap.size ∧ i < s.boxes.length ∧ qs[i]? = some (b, .slice G b.mails.length c) ∧ (rowM (b, .slice G b.mails.length c)).At w base ∧ some g ≠ (Value.slice G b.mails.length c).ownBlock ∧ some R ≠ (Value.slice G b.mails.length c).ownBlock ∧ R ≠ g ∧
      (rowB (.slice (some ⟨g, 0, none⟩) s.boxes.length cap) qs).At w base ∧ w.cell? ⟨g, i * 3, none⟩ = some (.string ⟨b.name.toArray⟩) ∧ w.cell? ⟨g, i * 3 + 1, none⟩ = some (.int .i64 b.next) ∧ w.cell? ⟨g, i * 3 + 2, none⟩ = some (.slice G b.mails.length c) ∧ w.frozen? ⟨g, i * 3 + 2, none⟩ = false := by
  have hlt : i < s.boxes.length := (List.getElem?_eq_some_iff.1 hb).1
  have hql : qs.length = s.boxes.length := by rw [h.boxes, List.length_map]
  obtain ⟨q, hq⟩ : ∃ q, qs[i]? = some q := ⟨_, List.getElem?_eq_getElem (by omega)⟩
  have e : q.1 = b := by
    have : s.boxes[i]? = some q.1 := by rw [h.boxes, List.getElem?_map, hq]; rfl
    rw [hb] at this; exact (Option.some.inj this).symm
  subst e
  obtain ⟨b, u⟩ := q
  obtain ⟨g, cap, hvB, hgb, hgw⟩ := World.ownsRow.form (h.rows.1 _ (List.mem_cons_self ..)) (show 0 < (rowB vB qs).n by show 0 < qs.length; omega)
  obtain rfl : vB = .slice (some ⟨g, 0, none⟩) qs.length cap := hvB
  have hrow := h.rows.1 (rowM (b, u)) (List.mem_cons_of_mem _ (List.mem_cons_of_mem _ (List.mem_map_of_mem (List.mem_of_getElem? hq))))
  obtain ⟨G, c, rfl⟩ : ∃ G c, u = .slice G b.mails.length c := row_form hrow
  have hown := h.rows.1 _ (List.mem_cons_self ..)
  have hcell : ∀ j, j < 3 → w.cell? ⟨g, i * 3 + j, none⟩ = (bxC (b, .slice G b.mails.length c))[j]? := fun j hj => (World.ownsRow.cellAt hown (i * 3 + j) (by show i * 3 + j < qs.length * 3; omega)).trans (bxcells_at qs i j _ hq hj)
  refine ⟨g, cap, G, c, by rw [hql], hgb, hgw, hlt, hq, hrow, ?_, ?_, ?_, ?_, hcell 0 (by omega), hcell 1 (by omega), hcell 2 (by omega), World.ownsRow.frozenAt hown (i * 3 + 2)⟩
  · rcases h.rows.2 0 (i + 2) _ (rowM (b, .slice G b.mails.length c)) rfl (by show (qs.map rowM)[i]? = _; rw [List.getElem?_map, hq]; rfl) (by omega) with h | h
    · cases h
    · exact h
  · exact fun e => h.off (rowM (b, .slice G b.mails.length c)) (List.mem_cons_of_mem _ (List.mem_cons_of_mem _ (List.mem_map_of_mem (List.mem_of_getElem? hq)))) e.symm
  · exact fun e => h.off _ (List.mem_cons_self ..) (by rw [e]; rfl)
  · rw [← hql]; exact hown
theorem bxcells_set2 : ∀ (qs : List BQ) (i : Nat) (q : BQ) (b' : Bx) (v : Value), qs[i]? = some q → b'.name = q.1.name → b'.next = q.1.next → (bxcells qs).set (i * 3 + 2) v = bxcells (qs.set i (b', v))
  | [], i, q, b', v, h, _, _ => by simp at h
  | a :: l, 0, q, b', v, h, hn, hx => by
    obtain rfl : a = q := by simpa using h
    show ([.string ⟨a.1.name.toArray⟩, .int .i64 a.1.next, v] : List Value) ++ bxcells l = bxC (b', v) ++ bxcells l
    unfold bxC; rw [hn, hx]
  | a :: l, i + 1, q, b', v, h, hn, hx => by
    have ih := bxcells_set2 l i q b' v (by simpa using h) hn hx
    show (bxC a ++ bxcells l).set ((i + 1) * 3 + 2) v = bxC a ++ bxcells (l.set i (b', v))
    rw [← ih, List.set_append_right _ _ (by show 3 ≤ _; omega)]
    congr 2
    show (i + 1) * 3 + 2 - 3 = _; omega
theorem rows_mail2 {w w' : World} {base i g cap : Nat} {qs : List BQ} {vS v5 : Value} {sp : List Ent} {q : BQ} {b' : Bx} (h : Rows w base (rowsOf qs (.slice (some ⟨g, 0, none⟩) qs.length cap) vS sp)) (hq : qs[i]? = some q) (hgrow : w.grownBy w' q.2.ownBlock)
    (h' : (rowM (b', v5)).At w' base) (hv : v5.ownBlock = q.2.ownBlock ∨ v5.ownBlock = none ∨ ∃ H, v5.ownBlock = some H ∧ w.heap.size ≤ H) (hname : b'.name = q.1.name) (hnext : b'.next = q.1.next) :
    Rows (w'.setCell ⟨g, i * 3 + 2, none⟩ v5) base (rowsOf (qs.set i (b', v5)) (.slice (some ⟨g, 0, none⟩) (qs.set i (b', v5)).length cap) vS sp) := by
  have h1 := h.put (i := i + 2) (r := rowM q) (r' := rowM (b', v5)) (by show (qs.map rowM)[i]? = _; rw [List.getElem?_map, hq]; rfl) hgrow h' hv
  have hB : (rowB (.slice (some ⟨g, 0, none⟩) qs.length cap) qs).At w' base := h1.1 _ (by unfold rowsOf; rw [List.set_cons_succ]; exact List.mem_cons_self ..)
  obtain ⟨s1, g1⟩ := World.ownsRow.stored hB (i * 3 + 2) v5
  rw [show (rowB (.slice (some ⟨g, 0, none⟩) qs.length cap) qs).cells = bxcells qs from rfl, bxcells_set2 qs i q b' v5 hq hname hnext] at s1
  have h2 := h1.put (i := 0) (r := rowB (.slice (some ⟨g, 0, none⟩) qs.length cap) qs) (r' := rowB (.slice (some ⟨g, 0, none⟩) (qs.set i (b', v5)).length cap) (qs.set i (b', v5))) rfl g1
    (by show World.ownsRow _ base 52 3 (.slice (some ⟨g, 0, none⟩) (qs.set i (b', v5)).length cap) (qs.set i (b', v5)).length _; rw [List.length_set]; exact s1) (.inl rfl)
  have e := rows_set qs i (.slice (some ⟨g, 0, none⟩) qs.length cap) vS v5 sp b'
  rw [List.length_set] at h2 ⊢
  rw [e] at h2
  exact h2
/-- one mail's flags are written in place -/
theorem own_flag {w : World} {base R i g cap gm k fl : Nat} {s : St} {qs : List BQ} {vS : Value} {b : Bx} {m : Mail} {c : Nat} (h : Opn w base R s qs (.slice (some ⟨g, 0, none⟩) s.boxes.length cap) vS) (hq : qs[i]? = some (b, .slice (some ⟨gm, 0, none⟩) b.mails.length c))
    (hm : b.mails[k]? = some m) (hR : R ≠ gm) : OwnS (w.setCell ⟨gm, k * 3 + 1, none⟩ (.int .i64 fl)) base R ⟨s.boxes.set i ⟨b.name, b.next, b.mails.set k ⟨m.uid, fl, m.text⟩⟩, s.spool⟩ := by
  have hlt : k < b.mails.length := (List.getElem?_eq_some_iff.1 hm).1
  have hrow : (rowM (b, .slice (some ⟨gm, 0, none⟩) b.mails.length c)).At w base := h.rows.1 _ (List.mem_cons_of_mem _ (List.mem_cons_of_mem _ (List.mem_map_of_mem (List.mem_of_getElem? hq))))
  obtain ⟨s1, g1⟩ := World.ownsRow.stored hrow (k * 3 + 1) (.int .i64 fl)
  have e : ((b.mails.flatMap mailC).set (k * 3 + 1) (.int .i64 fl)) = (b.mails.set k ⟨m.uid, fl, m.text⟩).flatMap mailC := by
    rw [← mcells_set b.mails k ⟨m.uid, fl, m.text⟩ hlt]
    have c0 := mcells_at b.mails k 0 m hm (by omega)
    have c2 := mcells_at b.mails k 2 m hm (by omega)
    have l0 : k * 3 < (b.mails.flatMap mailC).length := by rw [mcells_len]; omega
    have l2 : k * 3 + 2 < (b.mails.flatMap mailC).length := by rw [mcells_len]; omega
    have e0 : (b.mails.flatMap mailC).set (k * 3) (.int .i64 m.uid) = b.mails.flatMap mailC := by
      have : (b.mails.flatMap mailC)[k * 3] = .int .i64 m.uid := by
        have := c0.symm.trans (List.getElem?_eq_getElem l0)
        exact (Option.some.inj this).symm
      rw [← this, List.set_getElem_self]
    show _ = (((b.mails.flatMap mailC).set (k * 3) (.int .i64 m.uid)).set (k * 3 + 1) (.int .i64 fl)).set (k * 3 + 2) (.string ⟨m.text.toArray⟩)
    rw [e0]
    have e2 : ((b.mails.flatMap mailC).set (k * 3 + 1) (.int .i64 fl))[k * 3 + 2]'(by rw [List.length_set]; exact l2) = .string ⟨m.text.toArray⟩ := by
      rw [List.getElem_set_ne (by omega)]
      have := c2.symm.trans (List.getElem?_eq_getElem l2)
      exact (Option.some.inj this).symm
    rw [← e2, List.set_getElem_self]
  rw [show (rowM (b, .slice (some ⟨gm, 0, none⟩) b.mails.length c)).cells = b.mails.flatMap mailC from rfl, e] at s1
  have h1 := h.rows.put (i := i + 2) (r := rowM (b, .slice (some ⟨gm, 0, none⟩) b.mails.length c)) (r' := rowM (⟨b.name, b.next, b.mails.set k ⟨m.uid, fl, m.text⟩⟩, .slice (some ⟨gm, 0, none⟩) b.mails.length c)) (by show (qs.map rowM)[i]? = _; rw [List.getElem?_map, hq]; rfl) g1
    (by show World.ownsRow _ base 54 3 _ (b.mails.set k ⟨m.uid, fl, m.text⟩).length _; rw [List.length_set]; exact s1) (.inl rfl)
  have hql : s.boxes.length = qs.length := by rw [h.boxes, List.length_map]
  have hcells : bxcells qs = bxcells (qs.set i (⟨b.name, b.next, b.mails.set k ⟨m.uid, fl, m.text⟩⟩, .slice (some ⟨gm, 0, none⟩) b.mails.length c)) := by
    have e := bxcells_set2 qs i _ ⟨b.name, b.next, b.mails.set k ⟨m.uid, fl, m.text⟩⟩ (.slice (some ⟨gm, 0, none⟩) b.mails.length c) hq rfl rfl
    rw [← e]
    have hil : i < qs.length := (List.getElem?_eq_some_iff.1 hq).1
    have c2 := bxcells_at qs i 2 _ hq (by omega)
    obtain ⟨l2, e2⟩ := List.getElem?_eq_some_iff.1 (c2.trans (show _ = some (Value.slice (some ⟨gm, 0, none⟩) b.mails.length c) from rfl))
    rw [← e2, List.set_getElem_self]
  have hsame : (rowsOf qs (.slice (some ⟨g, 0, none⟩) s.boxes.length cap) vS s.spool).set (i + 2) (rowM (⟨b.name, b.next, b.mails.set k ⟨m.uid, fl, m.text⟩⟩, .slice (some ⟨gm, 0, none⟩) b.mails.length c)) = rowsOf (qs.set i (⟨b.name, b.next, b.mails.set k ⟨m.uid, fl, m.text⟩⟩, .slice (some ⟨gm, 0, none⟩) b.mails.length c)) (.slice (some ⟨g, 0, none⟩) s.boxes.length cap) vS s.spool := by
    unfold rowsOf rowB
    rw [← hcells, List.length_set]
    simp [List.map_set]
  have hoff : OffR ((rowsOf qs (.slice (some ⟨g, 0, none⟩) s.boxes.length cap) vS s.spool).set (i + 2) (rowM (⟨b.name, b.next, b.mails.set k ⟨m.uid, fl, m.text⟩⟩, .slice (some ⟨gm, 0, none⟩) b.mails.length c))) R := offR_put h.off (fun e => hR (Option.some.inj e).symm)
  rw [hsame] at h1 hoff
  exact ⟨_, _, vS, by show s.boxes.set i _ = _; rw [List.map_set, h.boxes], h.has.else' hR _, h.low, h1, hoff⟩
/-- the mails of box i are others, in the same memory; the box's cell is written -/
theorem own_mails {w w' : World} {base R i g cap : Nat} {s : St} {qs : List BQ} {vS : Value} {b : Bx} {G G' : Option Addr} {c c' : Nat} {l : List Mail} (h : Opn w base R s qs (.slice (some ⟨g, 0, none⟩) s.boxes.length cap) vS) (hq : qs[i]? = some (b, .slice G b.mails.length c))
    (hgrow : w.grownBy w' (Value.slice G b.mails.length c).ownBlock) (hrow : w'.ownsRow base 54 3 (.slice G' l.length c') l.length (l.flatMap mailC)) (hv : (Value.slice G' l.length c').ownBlock = (Value.slice G b.mails.length c).ownBlock)
    (hR : some R ≠ (Value.slice G b.mails.length c).ownBlock) (hRg : R ≠ g) : OwnS (w'.setCell ⟨g, i * 3 + 2, none⟩ (.slice G' l.length c')) base R ⟨s.boxes.set i ⟨b.name, b.next, l⟩, s.spool⟩ := by
  have hql : s.boxes.length = qs.length := by rw [h.boxes, List.length_map]
  rw [hql] at h
  have h1 := rows_mail2 (b' := ⟨b.name, b.next, l⟩) h.rows hq hgrow hrow (.inl hv) rfl rfl
  refine ⟨_, _, vS, ?_, ?_, h.low, h1, ?_⟩
  · show s.boxes.set i _ = _
    rw [List.map_set, h.boxes]
  · rw [List.length_set]
    exact (h.has.kept hgrow hR).else' hRg _
  · rw [← rows_set]
    refine offR_put (offR_put ?_ (fun e => hR (by rw [← hv]; exact e.symm))) (fun e => hRg (Option.some.inj e).symm)
    rw [List.length_set]; exact h.off
end Go.Proofs.YtaeejmggmgejcaaDoor
