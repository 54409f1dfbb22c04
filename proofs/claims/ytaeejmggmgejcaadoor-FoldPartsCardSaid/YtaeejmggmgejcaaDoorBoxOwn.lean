/-
  DERIVED. 'own' of box: the walk.
-/
import Derived.Test.YtaeejmggmgejcaaDoorBoxRows
import Derived.Test.YtaeejmggmgejcaaDoorBoxClone
import Derived.Deep.DeepCutAuto
namespace Go.Proofs.YtaeejmggmgejcaaDoor
open Go.RowKit

/-- what own answers -/
def OwnPost (s : St) (w : World) (e : Ending) (w' : World) : Prop := (∃ G1 c1 G2 c2, e = .returned (.agg #[.slice G1 s.boxes.length c1, .slice G2 s.spool.length c2]) ∧ OwnV w' w.heap.size (.slice G1 s.boxes.length c1) (.slice G2 s.spool.length c2) s) ∧ Below w.heap.size w w'
theorem row_form {w : World} {base : Nat} {r : Row} (h : r.At w base) : ∃ G c, r.v = .slice G r.n c := by
  rcases h.2 with ⟨h1, h2⟩ | ⟨g, cap, cur, h1, _⟩
  · exact ⟨none, 0, by rw [h1, h2]⟩
  · exact ⟨_, cap, h1⟩
theorem own_end {R : Nat} {vB vS : Value} {s : St} {a : Act} {W w : World} (ht : a.tmps.getD 2 undef = .pointer (some ⟨R, 0, none⟩)) (hd : a.defers = [])
    (h : Has W R [vB, vS]) (he : OwnV W w.heap.size vB vS s) (hb : Below w.heap.size w W) : bodyPost Tryd.prog Tryd.f13 (OwnPost s w) .ret a W := by
  obtain ⟨c0, c1, _, _⟩ := h.two
  have hB : ∃ G c, vB = .slice G s.boxes.length c := by
    obtain ⟨qs, h1, h2⟩ := he
    obtain ⟨G, c, h3⟩ := row_form (h2.1 _ (List.mem_cons_self ..))
    exact ⟨G, c, by rw [h1, List.length_map]; exact h3⟩
  have hS : ∃ G c, vS = .slice G s.spool.length c := by
    obtain ⟨qs, h1, h2⟩ := he
    exact row_form (h2.1 _ (List.mem_cons_of_mem _ (List.mem_cons_self ..)))
  obtain ⟨G1, d1, rfl⟩ := hB
  obtain ⟨G2, d2, rfl⟩ := hS
  refine bodyPost_ret (v := .agg #[.slice G1 s.boxes.length d1, .slice G2 s.spool.length d2]) ?_ hd ⟨⟨_, _, _, _, rfl, he⟩, hb⟩
  have ht' : a.tmps[2]?.getD undef = .pointer (some ⟨R, 0, none⟩) := by simpa using ht
  simp [results, Tryd.results13, go_sem, ht', c0, c1]
theorem rows_more {w0 w1 : World} {base n : Nat} {qs : List BQ} {vB vS v' : Value} {sp : List Ent} {q : BQ} (h : Rows w0 base (rowsOf qs vB vS sp)) (hb : Below w0.heap.size w0 w1) (hq : q.2 = v') (hn : q.1.mails.length = n)
    (hown : w1.ownsRow w0.heap.size 54 3 v' n (q.1.mails.flatMap mailC)) (hbase : base ≤ w0.heap.size) : Rows w1 base (rowsOf qs vB vS sp ++ [rowM q]) := by
  subst hq; subst hn
  refine (h.down hb).add (w := w0) (row_base hbase hown) (fun x hx k hk => (World.ownsRow.lt (h.1 x hx) k hk).2) ?_
  cases hv : q.2.ownBlock with
  | none => exact .inl hv
  | some H => exact .inr ⟨H, hv, (World.ownsRow.lt hown H hv).1⟩
theorem rows_last (qs : List BQ) (vB vS v'' : Value) (sp : List Ent) (q : BQ) : (rowsOf qs vB vS sp ++ [rowM q]).set 0 (rowB v'' (qs ++ [q])) = rowsOf (qs ++ [q]) v'' vS sp := by
  unfold rowsOf; simp
/-- no row lies at R -/
def OffR (l : List Row) (R : Nat) : Prop := ∀ r ∈ l, r.v.ownBlock ≠ some R
theorem offR_high {w : World} {base R : Nat} {l : List Row} (h : Rows w base l) (hR : w.heap.size ≤ R) : OffR l R := fun r hr e => by have := (World.ownsRow.lt (h.1 r hr) R e).2; omega
theorem offR_low {w : World} {base R : Nat} {l : List Row} (h : Rows w base l) (hR : R < base) : OffR l R := fun r hr e => by have := (World.ownsRow.lt (h.1 r hr) R e).1; omega
theorem bxcells_snoc (qs : List BQ) (q : BQ) : bxcells (qs ++ [q]) = bxcells qs ++ bxC q := by simp [bxcells]
theorem take_map_snoc {l : List Bx} {qs : List BQ} {j : Nat} (hq : qs.map Prod.fst = l.take j) (hj : j < l.length) (v : Value) : (qs ++ [(l[j], v)]).map Prod.fst = l.take (j + 1) := by
  rw [List.map_append, hq, List.take_succ_eq_append_getElem hj]; rfl

theorem offR_put {l : List Row} {R i : Nat} {r' : Row} (h : OffR l R) (h' : r'.v.ownBlock ≠ some R) : OffR (l.set i r') R := by
  intro r hr
  obtain ⟨j, hj, rfl⟩ := List.getElem_of_mem hr
  rw [List.length_set] at hj
  rw [List.getElem_set]
  split
  · exact h'
  · exact h _ (List.getElem_mem _)
theorem offR_add {l : List Row} {R : Nat} {r' : Row} (h : OffR l R) (h' : r'.v.ownBlock ≠ some R) : OffR (l ++ [r']) R := by
  intro r hr
  rcases List.mem_append.1 hr with hr | hr
  · exact h r hr
  · obtain rfl := List.mem_singleton.1 hr; exact h'
theorem own_round {wr w2 w5 : World} {base R3 cap5 g5 : Nat} {o o2 : Obj} {u : Value} {qs : List BQ} {vB vS : Value} {sp : List Ent} {q : BQ} (h : Rows wr base (rowsOf qs vB vS sp)) (hoff : OffR (rowsOf qs vB vS sp) R3) (hR : R3 < wr.heap.size) (hbase : base ≤ wr.heap.size)
    (hb2 : Below (wr.alloc o).heap.size (wr.alloc o) w2) (hown : w2.ownsRow (wr.alloc o).heap.size 54 3 q.2 q.1.mails.length (q.1.mails.flatMap mailC))
    (hgrow : ((w2.setCell ⟨wr.heap.size, 2, none⟩ u).alloc o2).grownBy w5 vB.ownBlock)
    (hown5 : w5.ownsRow base 52 3 (.slice (some ⟨g5, 0, none⟩) (qs.length + 1) cap5) (qs.length + 1) (bxcells qs ++ bxC q))
    (hat : vB.ownBlock = some g5 ∨ g5 = ((w2.setCell ⟨wr.heap.size, 2, none⟩ u).alloc o2).heap.size - 0) :
    Rows (w5.setCell ⟨R3, 0, none⟩ (.slice (some ⟨g5, 0, none⟩) (qs.length + 1) cap5)) base (rowsOf (qs ++ [q]) (.slice (some ⟨g5, 0, none⟩) (qs.length + 1) cap5) vS sp) ∧ OffR (rowsOf (qs ++ [q]) (.slice (some ⟨g5, 0, none⟩) (qs.length + 1) cap5) vS sp) R3 := by
  have hz2 := hb2.size
  simp only [World.size_alloc] at hz2
  have hA := h.down (ba (Below.refl wr.heap.size wr) o)
  have h2 := rows_more hA hb2 rfl rfl hown (by simp; omega)
  have hq3 : ∀ k, q.2.ownBlock = some k → wr.heap.size + 1 ≤ k := fun k hk => by have := (World.ownsRow.lt hown k hk).1; simpa using this
  have hoffb : OffR (rowsOf qs vB vS sp ++ [rowM q]) wr.heap.size := offR_add (offR_high h (Nat.le_refl _)) (fun e => by have := hq3 _ e; omega)
  have hoff3 : OffR (rowsOf qs vB vS sp ++ [rowM q]) R3 := offR_add hoff (fun e => by have := hq3 _ e; omega)
  have h3 := h2.else' (Go.Lib.grownBy_setB (World.grownBy.refl w2 (some wr.heap.size)) 2 u) hoffb
  have h4 := h3.down (ba (Below.refl (w2.setCell ⟨wr.heap.size, 2, none⟩ u).heap.size _) o2)
  have h5 := h4.put (i := 0) (r := rowB vB qs) (r' := rowB (.slice (some ⟨g5, 0, none⟩) (qs.length + 1) cap5) (qs ++ [q])) rfl hgrow (by
      show w5.ownsRow base 52 3 _ (qs ++ [q]).length (bxcells (qs ++ [q]))
      rw [bxcells_snoc, List.length_append]; exact hown5) (by
      rcases hat with e | e
      · exact .inl (Eq.symm e)
      · exact .inr (.inr ⟨g5, rfl, by omega⟩))
  rw [rows_last] at h5
  have hoff5 : OffR (rowsOf (qs ++ [q]) (.slice (some ⟨g5, 0, none⟩) (qs.length + 1) cap5) vS sp) R3 := by
    rw [← rows_last qs vB]
    refine offR_put hoff3 (fun e => ?_)
    obtain rfl : g5 = R3 := Option.some.inj e
    rcases hat with e | e
    · exact hoff _ (List.mem_cons_self ..) e
    · have : w2.heap.size ≤ ((w2.setCell ⟨wr.heap.size, 2, none⟩ u).alloc o2).heap.size := by simp
      omega
  exact ⟨h5.else' (Go.Lib.grownBy_setB (World.grownBy.refl w5 (some R3)) 0 _) hoff5, hoff5⟩
/-- what stands at the head of each round -/
def OwnRel (s : St) (w : World) (R3 : Nat) (vS : Value) (i : Value) (wr : World) : Prop := ∃ (j : Nat) (qs : List BQ) (G : Option Addr) (c : Nat), j ≤ s.boxes.length ∧ i = .int .i64 j ∧ qs.map Prod.fst = s.boxes.take j ∧ Has wr R3 [.slice G qs.length c, vS] ∧ Rows wr (w.heap.size + 2) (rowsOf qs (.slice G qs.length c) vS s.spool) ∧
  OffR (rowsOf qs (.slice G qs.length c) vS s.spool) R3 ∧ Has wr (w.heap.size + 1) [.slice none 0 0, .slice none 0 0] ∧ Below w.heap.size w wr

set_option maxHeartbeats 8000000 in
set_option maxRecDepth 20000 in
theorem own_any (s : St) (vB vS : Value) (F : Dom) (w : World) (hB : SAt cBox w F vB s.boxes) (hS : SAt cEnt w F vS s.spool) (hl : s.boxes.length ≤ 1000) (hsl : s.spool.length ≤ 1000) (hml : ∀ b ∈ s.boxes, b.mails.length ≤ 1000) :
    Calls Tryd.prog 13 #[.agg #[vB, vS]] w (OwnPost s w) := by
  obtain ⟨i0, hi, hz0, hz1, hz2⟩ := info_parts infoBx
  have HI := Lib.hid hi; have HZ0 := Lib.hid hz0; have HZ1 := Lib.hid hz1; have HZ2 := Lib.hid hz2
  clear hi hz0 hz1 hz2
  obtain ⟨Gb, cb, rfl, hcb⟩ := hB.form
  obtain ⟨Gs, cS, rfl, hcs⟩ := hS.form
  have HB := Lib.hid hB; have HML := Lib.hid hml
  have hA := ba (ba (Below.refl w.heap.size w) (.cells #[.slice Gb s.boxes.length cb, .slice Gs s.spool.length cS] 29)) (.cells #[.slice none 0 0, .slice none 0 0] 29)
  have h1 := (Has.alloc w [.slice Gb s.boxes.length cb, .slice Gs s.spool.length cS] 29).down (ba (Below.refl _ _) (.cells #[.slice none 0 0, .slice none 0 0] 29))
  have h2 := Has.alloc (w.alloc (.cells #[.slice Gb s.boxes.length cb, .slice Gs s.spool.length cS] 29)) [.slice none 0 0, .slice none 0 0] 29
  simp only [World.size_alloc] at h2
  have hCl := Lib.hid (cloneE_any _ s.spool F _ (hS.down hA) (by omega))
  have HA := Lib.hid hA; have H1 := Lib.hid h1; have H2 := Lib.hid h2
  clear hA hB hS hml h1 h2
  go_enter Tryd.func13, Tryd.ntmps13
  go_wp2_with fail
  refine hCl.out.mono ?_
  rintro e w1 ⟨⟨vS1, rfl, ho1⟩, hb1⟩
  obtain ⟨G2, c2, rfl⟩ : ∃ G c, vS1 = .slice G s.spool.length c := row_form (r := ⟨vS1, _, _, s.spool.length, _⟩) ho1
  have hA1 := ba (Below.refl w1.heap.size w1) (.cells #[.slice none 0 0, .slice G2 s.spool.length c2] 29)
  have hN1 := (H1.out.down hb1).down hA1
  have hR1 := (H2.out.down hb1).down hA1
  obtain ⟨n0, n1, -, -⟩ := hN1.two
  have hOut := Has.alloc w1 [.slice none 0 0, .slice G2 s.spool.length c2] 29
  have hbw1 := bt (bt HA.out hb1) hA1
  have hz1 : w.heap.size + 2 ≤ w1.heap.size := by have := hb1.size; simp at this; omega
  have hrow0 : Rows w1 (w.heap.size + 2) (rowsOf [] (.slice none 0 0) (.slice G2 s.spool.length c2) s.spool) := by
    have hS : (rowS (.slice G2 s.spool.length c2) s.spool).At w1 (w.heap.size + 2) := row_base (by simp) ho1
    refine ⟨fun r hr => ?_, fun i j a b ha hb hij => ?_⟩
    · rcases List.mem_cons.1 hr with rfl | hr
      · exact World.ownsRow_nil _ _ _ _
      · obtain rfl := List.mem_singleton.1 hr; exact hS
    · match i, j, ha, hb with
      | 0, _, ha, _ => obtain rfl := Option.some.inj ha; exact .inl rfl
      | 1, 0, ha, hb =>
        obtain rfl := Option.some.inj hb; obtain rfl := Option.some.inj ha
        cases hv : (rowS (.slice G2 s.spool.length c2) s.spool).v.ownBlock with
        | none => exact .inl rfl
        | some k => right; intro e; cases e
      | 1, 1, _, _ => exact absurd rfl hij
      | 1, _ + 2, _, hb => simp [rowsOf] at hb
      | _ + 2, _, ha, _ => simp [rowsOf] at ha
  have hoff0 := offR_high hrow0 (Nat.le_refl _)
  have hrow1 := hrow0.down hA1
  have HOFF1 := Lib.hid hoff0
  have HR1 := Lib.hid hR1; have HO1 := Lib.hid hOut; have HB1 := Lib.hid hbw1; have HROW1 := Lib.hid hrow1
  clear hA1 hN1 hR1 hOut hbw1 hrow1 hb1 ho1 hrow0 hoff0
  go_wp2_with fail
  obtain ⟨R3, hR3⟩ : ∃ R3, R3 = w1.heap.size := ⟨_, rfl⟩
  obtain ⟨W1, hW1⟩ : ∃ W1, W1 = w1.alloc (.cells #[.slice none 0 0, .slice G2 s.spool.length c2] 29) := ⟨_, rfl⟩
  rw [← hW1] at HR1 HO1 HB1 HROW1 ⊢
  rw [← hR3] at HO1 HOFF1 hz1 ⊢
  clear hW1 hR3 n0 n1
  go_loopw [13] (OwnRel s w R3 (.slice G2 s.spool.length c2)) (fun i _ => s.boxes.length - (intOf i).toNat)
  case atStart => exact ⟨0, [], none, 0, Nat.zero_le _, rfl, rfl, HO1.out, HROW1.out, HOFF1.out, HR1.out, HB1.out⟩
  case round =>
    obtain ⟨j, qs, G, cq, hj, rfl, hqs, hO, hrow, hoff, hR, hb⟩ := hrel
    clear HO1 HROW1 HOFF1 HR1 HB1
    have hql : qs.length = min j s.boxes.length := by rw [← List.length_take, ← hqs, List.length_map]
    have hqj : qs.length ≤ 1000 := by omega
    have hR3 := hO.2.2
    by_cases hlt : j < s.boxes.length
    · obtain ⟨g, off, a, c, rfl, hF, hg, hac, hm, c0, c1, c2'⟩ := box_get HB.out hb j hlt
      have hml := HML.out s.boxes[j] (List.getElem_mem _)
      have hgr : g < wr.heap.size := Nat.lt_of_lt_of_le hg hb.size
      have hnext := fun v => take_map_snoc hqs hlt v
      have HNX := Lib.hid hnext
      clear hnext hqs hql
      generalize s.boxes[j] = b at hac hm hml c0 c1 c2' HNX
      have hA := ba (Below.refl wr.heap.size wr) (.cells #[.string ⟨b.name.toArray⟩, .int .i64 b.next, .slice a b.mails.length c] 52)
      have hCm := Lib.hid (cloneM_any (.slice a b.mails.length c) b.mails F _ (hm.down hA) (by omega))
      have HX := Lib.hid (Has.alloc wr [.string ⟨b.name.toArray⟩, .int .i64 b.next, .slice a b.mails.length c] 52)
      have HO := Lib.hid (hO.down hA); have HR := Lib.hid (hR.down hA); have HBW := Lib.hid (bt hb hA)
      have HROW := Lib.hid hrow; have HOFF := Lib.hid hoff
      clear hA hO hrow hoff hR hb hm
      go_wp2_with fail
      refine hCm.out.mono ?_
      rintro e w2 ⟨⟨v', rfl, hown⟩, hb2⟩
      obtain ⟨G', c', rfl⟩ : ∃ G c, v' = .slice G b.mails.length c := row_form (r := ⟨v', _, _, b.mails.length, _⟩) hown
      have hx := HX.out.down hb2
      obtain ⟨x0, x1, x2⟩ : w2.cell? ⟨wr.heap.size, 0, none⟩ = some (.string ⟨b.name.toArray⟩) ∧ w2.cell? ⟨wr.heap.size, 1, none⟩ = some (.int .i64 b.next) ∧ w2.cell? ⟨wr.heap.size, 2, none⟩ = some (.slice a b.mails.length c) := ⟨hx.1 0 _ rfl, hx.1 1 _ rfl, hx.1 2 _ rfl⟩
      have xf := hx.2.1 2 (by simp)
      have HX2 := Lib.hid (hx.set' (i := 2) (.slice G' b.mails.length c') (by simp))
      have HO2 := Lib.hid ((HO.out.down hb2).else' (c := wr.heap.size) (i := 2) (by omega) (.slice G' b.mails.length c'))
      have HR2 := Lib.hid ((HR.out.down hb2).else' (c := wr.heap.size) (i := 2) (by omega) (.slice G' b.mails.length c'))
      have HB2 := Lib.hid ((bt HBW.out hb2).setCell (p := ⟨wr.heap.size, 2, none⟩) (by show w.heap.size ≤ wr.heap.size; omega) (.slice G' b.mails.length c'))
      have HOWN := Lib.hid hown; have HD2 := Lib.hid hb2
      clear c0 c1 c2' hx hown hb2 HX HO HR HBW
      go_upto_region 6 with fail
      obtain ⟨y0, y1, y2⟩ := (⟨HX2.out.1 0 _ rfl, HX2.out.1 1 _ rfl, HX2.out.1 2 _ rfl⟩ : (w2.setCell ⟨wr.heap.size, 2, none⟩ (.slice G' b.mails.length c')).cell? ⟨wr.heap.size, 0, none⟩ = some (.string ⟨b.name.toArray⟩) ∧ (w2.setCell ⟨wr.heap.size, 2, none⟩ (.slice G' b.mails.length c')).cell? ⟨wr.heap.size, 1, none⟩ = some (.int .i64 b.next) ∧ (w2.setCell ⟨wr.heap.size, 2, none⟩ (.slice G' b.mails.length c')).cell? ⟨wr.heap.size, 2, none⟩ = some (.slice G' b.mails.length c'))
      obtain ⟨o0, o1, p0, p1⟩ := HO2.out.two
      have hR32 := HO2.out.2.2
      have hbs2 := HB2.out.size
      have hrA : (rowB (.slice G qs.length cq) qs).At wr (w.heap.size + 2) := HROW.out.1 _ (List.mem_cons_self ..)
      have hoffB := offR_high HROW.out (Nat.le_refl wr.heap.size) _ (List.mem_cons_self ..)
      have hrW : (rowB (.slice G qs.length cq) qs).At (w2.setCell ⟨wr.heap.size, 2, none⟩ (.slice G' b.mails.length c')) (w.heap.size + 2) :=
        row_off (row_down (row_down hrA (ba (Below.refl wr.heap.size wr) _)) HD2.out) hoffB 2 _
      have hoff3 : (Value.slice G qs.length cq).ownBlock ≠ some R3 := HOFF.out _ (List.mem_cons_self ..)
      obtain ⟨W2, hW2⟩ : ∃ W2, W2 = w2.setCell ⟨wr.heap.size, 2, none⟩ (.slice G' b.mails.length c') := ⟨_, rfl⟩
      rw [← hW2] at y0 y1 y2 o0 o1 p0 p1 hR32 hbs2 hrW HB2 HR2 HO2 ⊢
      have HW2 := Lib.hid hW2; have HRW := Lib.hid (hrW.alloc (.cells #[.string ⟨b.name.toArray⟩, .int .i64 b.next, .slice G' b.mails.length c'] 52))
      have hwr2 : wr.heap.size + 1 ≤ w2.heap.size := by have := HD2.out.size; simpa using this
      have hz22 : w.heap.size + 2 ≤ W2.heap.size := by rw [hW2]; simp; omega
      clear x0 x1 x2 xf hW2 hrA hrW hoffB HX2 hCm
      go_wp2_with (at_builtin; refine wpList_append_lies _ (by rfl) _ _ _ (by rfl) (w.heap.size + 2) 52 i0 _ 3 48 Tryd.underlying26 HI.out HZ0.out HZ1.out HZ2.out rfl (by omega) (.slice G qs.length cq) qs.length (bxcells qs) (by rfl) HRW.out ⟨W2.heap.size, 0, none⟩ 1 1 [.string ⟨b.name.toArray⟩, .int .i64 b.next, .slice G' b.mails.length c'] (by rfl) (by rfl) (news_of W2 _ _) (by simp [Value.oneCell']) (by omega) (by unfold maxLen; omega) (by omega) (by simp; omega) (W2.heap.size + 1) (by simp) ?_)
      intro g5 cap5 w5 hown5 hgrow5 hat5 hlt5
      have hb5 := below_row (ba HB2.out (.cells #[.string ⟨b.name.toArray⟩, .int .i64 b.next, .slice G' b.mails.length c'] 52)) (Nat.le_refl _) HRW.out (by omega) hgrow5
      have hoR : some R3 ≠ (Value.slice G qs.length cq).ownBlock := fun e => hoff3 e.symm
      have hO5 := (HO2.out.down (ba (Below.refl W2.heap.size W2) (.cells #[.string ⟨b.name.toArray⟩, .int .i64 b.next, .slice G' b.mails.length c'] 52))).kept hgrow5 hoR
      have hR5 := (HR2.out.down (ba (Below.refl W2.heap.size W2) (.cells #[.string ⟨b.name.toArray⟩, .int .i64 b.next, .slice G' b.mails.length c'] 52))).kept hgrow5 (row_apart HRW.out (by omega))
      have hrd : Hid (Rows (w5.setCell ⟨R3, 0, none⟩ (.slice (some ⟨g5, 0, none⟩) (qs.length + 1) cap5)) (w.heap.size + 2) (rowsOf (qs ++ [(b, .slice G' b.mails.length c')]) (.slice (some ⟨g5, 0, none⟩) (qs.length + 1) cap5) (.slice G2 s.spool.length c2) s.spool) ∧ OffR (rowsOf (qs ++ [(b, .slice G' b.mails.length c')]) (.slice (some ⟨g5, 0, none⟩) (qs.length + 1) cap5) (.slice G2 s.spool.length c2) s.spool) R3) := by
        refine own_round (q := (b, .slice G' b.mails.length c')) (u := .slice G' b.mails.length c') (o2 := .cells #[.string ⟨b.name.toArray⟩, .int .i64 b.next, .slice G' b.mails.length c'] 52) HROW.out HOFF.out hR3 (by omega) HD2.out HOWN.out ?_ hown5 ?_
        · rw [← HW2.out]; exact hgrow5
        · rw [← HW2.out]
          rcases hat5 with e | e
          · exact .inl e
          · exact .inr (by rw [e]; simp)
      obtain ⟨q0, q1, r0, r1⟩ := hO5.two
      have HO5 := Lib.hid hO5; have HR5 := Lib.hid hR5; have HB5 := Lib.hid hb5
      clear hown5 hgrow5 hat5 hO5 hR5 hb5 y0 y1 y2 o0 o1 p0 p1 hoR
      go_wp2_with fail
      go_roundw
      case rel => exact ⟨j + 1, qs ++ [(b, .slice G' b.mails.length c')], some ⟨g5, 0, none⟩, cap5, hlt, by go_num, HNX.out _, by rw [List.length_append]; exact HO5.out.set' (i := 0) _ (by simp), by rw [List.length_append]; exact hrd.out.1, by rw [List.length_append]; exact hrd.out.2, HR5.out.else' (by omega) _, HB5.out.setCell (p := ⟨R3, 0, none⟩) (by show w.heap.size ≤ R3; omega) _⟩
      case measure => simp [intOf]; omega
    · obtain rfl : j = s.boxes.length := by omega
      rw [List.take_length] at hqs
      obtain ⟨c0, c1, -, -⟩ := hO.two
      obtain ⟨d0, d1, f0, f1⟩ := hR.two
      have HRR := Lib.hid hR; have HROW := Lib.hid hrow; have HBB := Lib.hid hb; have HQ := Lib.hid hqs
      clear hO hR hrow hb hqs hoff hql
      go_wp2_with fail
      refine own_end (R := w.heap.size + 1) (vB := .slice G qs.length cq) (vS := .slice G2 s.spool.length c2) rfl rfl ((HRR.out.set' (i := 0) _ (by simp)).set' (i := 1) _ (by simp)) ⟨qs, HQ.out.symm, ?_⟩ ((HBB.out.setCell (p := ⟨w.heap.size + 1, 0, none⟩) (by show w.heap.size ≤ w.heap.size + 1; omega) _).setCell (p := ⟨w.heap.size + 1, 1, none⟩) (by show w.heap.size ≤ w.heap.size + 1; omega) _)
      have hlow := offR_low HROW.out (show w.heap.size + 1 < w.heap.size + 2 by omega)
      have := ((HROW.out.else' (Go.Lib.grownBy_setB (World.grownBy.refl wr (some (w.heap.size + 1))) 0 (.slice G qs.length cq)) hlow).else' (Go.Lib.grownBy_setB (World.grownBy.refl _ (some (w.heap.size + 1))) 1 (.slice G2 s.spool.length c2)) hlow)
      exact ⟨fun r hr => row_base (by omega) (this.1 r hr), this.2⟩
end Go.Proofs.YtaeejmggmgejcaaDoor
