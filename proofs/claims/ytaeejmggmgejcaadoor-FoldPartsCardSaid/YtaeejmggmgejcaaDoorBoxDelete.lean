/-
  DERIVED. 'DeleteFunc' over mails: the walk.
-/
import Derived.Test.YtaeejmggmgejcaaDoorBoxMails
import Derived.Test.YtaeejmggmgejcaaDoorBoxAdd
import Derived.Lib.SliceRun
import Derived.Laws.IdiomCopy
namespace Go.Proofs.YtaeejmggmgejcaaDoor
open Go.RowKit

theorem row_cut {w : World} {base e size g n cap a : Nat} {xs : List Value} (h : w.ownsRow base e size (.slice (some ⟨g, 0, none⟩) n cap) n xs) (ha : a ≤ n) : w.ownsRow base e size (.slice (some ⟨g, 0, none⟩) a cap) a (xs.take (a * size)) := by
  have hm : a * size ≤ n * size := Nat.mul_le_mul_right _ ha
  refine ⟨by rw [List.length_take, h.1]; omega, ?_⟩
  rcases h.2 with ⟨h1, _⟩ | ⟨g', cap', cur, h1, h2, h3, h4, h5, h6, h7⟩
  · cases h1
  · cases h1
    refine .inr ⟨g, cap, cur, rfl, h2, h3, by omega, h5, h6, ?_⟩
    rw [← h7, List.take_take, Nat.min_eq_left hm]
theorem row_setCells {base e size g cap a : Nat} {xs : List Value} : ∀ (Z : List Value) (o : Nat) (w : World), w.ownsRow base e size (.slice (some ⟨g, 0, none⟩) a cap) a xs → a * size ≤ o → (w.setCells g o Z).ownsRow base e size (.slice (some ⟨g, 0, none⟩) a cap) a xs ∧ w.grownBy (w.setCells g o Z) (some g)
  | [], o, w, h, _ => ⟨h, World.grownBy.refl w _⟩
  | z :: Z, o, w, h, ho => by
    obtain ⟨s1, g1⟩ := World.ownsRow.stored h o z
    rw [List.set_eq_of_length_le (by rw [h.1]; exact ho)] at s1
    obtain ⟨s2, g2⟩ := row_setCells Z (o + 1) _ s1 (by omega)
    exact ⟨s2, Go.Lib.grownBy_trans g1 g2⟩
theorem mcells_at (l : List Mail) (i j : Nat) (m : Mail) (hm : l[i]? = some m) (hj : j < 3) : (l.flatMap mailC)[i * 3 + j]? = (mailC m)[j]? := by
  have he : hcells (l.map fun x => (x, mailC x)) = l.flatMap mailC := by unfold hcells; rw [List.flatMap_map]
  have := hcells_at (k := 3) (ps := l.map fun x => (x, mailC x)) (fun p hp => by obtain ⟨x, _, rfl⟩ := List.mem_map.1 hp; rfl) i j (m, mailC m) (by rw [List.getElem?_map, hm]; rfl) hj
  rwa [he] at this
/-- mail i of a row of one's own, cell by cell -/
theorem mail_own {w : World} {base g cap n : Nat} {L : List Mail} (h : w.ownsRow base 54 3 (.slice (some ⟨g, 0, none⟩) n cap) n (L.flatMap mailC)) (i : Nat) (m : Mail) (hm : L[i]? = some m) (hi : i < n) :
    w.cell? ⟨g, i * 3, none⟩ = some (.int .i64 m.uid) ∧ w.cell? ⟨g, i * 3 + 1, none⟩ = some (.int .i64 m.flags) ∧ w.cell? ⟨g, i * 3 + 2, none⟩ = some (.string ⟨m.text.toArray⟩) :=
  ⟨(h.cellAt (i * 3 + 0) (by omega)).trans (mcells_at L i 0 m hm (by omega)), (h.cellAt (i * 3 + 1) (by omega)).trans (mcells_at L i 1 m hm (by omega)), (h.cellAt (i * 3 + 2) (by omega)).trans (mcells_at L i 2 m hm (by omega))⟩
def keep (m : Mail) : Bool := !delB m
theorem mcells_len (l : List Mail) : (l.flatMap mailC).length = l.length * 3 := by
  have := hcells_length (k := 3) (ps := l.map fun x => (x, mailC x)) (fun p hp => by obtain ⟨x, _, rfl⟩ := List.mem_map.1 hp; rfl)
  unfold hcells at this
  rwa [List.flatMap_map, List.length_map] at this
theorem mcells_take : ∀ (l : List Mail) (a : Nat), (l.flatMap mailC).take (a * 3) = (l.take a).flatMap mailC
  | [], a => by simp
  | m :: l, 0 => by simp
  | m :: l, a + 1 => by
    show (mailC m ++ l.flatMap mailC).take ((a + 1) * 3) = mailC m ++ (l.take a).flatMap mailC
    rw [← mcells_take l a, List.take_append, List.take_of_length_le (by show 3 ≤ _; omega)]
    congr 2
    show (a + 1) * 3 - 3 = _; omega
theorem mcells_set : ∀ (l : List Mail) (a : Nat) (m : Mail), a < l.length → ((((l.flatMap mailC).set (a * 3) (.int .i64 m.uid)).set (a * 3 + 1) (.int .i64 m.flags)).set (a * 3 + 2) (.string ⟨m.text.toArray⟩)) = (l.set a m).flatMap mailC
  | [], a, m, h => by simp at h
  | x :: l, 0, m, _ => rfl
  | x :: l, a + 1, m, h => by
    have ih := mcells_set l a m (by simpa using h)
    show ((((mailC x ++ l.flatMap mailC).set ((a + 1) * 3) _).set ((a + 1) * 3 + 1) _).set ((a + 1) * 3 + 2) _) = mailC x ++ (l.set a m).flatMap mailC
    rw [← ih, List.set_append_right _ _ (by show 3 ≤ _; omega), List.set_append_right _ _ (by show 3 ≤ _; omega), List.set_append_right _ _ (by show 3 ≤ _; omega)]
    have e0 : (a + 1) * 3 - (mailC x).length = a * 3 := by show (a + 1) * 3 - 3 = _; omega
    have e1 : (a + 1) * 3 + 1 - (mailC x).length = a * 3 + 1 := by show (a + 1) * 3 + 1 - 3 = _; omega
    have e2 : (a + 1) * 3 + 2 - (mailC x).length = a * 3 + 2 := by show (a + 1) * 3 + 2 - 3 = _; omega
    rw [e0, e1, e2]
/-- what the loop of DeleteFunc keeps: L is what stands there now -/
def DelRel (l L : List Mail) (a j : Nat) : Prop := L.length = l.length ∧ a ≤ j ∧ j ≤ l.length ∧ L.take a = (l.take j).filter keep ∧ L.drop j = l.drop j
theorem DelRel.skip {l L : List Mail} {a j : Nat} (h : DelRel l L a j) (hj : j < l.length) (hd : delB l[j] = true) : DelRel l L a (j + 1) := by
  obtain ⟨h1, h2, h3, h4, h5⟩ := h
  refine ⟨h1, by omega, hj, ?_, ?_⟩
  · rw [List.take_succ_eq_append_getElem hj, List.filter_append, ← h4]
    simp [keep, hd]
  · have := congrArg (List.drop 1) h5
    rwa [List.drop_drop, List.drop_drop] at this
theorem DelRel.move {l L : List Mail} {a j : Nat} (h : DelRel l L a j) (hj : j < l.length) (hd : delB l[j] = false) : DelRel l (L.set a l[j]) (a + 1) (j + 1) := by
  obtain ⟨h1, h2, h3, h4, h5⟩ := h
  refine ⟨by rw [List.length_set]; exact h1, by omega, hj, ?_, ?_⟩
  · rw [List.take_succ_eq_append_getElem hj, List.filter_append, ← h4, List.take_succ_eq_append_getElem (by rw [List.length_set]; omega)]
    rw [List.take_set_of_le (by omega)]
    simp [keep, hd]
  · rw [List.drop_set_of_lt (by omega)]
    have := congrArg (List.drop 1) h5
    rwa [List.drop_drop, List.drop_drop] at this
theorem DelRel.get {l L : List Mail} {a j : Nat} (h : DelRel l L a j) (hj : j < l.length) : L[j]? = some l[j] := by
  have := congrArg (fun x : List Mail => x[0]?) h.2.2.2.2
  simpa [List.getElem?_drop, List.getElem?_eq_getElem hj] using this
theorem DelRel.init {l : List Mail} {i : Nat} (h : l.findIdx? delB = some i) : DelRel l l i (i + 1) ∧ i < l.length := by
  rw [List.findIdx?_eq_some_iff_getElem] at h
  obtain ⟨hi, h1, h2⟩ := h
  refine ⟨⟨rfl, by omega, hi, ?_, rfl⟩, hi⟩
  rw [List.take_succ_eq_append_getElem hi, List.filter_append]
  have e1 : [l[i]].filter keep = [] := by simp [keep, h1]
  rw [e1, List.append_nil]
  refine (List.filter_eq_self.2 fun m hm => ?_).symm
  obtain ⟨k, hk, rfl⟩ := List.getElem_of_mem hm
  rw [List.length_take] at hk
  rw [List.getElem_take]
  have := h2 k (by omega)
  simpa [keep] using this
theorem clear_mails (w : World) (ty : TypeId) (g o n c : Nat) (hn : 0 < n) (hc : ∀ j, j < n * 3 → (w.cell? ⟨g, o + j, none⟩).isSome = true) (hf : ∀ j, j < n * 3 → w.frozen? ⟨g, o + j, none⟩ = false) :
    (Builtin.clear_ #[50] ty #[.slice (some ⟨g, o, none⟩) n c]).run Tryd.prog w = .ok (.tuple #[]) (w.setCells g o (Builtin.zeroCells #[.int .i64 0, .int .i64 0, .string ⟨#[]⟩] n).toList) := by
  have hlen : (Builtin.zeroCells #[.int .i64 0, .int .i64 0, .string ⟨#[]⟩] n).toList.length = n * 3 := by simp [Builtin.zeroCells]
  have hone : ∀ v ∈ (Builtin.zeroCells #[.int .i64 0, .int .i64 0, .string ⟨#[]⟩] n).toList, v.oneCell' = true := by
    intro v hv
    simp [Builtin.zeroCells] at hv
    obtain ⟨i, _, rfl⟩ := hv
    have h3 : i % 3 < 3 := Nat.mod_lt _ (by omega)
    match i % 3, h3 with
    | 0, _ => rfl
    | 1, _ => rfl
    | 2, _ => rfl
  have hst := run_storeCells_cells (P := Tryd.prog) g o (Builtin.zeroCells #[.int .i64 0, .int .i64 0, .string ⟨#[]⟩] n).toList 0 w (by rw [hlen]; simpa using hc) (by rw [hlen]; simpa using hf) hone
  simp only [Nat.add_zero] at hst
  have hv : ∀ w, (zeroValue 54).run Tryd.prog w = .ok (.agg #[.int .i64 0, .int .i64 0, .string ⟨#[]⟩]) w := fun w => by kernel_rfl
  have hcells : (Value.agg #[.int .i64 0, .int .i64 0, .string ⟨#[]⟩]).cells = #[.int .i64 0, .int .i64 0, .string ⟨#[]⟩] := by kernel_rfl
  obtain ⟨m, rfl⟩ : ∃ m, n = m + 1 := ⟨n - 1, by omega⟩
  simp [Builtin.clear_, run_underlying Tryd.underlying50, hv, hcells, hst]

set_option maxHeartbeats 8000000 in
set_option maxRecDepth 20000 in
theorem delete_any (v : Value) (l : List Mail) (base : Nat) (w : World) (hown : w.ownsRow base 54 3 v l.length (l.flatMap mailC)) (hl : l.length ≤ 1000) (hf : ∀ m ∈ l, m.flags ≤ 31) :
    Calls Tryd.prog 25 #[v, .func (.func 26) #[] #[]] w fun e w' => (∃ G c, e = .returned (.slice G (l.filter keep).length c) ∧ w'.ownsRow base 54 3 (.slice G (l.filter keep).length c) (l.filter keep).length ((l.filter keep).flatMap mailC) ∧ (Value.slice G (l.filter keep).length c).ownBlock = v.ownBlock) ∧ w.grownBy w' v.ownBlock := by
  obtain ⟨G0, c0, rfl⟩ : ∃ G c, v = .slice G l.length c := row_form (r := ⟨v, _, _, l.length, _⟩) hown
  have hsat : SAt cMail w (fun b => base ≤ b) (.slice G0 l.length c0) l := SAt.of_row hown (fun b h => h)
  have hI := Lib.hid (indexD_any _ l _ w hsat hl hf)
  have HF := Lib.hid hf
  have HOWN := Lib.hid hown
  clear hf hsat
  cases hfi : l.findIdx? delB with
  | none =>
    have hfl : Hid (l.filter keep = l) := by
      refine List.filter_eq_self.2 fun m hm => ?_
      rw [List.findIdx?_eq_none_iff] at hfi
      have := hfi m hm
      simp [keep, this]
    rw [hfi] at hI
    clear hfi hown
    go_enter Tryd.func25, Tryd.ntmps25
    go_wp2_with fail
    refine hI.out.mono ?_
    rintro e w1 ⟨rfl, hb1⟩
    have HB1 := Lib.hid hb1
    clear hb1
    go_wp2_with fail
    go_ret
    rw [hfl.out]
    exact ⟨⟨G0, c0, rfl, row_down HOWN.out HB1.out, rfl⟩, HB1.out.os, HB1.out.tape, HB1.out.output, HB1.out.size, fun k hk _ => HB1.out.block k hk⟩
  | some i =>
    obtain ⟨hrel0, hi⟩ := DelRel.init hfi
    obtain ⟨g, cap, hv, hg1, hg2⟩ := World.ownsRow.form hown (by omega)
    cases hv
    have hcap : l.length ≤ c0 := by
      rcases hown.2 with ⟨h, _⟩ | ⟨_, _, _, h, _, _, hc, _⟩
      · cases h
      · cases h; exact hc
    rw [hfi] at hI
    have hI2 : Hid (Calls Tryd.prog 27 #[.slice (some ⟨g, 0, none⟩) l.length c0, .func (.func 26) #[] #[]] w fun e w' => e = .returned (.int .i64 (i : Int)) ∧ Below w.heap.size w w') := hI.out
    have HREL := Lib.hid hrel0
    have q1 : ((i : Int) == -1) = false := by simp
    clear hfi hown hI hrel0
    go_enter Tryd.func25, Tryd.ntmps25
    go_wp2_with fail
    refine hI2.out.mono ?_
    rintro e w1 ⟨rfl, hb1⟩
    have HB1 : Hid (w.grownBy w1 (some g)) := ⟨hb1.os, hb1.tape, hb1.output, hb1.size, fun k hk _ => hb1.block k hk⟩
    have HOWN1 := Lib.hid (row_down HOWN.out hb1)
    clear hb1 HOWN hI2
    go_wp2_with fail
    clear q1
    go_loopw [5, 6] (fun a j wr => ∃ (L : List Mail) (x y : Nat), a = .int .i64 x ∧ j = .int .i64 y ∧ DelRel l L x y ∧ wr.ownsRow base 54 3 (.slice (some ⟨g, 0, none⟩) l.length c0) l.length (L.flatMap mailC) ∧ w.grownBy wr (some g)) (fun _ j _ => l.length - (intOf j).toNat)
    case atStart => exact ⟨l, i, i + 1, rfl, by go_num, HREL.out, HOWN1.out, HB1.out⟩
    case round =>
      obtain ⟨L, x, y, rfl, rfl, hr, ho, hg⟩ := hrel
      have hgw : g < wr.heap.size := Nat.lt_of_lt_of_le hg2 hg.size
      have hxy : x ≤ y := hr.2.1
      have hyl : y ≤ l.length := hr.2.2.1
      have HR := Lib.hid hr; have HO := Lib.hid ho; have HG := Lib.hid hg
      clear hr ho hg
      by_cases hlt : y < l.length
      · have hm := HR.out.get hlt
        obtain ⟨c0', c1', c2'⟩ := mail_own HO.out y l[y] hm hlt
        have hfl := HF.out l[y] (List.getElem_mem _)
        have HSK := Lib.hid (HR.out.skip hlt); have HMV := Lib.hid (HR.out.move hlt)
        obtain ⟨mx, hmx⟩ : ∃ mx, L[x]? = some mx := ⟨_, List.getElem?_eq_getElem (by have := HR.out.1; omega)⟩
        have HMX := Lib.hid hmx
        clear hm hmx
        generalize l[y] = m at c0' c1' c2' hfl HSK HMV
        have hA := ba (Below.refl wr.heap.size wr) (.cells #[.int .i64 m.uid, .int .i64 m.flags, .string ⟨m.text.toArray⟩] 54)
        have HOA := Lib.hid (row_down HO.out hA)
        have hC := Lib.hid (delc_any m (wr.alloc (.cells #[.int .i64 m.uid, .int .i64 m.flags, .string ⟨m.text.toArray⟩] 54)) hfl)
        have HX := Lib.hid (Has.alloc wr [.int .i64 m.uid, .int .i64 m.flags, .string ⟨m.text.toArray⟩] 54)
        have HA := Lib.hid hA
        clear hA
        cases hd : delB m with
        | true =>
          have hrel2 : Hid (DelRel l L x (y + 1)) := HSK.out hd
          rw [hd] at hC
          clear hd HSK HMV
          go_wp2_with fail
          refine hC.out.mono ?_
          rintro e w2 ⟨rfl, hb2⟩
          have HO2 := Lib.hid (row_down HOA.out hb2)
          have HG2 : Hid (w.grownBy w2 (some g)) := by
            have hb := bt HA.out hb2
            exact Go.Lib.grownBy_trans HG.out ⟨hb.os, hb.tape, hb.output, hb.size, fun k hk _ => hb.block k hk⟩
          clear hb2 c0' c1' c2'
          go_wp2_with fail
          go_roundw
          case rel => exact ⟨L, x, y + 1, rfl, by go_num, hrel2.out, HO2.out, HG2.out⟩
          case measure => simp [intOf]; omega
        | false =>
          have hrel2 : Hid (DelRel l (L.set x m) (x + 1) (y + 1)) := HMV.out hd
          rw [hd] at hC
          clear hd HSK HMV
          go_wp2_with fail
          refine hC.out.mono ?_
          rintro e w2 ⟨rfl, hb2⟩
          have ho2 := row_down HOA.out hb2
          obtain ⟨d0, d1, d2⟩ := mail_own ho2 x mx HMX.out (by omega)
          have f0 := World.ownsRow.frozenAt ho2 (x * 3)
          have f1 := World.ownsRow.frozenAt ho2 (x * 3 + 1)
          have f2 := World.ownsRow.frozenAt ho2 (x * 3 + 2)
          obtain ⟨e0, e1, e2⟩ : w2.cell? ⟨wr.heap.size, 0, none⟩ = some (.int .i64 m.uid) ∧ w2.cell? ⟨wr.heap.size, 1, none⟩ = some (.int .i64 m.flags) ∧ w2.cell? ⟨wr.heap.size, 2, none⟩ = some (.string ⟨m.text.toArray⟩) := ⟨(HX.out.down hb2).1 0 _ rfl, (HX.out.down hb2).1 1 _ rfl, (HX.out.down hb2).1 2 _ rfl⟩
          have hg2' : w.grownBy w2 (some g) := by
            have hb := bt HA.out hb2
            exact Go.Lib.grownBy_trans HG.out ⟨hb.os, hb.tape, hb.output, hb.size, fun k hk _ => hb.block k hk⟩
          obtain ⟨s1, g1⟩ := World.ownsRow.stored ho2 (x * 3) (.int .i64 m.uid)
          obtain ⟨s2, g2⟩ := World.ownsRow.stored s1 (x * 3 + 1) (.int .i64 m.flags)
          obtain ⟨s3, g3⟩ := World.ownsRow.stored s2 (x * 3 + 2) (.string ⟨m.text.toArray⟩)
          rw [mcells_set L x m (by have := HR.out.1; omega)] at s3
          have HS3 := Lib.hid s3; have HG3 := Lib.hid (Go.Lib.grownBy_trans hg2' (Go.Lib.grownBy_trans g1 (Go.Lib.grownBy_trans g2 g3)))
          have hxl : x < l.length := by omega
          have hz2 : wr.heap.size < w2.heap.size := (HX.out.down hb2).2.2
          clear hb2 c0' c1' c2' ho2 s1 s2 s3 g1 g2 g3 hg2'
          go_wp2_with fail
          go_roundw
          case rel => exact ⟨L.set x m, x + 1, y + 1, by go_num, by go_num, hrel2.out, HS3.out, HG3.out⟩
          case measure => simp [intOf]; omega
      · obtain rfl : y = l.length := by omega
        obtain ⟨r1, r2, r3, r4, r5⟩ := HR.out
        rw [List.take_length] at r4
        have hxK : x = (l.filter keep).length := by
          rw [← r4, List.length_take]; omega
        obtain ⟨K, hK⟩ : ∃ K, K = l.filter keep := ⟨_, rfl⟩
        rw [← hK] at hxK r4
        have HK := Lib.hid hK
        subst hxK
        have hKl : K.length < l.length := by
          have h1 : K.length ≤ l.length := by rw [hK]; exact List.length_filter_le _ _
          rcases Nat.lt_or_ge K.length l.length with h | h
          · exact h
          · exfalso
            have h2 := HREL.out.2.2.2.1
            have h3 : ∀ a ∈ l, keep a = true := by
              have : (l.filter keep).length = l.length := by rw [← hK]; omega
              exact List.length_filter_eq_length_iff.1 this
            have h4 := congrArg List.length h2
            rw [List.filter_eq_self.2 (fun m hm => h3 m (List.mem_of_mem_take hm)), List.length_take, List.length_take] at h4
            omega
        have hcut := row_cut HO.out (a := K.length) (by omega)
        rw [mcells_take, r4] at hcut
        have hcl : ∀ ty, (Builtin.clear_ #[50] ty #[.slice (some ⟨g, K.length * 3, none⟩) (l.length - K.length) (c0 - K.length)]).run Tryd.prog wr = .ok (.tuple #[]) (wr.setCells g (K.length * 3) (Builtin.zeroCells #[.int .i64 0, .int .i64 0, .string ⟨#[]⟩] (l.length - K.length)).toList) :=
          fun ty => clear_mails wr ty g (K.length * 3) (l.length - K.length) (c0 - K.length) (by omega)
            (fun j hj => by
              have hb : K.length * 3 + j < l.length * 3 := by omega
              rw [World.ownsRow.cellAt HO.out (K.length * 3 + j) hb, List.getElem?_eq_getElem (by rw [mcells_len]; omega)]; rfl)
            (fun j _ => World.ownsRow.frozenAt HO.out (K.length * 3 + j))
        obtain ⟨s1, g1⟩ := row_setCells (Builtin.zeroCells #[.int .i64 0, .int .i64 0, .string ⟨#[]⟩] (l.length - K.length)).toList (K.length * 3) wr hcut (Nat.le_refl _)
        have HS := Lib.hid s1; have HGG := Lib.hid (Go.Lib.grownBy_trans HG.out g1)
        have hKc : K.length ≤ c0 := by omega
        clear r1 r2 r3 r4 r5 hcut s1 g1 hK
        have hKlt : K.length < c0 := by omega
        go_wp2_with fail
        go_ret
        rw [← HK.out]
        exact ⟨⟨_, _, rfl, HS.out, rfl⟩, HGG.out⟩
end Go.Proofs.YtaeejmggmgejcaaDoor
