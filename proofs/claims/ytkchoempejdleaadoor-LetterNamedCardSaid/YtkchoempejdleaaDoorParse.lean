/-
  DERIVED. 'Parse' of letter: the walk.
-/
import Derived.Test.YtkchoempejdleaaDoorPair
import Derived.Shelf.Strings.SlTrimAscii
import Derived.Deep.AppendLies
import Derived.Deep.RegionLaw
import Derived.Deep.DeepCutAuto
import Derived.Deep.CutBlock
import Derived.BigQuiet
namespace Go.Proofs.YtkchoempejdleaaDoor
open Go.RowKit

/-- what Parse answers -/
def ParseSays (B : Nat) (w' : World) (e : Ending) (r : Parsed) : Prop :=
  ∃ v, e = .returned (.tuple #[.agg #[v, .string ⟨r.1.2.toArray⟩], .int .i64 r.2.1, .int .i64 r.2.2]) ∧ w'.ownsRow B 48 2 v r.1.1.length (fcells r.1.1)
theorem infoFld : (Tryd.prog.info? 48).map (fun i => (i.zero, i.size, i.bytes)) = some (some (.agg #[.string ⟨#[]⟩, .string ⟨#[]⟩]), 2, 32) := by kernel_rfl
theorem cut_any (S sep : ByteArray) (m : Int) (w : World) (hS : S.size ≤ 2000000) (hne : sep.data.toList ≠ []) (hm : w.cell? ⟨0, 0, none⟩ = some (.int .i64 m)) :
    Calls Tryd.prog 36 #[.string S, .string sep] w fun e w' => (∃ X R : ByteArray, (sepL sep.data.toList S.data.toList = some (X.data.toList, R.data.toList) ∧ e = .returned (.tuple #[.string X, .string R, .bool true])) ∨
      (sepL sep.data.toList S.data.toList = none ∧ e = .returned (.tuple #[.string X, .string R, .bool false]))) ∧ Below w.heap.size w w' := by
  refine (Tryd.strings_Cut S sep m w (by omega) hm).mono ?_
  rintro e w' ⟨rfl, n, rfl⟩
  refine ⟨?_, below_drewN (Below.refl _ w) n⟩
  cases h : sepL sep.data.toList S.data.toList with
  | none => exact ⟨S, ⟨#[]⟩, .inr ⟨rfl, by rw [cut_none hne h]⟩⟩
  | some p =>
    obtain ⟨x, r⟩ := p
    exact ⟨⟨x.toArray⟩, ⟨r.toArray⟩, .inl ⟨by simp, by rw [cut_some hne h]⟩⟩
theorem trim_any (S : ByteArray) (w : World) (hS : S.size ≤ 2000000) :
    Calls Tryd.prog 37 #[.string S, .string ⟨#[32, 9]⟩] w fun e w' => e = .returned (.string ⟨(trimV S.data.toList).toArray⟩) ∧ Below w.heap.size w w' :=
  Any.strings_Trim_laid Tryd.lays160 (by kernel_rfl) S ⟨#[32, 9]⟩ w (by omega) (by decide) (ascii_of_all (by decide))
/-- a block of two cells, written whole -/
theorem res_set2 {w wr : World} {R : Nat} {a c : Value} (hbel : Below w.heap.size w wr) (hR : w.heap.size ≤ R) (z0 : wr.cell? ⟨R, 0, none⟩ = some a) (z1 : wr.cell? ⟨R, 1, none⟩ = some c) (v c' : Value) :
    ((wr.setCell ⟨R, 0, none⟩ v).setCell ⟨R, 1, none⟩ c').cell? ⟨R, 0, none⟩ = some v ∧ ((wr.setCell ⟨R, 0, none⟩ v).setCell ⟨R, 1, none⟩ c').cell? ⟨R, 1, none⟩ = some c' ∧ Below w.heap.size w ((wr.setCell ⟨R, 0, none⟩ v).setCell ⟨R, 1, none⟩ c') := by
  have n1 : (⟨R, 0, none⟩ : Addr) ≠ ⟨R, 1, none⟩ := by simp
  have n2 : (⟨R, 1, none⟩ : Addr) ≠ ⟨R, 0, none⟩ := Ne.symm n1
  refine ⟨(World.cell?_setCell_other _ _ _ _ n2).trans (World.cell?_setCell_same _ _ _ z0), World.cell?_setCell_same _ _ _ ((World.cell?_setCell_other _ _ _ _ n1).trans z1), (hbel.setCell (by show w.heap.size ≤ R; exact hR) v).setCell (by show w.heap.size ≤ R; exact hR) c'⟩
def strLen (v : Value) : Nat := match v with
  | .string S => S.size
  | _ => 0
theorem says_err {B : Nat} {w w' : World} {n c : Nat} (hB : Below B w w') : ParseSays B w' (.returned (.tuple #[.agg #[.slice none 0 0, .string ⟨#[]⟩], .int .i64 n, .int .i64 c])) (([], []), n, c) ∧ Below B w w' :=
  ⟨⟨.slice none 0 0, rfl, World.ownsRow_nil _ _ _ _⟩, hB⟩

set_option maxHeartbeats 8000000 in
set_option maxRecDepth 20000 in
theorem parse_any (s : ByteArray) (m : Int) (w : World) (hs : s.size ≤ 2000) (hm : w.cell? ⟨0, 0, none⟩ = some (.int .i64 m)) :
    Calls Tryd.prog 22 #[.string s] w fun e w' => ParseSays w.heap.size w' e (parseL 0 [] s.data.toList) ∧ Below w.heap.size w w' := by
  obtain ⟨R, hR⟩ : ∃ R, R = w.heap.size := ⟨_, rfl⟩
  obtain ⟨P0, hP0⟩ : ∃ P0, P0 = parseL 0 [] s.data.toList := ⟨_, rfl⟩
  have HC : Hid (∀ (S : ByteArray) w, S.size ≤ 2000 → w.cell? ⟨0, 0, none⟩ = some (.int .i64 m) → Calls Tryd.prog 36 #[.string S, .string ⟨#[13, 10]⟩] w fun e w' => (∃ X R : ByteArray, (sepL [13, 10] S.data.toList = some (X.data.toList, R.data.toList) ∧ e = .returned (.tuple #[.string X, .string R, .bool true])) ∨
      (sepL [13, 10] S.data.toList = none ∧ e = .returned (.tuple #[.string X, .string R, .bool false]))) ∧ Below w.heap.size w w') := fun S w h1 h2 => cut_any S ⟨#[13, 10]⟩ m w (by omega) (by decide) h2
  have HC2 : Hid (∀ (S : ByteArray) w, S.size ≤ 2000 → w.cell? ⟨0, 0, none⟩ = some (.int .i64 m) → Calls Tryd.prog 36 #[.string S, .string ⟨#[58]⟩] w fun e w' => (∃ X R : ByteArray, (sepL [58] S.data.toList = some (X.data.toList, R.data.toList) ∧ e = .returned (.tuple #[.string X, .string R, .bool true])) ∨
      (sepL [58] S.data.toList = none ∧ e = .returned (.tuple #[.string X, .string R, .bool false]))) ∧ Below w.heap.size w w') := fun S w h1 h2 => cut_any S ⟨#[58]⟩ m w (by omega) (by decide) h2
  have HT : Hid (∀ (S : ByteArray) w, S.size ≤ 2000 → Calls Tryd.prog 37 #[.string S, .string ⟨#[32, 9]⟩] w fun e w' => e = .returned (.string ⟨(trimV S.data.toList).toArray⟩) ∧ Below w.heap.size w w') := fun S w h => trim_any S w (by omega)
  have HN : Hid (∀ (N : ByteArray) (b : Bool) w, N.size ≤ 2000 → nameOK N.data.toList = b → Calls Tryd.prog 38 #[.string N] w fun e w' => e = .returned (.bool b) ∧ w = w') := fun N b w h1 h2 => by
    rw [← h2]; exact (name_any N w (by omega)).mono fun _ _ h => ⟨h.1, h.2.symm⟩
  obtain ⟨i0, hi, hz0, hz1, hz2⟩ := info_parts infoFld
  have HI := Lib.hid hi; have HZ0 := Lib.hid hz0; have HZ1 := Lib.hid hz1; have HZ2 := Lib.hid hz2
  clear hi hz0 hz1 hz2
  have hM := Lib.hid hm
  have HP0 := Lib.hid hP0
  have hp0 : Pair (w.alloc (.cells #[.slice none 0 0, .string ⟨#[]⟩] 45)) R (.slice none 0 0) (.string ⟨#[]⟩) := by rw [hR]; exact Pair.alloc w _ _ _
  have hz0 : (w.alloc (.cells #[.slice none 0 0, .string ⟨#[]⟩] 45)).heap.size = R + 1 := by rw [hR]; simp
  have hp1 := Pair.alloc (w.alloc (.cells #[.slice none 0 0, .string ⟨#[]⟩] 45)) (.slice none 0 0) (.string ⟨#[]⟩) 45
  rw [hz0] at hp1
  have hp0' := hp0.below (ba (Below.refl _ (w.alloc (.cells #[.slice none 0 0, .string ⟨#[]⟩] 45))) (.cells #[.slice none 0 0, .string ⟨#[]⟩] 45)) (by omega)
  have hb0 := ba (ba (Below.refl _ w) (.cells #[.slice none 0 0, .string ⟨#[]⟩] 45)) (.cells #[.slice none 0 0, .string ⟨#[]⟩] 45)
  have hz1 : ((w.alloc (.cells #[.slice none 0 0, .string ⟨#[]⟩] 45)).alloc (.cells #[.slice none 0 0, .string ⟨#[]⟩] 45)).heap.size = R + 2 := by rw [hR]; simp
  obtain ⟨W0, hW0⟩ : ∃ W0, W0 = (w.alloc (.cells #[.slice none 0 0, .string ⟨#[]⟩] 45)).alloc (.cells #[.slice none 0 0, .string ⟨#[]⟩] 45) := ⟨_, rfl⟩
  rw [← hW0] at hp1 hp0' hb0 hz1
  have HW0 := Lib.hid hW0.symm
  have HR := Lib.hid hR
  rw [← hP0]
  clear hm hP0 hp0 hz0 hW0 hR
  go_enter Tryd.func22, Tryd.ntmps22
  go_wp2_with fail
  rw [HW0.out, ← HR.out]
  go_loopw [0, 6] (fun v i wr => ∃ (n : Nat) (S : ByteArray) (fs : List Fld) (V : Value), v = .string S ∧ i = .int .i64 n ∧ Pair wr R (.slice none 0 0) (.string ⟨#[]⟩) ∧ Pair wr (R + 1) V (.string ⟨#[]⟩) ∧ wr.ownsRow (R + 2) 48 2 V fs.length (fcells fs) ∧ Below w.heap.size w wr ∧ R + 2 ≤ wr.heap.size ∧
      n + S.size ≤ 2000 ∧ fs.length ≤ 30 ∧ Hid (∀ f ∈ fs, f.2.length + S.size ≤ 2000) ∧ Hid (parseL n fs S.data.toList = P0)) (fun v _ _ => strLen v)
  case atStart => exact ⟨0, s, [], _, rfl, rfl, hp0', hp1, World.ownsRow_nil _ _ _ _, hb0, by omega, by omega, by simp, (fun f hf => by cases hf), HP0.out.symm⟩
  case round =>
    obtain ⟨n, S, fs, V, rfl, rfl, hq0, hq1, hown, hbel, hsz, hnS, hfl, hfv, heq⟩ := hrel
    clear hp0' hp1 hb0 hz1
    go_wp2_with fail
    refine (HC.out S _ (by omega) (moved hM.out hbel (Nat.le_refl _))).mono ?_
    rintro e w1 ⟨⟨X, r, hcut⟩, hb1⟩
    have hbel1 := bt hbel hb1
    have hr0 := hq0.below hb1 hq0.2.2.2.2
    have hr1 := hq1.below hb1 hq1.2.2.2.2
    have hown1 := row_down hown hb1
    have hsz1 : R + 2 ≤ w1.heap.size := Nat.le_trans hsz hb1.size
    clear hq0 hq1 hown hbel hsz hb1
    rcases hcut with ⟨hs1, rfl⟩ | ⟨hs1, rfl⟩
    · have hlen : S.size = X.size + 2 + r.size := by have := sep_len hs1; simpa using this
      cases hx : X.toList.isEmpty with
      | true =>
        have hx0 : X.data.toList = [] := by rw [ByteArray.toList_eq] at hx; exact List.isEmpty_iff.1 hx
        have hres : Hid (P0 = ((fs.map trimF, r.data.toList), 0, 0)) := by unfold Hid; rw [← heq.out]; rw [hx0] at hs1; exact parse_end hs1
        clear hs1 heq
        have hr0' := hr0.else0 (show R ≠ R + 1 by omega) (i := 1) (.string r)
        have hr1' := hr1.set1 (.string r)
        have hown' := row_else hown1 (show R + 1 < R + 2 by omega) 1 (.string r)
        have hbel' := hbel1.setCell (p := ⟨R + 1, 1, none⟩) (by show w.heap.size ≤ R + 1; have := HR.out; omega) (.string r)
        have hsz' : R + 2 ≤ (w1.setCell ⟨R + 1, 1, none⟩ (.string r)).heap.size := by simpa [World.setCell] using hsz1
        obtain ⟨w2, hw2⟩ : ∃ w2, w2 = w1.setCell ⟨R + 1, 1, none⟩ (.string r) := ⟨_, rfl⟩
        rw [← hw2] at hr0' hr1' hown' hbel' hsz'
        have HW2 := Lib.hid hw2.symm; clear hw2
        obtain ⟨c0, c1, f0, f1, hlt⟩ := hr1
        have hr1'' := hr1'
        obtain ⟨k0, k1, i0, i1, hlt'⟩ := hr1'
        have c0' : (w1.setCell ⟨R + 1, 1, none⟩ (.string r)).cell? ⟨R + 1, 0, none⟩ = some V := by rw [HW2.out]; exact k0
        obtain ⟨G, cap, rfl⟩ : ∃ G cap, V = .slice G fs.length cap := by
          rcases hown1.2 with ⟨h, h0⟩ | ⟨g, cap, _, h, _⟩
          · exact ⟨none, 0, by rw [h, h0]⟩
          · exact ⟨_, cap, h⟩
        go_wp2_with fail
        rw [HW2.out]
        clear c0 c1 f0 f1 hlt k0 k1 i0 i1 hlt' c0' HW2 hown1 hbel1 hr0 hsz1
        go_loopw [68] (fun i wx => ∃ j : Nat, j ≤ fs.length ∧ i = .int .i64 j ∧ Pair wx R (.slice none 0 0) (.string ⟨#[]⟩) ∧ Pair wx (R + 1) (.slice G fs.length cap) (.string r) ∧ wx.ownsRow (R + 2) 48 2 (.slice G fs.length cap) fs.length (fcells ((fs.take j).map trimF ++ fs.drop j)) ∧ Below w.heap.size w wx ∧ R + 2 ≤ wx.heap.size) (fun i _ => fs.length - (intOf i).toNat)
        case atStart => exact ⟨0, Nat.zero_le _, rfl, hr0', hr1'', by simpa using hown', hbel', hsz'⟩
        case round =>
          clear hr0' hr1'' hown' hbel' hsz'
          obtain ⟨j, hj, rfl, hq0, hq1, hown, hbel, hsz⟩ := hrel
          by_cases hlt : j < fs.length
          · obtain ⟨g, cap2, hv, hg1, hg2⟩ := World.ownsRow.form hown (by omega)
            injection hv with hG _ hcap
            subst hG; subst hcap
            have hLj : ((fs.take j).map trimF ++ fs.drop j)[j]? = some fs[j] := by
              rw [List.getElem?_append_right (by rw [List.length_map, List.length_take]; omega), List.length_map, List.length_take, Nat.min_eq_left hj, Nat.sub_self, List.getElem?_drop, Nat.add_zero, List.getElem?_eq_getElem hlt]
            have hnext := upd_trim j fs hlt
            obtain ⟨L, hL⟩ : ∃ L, L = (fs.take j).map trimF ++ fs.drop j := ⟨_, rfl⟩
            rw [← hL] at hLj hnext hown
            obtain ⟨f, hf⟩ : ∃ f, f = fs[j] := ⟨_, rfl⟩
            have hfs : f.2.length ≤ 2000 := by
              have := hfv.out f (by rw [hf]; exact List.getElem_mem hlt)
              omega
            rw [← hf] at hLj
            have hset := fcells_upd trimV j L f hLj
            rw [hnext] at hset
            have hcell := (hown.cellAt (j * 2 + 1) (by omega)).trans (fcells_at L j f hLj).2
            have hfr := hown.frozenAt (j * 2 + 1)
            obtain ⟨B, hB⟩ : ∃ B : ByteArray, B = ⟨f.2.toArray⟩ := ⟨_, rfl⟩
            have hBl : B.data.toList = f.2 := by rw [hB]
            have hBs : B.size ≤ 2000 := by rw [hB]; simpa [ByteArray.size] using hfs
            rw [← hB] at hcell
            rw [← hBl] at hset
            have HSET := Lib.hid hset
            clear hLj hnext hL hf hset hB hBl hfs
            have hq1' := hq1
            obtain ⟨c0, c1, f0, f1, hbl⟩ := hq1
            have hbd := Below.drew (Below.refl wr.heap.size wr)
            go_wp2_with fail
            go_region_with (go_at_call 37; refine (HT.out B _ hBs).mono ?_; rintro e w3 ⟨rfl, hb3⟩; have hb4 := bt hbd hb3; have d0 := moved c0 hb4 (Nat.le_refl _); have hcell3 := moved hcell hb4 (Nat.le_refl _); have hfr3 := (hb4.frozen (p := ⟨g, j * 2 + 1, none⟩) (by show g < _; omega)).trans hfr)
            all_goals
              have z0 := hq0.below hb4 hq0.2.2.2.2
              have z1 := hq1'.below hb4 hq1'.2.2.2.2
              have zo := (row_down hown hb4).stored (j * 2 + 1) (.string ⟨(trimV B.data.toList).toArray⟩)
              have zb := bt hbel hb4
              have y0 := z0.kept zo.2 (by intro e; have := Option.some.inj e; omega)
              have y1 := z1.kept zo.2 (by intro e; have := Option.some.inj e; omega)
              have yo := zo.1
              rw [← HSET.out] at yo
              have yb := below_row zb (Nat.le_refl _) (row_down hown hb4) (by have := HR.out; omega) zo.2
              have ys := Nat.le_trans (Nat.le_trans hsz hb4.size) zo.2.size
              obtain ⟨w5, hw5⟩ : ∃ w5, w5 = w3.setCell ⟨g, j * 2 + 1, none⟩ (.string ⟨(trimV B.data.toList).toArray⟩) := ⟨_, rfl⟩
              rw [← hw5] at y0 y1 yo yb ys ⊢
              clear hw5 zo zb z0 z1 hb4 hb3 c0 c1 f0 f1 hbl hcell hfr hcell3 hfr3 d0 hq0 hq1' hown hbel hsz hbd
              go_wp2_with fail
              go_roundw
              case rel => exact ⟨j + 1, by omega, by go_num, y0, y1, yo, yb, ys⟩
              case measure => simp [intOf]; omega
          · obtain rfl : j = fs.length := by omega
            rw [List.take_length, List.drop_length, List.append_nil] at hown
            obtain ⟨c0, c1, f0, f1, hbl⟩ := hq1
            obtain ⟨d0, d1, g0, g1, hbl2⟩ := hq0
            obtain ⟨e0, e1, hbF⟩ := res_set2 hbel (by have := HR.out; omega) d0 d1 (.slice G fs.length cap) (.string r)
            have hownF := row_else (row_else hown (show R < R + 2 by omega) 0 (.slice G fs.length cap)) (show R < R + 2 by omega) 1 (.string r)
            go_wp2_with fail
            refine bodyPost_ret (v := .tuple #[.agg #[.slice G fs.length cap, .string r], .int .i64 0, .int .i64 0]) (by simp [results, Tryd.results22, go_sem, e0, e1]) rfl ?_
            show ParseSays _ _ _ P0 ∧ _
            rw [hres.out]
            exact ⟨⟨_, rfl, by rw [List.length_map]; exact row_base (by have := HR.out; omega) hownF⟩, hbF⟩
      | false =>
        have hx0 : X.data.toList.isEmpty = false := by rw [ByteArray.toList_eq] at hx; exact hx
        have hxs : 0 < X.size := by
          have h1 : X.data.toList.length ≠ 0 := by intro h; rw [List.length_eq_zero_iff.1 h] at hx0; cases hx0
          have h2 : X.data.toList.length = X.size := by simp
          omega
        obtain ⟨c, hc⟩ : ∃ c : UInt8, X[0] = c := ⟨_, rfl⟩
        have hhd : X.data.toList.headD 0 = c := by
          have h1 : X.data.toList[0]? = some c := by rw [List.getElem?_eq_getElem (by simpa using hxs)]; exact congrArg some hc
          cases hl : X.data.toList with
          | nil => rw [hl] at h1; cases h1
          | cons a b => rw [hl] at h1; exact Option.some.inj h1
        have HX0 := Lib.hid hx0
        clear hx0
        have hcase : (0 < fs.length ∧ (c = 32 ∨ c ≠ 32 ∧ c = 9)) ∨ ((isBlank (X.data.toList.headD 0) && decide (0 < fs.length)) = false ∧ (c = 32 ∧ fs.length = 0 ∨ c ≠ 32 ∧ c = 9 ∧ fs.length = 0 ∨ c ≠ 32 ∧ c ≠ 9)) := by
          by_cases h32 : c = 32
          · by_cases h0 : 0 < fs.length
            · exact .inl ⟨h0, .inl h32⟩
            · exact .inr ⟨by rw [decide_eq_false h0, Bool.and_false], .inl ⟨h32, by omega⟩⟩
          · by_cases h9 : c = 9
            · by_cases h0 : 0 < fs.length
              · exact .inl ⟨h0, .inr ⟨h32, h9⟩⟩
              · exact .inr ⟨by rw [decide_eq_false h0, Bool.and_false], .inr (.inl ⟨h32, h9, by omega⟩)⟩
            · exact .inr ⟨by rw [hhd]; unfold isBlank; rw [beq_eq_false_iff_ne.2 h32, beq_eq_false_iff_ne.2 h9]; rfl, .inr (.inr ⟨h32, h9⟩)⟩
        rcases hcase with ⟨h0, hcc⟩ | ⟨hnb, hcc⟩
        · obtain ⟨k, hk⟩ : ∃ k, fs.length = k + 1 := ⟨fs.length - 1, by omega⟩
          have hres : Hid (parseL (n + 1) (updV (· ++ X.data.toList) k fs) r.data.toList = P0) := by
            unfold Hid
            rw [← heq.out, parse_fold hs1 HX0.out (by
              rw [hhd, decide_eq_true h0]
              rcases hcc with rfl | ⟨_, rfl⟩ <;> rfl), hk]
            rfl
          clear hs1 heq hhd
          have hfk : fs[k]? = some fs[k] := List.getElem?_eq_getElem (by omega)
          obtain ⟨f, hf⟩ : ∃ f, f = fs[k] := ⟨_, rfl⟩
          rw [← hf] at hfk
          have hfs : f.2.length + S.size ≤ 2000 := hfv.out f (by rw [hf]; exact List.getElem_mem (by omega))
          have hset := fcells_upd (· ++ X.data.toList) k fs f hfk
          obtain ⟨g, cap, rfl, hg1, hg2⟩ := World.ownsRow.form hown1 (by omega)
          rw [hk] at hown1 hr1
          have hcell := (hown1.cellAt (k * 2 + 1) (by omega)).trans (fcells_at fs k f hfk).2
          have hfr := hown1.frozenAt (k * 2 + 1)
          obtain ⟨B, hB⟩ : ∃ B : ByteArray, B = ⟨f.2.toArray⟩ := ⟨_, rfl⟩
          have hBl : B.data.toList = f.2 := by rw [hB]
          have hBs : B.size + S.size ≤ 2000 := by rw [hB]; show f.2.toArray.size + S.size ≤ 2000; rw [List.size_toArray]; exact hfs
          rw [← hB] at hcell
          have hset2 : fcells (updV (· ++ X.data.toList) k fs) = (fcells fs).set (k * 2 + 1) (.string (B ++ X)) := by
            rw [hset]
            congr 2
            rw [← hBl]
            exact ByteArray.ext (Array.toList_inj.1 (by rw [ByteArray.toList_data_append]))
          have HSET := Lib.hid hset2
          have hnv : Hid (∀ f' ∈ updV (· ++ X.data.toList) k fs, f'.2.length + r.size ≤ 2000) := by
            intro f' hf'
            have := upd_mem (· ++ X.data.toList) k fs f' hf'
            rcases this with h | ⟨f0, h, h2⟩
            · have := hfv.out f' h; omega
            · have h3 := hfv.out f0 h
              rw [h2]
              simp only [List.length_append]
              have : X.data.toList.length = X.size := by simp
              omega
          clear hset hset2 hfk hf hB hBl hfs
          have hr1' := hr1
          obtain ⟨c0, c1, f0, f1, hbl⟩ := hr1
          have hbt : ((X[0].toNat : Int) == 32) = true ∨ ((X[0].toNat : Int) == 32) = false ∧ ((X[0].toNat : Int) == 9) = true := by
            rw [hc]
            rcases hcc with rfl | ⟨h1, rfl⟩
            · exact .inl rfl
            · exact .inr ⟨rfl, rfl⟩
          clear hcc hc
          rcases hbt with e1 | ⟨e1, e2⟩
          all_goals
            go_wp2_with fail
            have zo := hown1.stored (k * 2 + 1) (.string (B ++ X))
            have y0 := hr0.kept zo.2 (by intro e; have := Option.some.inj e; omega)
            have y1 := hr1'.kept zo.2 (by intro e; have := Option.some.inj e; omega)
            have yo := zo.1
            rw [← HSET.out] at yo
            have yb := below_row hbel1 (Nat.le_refl _) hown1 (by have := HR.out; omega) zo.2
            have ys := Nat.le_trans hsz1 zo.2.size
            go_roundw
            case rel => exact ⟨n + 1, r, updV (· ++ X.data.toList) k fs, _, rfl, by go_num, y0, y1, by rw [updV_length, hk]; exact yo, yb, ys, by omega, by rw [updV_length]; exact hfl, hnv, hres⟩
            case measure => show r.size < S.size; omega
        · have hbt : (((X[0].toNat : Int) == 32) = true ∧ decide (0 < fs.length) = false) ∨ (((X[0].toNat : Int) == 32) = false ∧ ((X[0].toNat : Int) == 9) = true ∧ decide (0 < fs.length) = false) ∨ (((X[0].toNat : Int) == 32) = false ∧ ((X[0].toNat : Int) == 9) = false) := by
            rw [hc]
            rcases hcc with ⟨rfl, h⟩ | ⟨_, rfl, h⟩ | ⟨h1, h2⟩
            · exact .inl ⟨rfl, decide_eq_false (by omega)⟩
            · exact .inr (.inl ⟨rfl, rfl, decide_eq_false (by omega)⟩)
            · exact .inr (.inr ⟨beq_eq_false_iff_ne.2 (fun e => h1 (UInt8.toNat_inj.1 (Int.ofNat_inj.1 e))), beq_eq_false_iff_ne.2 (fun e => h2 (UInt8.toNat_inj.1 (Int.ofNat_inj.1 e)))⟩)
          have HNB := Lib.hid hnb
          clear hcc hc hhd hnb
          obtain ⟨G, cap, rfl⟩ : ∃ G cap, V = .slice G fs.length cap := by
            rcases hown1.2 with ⟨h, h0⟩ | ⟨g, cap, _, h, _⟩
            · exact ⟨none, 0, by rw [h, h0]⟩
            · exact ⟨_, cap, h⟩
          have hr1' := hr1
          have HS1 := Lib.hid hs1; clear hs1
          obtain ⟨c0, c1, f0, f1, hbl⟩ := hr1
          have hXs : X.size ≤ 2000 := by omega
          rcases hbt with ⟨e1, e4⟩ | ⟨e1, e2, e4⟩ | ⟨e1, e2⟩
          all_goals
            go_wp2_with fail
            refine (HC2.out X _ hXs (moved hM.out hbel1 (Nat.le_refl _))).mono ?_
            rintro e w2 ⟨⟨Nm, Vv, hcut⟩, hb2⟩
            have hbel2 := bt hbel1 hb2
            have hr02 := hr0.below hb2 hr0.2.2.2.2
            have hr12 := hr1'.below hb2 hr1'.2.2.2.2
            have hown2 := row_down hown1 hb2
            have hsz2 : R + 2 ≤ w2.heap.size := Nat.le_trans hsz1 hb2.size
            clear c0 c1 f0 f1 hbl hr0 hr1' hown1 hbel1 hsz1 hb2 e1
            obtain ⟨c0, c1, f0, f1, hbl⟩ := hr12
            have hr12' : Pair w2 (R + 1) (.slice G fs.length cap) (.string ⟨#[]⟩) := ⟨c0, c1, f0, f1, hbl⟩
            rcases hcut with ⟨hs2, rfl⟩ | ⟨hs2, rfl⟩
            · have hlen2 : X.size = Nm.size + 1 + Vv.size := by have := sep_len hs2; simpa using this
              have HS2 := Lib.hid hs2; clear hs2
              cases hnm : nameOK Nm.data.toList with
              | false =>
                have hcall := HN.out Nm false w2 (by omega) hnm
                have hres : Hid (P0 = (([], []), n, 3)) := by unfold Hid; rw [← heq.out, parse_bad HS1.out HX0.out HNB.out HS2.out hnm]
                clear hnm
                obtain ⟨d0, d1, g0, g1, hbl2⟩ := hr02
                obtain ⟨z0, z1, hbF⟩ := res_set2 hbel2 (by have := HR.out; omega) d0 d1 (.slice none 0 0) (.string ⟨#[]⟩)
                go_wp2_with fail
                refine hcall.mono ?_
                rintro e w3 ⟨rfl, rfl⟩
                go_wp2_with fail
                refine bodyPost_ret (v := .tuple #[.agg #[.slice none 0 0, .string ⟨#[]⟩], .int .i64 n, .int .i64 3]) (by simp [results, Tryd.results22, go_sem, z0, z1]) rfl ?_
                show ParseSays _ _ _ P0 ∧ _
                rw [hres.out]
                exact says_err hbF
              | true =>
                have hcall := HN.out Nm true w2 (by omega) hnm
                have HNM := Lib.hid hnm; clear hnm
                by_cases h30 : fs.length = 30
                · have hres : Hid (P0 = (([], []), n, 5)) := by unfold Hid; rw [← heq.out, parse_full HS1.out HX0.out HNB.out HS2.out HNM.out h30]
                  obtain ⟨d0, d1, g0, g1, hbl2⟩ := hr02
                  obtain ⟨z0, z1, hbF⟩ := res_set2 hbel2 (by have := HR.out; omega) d0 d1 (.slice none 0 0) (.string ⟨#[]⟩)
                  have h31 : ((fs.length : Int) == 30) = true := beq_iff_eq.2 (by omega)
                  go_wp2_with fail
                  refine hcall.mono ?_
                  rintro e w3 ⟨rfl, rfl⟩
                  go_wp2_with fail
                  refine bodyPost_ret (v := .tuple #[.agg #[.slice none 0 0, .string ⟨#[]⟩], .int .i64 n, .int .i64 5]) (by simp [results, Tryd.results22, go_sem, z0, z1]) rfl ?_
                  show ParseSays _ _ _ P0 ∧ _
                  rw [hres.out]
                  exact says_err hbF
                · have hres : Hid (parseL (n + 1) (fs ++ [(Nm.data.toList, Vv.data.toList)]) r.data.toList = P0) := by unfold Hid; rw [← heq.out, parse_field HS1.out HX0.out HNB.out HS2.out HNM.out h30]
                  have h31 : ((fs.length : Int) == 30) = false := beq_eq_false_iff_ne.2 (by omega)
                  have hnv : Hid (∀ f ∈ fs ++ [(Nm.data.toList, Vv.data.toList)], f.2.length + r.size ≤ 2000) := by
                    intro f hf
                    rcases List.mem_append.1 hf with h | h
                    · have := hfv.out f h; omega
                    · obtain rfl := List.mem_singleton.1 h
                      have : Vv.data.toList.length = Vv.size := by simp
                      show Vv.data.toList.length + r.size ≤ 2000
                      omega
                  have hcl := fcells_length fs
                  go_wp2_with fail
                  refine hcall.mono ?_
                  rintro e w3 ⟨rfl, rfl⟩
                  go_wp2_with (at_builtin; refine wpList_append_lies _ (by rfl) _ _ _ (by rfl) (R + 2) 48 i0 _ 2 32 Tryd.underlying43 HI.out HZ0.out HZ1.out HZ2.out rfl (by omega) (.slice G fs.length cap) fs.length (fcells fs) (by rfl) (hown2.alloc _) ⟨w2.heap.size, 0, none⟩ 1 1 [.string Nm, .string Vv] (by rfl) (by rfl) (World.news_of_block (cs := #[.string Nm, .string Vv]) (t := 48) (fr := (0, 0)) (heap_alloc_new w2 _)) (by simp [Value.oneCell']) (by omega) (by unfold maxLen; omega) (by omega) (by simp; omega) (w2.heap.size + 1) (by simp) ?_)
                  intro g cap2 w4 hown4 hgrow _ hglt
                  have hsn : fcells (fs ++ [(Nm.data.toList, Vv.data.toList)]) = fcells fs ++ [.string Nm, .string Vv] := fcells_snoc fs _
                  rw [← hsn] at hown4
                  have ap := ba (Below.refl _ w2) (.cells #[.string Nm, .string Vv] 48)
                  have k1 := (hr12'.below ap hr12'.2.2.2.2).kept hgrow (row_apart hown2 (by omega))
                  have k0 := (hr02.below ap hr02.2.2.2.2).kept hgrow (row_apart hown2 (by omega))
                  have l1 := k1.set0 (.slice (some ⟨g, 0, none⟩) (fs.length + 1) cap2)
                  have l0 := k0.else0 (show R ≠ R + 1 by omega) (i := 0) (.slice (some ⟨g, 0, none⟩) (fs.length + 1) cap2)
                  have lo := row_else hown4 (show R + 1 < R + 2 by omega) 0 (.slice (some ⟨g, 0, none⟩) (fs.length + 1) cap2)
                  have hR2 := HR.out
                  have lb := (below_row (ba hbel2 (.cells #[.string Nm, .string Vv] 48)) (Nat.le_refl _) (hown2.alloc (.cells #[.string Nm, .string Vv] 48)) (by omega) hgrow).setCell (p := ⟨R + 1, 0, none⟩) (by show w.heap.size ≤ R + 1; omega) (.slice (some ⟨g, 0, none⟩) (fs.length + 1) cap2)
                  have ls : R + 2 ≤ (w4.setCell ⟨R + 1, 0, none⟩ (.slice (some ⟨g, 0, none⟩) (fs.length + 1) cap2)).heap.size := by
                    have h1 := hgrow.size
                    have h2 := ap.size
                    have h3 : (w4.setCell ⟨R + 1, 0, none⟩ (.slice (some ⟨g, 0, none⟩) (fs.length + 1) cap2)).heap.size = w4.heap.size := by simp [World.setCell]
                    omega
                  obtain ⟨x0, x1, y0, y1, hbl3⟩ := k1
                  clear hR2 hown4 hgrow hglt ap k0 c0 c1 f0 f1 hbl hr12' hr02 hown2 hbel2 hsz2 hcall
                  go_wp2_with fail
                  go_roundw
                  case rel => exact ⟨n + 1, r, _, _, rfl, by go_num, l0, l1, by rw [List.length_append]; exact lo, lb, ls, by omega, by simp; omega, hnv, hres⟩
                  case measure => show r.size < S.size; omega
            · have hres : Hid (P0 = (([], []), n, 3)) := by unfold Hid; rw [← heq.out, parse_nocolon HS1.out HX0.out HNB.out hs2]
              clear hs2
              obtain ⟨d0, d1, g0, g1, hbl2⟩ := hr02
              obtain ⟨z0, z1, hbF⟩ := res_set2 hbel2 (by have := HR.out; omega) d0 d1 (.slice none 0 0) (.string ⟨#[]⟩)
              go_wp2_with fail
              refine bodyPost_ret (v := .tuple #[.agg #[.slice none 0 0, .string ⟨#[]⟩], .int .i64 n, .int .i64 3]) (by simp [results, Tryd.results22, go_sem, z0, z1]) rfl ?_
              show ParseSays _ _ _ P0 ∧ _
              rw [hres.out]
              exact says_err hbF
    · have hres : Hid (P0 = (([], []), n, 4)) := by unfold Hid; rw [← heq.out, parse_short hs1]
      clear hs1
      obtain ⟨c0, c1, f0, f1, hlt⟩ := hr0
      obtain ⟨e0, e1, hbF⟩ := res_set2 hbel1 (by have := HR.out; omega) c0 c1 (.slice none 0 0) (.string ⟨#[]⟩)
      go_wp2_with fail
      refine bodyPost_ret (v := .tuple #[.agg #[.slice none 0 0, .string ⟨#[]⟩], .int .i64 n, .int .i64 4]) (by simp [results, Tryd.results22, go_sem, e0, e1]) rfl ?_
      show ParseSays _ _ _ P0 ∧ _
      rw [hres.out]
      exact says_err hbF
end Go.Proofs.YtkchoempejdleaaDoor
