/-
  DERIVED. 'show' of letter: the walk.
-/
import Derived.Test.YtdhepaeephmhiaaDoorFldName
import Derived.Test.YtdhepaeephmhiaaDoorBuilder
import Derived.BigRegion
import Derived.Deep.AppendLies
import Derived.Lib.UnsafeStr
namespace Go.Proofs.YtdhepaeephmhiaaDoor
open Go.RowKit

/-- a message's text -/
def fieldL (f : Fld) : List UInt8 := f.1 ++ [58, 32] ++ f.2 ++ [13, 10]
def showF (fs : List Fld) : List UInt8 := fs.flatMap fieldL
def showL (fs : List Fld) (body : List UInt8) : List UInt8 := showF fs ++ [13, 10] ++ body
theorem showF_snoc (fs : List Fld) (f : Fld) : showF (fs ++ [f]) = showF fs ++ fieldL f := by simp [showF]
theorem showF_take (fs : List Fld) (j : Nat) (h : j < fs.length) : showF (fs.take (j + 1)) = showF (fs.take j) ++ fieldL fs[j] := by
  rw [List.take_succ_eq_append_getElem h, showF_snoc]
theorem showF_le (fs : List Fld) (j : Nat) : (showF (fs.take j)).length ≤ (showF fs).length := by
  have h : fs = fs.take j ++ fs.drop j := (List.take_append_drop j fs).symm
  have h2 : showF fs = showF (fs.take j) ++ showF (fs.drop j) := by
    unfold showF
    rw [← List.flatMap_append, ← h]
  rw [h2, List.length_append]; omega
theorem showF_mem (fs : List Fld) (f : Fld) (h : f ∈ fs) : f.1.length + f.2.length + 4 ≤ (showF fs).length := by
  obtain ⟨a, b, rfl⟩ := List.append_of_mem h
  unfold showF
  rw [List.flatMap_append, List.flatMap_cons, List.length_append, List.length_append]
  unfold fieldL
  simp only [List.length_append, List.length_cons, List.length_nil]
  omega

/-- 'the slice v holds the fields fs' -/
def FldsAt (w : World) (v : Value) (fs : List Fld) : Prop :=
  ∃ G cap, v = .slice G fs.length cap ∧ ∀ i f, fs[i]? = some f → ∃ g, G = some ⟨g, 0, none⟩ ∧ g < w.heap.size ∧ w.cell? ⟨g, i * 2, none⟩ = some (.string ⟨f.1.toArray⟩) ∧ w.cell? ⟨g, i * 2 + 1, none⟩ = some (.string ⟨f.2.toArray⟩)
theorem FldsAt.down {w w' : World} {v : Value} {fs : List Fld} (h : FldsAt w v fs) (hb : Below w.heap.size w w') : FldsAt w' v fs := by
  obtain ⟨G, cap, hv, hf⟩ := h
  refine ⟨G, cap, hv, fun i f hi => ?_⟩
  obtain ⟨g, hG, hg, h0, h1⟩ := hf i f hi
  exact ⟨g, hG, Nat.lt_of_lt_of_le hg hb.size, moved h0 hb (Nat.le_refl _), moved h1 hb (Nat.le_refl _)⟩
theorem FldsAt.of_row {w : World} {base : Nat} {v : Value} {fs : List Fld} (h : w.ownsRow base 92 2 v fs.length (fcells fs)) : FldsAt w v fs := by
  by_cases h0 : 0 < fs.length
  · obtain ⟨g, cap, rfl, _, hg⟩ := World.ownsRow.form h h0
    refine ⟨_, cap, rfl, fun i f hi => ⟨g, rfl, hg, ?_⟩⟩
    have hl : i < fs.length := (List.getElem?_eq_some_iff.1 hi).1
    obtain ⟨e0, e1⟩ := fcells_at fs i f hi
    exact ⟨(h.cellAt (i * 2) (by omega)).trans e0, (h.cellAt (i * 2 + 1) (by omega)).trans e1⟩
  · rcases h.2 with ⟨h1, h2⟩ | ⟨g, cap, _, h1, _⟩
    · refine ⟨none, 0, by rw [h1, h2], fun i f hi => ?_⟩
      have hl : i < fs.length := (List.getElem?_eq_some_iff.1 hi).1
      omega
    · refine ⟨_, cap, h1, fun i f hi => ?_⟩
      have hl : i < fs.length := (List.getElem?_eq_some_iff.1 hi).1
      omega
theorem builder_down {T e B b : Nat} {p : Value} {bs : List Value} {w w' : World} (h : Lib.BuilderAt T e B b p bs w) (hb : Below w.heap.size w w') : Lib.BuilderAt T e B b p bs w' := by
  have hlt := h.lt
  obtain ⟨h1, v, h2, h3, h4⟩ := h
  exact ⟨h1, v, (hb.block b hlt).trans h2, row_down h3 hb, h4⟩
theorem isBuilder_down {T e B b : Nat} {bs : List Value} {w w' : World} (h : Lib.IsBuilder T e B b bs w) (hb : Below w.heap.size w w') : Lib.IsBuilder T e B b bs w' :=
  h.elim (fun h => .inl (builder_down h hb)) (fun h => .inr (builder_down h hb))
theorem show_eq (S body : ByteArray) (fs : List Fld) (h : S.data.toList = showF fs) : S ++ ⟨#[13, 10]⟩ ++ body = ⟨(showL fs body.data.toList).toArray⟩ := by
  apply ByteArray.ext
  apply Array.toList_inj.1
  rw [ByteArray.toList_data_append, ByteArray.toList_data_append, h]
  rfl
theorem field_eq (N V : ByteArray) (f : Fld) (h0 : N.data.toList = f.1) (h1 : V.data.toList = f.2) : (N ++ ⟨#[58, 32]⟩ ++ V ++ ⟨#[13, 10]⟩).data.toList = fieldL f := by
  rw [ByteArray.toList_data_append, ByteArray.toList_data_append, ByteArray.toList_data_append, h0, h1]
  rfl

set_option maxHeartbeats 4000000 in
set_option maxRecDepth 20000 in
theorem show_any (fs : List Fld) (v : Value) (body : ByteArray) (w : World) (hv : FldsAt w v fs) (hsz : (showF fs).length + body.size ≤ 1000000) :
    Calls Tryd.prog 52 #[.agg #[v, .string body]] w fun e w' => e = .returned (.string ⟨(showL fs body.data.toList).toArray⟩) ∧ Below w.heap.size w w' := by
  obtain ⟨R, hR⟩ : ∃ R, R = w.heap.size := ⟨_, rfl⟩
  have hfl : fs.length ≤ 1000000 := by
    have : ∀ l : List Fld, l.length ≤ (showF l).length := by
      intro l
      induction l with
      | nil => exact Nat.le_refl _
      | cons a l ih =>
        have : (showF (a :: l)).length = (fieldL a).length + (showF l).length := by simp [showF]
        have h2 : 4 ≤ (fieldL a).length := by unfold fieldL; simp only [List.length_append, List.length_cons, List.length_nil]; omega
        simp only [List.length_cons]; omega
    have := this fs
    omega
  have HV := Lib.hid hv
  obtain ⟨G, cap, hvv, hcells⟩ := hv
  subst hvv
  have HF : Hid (∀ j (h : j < fs.length) (wr : World), Below w.heap.size w wr → ∃ g, G = some ⟨g, 0, none⟩ ∧ ∃ N V : ByteArray, wr.cell? ⟨g, j * 2, none⟩ = some (.string N) ∧ wr.cell? ⟨g, j * 2 + 1, none⟩ = some (.string V) ∧ N.size + V.size + 4 ≤ 1000000 ∧
      (N ++ ⟨#[58, 32]⟩ ++ V ++ ⟨#[13, 10]⟩).size ≤ 1000000 ∧ Lib.byteCells (showF (fs.take j)) ++ Lib.strCells (N ++ ⟨#[58, 32]⟩ ++ V ++ ⟨#[13, 10]⟩) = Lib.byteCells (showF (fs.take (j + 1))) ∧ (Lib.byteCells (showF (fs.take j))).length ≤ 1000000) := by
    intro j h wr hb
    obtain ⟨g, hG, hg, h0, h1⟩ := hcells j fs[j] (List.getElem?_eq_getElem h)
    have hm := showF_mem fs fs[j] (List.getElem_mem h)
    have hle := showF_le fs j
    have hN : (⟨fs[j].1.toArray⟩ : ByteArray).size = fs[j].1.length := by show (List.toArray _).size = _; exact List.size_toArray
    have hV : (⟨fs[j].2.toArray⟩ : ByteArray).size = fs[j].2.length := by show (List.toArray _).size = _; exact List.size_toArray
    refine ⟨g, hG, ⟨fs[j].1.toArray⟩, ⟨fs[j].2.toArray⟩, moved h0 hb (Nat.le_refl _), moved h1 hb (Nat.le_refl _), by omega, ?_, ?_, ?_⟩
    · rw [ByteArray.size_append, ByteArray.size_append, ByteArray.size_append, hN, hV]
      show fs[j].1.length + 2 + fs[j].2.length + 2 ≤ 1000000
      omega
    · rw [Lib.strCells_eq, field_eq _ _ fs[j] rfl rfl, ← Lib.byteCells_append, ← showF_take fs j h]
    · rw [Lib.byteCells_length]; omega
  have HSE : Hid (∀ S : ByteArray, S.data.toList = showF fs → S ++ ⟨#[13, 10]⟩ ++ body = ⟨(showL fs body.data.toList).toArray⟩) := fun S h => show_eq S body fs h
  obtain ⟨RES, hRES⟩ : ∃ RES : ByteArray, RES = ⟨(showL fs body.data.toList).toArray⟩ := ⟨_, rfl⟩
  rw [← hRES] at HSE ⊢
  have HSZ := Lib.hid hsz
  have HWS : Hid (∀ (B b : Nat) (bs : List Value) (s : ByteArray) (w : World), Lib.IsBuilder 139 5 B b bs w → bs.length + s.size ≤ 140737488355328 → B ≤ w.heap.size →
    Calls Tryd.prog 71 #[.pointer (some ⟨b, 0, none⟩), .string s] w fun e w' => e = .returned (.tuple #[.int .i64 s.size, .nilIface]) ∧ (Lib.BuilderAt 139 5 B b (.pointer (some ⟨b, 0, none⟩)) (bs ++ Lib.strCells s) w' ∧ Below B w w')) := fun B b bs s w h1 h2 h3 => writeString_any B b bs s w h1 h2 h3
  have HST : Hid (∀ (l : List UInt8) (w : World), Lib.IsBuilder 139 5 (R + 1) (R + 1) (Lib.byteCells l) w → R + 1 ≤ w.heap.size →
    Calls Tryd.prog 72 #[.pointer (some ⟨R + 1, 0, none⟩)] w fun e w' => e = .returned (.string ⟨l.toArray⟩) ∧ Below (R + 1) w w') := fun l w h1 h2 => Tryd.Builder_String_any (R + 1) (R + 1) l w h1 h2
  have hbox := alloc_cell w #[.slice G fs.length cap, .string body] 88 1 (.string body) rfl
  have hbox0 := alloc_cell w #[.slice G fs.length cap, .string body] 88 0 (.slice G fs.length cap) rfl
  rw [← hR] at hbox hbox0
  have hz0 : (w.alloc (.cells #[.slice G fs.length cap, .string body] 88)).heap.size = R + 1 := by rw [hR]; simp
  have hbl := Lib.fresh_isBuilder 139 5 (w.alloc (.cells #[.slice G fs.length cap, .string body] 88))
  rw [hz0] at hbl
  obtain ⟨W0, hW0⟩ : ∃ W0, W0 = (w.alloc (.cells #[.slice G fs.length cap, .string body] 88)).alloc (.cells #[.pointer none, .slice none 0 0] 139) := ⟨_, rfl⟩
  have hz1 : W0.heap.size = R + 2 := by rw [hW0, hR]; simp
  have hb0 : Below w.heap.size w W0 := by rw [hW0]; exact ba (ba (Below.refl _ w) _) _
  have hboxW : W0.cell? ⟨R, 1, none⟩ = some (.string body) := by rw [hW0]; exact moved hbox (ba (Below.refl _ _) _) (Nat.le_refl _)
  have hboxW0 : W0.cell? ⟨R, 0, none⟩ = some (.slice G fs.length cap) := by rw [hW0]; exact moved hbox0 (ba (Below.refl _ _) _) (Nat.le_refl _)
  rw [← hW0] at hbl
  have HW0 := Lib.hid hW0.symm
  have HR := Lib.hid hR
  have HRES := Lib.hid hRES
  clear hbox hbox0 hz0 hW0 hR hRES hsz hcells
  go_enter Tryd.func52, Tryd.ntmps52
  go_wp2_with fail
  rw [HW0.out, ← HR.out]
  go_loopw [9] (fun i wr => ∃ j : Nat, j ≤ fs.length ∧ i = .int .i64 j ∧ Lib.IsBuilder 139 5 (R + 1) (R + 1) (Lib.byteCells (showF (fs.take j))) wr ∧ Below (R + 1) W0 wr) (fun i _ => fs.length - (intOf i).toNat)
  case atStart => exact ⟨0, Nat.zero_le _, rfl, hbl, Below.refl _ _⟩
  case round =>
    obtain ⟨j, hj, rfl, hib, hbw⟩ := hrel
    clear hbl
    have hRw := Lib.hid HR.out
    have hbel : Below w.heap.size w wr := hb0.trans (hbw.mono (by rw [← HR.out]; omega))
    have hsz2 : R + 2 ≤ wr.heap.size := by have := hbw.size; omega
    have hbx := (hbw.cell (p := ⟨R, 1, none⟩) (by show R < R + 1; omega)).trans hboxW
    clear hboxW hboxW0
    by_cases hlt : j < fs.length
    · obtain ⟨g, hG, N, V, h0, h1, hs1, hs2, hs3, hs4⟩ := HF.out j hlt wr hbel
      subst hG
      have HS3 := Lib.hid hs3; clear hs3
      have hib2 := isBuilder_down hib (ba (Below.refl _ wr) (.cells #[.string N, .string V] 92))
      have hws := HWS.out (R + 1) (R + 1) (Lib.byteCells (showF (fs.take j))) (N ++ ⟨#[58, 32]⟩ ++ V ++ ⟨#[13, 10]⟩) _ hib2 (by omega) (by simp; omega)
      clear hib hib2
      go_wp2_with fail
      refine hws.mono ?_
      rintro e w2 ⟨rfl, hba, hb2⟩
      rw [HS3.out] at hba
      have hbw2 : Below (R + 1) W0 w2 := (hbw.alloc (by omega) (.cells #[.string N, .string V] 92)).trans hb2
      clear hbel hsz2 hbx hws hbw hb2 h0 h1 hs2
      go_wp2_with fail
      go_roundw
      case rel => exact ⟨j + 1, by omega, by go_num, .inr hba, hbw2⟩
      case measure => simp [intOf]; omega
    · obtain rfl : j = fs.length := by omega
      rw [List.take_length] at hib
      have hst := HST.out (showF fs) wr.drew hib (by show R + 1 ≤ wr.heap.size; omega)
      have hsf : (showF fs).length + body.size ≤ 1000000 := HSZ.out
      obtain ⟨S, hS⟩ : ∃ S : ByteArray, S = ⟨(showF fs).toArray⟩ := ⟨_, rfl⟩
      have hSs : S.size + body.size ≤ 1000000 := by rw [hS]; show (showF fs).toArray.size + _ ≤ _; rw [List.size_toArray]; exact hsf
      have hret := Lib.hid (HSE.out S (by rw [hS]))
      rw [← hS] at hst
      clear hS hsf
      go_wp2_with fail
      go_region_with (go_at_call 72; refine hst.mono ?_; rintro e w3 ⟨rfl, hb3⟩; have hbx3 := (hb3.cell (p := ⟨R, 1, none⟩) (by show R < R + 1; omega)).trans hbx)
      all_goals
        have hfin : Below w.heap.size w w3 := (Below.drew hbel).trans (hb3.mono (by rw [← HR.out]; omega))
        rw [hret.out]
        clear hbel hb3 hbx hbx3 hst hib hbw
        go_wp2_with fail
        go_ret
        exact ⟨rfl, hfin⟩
end Go.Proofs.YtdhepaeephmhiaaDoor
