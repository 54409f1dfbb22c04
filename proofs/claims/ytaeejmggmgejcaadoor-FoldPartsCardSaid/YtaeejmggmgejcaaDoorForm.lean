/-
  DERIVED. 'Form' of box: the walk.
-/
import Derived.Test.YtaeejmggmgejcaaDoorBatchPlain
import Derived.Test.YtaeejmggmgejcaaDoorName
import Derived.Test.YtaeejmggmgejcaaDoorListForm
namespace Go.Proofs.YtaeejmggmgejcaaDoor
open Go.RowKit

def shapeOK (x : Ent) : Bool :=
  if x.kind = 1 ∨ x.kind = 4 then x.uid == 0 && x.flags == 0 && x.to == [] && x.text == []
  else if x.kind = 2 then x.uid == 0 && x.to == []
  else if x.kind = 3 then x.to == [] && x.text == []
  else if x.kind = 5 then x.flags == 0 && x.text == []
  else x.box == [] && x.uid == 0 && x.flags == 0
/-- what Form answers -/
def formV (x : Ent) : Int :=
  if x.kind < 1 ∨ 6 < x.kind then 2
  else if shapeOK x = false then 3
  else if 31 < x.flags ∨ 1048576 < x.uid then 6
  else if 2000 < x.text.length then 1
  else if x.kind = 6 then (if oneL x.to = true ∧ x.to.length ≤ 100 then 0 else 3)
  else if nameCode x.box ≠ 0 then nameCode x.box
  else if x.kind = 5 then nameCode x.to else 0
/-- an entry as a value -/
def entV (x : Ent) : Value := .agg #[.int .i64 x.kind, .string ⟨x.box.toArray⟩, .int .i64 x.uid, .int .i64 x.flags, .string ⟨x.to.toArray⟩, .string ⟨x.text.toArray⟩]
theorem nameCode_cases (l : List UInt8) : nameCode l = 0 ∨ nameCode l = 1 ∨ nameCode l = 3 := by
  unfold nameCode
  split
  · exact .inr (.inl rfl)
  · split
    · exact .inl rfl
    · exact .inr (.inr rfl)
theorem name_list (l : List UInt8) (w : World) (h : l.length ≤ 100000) : Calls Tryd.prog 23 #[.string ⟨l.toArray⟩] w fun e w' => e = .returned (.int .i64 (nameCode l)) ∧ w = w' :=
  name_any ⟨l.toArray⟩ w (by show l.toArray.size ≤ _; simp; omega)


theorem form_kind (x : Ent) (h : ¬ (1 ≤ x.kind ∧ x.kind ≤ 6)) : formV x = 2 := by unfold formV; rw [if_pos (by omega)]
theorem form_shape (x : Ent) (h : 1 ≤ x.kind ∧ x.kind ≤ 6) (hs : shapeOK x = false) : formV x = 3 := by unfold formV; rw [if_neg (by omega), if_pos hs]
theorem form_range (x : Ent) (h : 1 ≤ x.kind ∧ x.kind ≤ 6) (hs : shapeOK x = true) (hr : 31 < x.flags ∨ 1048576 < x.uid) : formV x = 6 := by
  unfold formV; rw [if_neg (by omega), if_neg (by rw [hs]; decide), if_pos hr]
theorem form_size (x : Ent) (h : 1 ≤ x.kind ∧ x.kind ≤ 6) (hs : shapeOK x = true) (hr : ¬ (31 < x.flags ∨ 1048576 < x.uid)) (ht : 2000 < x.text.length) : formV x = 1 := by
  unfold formV; rw [if_neg (by omega), if_neg (by rw [hs]; decide), if_neg hr, if_pos ht]
theorem form_spool (x : Ent) (h : x.kind = 6) (hs : shapeOK x = true) (hr : ¬ (31 < x.flags ∨ 1048576 < x.uid)) (ht : ¬ 2000 < x.text.length) : formV x = if oneL x.to = true ∧ x.to.length ≤ 100 then 0 else 3 := by
  unfold formV; rw [if_neg (by omega), if_neg (by rw [hs]; decide), if_neg hr, if_neg ht, if_pos h]
theorem form_name (x : Ent) (h : 1 ≤ x.kind ∧ x.kind ≤ 5) (hs : shapeOK x = true) (hr : ¬ (31 < x.flags ∨ 1048576 < x.uid)) (ht : ¬ 2000 < x.text.length) (hn : nameCode x.box ≠ 0) : formV x = nameCode x.box := by
  unfold formV; rw [if_neg (by omega), if_neg (by rw [hs]; decide), if_neg hr, if_neg ht, if_neg (by omega), if_pos hn]
theorem form_last (x : Ent) (h : 1 ≤ x.kind ∧ x.kind ≤ 5) (hs : shapeOK x = true) (hr : ¬ (31 < x.flags ∨ 1048576 < x.uid)) (ht : ¬ 2000 < x.text.length) (hn : nameCode x.box = 0) : formV x = if x.kind = 5 then nameCode x.to else 0 := by
  unfold formV; rw [if_neg (by omega), if_neg (by rw [hs]; decide), if_neg hr, if_neg ht, if_neg (by omega), if_neg (by rw [hn]; decide)]
set_option maxHeartbeats 8000000 in
set_option maxRecDepth 20000 in
theorem form_any (x : Ent) (m : Int) (w : World) (h1 : x.kind < 1000000) (h2 : x.uid < 100000000) (h3 : x.flags < 1000000) (h4 : x.box.length ≤ 100000) (h5 : x.to.length ≤ 100000) (h6 : x.text.length ≤ 100000) (hm : w.cell? ⟨0, 0, none⟩ = some (.int .i64 m)) :
    Calls Tryd.prog 14 #[entV x] w fun e w' => e = .returned (.int .i64 (formV x)) ∧ Below w.heap.size w w' := by
  have HN : Hid (∀ (l : List UInt8) (w : World), l.length ≤ 100000 → Calls Tryd.prog 23 #[.string ⟨l.toArray⟩] w fun e w' => e = .returned (.int .i64 (nameCode l)) ∧ w = w') := name_list
  have HL : Hid (∀ (l : List UInt8) (w : World), l.length ≤ 100000 → w.cell? ⟨0, 0, none⟩ = some (.int .i64 m) → Calls Tryd.prog 22 #[.string ⟨l.toArray⟩] w fun e w' => (∃ v n c, e = .returned (.tuple #[v, .int .i64 c]) ∧ SliceOf v n ∧ (oneL l = true ↔ c = 0 ∧ n = 1)) ∧ Below w.heap.size w w') :=
    fun l w h hm => list_form ⟨l.toArray⟩ m w (by show l.toArray.size ≤ _; simp; omega) hm
  obtain ⟨kind, flags, uid, box, dest, text⟩ := x
  simp only at h1 h2 h3 h4 h5 h6
  have H4 := Lib.hid h4; have H5 := Lib.hid h5; have HM := Lib.hid hm
  have hbase : Hid (∀ o, Below w.heap.size w (w.alloc o)) := fun o => ba (Below.refl _ w) o
  clear hm
  by_cases hk1 : kind = 1
  · subst hk1
    show Calls Tryd.prog 14 #[.agg #[.int .i64 1, .string ⟨box.toArray⟩, .int .i64 uid, .int .i64 flags, .string ⟨dest.toArray⟩, .string ⟨text.toArray⟩]] w _
    go_enter Tryd.func14, Tryd.ntmps14
    go_wp2_with fail
    all_goals first
      | (go_ret; refine ⟨ret_int ?_, (by repeat (first | exact Below.refl _ _ | with_reducible refine ba ?_ _ | with_reducible refine Below.drew ?_ | with_reducible refine Below.setCell ?_ (by simp) _))⟩; first | exact (form_shape ⟨1, flags, uid, box, dest, text⟩ ⟨(by simp), (by simp)⟩ (by simp [shapeOK]; intros; first | assumption | contradiction)).symm | exact Eq.symm (form_range _ ⟨(by simp), (by simp)⟩ (by simp [shapeOK, *]) (by first | exact Or.inl (show 31 < flags by omega) | exact Or.inr (show 1048576 < uid by omega))) | exact (form_size ⟨1, flags, uid, box, dest, text⟩ ⟨(by simp), (by simp)⟩ (by simp [shapeOK, *]) (show ¬ (31 < flags ∨ 1048576 < uid) by omega) (show 2000 < text.length by omega)).symm)
      | skip
    refine (HN.out box _ H4.out).mono ?_
    rintro e w1 ⟨rfl, rfl⟩
    by_cases hn : nameCode box = 0
    · go_wp2_with fail
      go_ret
      refine ⟨ret_int ?_, (by repeat (first | exact Below.refl _ _ | with_reducible refine ba ?_ _ | with_reducible refine Below.drew ?_ | with_reducible refine Below.setCell ?_ (by simp) _))⟩
      exact (form_last ⟨1, flags, uid, box, dest, text⟩ ⟨(by simp), (by simp)⟩ (by simp [shapeOK, *]) (show ¬ (31 < flags ∨ 1048576 < uid) by omega) (show ¬ 2000 < text.length by first | omega | (have : text.length = 0 := by (rw [‹text = []›]; rfl)); omega) hn).symm
    · go_wp2_with fail
      go_ret
      refine ⟨ret_int ?_, (by repeat (first | exact Below.refl _ _ | with_reducible refine ba ?_ _ | with_reducible refine Below.drew ?_ | with_reducible refine Below.setCell ?_ (by simp) _))⟩
      exact (form_name ⟨1, flags, uid, box, dest, text⟩ ⟨(by simp), (by simp)⟩ (by simp [shapeOK, *]) (show ¬ (31 < flags ∨ 1048576 < uid) by omega) (show ¬ 2000 < text.length by first | omega | (have : text.length = 0 := by (rw [‹text = []›]; rfl)); omega) hn).symm
  by_cases hk2 : kind = 2
  · subst hk2
    show Calls Tryd.prog 14 #[.agg #[.int .i64 2, .string ⟨box.toArray⟩, .int .i64 uid, .int .i64 flags, .string ⟨dest.toArray⟩, .string ⟨text.toArray⟩]] w _
    go_enter Tryd.func14, Tryd.ntmps14
    go_wp2_with fail
    go_region
    all_goals go_wp2_with fail
    all_goals first
      | (go_ret; refine ⟨ret_int ?_, (by repeat (first | exact Below.refl _ _ | with_reducible refine ba ?_ _ | with_reducible refine Below.drew ?_ | with_reducible refine Below.setCell ?_ (by simp) _))⟩; first | exact (form_shape ⟨2, flags, uid, box, dest, text⟩ ⟨(by simp), (by simp)⟩ (by simp [shapeOK]; intros; first | assumption | contradiction)).symm | exact Eq.symm (form_range _ ⟨(by simp), (by simp)⟩ (by simp [shapeOK, *]) (by first | exact Or.inl (show 31 < flags by omega) | exact Or.inr (show 1048576 < uid by omega))) | exact (form_size ⟨2, flags, uid, box, dest, text⟩ ⟨(by simp), (by simp)⟩ (by simp [shapeOK, *]) (show ¬ (31 < flags ∨ 1048576 < uid) by omega) (show 2000 < text.length by omega)).symm)
      | skip
    refine (HN.out box _ H4.out).mono ?_
    rintro e w1 ⟨rfl, rfl⟩
    by_cases hn : nameCode box = 0
    · go_wp2_with fail
      go_ret
      refine ⟨ret_int ?_, (by repeat (first | exact Below.refl _ _ | with_reducible refine ba ?_ _ | with_reducible refine Below.drew ?_ | with_reducible refine Below.setCell ?_ (by simp) _))⟩
      exact (form_last ⟨2, flags, uid, box, dest, text⟩ ⟨(by simp), (by simp)⟩ (by simp [shapeOK, *]) (show ¬ (31 < flags ∨ 1048576 < uid) by omega) (show ¬ 2000 < text.length by first | omega | (have : text.length = 0 := by (rw [‹text = []›]; rfl)); omega) hn).symm
    · go_wp2_with fail
      go_ret
      refine ⟨ret_int ?_, (by repeat (first | exact Below.refl _ _ | with_reducible refine ba ?_ _ | with_reducible refine Below.drew ?_ | with_reducible refine Below.setCell ?_ (by simp) _))⟩
      exact (form_name ⟨2, flags, uid, box, dest, text⟩ ⟨(by simp), (by simp)⟩ (by simp [shapeOK, *]) (show ¬ (31 < flags ∨ 1048576 < uid) by omega) (show ¬ 2000 < text.length by first | omega | (have : text.length = 0 := by (rw [‹text = []›]; rfl)); omega) hn).symm
  by_cases hk3 : kind = 3
  · subst hk3
    show Calls Tryd.prog 14 #[.agg #[.int .i64 3, .string ⟨box.toArray⟩, .int .i64 uid, .int .i64 flags, .string ⟨dest.toArray⟩, .string ⟨text.toArray⟩]] w _
    go_enter Tryd.func14, Tryd.ntmps14
    go_wp2_with fail
    go_region
    all_goals go_wp2_with fail
    all_goals first
      | (go_ret; refine ⟨ret_int ?_, (by repeat (first | exact Below.refl _ _ | with_reducible refine ba ?_ _ | with_reducible refine Below.drew ?_ | with_reducible refine Below.setCell ?_ (by simp) _))⟩; first | exact (form_shape ⟨3, flags, uid, box, dest, text⟩ ⟨(by simp), (by simp)⟩ (by simp [shapeOK]; intros; first | assumption | contradiction)).symm | exact Eq.symm (form_range _ ⟨(by simp), (by simp)⟩ (by simp [shapeOK, *]) (by first | exact Or.inl (show 31 < flags by omega) | exact Or.inr (show 1048576 < uid by omega))) | exact (form_size ⟨3, flags, uid, box, dest, text⟩ ⟨(by simp), (by simp)⟩ (by simp [shapeOK, *]) (show ¬ (31 < flags ∨ 1048576 < uid) by omega) (show 2000 < text.length by omega)).symm)
      | skip
    refine (HN.out box _ H4.out).mono ?_
    rintro e w1 ⟨rfl, rfl⟩
    by_cases hn : nameCode box = 0
    · go_wp2_with fail
      go_ret
      refine ⟨ret_int ?_, (by repeat (first | exact Below.refl _ _ | with_reducible refine ba ?_ _ | with_reducible refine Below.drew ?_ | with_reducible refine Below.setCell ?_ (by simp) _))⟩
      exact (form_last ⟨3, flags, uid, box, dest, text⟩ ⟨(by simp), (by simp)⟩ (by simp [shapeOK, *]) (show ¬ (31 < flags ∨ 1048576 < uid) by omega) (show ¬ 2000 < text.length by first | omega | (have : text.length = 0 := by (rw [‹text = []›]; rfl)); omega) hn).symm
    · go_wp2_with fail
      go_ret
      refine ⟨ret_int ?_, (by repeat (first | exact Below.refl _ _ | with_reducible refine ba ?_ _ | with_reducible refine Below.drew ?_ | with_reducible refine Below.setCell ?_ (by simp) _))⟩
      exact (form_name ⟨3, flags, uid, box, dest, text⟩ ⟨(by simp), (by simp)⟩ (by simp [shapeOK, *]) (show ¬ (31 < flags ∨ 1048576 < uid) by omega) (show ¬ 2000 < text.length by first | omega | (have : text.length = 0 := by (rw [‹text = []›]; rfl)); omega) hn).symm
  by_cases hk4 : kind = 4
  · subst hk4
    show Calls Tryd.prog 14 #[.agg #[.int .i64 4, .string ⟨box.toArray⟩, .int .i64 uid, .int .i64 flags, .string ⟨dest.toArray⟩, .string ⟨text.toArray⟩]] w _
    go_enter Tryd.func14, Tryd.ntmps14
    go_wp2_with fail
    all_goals first
      | (go_ret; refine ⟨ret_int ?_, (by repeat (first | exact Below.refl _ _ | with_reducible refine ba ?_ _ | with_reducible refine Below.drew ?_ | with_reducible refine Below.setCell ?_ (by simp) _))⟩; first | exact (form_shape ⟨4, flags, uid, box, dest, text⟩ ⟨(by simp), (by simp)⟩ (by simp [shapeOK]; intros; first | assumption | contradiction)).symm | exact Eq.symm (form_range _ ⟨(by simp), (by simp)⟩ (by simp [shapeOK, *]) (by first | exact Or.inl (show 31 < flags by omega) | exact Or.inr (show 1048576 < uid by omega))) | exact (form_size ⟨4, flags, uid, box, dest, text⟩ ⟨(by simp), (by simp)⟩ (by simp [shapeOK, *]) (show ¬ (31 < flags ∨ 1048576 < uid) by omega) (show 2000 < text.length by omega)).symm)
      | skip
    refine (HN.out box _ H4.out).mono ?_
    rintro e w1 ⟨rfl, rfl⟩
    by_cases hn : nameCode box = 0
    · go_wp2_with fail
      go_ret
      refine ⟨ret_int ?_, (by repeat (first | exact Below.refl _ _ | with_reducible refine ba ?_ _ | with_reducible refine Below.drew ?_ | with_reducible refine Below.setCell ?_ (by simp) _))⟩
      exact (form_last ⟨4, flags, uid, box, dest, text⟩ ⟨(by simp), (by simp)⟩ (by simp [shapeOK, *]) (show ¬ (31 < flags ∨ 1048576 < uid) by omega) (show ¬ 2000 < text.length by first | omega | (have : text.length = 0 := by (rw [‹text = []›]; rfl)); omega) hn).symm
    · go_wp2_with fail
      go_ret
      refine ⟨ret_int ?_, (by repeat (first | exact Below.refl _ _ | with_reducible refine ba ?_ _ | with_reducible refine Below.drew ?_ | with_reducible refine Below.setCell ?_ (by simp) _))⟩
      exact (form_name ⟨4, flags, uid, box, dest, text⟩ ⟨(by simp), (by simp)⟩ (by simp [shapeOK, *]) (show ¬ (31 < flags ∨ 1048576 < uid) by omega) (show ¬ 2000 < text.length by first | omega | (have : text.length = 0 := by (rw [‹text = []›]; rfl)); omega) hn).symm
  by_cases hk5 : kind = 5
  · subst hk5
    show Calls Tryd.prog 14 #[.agg #[.int .i64 5, .string ⟨box.toArray⟩, .int .i64 uid, .int .i64 flags, .string ⟨dest.toArray⟩, .string ⟨text.toArray⟩]] w _
    go_enter Tryd.func14, Tryd.ntmps14
    go_wp2_with fail
    go_region
    all_goals go_wp2_with fail
    all_goals first
      | (go_ret; refine ⟨ret_int ?_, (by repeat (first | exact Below.refl _ _ | with_reducible refine ba ?_ _ | with_reducible refine Below.drew ?_ | with_reducible refine Below.setCell ?_ (by simp) _))⟩; first | exact (form_shape ⟨5, flags, uid, box, dest, text⟩ ⟨(by simp), (by simp)⟩ (by simp [shapeOK]; intros; first | assumption | contradiction)).symm | exact Eq.symm (form_range _ ⟨(by simp), (by simp)⟩ (by simp [shapeOK, *]) (by first | exact Or.inl (show 31 < flags by omega) | exact Or.inr (show 1048576 < uid by omega))) | exact (form_size ⟨5, flags, uid, box, dest, text⟩ ⟨(by simp), (by simp)⟩ (by simp [shapeOK, *]) (show ¬ (31 < flags ∨ 1048576 < uid) by omega) (show 2000 < text.length by omega)).symm)
      | skip
    refine (HN.out box _ H4.out).mono ?_
    rintro e w1 ⟨rfl, rfl⟩
    by_cases hn : nameCode box = 0
    · go_wp2_with fail
      refine (HN.out dest _ H5.out).mono ?_
      rintro e w1 ⟨rfl, rfl⟩
      go_wp2_with fail
      go_ret
      refine ⟨ret_int ?_, (by repeat (first | exact Below.refl _ _ | with_reducible refine ba ?_ _ | with_reducible refine Below.drew ?_ | with_reducible refine Below.setCell ?_ (by simp) _))⟩
      exact (form_last ⟨5, flags, uid, box, dest, text⟩ ⟨(by simp), (by simp)⟩ (by simp [shapeOK, *]) (show ¬ (31 < flags ∨ 1048576 < uid) by omega) (show ¬ 2000 < text.length by first | omega | (have : text.length = 0 := by (rw [‹text = []›]; rfl)); omega) hn).symm
    · go_wp2_with fail
      go_ret
      refine ⟨ret_int ?_, (by repeat (first | exact Below.refl _ _ | with_reducible refine ba ?_ _ | with_reducible refine Below.drew ?_ | with_reducible refine Below.setCell ?_ (by simp) _))⟩
      exact (form_name ⟨5, flags, uid, box, dest, text⟩ ⟨(by simp), (by simp)⟩ (by simp [shapeOK, *]) (show ¬ (31 < flags ∨ 1048576 < uid) by omega) (show ¬ 2000 < text.length by first | omega | (have : text.length = 0 := by (rw [‹text = []›]; rfl)); omega) hn).symm
  by_cases hk6 : kind = 6
  · subst hk6
    show Calls Tryd.prog 14 #[.agg #[.int .i64 6, .string ⟨box.toArray⟩, .int .i64 uid, .int .i64 flags, .string ⟨dest.toArray⟩, .string ⟨text.toArray⟩]] w _
    go_enter Tryd.func14, Tryd.ntmps14
    go_wp2_with fail
    go_region
    all_goals go_wp2_with fail
    all_goals first
      | (go_ret; refine ⟨ret_int ?_, (by repeat (first | exact Below.refl _ _ | with_reducible refine ba ?_ _ | with_reducible refine Below.drew ?_ | with_reducible refine Below.setCell ?_ (by simp) _))⟩; first | exact (form_shape ⟨6, flags, uid, box, dest, text⟩ ⟨(by simp), (by simp)⟩ (by simp [shapeOK]; intros; first | assumption | contradiction)).symm | exact Eq.symm (form_range _ ⟨(by simp), (by simp)⟩ (by simp [shapeOK, *]) (by first | exact Or.inl (show 31 < flags by omega) | exact Or.inr (show 1048576 < uid by omega))) | exact (form_size ⟨6, flags, uid, box, dest, text⟩ ⟨(by simp), (by simp)⟩ (by simp [shapeOK, *]) (show ¬ (31 < flags ∨ 1048576 < uid) by omega) (show 2000 < text.length by omega)).symm)
      | skip
    refine (HL.out dest _ H5.out (moved HM.out (by repeat (first | exact Below.refl _ _ | with_reducible refine ba ?_ _ | with_reducible refine Below.drew ?_ | with_reducible refine Below.setCell ?_ (by simp) _)) (Nat.le_refl _))).mono ?_
    rintro e w1 ⟨⟨v, n, c, rfl, ⟨a, cap, rfl⟩, hone⟩, hb⟩
    have HW : Hid (Below w.heap.size w w1) := bt (by repeat (first | exact Below.refl _ _ | with_reducible refine ba ?_ _ | with_reducible refine Below.drew ?_ | with_reducible refine Below.setCell ?_ (by simp) _)) hb
    have hq : Below (w.alloc (.cells #[.int .i64 6, .string ⟨#[]⟩, .int .i64 0, .int .i64 0, .string ⟨dest.toArray⟩, .string ⟨text.toArray⟩] 44)).heap.size (w.alloc (.cells #[.int .i64 6, .string ⟨#[]⟩, .int .i64 0, .int .i64 0, .string ⟨dest.toArray⟩, .string ⟨text.toArray⟩] 44)) w1 := bt (by repeat (first | exact Below.refl _ _ | with_reducible refine ba ?_ _ | with_reducible refine Below.drew ?_ | with_reducible refine Below.setCell ?_ (by simp) _)) hb
    have c4 := moved (alloc_cell w #[.int .i64 6, .string ⟨#[]⟩, .int .i64 0, .int .i64 0, .string ⟨dest.toArray⟩, .string ⟨text.toArray⟩] 44 4 _ rfl) hq (Nat.le_refl _)
    have hd1 : (⟨dest.toArray⟩ : ByteArray).size = dest.length := by simp [ByteArray.size]
    clear hq hb
    by_cases h100 : dest.length ≤ 100
    · by_cases hone1 : oneL dest = true
      · obtain ⟨rfl, rfl⟩ := hone.1 hone1
        clear hone
        go_wp2_with fail
        go_ret
        exact ⟨ret_int ((form_spool ⟨6, flags, uid, box, dest, text⟩ rfl (by simp [shapeOK, *]) (show ¬ (31 < flags ∨ 1048576 < uid) by omega) (show ¬ 2000 < text.length by first | omega | (have : text.length = 0 := by (rw [‹text = []›]; rfl)); omega)).trans (if_pos ⟨hone1, h100⟩)).symm, HW.out⟩
      · have hno : ¬ (c = 0 ∧ n = 1) := fun h => hone1 (hone.2 h)
        have hans := Lib.hid (((form_spool ⟨6, flags, uid, box, dest, text⟩ rfl (by simp [shapeOK, *]) (show ¬ (31 < flags ∨ 1048576 < uid) by omega) (show ¬ 2000 < text.length by first | omega | (have : text.length = 0 := by (rw [‹text = []›]; rfl)); omega)).trans (if_neg (fun h => hone1 h.1))).symm)
        clear hone
        by_cases hc : c = 0
        · have hn : ¬ n = 1 := fun h => hno ⟨hc, h⟩
          clear hno
          go_wp2_with fail
          go_ret
          exact ⟨ret_int hans.out, HW.out⟩
        · clear hno
          go_wp2_with fail
          go_ret
          exact ⟨ret_int hans.out, HW.out⟩
    · have hans := Lib.hid (((form_spool ⟨6, flags, uid, box, dest, text⟩ rfl (by simp [shapeOK, *]) (show ¬ (31 < flags ∨ 1048576 < uid) by omega) (show ¬ 2000 < text.length by first | omega | (have : text.length = 0 := by (rw [‹text = []›]; rfl)); omega)).trans (if_neg (fun h => h100 h.2))).symm)
      clear hone
      go_wp2_with fail
      all_goals
        go_ret
        exact ⟨ret_int hans.out, HW.out⟩
  · show Calls Tryd.prog 14 #[.agg #[.int .i64 kind, .string ⟨box.toArray⟩, .int .i64 uid, .int .i64 flags, .string ⟨dest.toArray⟩, .string ⟨text.toArray⟩]] w _
    go_enter Tryd.func14, Tryd.ntmps14
    go_wp2_with fail
    go_ret
    exact ⟨ret_int (form_kind _ (by show ¬ (1 ≤ kind ∧ kind ≤ 6); omega)).symm, (by repeat (first | exact Below.refl _ _ | with_reducible refine ba ?_ _ | with_reducible refine Below.drew ?_ | with_reducible refine Below.setCell ?_ (by simp) _))⟩
end Go.Proofs.YtaeejmggmgejcaaDoor
