/- On the way. -/
import Derived.Test.YtpfbkdbblpppdaaGreatDoorEBatchPlain
import Derived.Test.YtpfbkdbblpppdaaGreatDoorEName
import Derived.Test.YtpfbkdbblpppdaaGreatDoorEListForm
import Derived.Test.YtpfbkdbblpppdaaGreatDoorECod
import Derived.Test.YtpfbkdbblpppdaaGreatDoorEKtA
import Derived.Lib.SliceRun
import Derived.Deep.DeepCutAuto
import Derived.Deep.RegionHeld3
set_option linter.unusedVariables false
set_option linter.unusedSimpArgs false
set_option maxHeartbeats 8000000
set_option maxRecDepth 20000
namespace Go.Proofs.YtpfbkdbblpppdaaGreatDoor
open Go.RowKit
def shapeOK (x : Ent) : Bool :=
 if x.kind = 1 ∨ x.kind = 4 then x.uid == 0 && x.flags == 0 && x.to == [] && x.text == []
 else if x.kind = 2 then x.uid == 0 && x.to == []
 else if x.kind = 3 then x.to == [] && x.text == []
 else if x.kind = 5 then x.flags == 0 && x.text == []
 else x.box == [] && x.uid == 0 && x.flags == 0
def formV (x : Ent) : Int :=
 if x.kind < 1 ∨ 6 < x.kind then 2
 else if shapeOK x = false then 3
 else if 31 < x.flags ∨ 1048576 < x.uid then 6
 else if 2000 < x.text.length then 1
 else if x.kind = 6 then (if oneL x.to = true ∧ x.to.length ≤ 100 then 0 else 3)
 else if nameCode x.box ≠ 0 then nameCode x.box
 else if x.kind = 5 then nameCode x.to else 0
def entV (x : Ent) : Value := .agg #[.int .i64 x.kind, .string ⟨x.box.toArray⟩, .int .i64 x.uid, .int .i64 x.flags, .string ⟨x.to.toArray⟩, .string ⟨x.text.toArray⟩]
theorem name_list (l : List UInt8) (w : World) (h : l.length ≤ 100000) : Calls Tryz.prog 90 #[.string ⟨l.toArray⟩] w fun e w' => e = .returned (.int .i64 (nameCode l)) ∧ w = w' :=
 rname_any ⟨l.toArray⟩ w (by show l.toArray.size ≤ _; simp; omega)
theorem form_kind (x : Ent) (h : ¬ (1 ≤ x.kind ∧ x.kind ≤ 6)) : formV x = 2 := by unfold formV; rw [if_pos (by omega)]
theorem form_shape (x : Ent) (h : 1 ≤ x.kind ∧ x.kind ≤ 6) (hs : shapeOK x = false) : formV x = 3 := by unfold formV; rw [if_neg (by omega), if_pos hs]
theorem form_range (x : Ent) (h : 1 ≤ x.kind ∧ x.kind ≤ 6) (hs : shapeOK x = true) (hr : 31 < x.flags ∨ 1048576 < x.uid) : formV x = 6 := by
 unfold formV; rw [if_neg (by omega), if_neg (by rw [hs]; decide), if_pos hr]
theorem form_size (x : Ent) (h : 1 ≤ x.kind ∧ x.kind ≤ 6) (hs : shapeOK x = true) (hr : ¬ (31 < x.flags ∨ 1048576 < x.uid)) (ht : 2000 < x.text.length) : formV x = 1 := by
 unfold formV; rw [if_neg (by omega), if_neg (by rw [hs]; decide), if_neg hr, if_pos ht]
theorem form_spool (x : Ent) (h : x.kind = 6) (hs : shapeOK x = true) (hr : ¬ (31 < x.flags ∨ 1048576 < x.uid)) (ht : ¬ 2000 < x.text.length) : formV x = if oneL x.to = true ∧ x.to.length ≤ 100 then 0 else 3 := by
 unfold formV; rw [if_neg (by omega), if_neg (by rw [hs]; decide), if_neg hr, if_neg ht, if_pos h]
theorem form_name (x : Ent) (h : 1 ≤ x.kind ∧ x.kind ≤ 5) (hs : shapeOK x = true) (hr : ¬ (31 < x.flags ∨ 1048576 < x.uid)) (ht : ¬ 2000 < x.text.length) (hn : nameCode x.box ≠ 0) : formV x = nameCode x.box := by
 unfold formV; rw [if_neg (by omega), if_neg (by rw [hs]; decide), if_neg hr, if_neg ht, if_neg (by omega), if_pos hn]
theorem form_last (x : Ent) (h : 1 ≤ x.kind ∧ x.kind ≤ 5) (hs : shapeOK x = true) (hr : ¬ (31 < x.flags ∨ 1048576 < x.uid)) (ht : ¬ 2000 < x.text.length) (hn : nameCode x.box = 0) : formV x = if x.kind = 5 then nameCode x.to else 0 := by
 unfold formV; rw [if_neg (by omega), if_neg (by rw [hs]; decide), if_neg hr, if_neg ht, if_neg (by omega), if_neg (by rw [hn]; decide)]
theorem form_any (x : Ent) (m : Int) (w : World) (h1 : x.kind < 1000000) (h2 : x.uid < 100000000) (h3 : x.flags < 1000000) (h4 : x.box.length ≤ 100000) (h5 : x.to.length ≤ 100000) (h6 : x.text.length ≤ 100000) (hm : w.cell? ⟨6, 0, none⟩ = some (.int .i64 m)) :
    Calls Tryz.prog 54 #[entV x] w fun e w' => e = .returned (.int .i64 (formV x)) ∧ Below w.heap.size w w' := by
 have HN : Hid (∀ (l : List UInt8) (w : World), l.length ≤ 100000 → Calls Tryz.prog 90 #[.string ⟨l.toArray⟩] w fun e w' => e = .returned (.int .i64 (nameCode l)) ∧ w = w') := name_list
 have HL : Hid (∀ (l : List UInt8) (w : World), l.length ≤ 100000 → w.cell? ⟨6, 0, none⟩ = some (.int .i64 m) → Calls Tryz.prog 89 #[.string ⟨l.toArray⟩] w fun e w' => (∃ v n c, e = .returned (.tuple #[v, .int .i64 c]) ∧ SliceOf v n ∧ (oneL l = true ↔ c = 0 ∧ n = 1)) ∧ Below w.heap.size w w') :=
  fun l w h hm => list_form ⟨l.toArray⟩ m w (by show l.toArray.size ≤ _; simp; omega) hm
 obtain ⟨kind, flags, uid, box, dest, text⟩ := x
 simp only at h1 h2 h3 h4 h5 h6
 have H4 := Lib.hid h4; have H5 := Lib.hid h5; have HM := Lib.hid hm
 have hbase : Hid (∀ o, Below w.heap.size w (w.alloc o)) := fun o => ba (Below.refl _ w) o
 clear hm
 by_cases hk1 : kind = 1
 ·subst hk1
  show Calls Tryz.prog 54 #[.agg #[.int .i64 1, .string ⟨box.toArray⟩, .int .i64 uid, .int .i64 flags, .string ⟨dest.toArray⟩, .string ⟨text.toArray⟩]] w _
  go_enter Tryz.func54, Tryz.ntmps54
  go_wp2_with fail
  all_goals first
   | (go_ret; refine ⟨ret_int ?_, (by repeat (first | exact Below.refl _ _ | with_reducible refine ba ?_ _ | with_reducible refine Below.drew ?_ | with_reducible refine Below.setCell ?_ (by simp) _))⟩; first | exact (form_shape ⟨1, flags, uid, box, dest, text⟩ ⟨(by simp), (by simp)⟩ (by simp [shapeOK]; intros; first | assumption | contradiction)).symm | exact Eq.symm (form_range _ ⟨(by simp), (by simp)⟩ (by simp [shapeOK, *]) (by first | exact Or.inl (show 31 < flags by omega) | exact Or.inr (show 1048576 < uid by omega))) | exact (form_size ⟨1, flags, uid, box, dest, text⟩ ⟨(by simp), (by simp)⟩ (by simp [shapeOK, *]) (show ¬ (31 < flags ∨ 1048576 < uid) by omega) (show 2000 < text.length by omega)).symm)
   | skip
  refine (HN.out box _ H4.out).mono ?_
  rintro e w1 ⟨rfl, rfl⟩
  by_cases hn : nameCode box = 0
  ·go_wp2_with fail
   go_ret
   refine ⟨ret_int ?_, (by repeat (first | exact Below.refl _ _ | with_reducible refine ba ?_ _ | with_reducible refine Below.drew ?_ | with_reducible refine Below.setCell ?_ (by simp) _))⟩
   exact (form_last ⟨1, flags, uid, box, dest, text⟩ ⟨(by simp), (by simp)⟩ (by simp [shapeOK, *]) (show ¬ (31 < flags ∨ 1048576 < uid) by omega) (show ¬ 2000 < text.length by first | omega | (have : text.length = 0 := by (rw [‹text = []›]; rfl)); omega) hn).symm
  ·go_wp2_with fail
   go_ret
   refine ⟨ret_int ?_, (by repeat (first | exact Below.refl _ _ | with_reducible refine ba ?_ _ | with_reducible refine Below.drew ?_ | with_reducible refine Below.setCell ?_ (by simp) _))⟩
   exact (form_name ⟨1, flags, uid, box, dest, text⟩ ⟨(by simp), (by simp)⟩ (by simp [shapeOK, *]) (show ¬ (31 < flags ∨ 1048576 < uid) by omega) (show ¬ 2000 < text.length by first | omega | (have : text.length = 0 := by (rw [‹text = []›]; rfl)); omega) hn).symm
 by_cases hk2 : kind = 2
 ·subst hk2
  show Calls Tryz.prog 54 #[.agg #[.int .i64 2, .string ⟨box.toArray⟩, .int .i64 uid, .int .i64 flags, .string ⟨dest.toArray⟩, .string ⟨text.toArray⟩]] w _
  go_enter Tryz.func54, Tryz.ntmps54
  go_wp2_with fail
  go_region
  all_goals go_wp2_with fail
  all_goals first
   | (go_ret; refine ⟨ret_int ?_, (by repeat (first | exact Below.refl _ _ | with_reducible refine ba ?_ _ | with_reducible refine Below.drew ?_ | with_reducible refine Below.setCell ?_ (by simp) _))⟩; first | exact (form_shape ⟨2, flags, uid, box, dest, text⟩ ⟨(by simp), (by simp)⟩ (by simp [shapeOK]; intros; first | assumption | contradiction)).symm | exact Eq.symm (form_range _ ⟨(by simp), (by simp)⟩ (by simp [shapeOK, *]) (by first | exact Or.inl (show 31 < flags by omega) | exact Or.inr (show 1048576 < uid by omega))) | exact (form_size ⟨2, flags, uid, box, dest, text⟩ ⟨(by simp), (by simp)⟩ (by simp [shapeOK, *]) (show ¬ (31 < flags ∨ 1048576 < uid) by omega) (show 2000 < text.length by omega)).symm)
   | skip
  refine (HN.out box _ H4.out).mono ?_
  rintro e w1 ⟨rfl, rfl⟩
  by_cases hn : nameCode box = 0
  ·go_wp2_with fail
   go_ret
   refine ⟨ret_int ?_, (by repeat (first | exact Below.refl _ _ | with_reducible refine ba ?_ _ | with_reducible refine Below.drew ?_ | with_reducible refine Below.setCell ?_ (by simp) _))⟩
   exact (form_last ⟨2, flags, uid, box, dest, text⟩ ⟨(by simp), (by simp)⟩ (by simp [shapeOK, *]) (show ¬ (31 < flags ∨ 1048576 < uid) by omega) (show ¬ 2000 < text.length by first | omega | (have : text.length = 0 := by (rw [‹text = []›]; rfl)); omega) hn).symm
  ·go_wp2_with fail
   go_ret
   refine ⟨ret_int ?_, (by repeat (first | exact Below.refl _ _ | with_reducible refine ba ?_ _ | with_reducible refine Below.drew ?_ | with_reducible refine Below.setCell ?_ (by simp) _))⟩
   exact (form_name ⟨2, flags, uid, box, dest, text⟩ ⟨(by simp), (by simp)⟩ (by simp [shapeOK, *]) (show ¬ (31 < flags ∨ 1048576 < uid) by omega) (show ¬ 2000 < text.length by first | omega | (have : text.length = 0 := by (rw [‹text = []›]; rfl)); omega) hn).symm
 by_cases hk3 : kind = 3
 ·subst hk3
  show Calls Tryz.prog 54 #[.agg #[.int .i64 3, .string ⟨box.toArray⟩, .int .i64 uid, .int .i64 flags, .string ⟨dest.toArray⟩, .string ⟨text.toArray⟩]] w _
  go_enter Tryz.func54, Tryz.ntmps54
  go_wp2_with fail
  go_region
  all_goals go_wp2_with fail
  all_goals first
   | (go_ret; refine ⟨ret_int ?_, (by repeat (first | exact Below.refl _ _ | with_reducible refine ba ?_ _ | with_reducible refine Below.drew ?_ | with_reducible refine Below.setCell ?_ (by simp) _))⟩; first | exact (form_shape ⟨3, flags, uid, box, dest, text⟩ ⟨(by simp), (by simp)⟩ (by simp [shapeOK]; intros; first | assumption | contradiction)).symm | exact Eq.symm (form_range _ ⟨(by simp), (by simp)⟩ (by simp [shapeOK, *]) (by first | exact Or.inl (show 31 < flags by omega) | exact Or.inr (show 1048576 < uid by omega))) | exact (form_size ⟨3, flags, uid, box, dest, text⟩ ⟨(by simp), (by simp)⟩ (by simp [shapeOK, *]) (show ¬ (31 < flags ∨ 1048576 < uid) by omega) (show 2000 < text.length by omega)).symm)
   | skip
  refine (HN.out box _ H4.out).mono ?_
  rintro e w1 ⟨rfl, rfl⟩
  by_cases hn : nameCode box = 0
  ·go_wp2_with fail
   go_ret
   refine ⟨ret_int ?_, (by repeat (first | exact Below.refl _ _ | with_reducible refine ba ?_ _ | with_reducible refine Below.drew ?_ | with_reducible refine Below.setCell ?_ (by simp) _))⟩
   exact (form_last ⟨3, flags, uid, box, dest, text⟩ ⟨(by simp), (by simp)⟩ (by simp [shapeOK, *]) (show ¬ (31 < flags ∨ 1048576 < uid) by omega) (show ¬ 2000 < text.length by first | omega | (have : text.length = 0 := by (rw [‹text = []›]; rfl)); omega) hn).symm
  ·go_wp2_with fail
   go_ret
   refine ⟨ret_int ?_, (by repeat (first | exact Below.refl _ _ | with_reducible refine ba ?_ _ | with_reducible refine Below.drew ?_ | with_reducible refine Below.setCell ?_ (by simp) _))⟩
   exact (form_name ⟨3, flags, uid, box, dest, text⟩ ⟨(by simp), (by simp)⟩ (by simp [shapeOK, *]) (show ¬ (31 < flags ∨ 1048576 < uid) by omega) (show ¬ 2000 < text.length by first | omega | (have : text.length = 0 := by (rw [‹text = []›]; rfl)); omega) hn).symm
 by_cases hk4 : kind = 4
 ·subst hk4
  show Calls Tryz.prog 54 #[.agg #[.int .i64 4, .string ⟨box.toArray⟩, .int .i64 uid, .int .i64 flags, .string ⟨dest.toArray⟩, .string ⟨text.toArray⟩]] w _
  go_enter Tryz.func54, Tryz.ntmps54
  go_wp2_with fail
  all_goals first
   | (go_ret; refine ⟨ret_int ?_, (by repeat (first | exact Below.refl _ _ | with_reducible refine ba ?_ _ | with_reducible refine Below.drew ?_ | with_reducible refine Below.setCell ?_ (by simp) _))⟩; first | exact (form_shape ⟨4, flags, uid, box, dest, text⟩ ⟨(by simp), (by simp)⟩ (by simp [shapeOK]; intros; first | assumption | contradiction)).symm | exact Eq.symm (form_range _ ⟨(by simp), (by simp)⟩ (by simp [shapeOK, *]) (by first | exact Or.inl (show 31 < flags by omega) | exact Or.inr (show 1048576 < uid by omega))) | exact (form_size ⟨4, flags, uid, box, dest, text⟩ ⟨(by simp), (by simp)⟩ (by simp [shapeOK, *]) (show ¬ (31 < flags ∨ 1048576 < uid) by omega) (show 2000 < text.length by omega)).symm)
   | skip
  refine (HN.out box _ H4.out).mono ?_
  rintro e w1 ⟨rfl, rfl⟩
  by_cases hn : nameCode box = 0
  ·go_wp2_with fail
   go_ret
   refine ⟨ret_int ?_, (by repeat (first | exact Below.refl _ _ | with_reducible refine ba ?_ _ | with_reducible refine Below.drew ?_ | with_reducible refine Below.setCell ?_ (by simp) _))⟩
   exact (form_last ⟨4, flags, uid, box, dest, text⟩ ⟨(by simp), (by simp)⟩ (by simp [shapeOK, *]) (show ¬ (31 < flags ∨ 1048576 < uid) by omega) (show ¬ 2000 < text.length by first | omega | (have : text.length = 0 := by (rw [‹text = []›]; rfl)); omega) hn).symm
  ·go_wp2_with fail
   go_ret
   refine ⟨ret_int ?_, (by repeat (first | exact Below.refl _ _ | with_reducible refine ba ?_ _ | with_reducible refine Below.drew ?_ | with_reducible refine Below.setCell ?_ (by simp) _))⟩
   exact (form_name ⟨4, flags, uid, box, dest, text⟩ ⟨(by simp), (by simp)⟩ (by simp [shapeOK, *]) (show ¬ (31 < flags ∨ 1048576 < uid) by omega) (show ¬ 2000 < text.length by first | omega | (have : text.length = 0 := by (rw [‹text = []›]; rfl)); omega) hn).symm
 by_cases hk5 : kind = 5
 ·subst hk5
  show Calls Tryz.prog 54 #[.agg #[.int .i64 5, .string ⟨box.toArray⟩, .int .i64 uid, .int .i64 flags, .string ⟨dest.toArray⟩, .string ⟨text.toArray⟩]] w _
  go_enter Tryz.func54, Tryz.ntmps54
  go_wp2_with fail
  go_region
  all_goals go_wp2_with fail
  all_goals first
   | (go_ret; refine ⟨ret_int ?_, (by repeat (first | exact Below.refl _ _ | with_reducible refine ba ?_ _ | with_reducible refine Below.drew ?_ | with_reducible refine Below.setCell ?_ (by simp) _))⟩; first | exact (form_shape ⟨5, flags, uid, box, dest, text⟩ ⟨(by simp), (by simp)⟩ (by simp [shapeOK]; intros; first | assumption | contradiction)).symm | exact Eq.symm (form_range _ ⟨(by simp), (by simp)⟩ (by simp [shapeOK, *]) (by first | exact Or.inl (show 31 < flags by omega) | exact Or.inr (show 1048576 < uid by omega))) | exact (form_size ⟨5, flags, uid, box, dest, text⟩ ⟨(by simp), (by simp)⟩ (by simp [shapeOK, *]) (show ¬ (31 < flags ∨ 1048576 < uid) by omega) (show 2000 < text.length by omega)).symm)
   | skip
  refine (HN.out box _ H4.out).mono ?_
  rintro e w1 ⟨rfl, rfl⟩
  by_cases hn : nameCode box = 0
  ·go_wp2_with fail
   refine (HN.out dest _ H5.out).mono ?_
   rintro e w1 ⟨rfl, rfl⟩
   go_wp2_with fail
   go_ret
   refine ⟨ret_int ?_, (by repeat (first | exact Below.refl _ _ | with_reducible refine ba ?_ _ | with_reducible refine Below.drew ?_ | with_reducible refine Below.setCell ?_ (by simp) _))⟩
   exact (form_last ⟨5, flags, uid, box, dest, text⟩ ⟨(by simp), (by simp)⟩ (by simp [shapeOK, *]) (show ¬ (31 < flags ∨ 1048576 < uid) by omega) (show ¬ 2000 < text.length by first | omega | (have : text.length = 0 := by (rw [‹text = []›]; rfl)); omega) hn).symm
  ·go_wp2_with fail
   go_ret
   refine ⟨ret_int ?_, (by repeat (first | exact Below.refl _ _ | with_reducible refine ba ?_ _ | with_reducible refine Below.drew ?_ | with_reducible refine Below.setCell ?_ (by simp) _))⟩
   exact (form_name ⟨5, flags, uid, box, dest, text⟩ ⟨(by simp), (by simp)⟩ (by simp [shapeOK, *]) (show ¬ (31 < flags ∨ 1048576 < uid) by omega) (show ¬ 2000 < text.length by first | omega | (have : text.length = 0 := by (rw [‹text = []›]; rfl)); omega) hn).symm
 by_cases hk6 : kind = 6
 ·subst hk6
  show Calls Tryz.prog 54 #[.agg #[.int .i64 6, .string ⟨box.toArray⟩, .int .i64 uid, .int .i64 flags, .string ⟨dest.toArray⟩, .string ⟨text.toArray⟩]] w _
  go_enter Tryz.func54, Tryz.ntmps54
  go_wp2_with fail
  go_region
  all_goals go_wp2_with fail
  all_goals first
   | (go_ret; refine ⟨ret_int ?_, (by repeat (first | exact Below.refl _ _ | with_reducible refine ba ?_ _ | with_reducible refine Below.drew ?_ | with_reducible refine Below.setCell ?_ (by simp) _))⟩; first | exact (form_shape ⟨6, flags, uid, box, dest, text⟩ ⟨(by simp), (by simp)⟩ (by simp [shapeOK]; intros; first | assumption | contradiction)).symm | exact Eq.symm (form_range _ ⟨(by simp), (by simp)⟩ (by simp [shapeOK, *]) (by first | exact Or.inl (show 31 < flags by omega) | exact Or.inr (show 1048576 < uid by omega))) | exact (form_size ⟨6, flags, uid, box, dest, text⟩ ⟨(by simp), (by simp)⟩ (by simp [shapeOK, *]) (show ¬ (31 < flags ∨ 1048576 < uid) by omega) (show 2000 < text.length by omega)).symm)
   | skip
  refine (HL.out dest _ H5.out (moved HM.out (by repeat (first | exact Below.refl _ _ | with_reducible refine ba ?_ _ | with_reducible refine Below.drew ?_ | with_reducible refine Below.setCell ?_ (by simp) _)) (Nat.le_refl _))).mono ?_
  rintro e w1 ⟨⟨v, n, c, rfl, ⟨a, cap, rfl⟩, hone⟩, hb⟩
  have HW : Hid (Below w.heap.size w w1) := bt (by repeat (first | exact Below.refl _ _ | with_reducible refine ba ?_ _ | with_reducible refine Below.drew ?_ | with_reducible refine Below.setCell ?_ (by simp) _)) hb
  have hq : Below (w.alloc (.cells #[.int .i64 6, .string ⟨#[]⟩, .int .i64 0, .int .i64 0, .string ⟨dest.toArray⟩, .string ⟨text.toArray⟩] 80)).heap.size (w.alloc (.cells #[.int .i64 6, .string ⟨#[]⟩, .int .i64 0, .int .i64 0, .string ⟨dest.toArray⟩, .string ⟨text.toArray⟩] 80)) w1 := bt (by repeat (first | exact Below.refl _ _ | with_reducible refine ba ?_ _ | with_reducible refine Below.drew ?_ | with_reducible refine Below.setCell ?_ (by simp) _)) hb
  have c4 := moved (alloc_cell w #[.int .i64 6, .string ⟨#[]⟩, .int .i64 0, .int .i64 0, .string ⟨dest.toArray⟩, .string ⟨text.toArray⟩] 80 4 _ rfl) hq (Nat.le_refl _)
  have hd1 : (⟨dest.toArray⟩ : ByteArray).size = dest.length := by simp [ByteArray.size]
  clear hq hb
  by_cases h100 : dest.length ≤ 100
  ·by_cases hone1 : oneL dest = true
   ·obtain ⟨rfl, rfl⟩ := hone.1 hone1
    clear hone
    go_wp2_with fail
    go_ret
    exact ⟨ret_int ((form_spool ⟨6, flags, uid, box, dest, text⟩ rfl (by simp [shapeOK, *]) (show ¬ (31 < flags ∨ 1048576 < uid) by omega) (show ¬ 2000 < text.length by first | omega | (have : text.length = 0 := by (rw [‹text = []›]; rfl)); omega)).trans (if_pos ⟨hone1, h100⟩)).symm, HW.out⟩
   ·have hno : ¬ (c = 0 ∧ n = 1) := fun h => hone1 (hone.2 h)
    have hans := Lib.hid (((form_spool ⟨6, flags, uid, box, dest, text⟩ rfl (by simp [shapeOK, *]) (show ¬ (31 < flags ∨ 1048576 < uid) by omega) (show ¬ 2000 < text.length by first | omega | (have : text.length = 0 := by (rw [‹text = []›]; rfl)); omega)).trans (if_neg (fun h => hone1 h.1))).symm)
    clear hone
    by_cases hc : c = 0
    ·have hn : ¬ n = 1 := fun h => hno ⟨hc, h⟩
     clear hno
     go_wp2_with fail
     go_ret
     exact ⟨ret_int hans.out, HW.out⟩
    ·clear hno
     go_wp2_with fail
     go_ret
     exact ⟨ret_int hans.out, HW.out⟩
  ·have hans := Lib.hid (((form_spool ⟨6, flags, uid, box, dest, text⟩ rfl (by simp [shapeOK, *]) (show ¬ (31 < flags ∨ 1048576 < uid) by omega) (show ¬ 2000 < text.length by first | omega | (have : text.length = 0 := by (rw [‹text = []›]; rfl)); omega)).trans (if_neg (fun h => h100 h.2))).symm)
   clear hone
   go_wp2_with fail
   all_goals
    go_ret
    exact ⟨ret_int hans.out, HW.out⟩
 ·show Calls Tryz.prog 54 #[.agg #[.int .i64 kind, .string ⟨box.toArray⟩, .int .i64 uid, .int .i64 flags, .string ⟨dest.toArray⟩, .string ⟨text.toArray⟩]] w _
  go_enter Tryz.func54, Tryz.ntmps54
  go_wp2_with fail
  go_ret
  exact ⟨ret_int (form_kind _ (by show ¬ (1 ≤ kind ∧ kind ≤ 6); omega)).symm, (by repeat (first | exact Below.refl _ _ | with_reducible refine ba ?_ _ | with_reducible refine Below.drew ?_ | with_reducible refine Below.setCell ?_ (by simp) _))⟩
end Go.Proofs.YtpfbkdbblpppdaaGreatDoor
namespace Go.Proofs.YtpfbkdbblpppdaaGreatDoor
structure Mail where
 (uid flags : Nat) (text : List UInt8)
structure Bx where
 name : List UInt8
 next : Nat
 mails : List Mail
structure St where
 boxes : List Bx
 spool : List Ent
def MailsOK (next : Nat) : Nat → List Mail → Prop
 | _, [] => True
 | last, m :: l => last < m.uid ∧ m.uid < next ∧ m.flags ≤ 31 ∧ m.text.length ≤ 2000 ∧ MailsOK next m.uid l
def BoxOK (b : Bx) : Prop := nameCode b.name = 0 ∧ 1 ≤ b.next ∧ b.next ≤ 1048577 ∧ b.mails.length ≤ 30 ∧ MailsOK b.next 0 b.mails
def sumM (l : List Mail) : Nat := (l.map fun m => m.text.length).sum
def sumB (l : List Bx) : Nat := (l.map fun b => sumM b.mails).sum
structure GoodS (s : St) : Prop where
 boxes : s.boxes.length ≤ 5
 spool : s.spool.length ≤ 20
 ok : ∀ b ∈ s.boxes, BoxOK b
 names : s.boxes.Pairwise fun a b => a.name ≠ b.name
 out : ∀ x ∈ s.spool, x.kind = 6 ∧ formV x = 0
 room : sumB s.boxes ≤ 6000
def findB (l : List Bx) (name : List UInt8) : Option Nat := l.findIdx? fun b => b.name == name
def idx : Option Nat → Int
 | none => -1
 | some i => i
theorem findB_some {l : List Bx} {name : List UInt8} {i : Nat} (h : findB l name = some i) : ∃ hi : i < l.length, l[i].name = name := by
 unfold findB at h
 rw [List.findIdx?_eq_some_iff_getElem] at h
 obtain ⟨hi, h1, _⟩ := h
 exact ⟨hi, by simpa using h1⟩
theorem findB_none {l : List Bx} {name : List UInt8} (h : findB l name = none) : ∀ b ∈ l, b.name ≠ name := by
 unfold findB at h
 rw [List.findIdx?_eq_none_iff] at h
 intro b hb
 simpa using h b hb
def addS (s : St) (i : Nat) (flags : Nat) (text : List UInt8) : Option St :=
 match s.boxes[i]? with
 | none => none
 | some b => if b.mails.length = 30 ∨ 1048576 < b.next ∨ 6000 < sumB s.boxes + text.length then none
  else some ⟨s.boxes.set i ⟨b.name, b.next + 1, b.mails ++ [⟨b.next, flags, text⟩]⟩, s.spool⟩
def applyS (s : St) (x : Ent) : St × Int :=
 if x.kind = 6 then (if s.spool.length = 20 then (s, 5) else (⟨s.boxes, s.spool ++ [x]⟩, 0))
 else match findB s.boxes x.box with
  | none => if x.kind = 1 then (if s.boxes.length = 5 then (s, 5) else (⟨s.boxes ++ [⟨x.box, 1, []⟩], s.spool⟩, 0)) else (s, 7)
  | some i =>
   if x.kind = 1 then (s, 10)
   else if x.kind = 2 then (match addS s i x.flags x.text with | some t => (t, 0) | none => (s, 5))
   else match s.boxes[i]? with
    | none => (s, 7)
    | some b =>
     if x.kind = 4 then (⟨s.boxes.set i ⟨b.name, b.next, b.mails.filter fun m => m.flags &&& 8 == 0⟩, s.spool⟩, 0)
     else match b.mails.findIdx? fun m => m.uid == x.uid with
      | none => (s, 7)
      | some k => match b.mails[k]? with
       | none => (s, 7)
       | some m =>
        if x.kind = 3 then (⟨s.boxes.set i ⟨b.name, b.next, b.mails.set k ⟨m.uid, x.flags, m.text⟩⟩, s.spool⟩, 0)
        else match findB s.boxes x.to with
         | none => (s, 7)
         | some j => match addS s j m.flags m.text with | some t => (t, 0) | none => (s, 5)
def allS : St → List Ent → St × Int
 | s, [] => (s, 0)
 | s, x :: l => if formV x ≠ 0 then (s, formV x) else if (applyS s x).2 ≠ 0 then (s, (applyS s x).2) else allS (applyS s x).1 l
end Go.Proofs.YtpfbkdbblpppdaaGreatDoor
namespace Go.Proofs.YtpfbkdbblpppdaaGreatDoor
open Go.RowKit
def entC (x : Ent) : List Value := [.int .i64 x.kind, .string ⟨x.box.toArray⟩, .int .i64 x.uid, .int .i64 x.flags, .string ⟨x.to.toArray⟩, .string ⟨x.text.toArray⟩]
structure Raw where
 (kind box uid flags dest : Int) (text : ByteArray)
def boxNames : List (List UInt8) := [[73, 78, 66, 79, 88], [119, 111, 114, 107], [106, 117, 110, 107], [97], [98], [99]]
def boxL (n : Int) : List UInt8 := boxNames.getD (pick n (6 : Nat)) []
def entOf (c : Raw) : Ent :=
 let k := 1 + pick c.kind (6 : Nat)
 ⟨k, if k = 2 ∨ k = 3 then pick c.flags (32 : Nat) else 0, if k = 3 ∨ k = 5 then 1 + pick c.uid (8 : Nat) else 0, if k ≠ 6 then boxL c.box else [],
  if k = 5 then boxL c.dest else if k = 6 then [97, 64, 98, 46, 99] else [], if k = 2 then c.text.data.toList.take 300 else if k = 6 then c.text.data.toList.take 100 else []⟩
theorem boxL_ok (n : Int) : nameCode (boxL n) = 0 ∧ (boxL n).length ≤ 5 := by
 have h := pick_lt n 6 (by omega)
 unfold boxL
 generalize pick n (6 : Nat) = k at h
 have : k = 0 ∨ k = 1 ∨ k = 2 ∨ k = 3 ∨ k = 4 ∨ k = 5 := by omega
 rcases this with rfl | rfl | rfl | rfl | rfl | rfl <;> decide
theorem one_spool : oneL [97, 64, 98, 46, 99] = true := by decide +kernel
theorem entOf_form (c : Raw) : formV (entOf c) = 0 := by
 have h1 := pick_lt c.kind 6 (by omega)
 have h2 := pick_lt c.flags 32 (by omega)
 have h3 := pick_lt c.uid 8 (by omega)
 have hb := boxL_ok c.box
 have ht := boxL_ok c.dest
 unfold entOf
 generalize pick c.kind (6 : Nat) = k at h1
 generalize pick c.flags (32 : Nat) = f at h2
 generalize pick c.uid (8 : Nat) = u at h3
 have : k = 0 ∨ k = 1 ∨ k = 2 ∨ k = 3 ∨ k = 4 ∨ k = 5 := by omega
 rcases this with rfl | rfl | rfl | rfl | rfl | rfl
 ·rw [form_last _ (by simp) (by simp [shapeOK]) (by simp) (by simp) (by simpa using hb.1)]; simp
 ·rw [form_last _ (by simp) (by simp [shapeOK]) (by simp; omega) (by simp; omega) (by simpa using hb.1)]; simp
 ·rw [form_last _ (by simp) (by simp [shapeOK]) (by simp; omega) (by simp) (by simpa using hb.1)]; simp
 ·rw [form_last _ (by simp) (by simp [shapeOK]) (by simp) (by simp) (by simpa using hb.1)]; simp
 ·rw [form_last _ (by simp) (by simp [shapeOK]) (by simp; omega) (by simp) (by simpa using hb.1)]; simpa using ht.1
 ·rw [form_spool _ (by simp) (by simp [shapeOK]) (by simp) (by simp; omega)]; simp [one_spool]
def Small (x : Ent) : Prop := x.kind < 256 ∧ x.uid < 16777216 ∧ x.flags < 256 ∧ x.box.length ≤ 12 ∧ x.to.length ≤ 100 ∧ x.text.length ≤ 2000
theorem Small.fits {x : Ent} (h : Small x) : Fits x := ⟨h.1, h.2.2.1, h.2.1, by have := h.2.2.2.1; omega, by have := h.2.2.2.2.1; omega, by have := h.2.2.2.2.2; omega⟩
theorem small_of_form {x : Ent} (h : formV x = 0) : Small x := by
 by_cases h1 : 1 ≤ x.kind ∧ x.kind ≤ 6
 ·by_cases hs : shapeOK x = true
  ·by_cases hr : 31 < x.flags ∨ 1048576 < x.uid
   ·rw [form_range x h1 hs hr] at h; cases h
   ·by_cases ht : 2000 < x.text.length
    ·rw [form_size x h1 hs hr ht] at h; cases h
    ·by_cases h6 : x.kind = 6
     ·rw [form_spool x h6 hs hr ht] at h
      split at h
      ·rename_i hh
       have hbox : x.box = [] := by
        unfold shapeOK at hs
        rw [if_neg (by omega), if_neg (by omega), if_neg (by omega), if_neg (by omega)] at hs
        simp only [Bool.and_eq_true, beq_iff_eq] at hs
        exact hs.1.1
       exact ⟨by omega, by omega, by omega, by rw [hbox]; simp, hh.2, by omega⟩
      ·cases h
     ·by_cases hn : nameCode x.box = 0
      ·have hbl : x.box.length ≤ 12 := by
        unfold nameCode at hn
        split at hn
        ·cases hn
        ·omega
       rw [form_last x (by omega) hs hr ht hn] at h
       refine ⟨by omega, by omega, by omega, hbl, ?_, by omega⟩
       by_cases h5 : x.kind = 5
       ·rw [if_pos h5] at h
        unfold nameCode at h
        split at h
        ·cases h
        ·omega
       ·have hto : x.to = [] := by
         unfold shapeOK at hs
         by_cases h14 : x.kind = 1 ∨ x.kind = 4
         ·rw [if_pos h14] at hs; simp only [Bool.and_eq_true, beq_iff_eq] at hs; exact hs.1.2
         ·rw [if_neg h14] at hs
          by_cases h2 : x.kind = 2
          ·rw [if_pos h2] at hs; simp only [Bool.and_eq_true, beq_iff_eq] at hs; exact hs.2
          ·rw [if_neg h2, if_pos (by omega)] at hs; simp only [Bool.and_eq_true, beq_iff_eq] at hs; exact hs.1
        rw [hto]; simp
      ·rw [form_name x (by omega) hs hr ht hn] at h; exact absurd h hn
  ·rw [form_shape x h1 (by simpa using hs)] at h; cases h
 ·rw [form_kind x h1] at h; cases h
def mailC (m : Mail) : List Value := [.int .i64 m.uid, .int .i64 m.flags, .string ⟨m.text.toArray⟩]
def cMail : Cod Mail := Cod.flat 3 mailC (fun _ => rfl)
def cEnt : Cod Ent := Cod.flat 6 entC (fun _ => rfl)
def cBox : Cod Bx where
 size := 3
 rep := fun w F b vs => ∃ u, vs = [.string ⟨b.name.toArray⟩, .int .i64 b.next, u] ∧ SAt cMail w F u b.mails
 len := fun ⟨_, h, _⟩ => by rw [h]; rfl
 stable := fun ⟨u, h, k⟩ hs hz => ⟨u, h, k.stable hs hz⟩
 mono := fun ⟨u, h, k⟩ hF => ⟨u, h, k.mono hF⟩
theorem infoMail : (Tryz.prog.info? 133).map (fun i => (i.zero, i.size, i.bytes)) = some (some (.agg #[.int .i64 0, .int .i64 0, .string ⟨#[]⟩]), 3, 32) := by kernel_rfl
theorem infoBx : (Tryz.prog.info? 119).map (fun i => (i.zero, i.size, i.bytes)) = some (some (.agg #[.string ⟨#[]⟩, .int .i64 0, .slice none 0 0]), 3, 48) := by kernel_rfl
theorem infoEnt2 : (Tryz.prog.info? 80).map (fun i => (i.zero, i.size, i.bytes)) = some (some (.agg #[.int .i64 0, .string ⟨#[]⟩, .int .i64 0, .int .i64 0, .string ⟨#[]⟩, .string ⟨#[]⟩]), 6, 72) := by kernel_rfl
theorem box_get {w wr : World} {F : Dom} {G : Option Addr} {n cap : Nat} {l : List Bx} (h : SAt cBox w F (.slice G n cap) l) (hb : Below w.heap.size w wr) (j : Nat) (hj : j < l.length) :
    ∃ g off a c, G = some ⟨g, off, none⟩ ∧ F g ∧ g < w.heap.size ∧ l[j].mails.length ≤ c ∧ SAt cMail wr F (.slice a l[j].mails.length c) l[j].mails ∧ wr.cell? ⟨g, off + j * 3, none⟩ = some (.string ⟨l[j].name.toArray⟩) ∧ wr.cell? ⟨g, off + j * 3 + 1, none⟩ = some (.int .i64 l[j].next) ∧ wr.cell? ⟨g, off + j * 3 + 2, none⟩ = some (.slice a l[j].mails.length c) := by
 obtain ⟨g, off, vs, hG, hF, hg, ⟨u, rfl, hu⟩, hc⟩ := (h.down hb).get j hj
 obtain ⟨g', off', vs', hG', _, hg', _, _⟩ := h.get j hj
 obtain ⟨e1, rfl⟩ : g' = g ∧ off' = off := by rw [hG] at hG'; cases hG'; exact ⟨rfl, rfl⟩
 obtain ⟨a, c, rfl, hac⟩ := hu.form
 exact ⟨g, off', a, c, hG, hF, e1 ▸ hg', hac, hu, hc 0 _ rfl, hc 1 _ rfl, hc 2 _ rfl⟩
theorem mail_get {w wr : World} {F : Dom} {G : Option Addr} {n cap : Nat} {l : List Mail} (h : SAt cMail w F (.slice G n cap) l) (hb : Below w.heap.size w wr) (j : Nat) (hj : j < l.length) :
    ∃ g off, G = some ⟨g, off, none⟩ ∧ F g ∧ g < w.heap.size ∧ wr.cell? ⟨g, off + j * 3, none⟩ = some (.int .i64 l[j].uid) ∧ wr.cell? ⟨g, off + j * 3 + 1, none⟩ = some (.int .i64 l[j].flags) ∧ wr.cell? ⟨g, off + j * 3 + 2, none⟩ = some (.string ⟨l[j].text.toArray⟩) := by
 obtain ⟨g, off, vs, hG, hF, hg, hv, hc⟩ := h.get j hj
 obtain rfl : vs = mailC l[j] := hv
 exact ⟨g, off, hG, hF, hg, moved (hc 0 _ rfl) hb (Nat.le_refl _), moved (hc 1 _ rfl) hb (Nat.le_refl _), moved (hc 2 _ rfl) hb (Nat.le_refl _)⟩
theorem ent_get {w wr : World} {F : Dom} {G : Option Addr} {n cap : Nat} {l : List Ent} (h : SAt cEnt w F (.slice G n cap) l) (hb : Below w.heap.size w wr) (j : Nat) (hj : j < l.length) :
    ∃ g off, G = some ⟨g, off, none⟩ ∧ F g ∧ g < w.heap.size ∧ wr.cell? ⟨g, off + j * 6, none⟩ = some (.int .i64 l[j].kind) ∧ wr.cell? ⟨g, off + j * 6 + 1, none⟩ = some (.string ⟨l[j].box.toArray⟩) ∧ wr.cell? ⟨g, off + j * 6 + 2, none⟩ = some (.int .i64 l[j].uid) ∧
     wr.cell? ⟨g, off + j * 6 + 3, none⟩ = some (.int .i64 l[j].flags) ∧ wr.cell? ⟨g, off + j * 6 + 4, none⟩ = some (.string ⟨l[j].to.toArray⟩) ∧ wr.cell? ⟨g, off + j * 6 + 5, none⟩ = some (.string ⟨l[j].text.toArray⟩) := by
 obtain ⟨g, off, vs, hG, hF, hg, hv, hc⟩ := h.get j hj
 obtain rfl : vs = entC l[j] := hv
 exact ⟨g, off, hG, hF, hg, moved (hc 0 _ rfl) hb (Nat.le_refl _), moved (hc 1 _ rfl) hb (Nat.le_refl _), moved (hc 2 _ rfl) hb (Nat.le_refl _), moved (hc 3 _ rfl) hb (Nat.le_refl _), moved (hc 4 _ rfl) hb (Nat.le_refl _), moved (hc 5 _ rfl) hb (Nat.le_refl _)⟩
theorem sumM_take (l : List Mail) (k : Nat) (h : k < l.length) : sumM (l.take (k + 1)) = sumM (l.take k) + l[k].text.length := by
 unfold sumM; rw [List.take_succ_eq_append_getElem h, List.map_append, List.sum_append]; simp
theorem sumB_take (l : List Bx) (k : Nat) (h : k < l.length) : sumB (l.take (k + 1)) = sumB (l.take k) + sumM l[k].mails := by
 unfold sumB; rw [List.take_succ_eq_append_getElem h, List.map_append, List.sum_append]; simp
theorem sumM_le (l : List Mail) (k : Nat) : sumM (l.take k) ≤ sumM l := by
 have h : sumM l = sumM (l.take k) + sumM (l.drop k) := by unfold sumM; rw [← List.sum_append, ← List.map_append, List.take_append_drop]
 omega
theorem sumB_le (l : List Bx) (k : Nat) : sumB (l.take k) ≤ sumB l := by
 have h : sumB l = sumB (l.take k) + sumB (l.drop k) := by unfold sumB; rw [← List.sum_append, ← List.map_append, List.take_append_drop]
 omega
theorem bsize_any (v : Value) (a' : Option Addr) (n' c' : Nat) (l : List Bx) (F : Dom) (w : World) (h : SAt cBox w F v l) (hl : l.length ≤ 1000) (hm : ∀ b ∈ l, b.mails.length ≤ 1000) (hs : sumB l ≤ 1000000) :
    Calls Tryz.prog 85 #[.agg #[v, .slice a' n' c']] w fun e w' => e = .returned (.int .i64 (sumB l)) ∧ Below w.heap.size w w' := by
 obtain ⟨G, cap, rfl, hcap⟩ := h.form
 have H := Lib.hid h; have HM := Lib.hid hm
 clear h hm
 go_enter Tryz.func85, Tryz.ntmps85
 go_wp2_with fail
 go_loopw [3, 11] (fun n i wr => ∃ j : Nat, j ≤ l.length ∧ i = .int .i64 j ∧ n = .int .i64 (sumB (l.take j) : Nat) ∧ Below w.heap.size w wr) (fun _ i _ => l.length - (intOf i).toNat)
 case atStart => exact ⟨0, Nat.zero_le _, rfl, rfl, ba (Below.refl _ _) _⟩
 case round =>
  obtain ⟨wo, rfl⟩ : ∃ wo : World, wo = wr := ⟨_, rfl⟩
  obtain ⟨j, hj, rfl, rfl, hb⟩ := hrel
  by_cases hlt : j < l.length
  ·obtain ⟨g, off, a, c, rfl, hF, hg, hac, hm, c0, c1, c2⟩ := box_get H.out hb j hlt
   have hst := sumB_take l j hlt
   have hle := sumB_le l (j + 1)
   have hml := HM.out l[j] (List.getElem_mem _)
   generalize l[j] = b at hac hm c0 c1 c2 hst hml
   have hgr : g < wo.heap.size := Nat.lt_of_lt_of_le hg hb.size
   have hA := ba (Below.refl wo.heap.size wo) (.cells #[.string ⟨b.name.toArray⟩, .int .i64 b.next, .slice a b.mails.length c] 119)
   have HB := Lib.hid (bt hb hA)
   have HMS := Lib.hid (hm.down hA)
   have HST := Lib.hid hst
   obtain ⟨S, hS⟩ : ∃ S, S = sumB (l.take j) := ⟨_, rfl⟩
   rw [← hS] at HST ⊢
   have HSM : S + sumM b.mails ≤ 1000000 := by have := HST.out; omega
   clear hS hst hA hb hm
   go_wp2_with fail
   obtain ⟨W0, hW0⟩ : ∃ W0, W0 = wo.alloc (.cells #[.string ⟨b.name.toArray⟩, .int .i64 b.next, .slice a b.mails.length c] 119) := ⟨_, rfl⟩
   rw [← hW0] at HB HMS ⊢
   clear hW0 c0 c1 c2
   go_loopw [3, 18] (fun n i wx => ∃ k : Nat, k ≤ b.mails.length ∧ i = .int .i64 k ∧ n = .int .i64 (S + sumM (b.mails.take k) : Nat) ∧ Below W0.heap.size W0 wx) (fun _ i _ => b.mails.length - (intOf i).toNat)
   case atStart => exact ⟨0, Nat.zero_le _, rfl, rfl, Below.refl _ _⟩
   case round =>
    obtain ⟨k, hk, rfl, rfl, hbx⟩ := hrel
    by_cases hlk : k < b.mails.length
    ·obtain ⟨gm, om, rfl, _, hgm, m0, m1, m2⟩ := mail_get HMS.out hbx k hlk
     have hst := sumM_take b.mails k hlk
     have hle := sumM_le b.mails (k + 1)
     have hgx : gm < wr.heap.size := Nat.lt_of_lt_of_le hgm hbx.size
     generalize b.mails[k] = m at m0 m1 m2 hst
     have HST2 := Lib.hid hst; have HBX := Lib.hid hbx
     have hTb : sumM (b.mails.take k) + m.text.length ≤ 1000000 := by omega
     obtain ⟨T, hT⟩ : ∃ T, T = sumM (b.mails.take k) := ⟨_, rfl⟩
     rw [← hT] at HST2 hTb ⊢
     have hSTm : S + T + m.text.length ≤ 3000000 := by omega
     clear hst hbx hT
     go_wp2_with fail
     go_roundw
     case rel => exact ⟨k + 1, hlk, by go_num, by rw [HST2.out]; go_num, ba HBX.out _⟩
     case measure => simp [intOf]; omega
    ·obtain rfl : k = b.mails.length := by omega
     rw [List.take_length]
     have hbw := bt HB.out hbx
     have HBW := Lib.hid hbw
     clear hbw hbx
     go_wp2_with fail
     go_roundw
     case rel => exact ⟨j + 1, hlt, by go_num, by rw [HST.out], HBW.out⟩
     case measure => simp [intOf]; omega
  ·obtain rfl : j = l.length := by omega
   rw [List.take_length]
   go_wp2_with fail
   go_ret
   exact ⟨rfl, hb⟩
structure Row where
 v : Value
 e : TypeId
 size : Nat
 n : Nat
 cells : List Value
def Row.At (w : World) (base : Nat) (r : Row) : Prop := w.ownsRow base r.e r.size r.v r.n r.cells
def Rows (w : World) (base : Nat) (l : List Row) : Prop := (∀ r ∈ l, r.At w base) ∧ ∀ (i j : Nat) (a b : Row), l[i]? = some a → l[j]? = some b → i ≠ j → a.v.ownBlock = none ∨ a.v.ownBlock ≠ b.v.ownBlock
theorem Rows.down {w w' : World} {base : Nat} {l : List Row} (h : Rows w base l) (hb : Below w.heap.size w w') : Rows w' base l := ⟨fun r hr => row_down (h.1 r hr) hb, h.2⟩
theorem Rows.else' {w w' : World} {base R : Nat} {l : List Row} (h : Rows w base l) (g : w.grownBy w' (some R)) (hR : ∀ r ∈ l, r.v.ownBlock ≠ some R) : Rows w' base l :=
 ⟨fun r hr => (h.1 r hr).kept g (.inr (hR r hr)), h.2⟩
theorem Rows.put {w w' : World} {base i : Nat} {l : List Row} {r r' : Row} (h : Rows w base l) (hi : l[i]? = some r) (g : w.grownBy w' r.v.ownBlock) (h' : r'.At w' base)
    (hv : r'.v.ownBlock = r.v.ownBlock ∨ r'.v.ownBlock = none ∨ ∃ H, r'.v.ownBlock = some H ∧ w.heap.size ≤ H) : Rows w' base (l.set i r') := by
 have hlt : i < l.length := (List.getElem?_eq_some_iff.1 hi).1
 refine ⟨fun x hx => ?_, fun a b x y hx hy hab => ?_⟩
 ·obtain ⟨j, hj, rfl⟩ := List.getElem_of_mem hx
  rw [List.length_set] at hj
  rw [List.getElem_set]
  split
  ·exact h'
  ·rename_i hne
   refine (h.1 l[j] (List.getElem_mem _)).kept g ?_
   rcases h.2 j i _ _ (List.getElem?_eq_getElem hj) hi (fun e => hne e.symm) with h0 | h0
   ·exact .inl h0
   ·exact .inr h0
 ·rw [List.getElem?_set] at hx hy
  by_cases ha : i = a
  ·subst ha
   rw [if_pos rfl, if_pos hlt] at hx
   obtain rfl := Option.some.inj hx
   rw [if_neg hab] at hy
   rcases hv with e | e | ⟨H, e, hH⟩
   ·rw [e]; exact h.2 i b r y hi hy hab
   ·exact .inl e
   ·right
    intro e2
    have hm := List.mem_of_getElem? hy
    have := (World.ownsRow.lt (h.1 y hm) H (by rw [← e2, e])).2
    omega
  ·rw [if_neg ha] at hx
   by_cases hb : i = b
   ·subst hb
    rw [if_pos rfl, if_pos hlt] at hy
    obtain rfl := Option.some.inj hy
    rcases hv with e | e | ⟨H, e, hH⟩
    ·rw [e]; exact h.2 a i x r hx hi hab
    ·cases hxb : x.v.ownBlock with
     | none => exact .inl rfl
     | some k => right; rw [e]; intro e2; cases e2
    ·right
     intro e2
     have hm := List.mem_of_getElem? hx
     have := (World.ownsRow.lt (h.1 x hm) H (by rw [e2, e])).2
     omega
   ·rw [if_neg hb] at hy
    exact h.2 a b x y hx hy hab
theorem Rows.add {w w' : World} {base : Nat} {l : List Row} {r : Row} (h : Rows w' base l) (h' : r.At w' base) (hlow : ∀ x ∈ l, ∀ k, x.v.ownBlock = some k → k < w.heap.size) (hv : r.v.ownBlock = none ∨ ∃ H, r.v.ownBlock = some H ∧ w.heap.size ≤ H) : Rows w' base (l ++ [r]) := by
 refine ⟨fun x hx => ?_, fun a b x y hx hy hab => ?_⟩
 ·rcases List.mem_append.1 hx with hx | hx
  ·exact h.1 x hx
  ·obtain rfl := List.mem_singleton.1 hx; exact h'
 ·have key : ∀ (a : Nat) (x : Row), (l ++ [r])[a]? = some x → (l[a]? = some x) ∨ (a = l.length ∧ x = r) := by
   intro a x hx
   rcases Nat.lt_or_ge a l.length with h0 | h0
   ·rw [List.getElem?_append_left h0] at hx; exact .inl hx
   ·rw [List.getElem?_append_right h0] at hx
    cases hd : a - l.length with
    | zero => rw [hd] at hx; exact .inr ⟨by omega, (Option.some.inj hx).symm⟩
    | succ q => rw [hd] at hx; simp at hx
  rcases key a x hx with hx' | ⟨ha, hxr⟩ <;> rcases key b y hy with hy' | ⟨hb, hyr⟩
  ·exact h.2 a b x y hx' hy' hab
  ·rw [hyr]
   rcases hv with e | ⟨H, e, hH⟩
   ·cases hxb : x.v.ownBlock with
    | none => exact .inl rfl
    | some k => right; rw [e]; intro e2; cases e2
   ·right; intro e2
    have := hlow x (List.mem_of_getElem? hx') H (by rw [e2, e])
    omega
  ·rw [hxr]
   rcases hv with e | ⟨H, e, hH⟩
   ·exact .inl e
   ·right; intro e2
    have := hlow y (List.mem_of_getElem? hy') H (by rw [← e2, e])
    omega
  ·exact absurd (ha.trans hb.symm) hab
abbrev BQ := Bx × Value
def bxC (q : BQ) : List Value := [.string ⟨q.1.name.toArray⟩, .int .i64 q.1.next, q.2]
def bxcells (qs : List BQ) : List Value := qs.flatMap bxC
def rowB (vB : Value) (qs : List BQ) : Row := ⟨vB, 119, 3, qs.length, bxcells qs⟩
def rowS (vS : Value) (sp : List Ent) : Row := ⟨vS, 80, 6, sp.length, sp.flatMap entC⟩
def rowM (q : BQ) : Row := ⟨q.2, 133, 3, q.1.mails.length, q.1.mails.flatMap mailC⟩
def rowsOf (qs : List BQ) (vB vS : Value) (sp : List Ent) : List Row := rowB vB qs :: rowS vS sp :: qs.map rowM
def OwnV (w : World) (base : Nat) (vB vS : Value) (s : St) : Prop := ∃ qs : List BQ, s.boxes = qs.map Prod.fst ∧ Rows w base (rowsOf qs vB vS s.spool)
def OwnS (w : World) (base R : Nat) (s : St) : Prop := ∃ (qs : List BQ) (vB vS : Value), s.boxes = qs.map Prod.fst ∧ Has w R [vB, vS] ∧ base ≤ R ∧ Rows w base (rowsOf qs vB vS s.spool) ∧ ∀ r ∈ rowsOf qs vB vS s.spool, r.v.ownBlock ≠ some R
theorem OwnV.down {w w' : World} {base : Nat} {vB vS : Value} {s : St} (h : OwnV w base vB vS s) (hb : Below w.heap.size w w') : OwnV w' base vB vS s := by
 obtain ⟨qs, h1, h2⟩ := h
 exact ⟨qs, h1, h2.down hb⟩
theorem bxcells_at (qs : List BQ) (i j : Nat) (q : BQ) (hq : qs[i]? = some q) (hj : j < 3) : (bxcells qs)[i * 3 + j]? = (bxC q)[j]? := by
 have he : hcells (qs.map fun x => (x, bxC x)) = qs.flatMap bxC := by unfold hcells; rw [List.flatMap_map]
 have := hcells_at (k := 3) (ps := qs.map fun x => (x, bxC x)) (fun p hp => by obtain ⟨x, _, rfl⟩ := List.mem_map.1 hp; rfl) i j (q, bxC q) (by rw [List.getElem?_map, hq]; rfl) hj
 rwa [he] at this
theorem Rows.boxes {w : World} {base : Nat} {qs : List BQ} {vB vS : Value} {sp : List Ent} {F : Dom} (h : Rows w base (rowsOf qs vB vS sp)) (hF : ∀ b, base ≤ b → F b) : SAt cBox w F vB (qs.map Prod.fst) := by
 have h1 : (rowB vB qs).At w base := h.1 _ (List.mem_cons_self ..)
 have he : hcells (qs.map fun x => (x.1, bxC x)) = bxcells qs := by unfold hcells bxcells; rw [List.flatMap_map]
 have hM : ∀ q ∈ qs, SAt cMail w F q.2 q.1.mails := fun q hq => SAt.of_row (h.1 (rowM q) (List.mem_cons_of_mem _ (List.mem_cons_of_mem _ (List.mem_map_of_mem hq)))) hF
 have ho : ORow cBox 119 w base (fun b => base ≤ b ∧ vB.ownBlock ≠ some b) vB (qs.map fun x => (x.1, bxC x)) := by
  refine ⟨?_, fun p hp => ?_, fun b hb hh => hh.2 hb⟩
  ·rw [he, List.length_map]; exact h1
  ·obtain ⟨q, hq, rfl⟩ := List.mem_map.1 hp
   refine ⟨q.2, rfl, ?_⟩
   have hrow : (rowM q).At w base := h.1 (rowM q) (List.mem_cons_of_mem _ (List.mem_cons_of_mem _ (List.mem_map_of_mem hq)))
   obtain ⟨i, hi, hqi⟩ := List.getElem_of_mem hq
   have hap := h.2 (i + 2) 0 (rowM q) (rowB vB qs) (by show (qs.map rowM)[i]? = _; rw [List.getElem?_map, List.getElem?_eq_getElem hi, hqi]; rfl) rfl (by omega)
   have hap2 : q.2.ownBlock = none ∨ q.2.ownBlock ≠ vB.ownBlock := hap
   obtain ⟨G, cap, hv, hc, hall⟩ := (SAt.of_row hrow (F := fun b => base ≤ b) (fun b h => h) : SAt cMail w (fun b => base ≤ b) q.2 q.1.mails)
   refine ⟨G, cap, hv, hc, fun k x hx => ?_⟩
   obtain ⟨g, off, hG, hg0, hg, hat⟩ := hall k x hx
   refine ⟨g, off, hG, ⟨hg0, fun e => ?_⟩, hg, ?_⟩
   ·have hqb : q.2.ownBlock = some g := by rw [hv, hG]; rfl
    rcases hap2 with h0 | h0
    ·rw [hqb] at h0; cases h0
    ·exact h0 (hqb.trans e.symm)
   ·obtain ⟨vs, hvs, hcs⟩ := hat
    exact ⟨vs, hvs, hcs⟩
 have := ho.sat hF (fun b hb => hF b hb.1)
 rwa [List.map_map, show (Prod.fst ∘ fun x : BQ => (x.1, bxC x)) = Prod.fst from rfl] at this
theorem Rows.spool {w : World} {base : Nat} {qs : List BQ} {vB vS : Value} {sp : List Ent} {F : Dom} (h : Rows w base (rowsOf qs vB vS sp)) (hF : ∀ b, base ≤ b → F b) : SAt cEnt w F vS sp :=
 SAt.of_row (h.1 (rowS vS sp) (List.mem_cons_of_mem _ (List.mem_cons_self ..))) hF
theorem cloneM_any (v : Value) (l : List Mail) (F : Dom) (w : World) (h : SAt cMail w F v l) (hl : l.length ≤ 200000) :
    Calls Tryz.prog 88 #[v] w fun e w' => (∃ v', e = .returned v' ∧ w'.ownsRow w.heap.size 133 3 v' l.length (l.flatMap mailC)) ∧ Below w.heap.size w w' := by
 obtain ⟨a, cap, rfl, hcap⟩ := h.form
 have q22 : ∀ (w : World) (a : Option Addr) (n c n' c' : Nat), (binOp .eql 117 (.slice a n c) (.slice none n' c')).run Tryz.prog w = .ok (.bool a.isNone) w := fun w a n c n' c' => Lib.run_eql_slice_nil w _ _ a n c n' c' Tryz.underlying117
 cases a with
 | none =>
  have hl0 : l = [] := by
   cases l with
   | nil => rfl
   | cons c l =>
    obtain ⟨_, _, _, h, _⟩ := h.get 0 (Nat.succ_pos _)
    cases h
  subst hl0
  go_enter Tryz.func88, Tryz.ntmps88
  go_wp2_with fail
  go_ret
  exact ⟨⟨_, rfl, World.ownsRow_nil _ _ _ _⟩, Below.refl _ _⟩
 | some x =>
  obtain ⟨i0, hi, hz0, hz1, hz2⟩ := info_parts infoMail
  have HI := Lib.hid hi; have HZ0 := Lib.hid hz0; have HZ1 := Lib.hid hz1; have HZ2 := Lib.hid hz2
  clear hi hz0 hz1 hz2
  have hA := ba (Below.refl w.heap.size w) (.cells #[] 133)
  have A : Hid (∀ j u, (l.flatMap mailC)[j]? = some u → (w.alloc (.cells #[] 133)).cell? (x.add j) = some u) := (h.down hA).cells
  have hlen : (l.flatMap mailC).length = l.length * 3 := by
   have := hcells_length (k := 3) (ps := l.map fun x => (x, mailC x)) (fun p hp => by obtain ⟨x, _, rfl⟩ := List.mem_map.1 hp; rfl)
   unfold hcells at this
   rwa [List.flatMap_map, List.length_map] at this
  have HL := Lib.hid hlen
  clear hlen hA h
  go_enter Tryz.func88, Tryz.ntmps88
  go_wp2_with (at_builtin; refine wpList_append_own _ rfl _ _ 117 rfl w.heap.size 133 i0 (.agg #[.int .i64 0, .int .i64 0, .string ⟨#[]⟩]) 3 32 Tryz.underlying117 HI.out HZ0.out HZ1.out HZ2.out rfl (by decide) _ _ _ rfl (World.ownsRow_made w #[] 0 (Nat.le_refl _) (Nat.zero_le _) rfl) x l.length cap (l.flatMap mailC) rfl ?qc1 A.out ?qc3 ?qc4 ?qc5 ?qc6 ?_)
  case qc1 => exact HL.out
  case qc3 => intro u hu; obtain ⟨y, _, hy⟩ := List.mem_flatMap.1 hu; simp [mailC] at hy; rcases hy with rfl | rfl | rfl <;> rfl
  case qc4 => unfold maxLen; omega
  case qc5 => omega
  case qc6 => simp
  intro v' w1 hown hgrow _
  clear A
  go_wp2_with fail
  go_ret
  refine ⟨⟨v', rfl, by simpa using hown⟩, ?_⟩
  exact ((Below.refl _ w).alloc (Nat.le_refl _) _).grown hgrow (by simp) (by intro k hk; simp [Value.ownBlock] at hk; omega)
theorem cloneE_any (v : Value) (l : List Ent) (F : Dom) (w : World) (h : SAt cEnt w F v l) (hl : l.length ≤ 200000) :
    Calls Tryz.prog 87 #[v] w fun e w' => (∃ v', e = .returned v' ∧ w'.ownsRow w.heap.size 80 6 v' l.length (l.flatMap entC)) ∧ Below w.heap.size w w' := by
 obtain ⟨a, cap, rfl, hcap⟩ := h.form
 have q22 : ∀ (w : World) (a : Option Addr) (n c n' c' : Nat), (binOp .eql 71 (.slice a n c) (.slice none n' c')).run Tryz.prog w = .ok (.bool a.isNone) w := fun w a n c n' c' => Lib.run_eql_slice_nil w _ _ a n c n' c' Tryz.underlying71
 cases a with
 | none =>
  have hl0 : l = [] := by
   cases l with
   | nil => rfl
   | cons c l =>
    obtain ⟨_, _, _, h, _⟩ := h.get 0 (Nat.succ_pos _)
    cases h
  subst hl0
  go_enter Tryz.func87, Tryz.ntmps87
  go_wp2_with fail
  go_ret
  exact ⟨⟨_, rfl, World.ownsRow_nil _ _ _ _⟩, Below.refl _ _⟩
 | some x =>
  obtain ⟨i0, hi, hz0, hz1, hz2⟩ := info_parts infoEnt2
  have HI := Lib.hid hi; have HZ0 := Lib.hid hz0; have HZ1 := Lib.hid hz1; have HZ2 := Lib.hid hz2
  clear hi hz0 hz1 hz2
  have hA := ba (Below.refl w.heap.size w) (.cells #[] 80)
  have A : Hid (∀ j u, (l.flatMap entC)[j]? = some u → (w.alloc (.cells #[] 80)).cell? (x.add j) = some u) := (h.down hA).cells
  have hlen : (l.flatMap entC).length = l.length * 6 := by
   have := hcells_length (k := 6) (ps := l.map fun x => (x, entC x)) (fun p hp => by obtain ⟨x, _, rfl⟩ := List.mem_map.1 hp; rfl)
   unfold hcells at this
   rwa [List.flatMap_map, List.length_map] at this
  have HL := Lib.hid hlen
  clear hlen hA h
  go_enter Tryz.func87, Tryz.ntmps87
  go_wp2_with (at_builtin; refine wpList_append_own _ rfl _ _ 71 rfl w.heap.size 80 i0 (.agg #[.int .i64 0, .string ⟨#[]⟩, .int .i64 0, .int .i64 0, .string ⟨#[]⟩, .string ⟨#[]⟩]) 6 72 Tryz.underlying71 HI.out HZ0.out HZ1.out HZ2.out rfl (by decide) _ _ _ rfl (World.ownsRow_made w #[] 0 (Nat.le_refl _) (Nat.zero_le _) rfl) x l.length cap (l.flatMap entC) rfl ?qc1 A.out ?qc3 ?qc4 ?qc5 ?qc6 ?_)
  case qc1 => exact HL.out
  case qc3 => intro u hu; obtain ⟨y, _, hy⟩ := List.mem_flatMap.1 hu; simp [entC] at hy; rcases hy with rfl | rfl | rfl | rfl | rfl | rfl <;> rfl
  case qc4 => unfold maxLen; omega
  case qc5 => omega
  case qc6 => simp
  intro v' w1 hown hgrow _
  clear A
  go_wp2_with fail
  go_ret
  refine ⟨⟨v', rfl, by simpa using hown⟩, ?_⟩
  exact ((Below.refl _ w).alloc (Nat.le_refl _) _).grown hgrow (by simp) (by intro k hk; simp [Value.ownBlock] at hk; omega)
def OwnPost (s : St) (w : World) (e : Ending) (w' : World) : Prop := (∃ G1 c1 G2 c2, e = .returned (.agg #[.slice G1 s.boxes.length c1, .slice G2 s.spool.length c2]) ∧ OwnV w' w.heap.size (.slice G1 s.boxes.length c1) (.slice G2 s.spool.length c2) s) ∧ Below w.heap.size w w'
theorem row_form {w : World} {base : Nat} {r : Row} (h : r.At w base) : ∃ G c, r.v = .slice G r.n c := by
 rcases h.2 with ⟨h1, h2⟩ | ⟨g, cap, cur, h1, _⟩
 ·exact ⟨none, 0, by rw [h1, h2]⟩
 ·exact ⟨_, cap, h1⟩
theorem own_end {R : Nat} {vB vS : Value} {s : St} {a : Act} {W w : World} (ht : a.tmps.getD 2 undef = .pointer (some ⟨R, 0, none⟩)) (hd : a.defers = [])
    (h : Has W R [vB, vS]) (he : OwnV W w.heap.size vB vS s) (hb : Below w.heap.size w W) : bodyPost Tryz.prog Tryz.f53 (OwnPost s w) .ret a W := by
 obtain ⟨c0, c1, _, _⟩ := h.two
 have hB : ∃ G c, vB = .slice G s.boxes.length c := by
  obtain ⟨qs, h1, h2⟩ := he
  obtain ⟨G, c, h3⟩ := row_form (h2.1 _ (List.mem_cons_self ..))
  exact ⟨G, c, by rw [h1, List.length_map]; exact h3⟩
 have hS : ∃ G c, vS = .slice G s.spool.length c := by
  obtain ⟨qs, h1, h2⟩ := he
  exact row_form (h2.1 _ (List.mem_cons_of_mem _ (List.mem_cons_self ..)))
 obtain ⟨G1, d1, rfl⟩ := hB
 obtain ⟨G2, d2, rfl⟩ := hS
 refine bodyPost_ret (v := .agg #[.slice G1 s.boxes.length d1, .slice G2 s.spool.length d2]) ?_ hd ⟨⟨_, _, _, _, rfl, he⟩, hb⟩
 have ht' : a.tmps[2]?.getD undef = .pointer (some ⟨R, 0, none⟩) := by simpa using ht
 simp [results, Tryz.results53, go_sem, ht', c0, c1]
theorem rows_more {w0 w1 : World} {base n : Nat} {qs : List BQ} {vB vS v' : Value} {sp : List Ent} {q : BQ} (h : Rows w0 base (rowsOf qs vB vS sp)) (hb : Below w0.heap.size w0 w1) (hq : q.2 = v') (hn : q.1.mails.length = n)
    (hown : w1.ownsRow w0.heap.size 133 3 v' n (q.1.mails.flatMap mailC)) (hbase : base ≤ w0.heap.size) : Rows w1 base (rowsOf qs vB vS sp ++ [rowM q]) := by
 subst hq; subst hn
 refine (h.down hb).add (w := w0) (row_base hbase hown) (fun x hx k hk => (World.ownsRow.lt (h.1 x hx) k hk).2) ?_
 cases hv : q.2.ownBlock with
 | none => exact .inl hv
 | some H => exact .inr ⟨H, hv, (World.ownsRow.lt hown H hv).1⟩
theorem rows_last (qs : List BQ) (vB vS v'' : Value) (sp : List Ent) (q : BQ) : (rowsOf qs vB vS sp ++ [rowM q]).set 0 (rowB v'' (qs ++ [q])) = rowsOf (qs ++ [q]) v'' vS sp := by
 unfold rowsOf; simp
def OffR (l : List Row) (R : Nat) : Prop := ∀ r ∈ l, r.v.ownBlock ≠ some R
theorem offR_high {w : World} {base R : Nat} {l : List Row} (h : Rows w base l) (hR : w.heap.size ≤ R) : OffR l R := fun r hr e => by have := (World.ownsRow.lt (h.1 r hr) R e).2; omega
theorem offR_low {w : World} {base R : Nat} {l : List Row} (h : Rows w base l) (hR : R < base) : OffR l R := fun r hr e => by have := (World.ownsRow.lt (h.1 r hr) R e).1; omega
theorem bxcells_snoc (qs : List BQ) (q : BQ) : bxcells (qs ++ [q]) = bxcells qs ++ bxC q := by simp [bxcells]
theorem take_map_snoc {l : List Bx} {qs : List BQ} {j : Nat} (hq : qs.map Prod.fst = l.take j) (hj : j < l.length) (v : Value) : (qs ++ [(l[j], v)]).map Prod.fst = l.take (j + 1) := by
 rw [List.map_append, hq, List.take_succ_eq_append_getElem hj]; rfl
theorem offR_put {l : List Row} {R i : Nat} {r' : Row} (h : OffR l R) (h' : r'.v.ownBlock ≠ some R) : OffR (l.set i r') R := by
 intro r hr
 obtain ⟨j, hj, rfl⟩ := List.getElem_of_mem hr
 rw [List.length_set] at hj
 rw [List.getElem_set]
 split
 ·exact h'
 ·exact h _ (List.getElem_mem _)
theorem offR_add {l : List Row} {R : Nat} {r' : Row} (h : OffR l R) (h' : r'.v.ownBlock ≠ some R) : OffR (l ++ [r']) R := by
 intro r hr
 rcases List.mem_append.1 hr with hr | hr
 ·exact h r hr
 ·obtain rfl := List.mem_singleton.1 hr; exact h'
theorem own_round {wr w2 w5 : World} {base R3 cap5 g5 : Nat} {o o2 : Obj} {u : Value} {qs : List BQ} {vB vS : Value} {sp : List Ent} {q : BQ} (h : Rows wr base (rowsOf qs vB vS sp)) (hoff : OffR (rowsOf qs vB vS sp) R3) (hR : R3 < wr.heap.size) (hbase : base ≤ wr.heap.size)
    (hb2 : Below (wr.alloc o).heap.size (wr.alloc o) w2) (hown : w2.ownsRow (wr.alloc o).heap.size 133 3 q.2 q.1.mails.length (q.1.mails.flatMap mailC))
    (hgrow : ((w2.setCell ⟨wr.heap.size, 2, none⟩ u).alloc o2).grownBy w5 vB.ownBlock)
    (hown5 : w5.ownsRow base 119 3 (.slice (some ⟨g5, 0, none⟩) (qs.length + 1) cap5) (qs.length + 1) (bxcells qs ++ bxC q))
    (hat : vB.ownBlock = some g5 ∨ g5 = ((w2.setCell ⟨wr.heap.size, 2, none⟩ u).alloc o2).heap.size - 0) :
    Rows (w5.setCell ⟨R3, 0, none⟩ (.slice (some ⟨g5, 0, none⟩) (qs.length + 1) cap5)) base (rowsOf (qs ++ [q]) (.slice (some ⟨g5, 0, none⟩) (qs.length + 1) cap5) vS sp) ∧ OffR (rowsOf (qs ++ [q]) (.slice (some ⟨g5, 0, none⟩) (qs.length + 1) cap5) vS sp) R3 := by
 have hz2 := hb2.size
 simp only [World.size_alloc] at hz2
 have hA := h.down (ba (Below.refl wr.heap.size wr) o)
 have h2 := rows_more hA hb2 rfl rfl hown (by simp; omega)
 have hq3 : ∀ k, q.2.ownBlock = some k → wr.heap.size + 1 ≤ k := fun k hk => by have := (World.ownsRow.lt hown k hk).1; simpa using this
 have hoffb : OffR (rowsOf qs vB vS sp ++ [rowM q]) wr.heap.size := offR_add (offR_high h (Nat.le_refl _)) (fun e => by have := hq3 _ e; omega)
 have hoff3 : OffR (rowsOf qs vB vS sp ++ [rowM q]) R3 := offR_add hoff (fun e => by have := hq3 _ e; omega)
 have h3 := h2.else' (Go.Lib.grownBy_setB (World.grownBy.refl w2 (some wr.heap.size)) 2 u) hoffb
 have h4 := h3.down (ba (Below.refl (w2.setCell ⟨wr.heap.size, 2, none⟩ u).heap.size _) o2)
 have h5 := h4.put (i := 0) (r := rowB vB qs) (r' := rowB (.slice (some ⟨g5, 0, none⟩) (qs.length + 1) cap5) (qs ++ [q])) rfl hgrow (by
     show w5.ownsRow base 119 3 _ (qs ++ [q]).length (bxcells (qs ++ [q]))
     rw [bxcells_snoc, List.length_append]; exact hown5) (by
     rcases hat with e | e
     ·exact .inl (Eq.symm e)
     ·exact .inr (.inr ⟨g5, rfl, by omega⟩))
 rw [rows_last] at h5
 have hoff5 : OffR (rowsOf (qs ++ [q]) (.slice (some ⟨g5, 0, none⟩) (qs.length + 1) cap5) vS sp) R3 := by
  rw [← rows_last qs vB]
  refine offR_put hoff3 (fun e => ?_)
  obtain rfl : g5 = R3 := Option.some.inj e
  rcases hat with e | e
  ·exact hoff _ (List.mem_cons_self ..) e
  ·have : w2.heap.size ≤ ((w2.setCell ⟨wr.heap.size, 2, none⟩ u).alloc o2).heap.size := by simp
   omega
 exact ⟨h5.else' (Go.Lib.grownBy_setB (World.grownBy.refl w5 (some R3)) 0 _) hoff5, hoff5⟩
def OwnRel (s : St) (w : World) (R3 : Nat) (vS : Value) (i : Value) (wr : World) : Prop := ∃ (j : Nat) (qs : List BQ) (G : Option Addr) (c : Nat), j ≤ s.boxes.length ∧ i = .int .i64 j ∧ qs.map Prod.fst = s.boxes.take j ∧ Has wr R3 [.slice G qs.length c, vS] ∧ Rows wr (w.heap.size + 2) (rowsOf qs (.slice G qs.length c) vS s.spool) ∧
 OffR (rowsOf qs (.slice G qs.length c) vS s.spool) R3 ∧ Has wr (w.heap.size + 1) [.slice none 0 0, .slice none 0 0] ∧ Below w.heap.size w wr
theorem own_any (s : St) (vB vS : Value) (F : Dom) (w : World) (hB : SAt cBox w F vB s.boxes) (hS : SAt cEnt w F vS s.spool) (hl : s.boxes.length ≤ 1000) (hsl : s.spool.length ≤ 1000) (hml : ∀ b ∈ s.boxes, b.mails.length ≤ 1000) :
    Calls Tryz.prog 53 #[.agg #[vB, vS]] w (OwnPost s w) := by
 obtain ⟨i0, hi, hz0, hz1, hz2⟩ := info_parts infoBx
 have HI := Lib.hid hi; have HZ0 := Lib.hid hz0; have HZ1 := Lib.hid hz1; have HZ2 := Lib.hid hz2
 clear hi hz0 hz1 hz2
 obtain ⟨Gb, cb, rfl, hcb⟩ := hB.form
 obtain ⟨Gs, cS, rfl, hcs⟩ := hS.form
 have HB := Lib.hid hB; have HML := Lib.hid hml
 have hA := ba (ba (Below.refl w.heap.size w) (.cells #[.slice Gb s.boxes.length cb, .slice Gs s.spool.length cS] 73)) (.cells #[.slice none 0 0, .slice none 0 0] 73)
 have h1 := (Has.alloc w [.slice Gb s.boxes.length cb, .slice Gs s.spool.length cS] 73).down (ba (Below.refl _ _) (.cells #[.slice none 0 0, .slice none 0 0] 73))
 have h2 := Has.alloc (w.alloc (.cells #[.slice Gb s.boxes.length cb, .slice Gs s.spool.length cS] 73)) [.slice none 0 0, .slice none 0 0] 73
 simp only [World.size_alloc] at h2
 have hCl := Lib.hid (cloneE_any _ s.spool F _ (hS.down hA) (by omega))
 have HA := Lib.hid hA; have H1 := Lib.hid h1; have H2 := Lib.hid h2
 clear hA hB hS hml h1 h2
 go_enter Tryz.func53, Tryz.ntmps53
 go_wp2_with fail
 refine hCl.out.mono ?_
 rintro e w1 ⟨⟨vS1, rfl, ho1⟩, hb1⟩
 obtain ⟨G2, c2, rfl⟩ : ∃ G c, vS1 = .slice G s.spool.length c := row_form (r := ⟨vS1, _, _, s.spool.length, _⟩) ho1
 have hA1 := ba (Below.refl w1.heap.size w1) (.cells #[.slice none 0 0, .slice G2 s.spool.length c2] 73)
 have hN1 := (H1.out.down hb1).down hA1
 have hR1 := (H2.out.down hb1).down hA1
 obtain ⟨n0, n1, -, -⟩ := hN1.two
 have hOut := Has.alloc w1 [.slice none 0 0, .slice G2 s.spool.length c2] 73
 have hbw1 := bt (bt HA.out hb1) hA1
 have hz1 : w.heap.size + 2 ≤ w1.heap.size := by have := hb1.size; simp at this; omega
 have hrow0 : Rows w1 (w.heap.size + 2) (rowsOf [] (.slice none 0 0) (.slice G2 s.spool.length c2) s.spool) := by
  have hS : (rowS (.slice G2 s.spool.length c2) s.spool).At w1 (w.heap.size + 2) := row_base (by simp) ho1
  refine ⟨fun r hr => ?_, fun i j a b ha hb hij => ?_⟩
  ·rcases List.mem_cons.1 hr with rfl | hr
   ·exact World.ownsRow_nil _ _ _ _
   ·obtain rfl := List.mem_singleton.1 hr; exact hS
  ·match i, j, ha, hb with
   | 0, _, ha, _ => obtain rfl := Option.some.inj ha; exact .inl rfl
   | 1, 0, ha, hb =>
    obtain rfl := Option.some.inj hb; obtain rfl := Option.some.inj ha
    cases hv : (rowS (.slice G2 s.spool.length c2) s.spool).v.ownBlock with
    | none => exact .inl rfl
    | some k => right; intro e; cases e
   | 1, 1, _, _ => exact absurd rfl hij
   | 1, _ + 2, _, hb => simp [rowsOf] at hb
   | _ + 2, _, ha, _ => simp [rowsOf] at ha
 have hoff0 := offR_high hrow0 (Nat.le_refl _)
 have hrow1 := hrow0.down hA1
 have HOFF1 := Lib.hid hoff0
 have HR1 := Lib.hid hR1; have HO1 := Lib.hid hOut; have HB1 := Lib.hid hbw1; have HROW1 := Lib.hid hrow1
 clear hA1 hN1 hR1 hOut hbw1 hrow1 hb1 ho1 hrow0 hoff0
 go_wp2_with fail
 obtain ⟨R3, hR3⟩ : ∃ R3, R3 = w1.heap.size := ⟨_, rfl⟩
 obtain ⟨W1, hW1⟩ : ∃ W1, W1 = w1.alloc (.cells #[.slice none 0 0, .slice G2 s.spool.length c2] 73) := ⟨_, rfl⟩
 rw [← hW1] at HR1 HO1 HB1 HROW1 ⊢
 rw [← hR3] at HO1 HOFF1 hz1 ⊢
 clear hW1 hR3 n0 n1
 go_loopw [13] (OwnRel s w R3 (.slice G2 s.spool.length c2)) (fun i _ => s.boxes.length - (intOf i).toNat)
 case atStart => exact ⟨0, [], none, 0, Nat.zero_le _, rfl, rfl, HO1.out, HROW1.out, HOFF1.out, HR1.out, HB1.out⟩
 case round =>
  obtain ⟨j, qs, G, cq, hj, rfl, hqs, hO, hrow, hoff, hR, hb⟩ := hrel
  clear HO1 HROW1 HOFF1 HR1 HB1
  have hql : qs.length = min j s.boxes.length := by rw [← List.length_take, ← hqs, List.length_map]
  have hqj : qs.length ≤ 1000 := by omega
  have hR3 := hO.2.2
  by_cases hlt : j < s.boxes.length
  ·obtain ⟨g, off, a, c, rfl, hF, hg, hac, hm, c0, c1, c2'⟩ := box_get HB.out hb j hlt
   have hml := HML.out s.boxes[j] (List.getElem_mem _)
   have hgr : g < wr.heap.size := Nat.lt_of_lt_of_le hg hb.size
   have hnext := fun v => take_map_snoc hqs hlt v
   have HNX := Lib.hid hnext
   clear hnext hqs hql
   generalize s.boxes[j] = b at hac hm hml c0 c1 c2' HNX
   have hA := ba (Below.refl wr.heap.size wr) (.cells #[.string ⟨b.name.toArray⟩, .int .i64 b.next, .slice a b.mails.length c] 119)
   have hCm := Lib.hid (cloneM_any (.slice a b.mails.length c) b.mails F _ (hm.down hA) (by omega))
   have HX := Lib.hid (Has.alloc wr [.string ⟨b.name.toArray⟩, .int .i64 b.next, .slice a b.mails.length c] 119)
   have HO := Lib.hid (hO.down hA); have HR := Lib.hid (hR.down hA); have HBW := Lib.hid (bt hb hA)
   have HROW := Lib.hid hrow; have HOFF := Lib.hid hoff
   clear hA hO hrow hoff hR hb hm
   go_wp2_with fail
   refine hCm.out.mono ?_
   rintro e w2 ⟨⟨v', rfl, hown⟩, hb2⟩
   obtain ⟨G', c', rfl⟩ : ∃ G c, v' = .slice G b.mails.length c := row_form (r := ⟨v', _, _, b.mails.length, _⟩) hown
   have hx := HX.out.down hb2
   obtain ⟨x0, x1, x2⟩ : w2.cell? ⟨wr.heap.size, 0, none⟩ = some (.string ⟨b.name.toArray⟩) ∧ w2.cell? ⟨wr.heap.size, 1, none⟩ = some (.int .i64 b.next) ∧ w2.cell? ⟨wr.heap.size, 2, none⟩ = some (.slice a b.mails.length c) := ⟨hx.1 0 _ rfl, hx.1 1 _ rfl, hx.1 2 _ rfl⟩
   have xf := hx.2.1 2 (by simp)
   have HX2 := Lib.hid (hx.set' (i := 2) (.slice G' b.mails.length c') (by simp))
   have HO2 := Lib.hid ((HO.out.down hb2).else' (c := wr.heap.size) (i := 2) (by omega) (.slice G' b.mails.length c'))
   have HR2 := Lib.hid ((HR.out.down hb2).else' (c := wr.heap.size) (i := 2) (by omega) (.slice G' b.mails.length c'))
   have HB2 := Lib.hid ((bt HBW.out hb2).setCell (p := ⟨wr.heap.size, 2, none⟩) (by show w.heap.size ≤ wr.heap.size; omega) (.slice G' b.mails.length c'))
   have HOWN := Lib.hid hown; have HD2 := Lib.hid hb2
   clear c0 c1 c2' hx hown hb2 HX HO HR HBW
   go_upto_region 6 with fail
   obtain ⟨y0, y1, y2⟩ := (⟨HX2.out.1 0 _ rfl, HX2.out.1 1 _ rfl, HX2.out.1 2 _ rfl⟩ : (w2.setCell ⟨wr.heap.size, 2, none⟩ (.slice G' b.mails.length c')).cell? ⟨wr.heap.size, 0, none⟩ = some (.string ⟨b.name.toArray⟩) ∧ (w2.setCell ⟨wr.heap.size, 2, none⟩ (.slice G' b.mails.length c')).cell? ⟨wr.heap.size, 1, none⟩ = some (.int .i64 b.next) ∧ (w2.setCell ⟨wr.heap.size, 2, none⟩ (.slice G' b.mails.length c')).cell? ⟨wr.heap.size, 2, none⟩ = some (.slice G' b.mails.length c'))
   obtain ⟨o0, o1, p0, p1⟩ := HO2.out.two
   have hR32 := HO2.out.2.2
   have hbs2 := HB2.out.size
   have hrA : (rowB (.slice G qs.length cq) qs).At wr (w.heap.size + 2) := HROW.out.1 _ (List.mem_cons_self ..)
   have hoffB := offR_high HROW.out (Nat.le_refl wr.heap.size) _ (List.mem_cons_self ..)
   have hrW : (rowB (.slice G qs.length cq) qs).At (w2.setCell ⟨wr.heap.size, 2, none⟩ (.slice G' b.mails.length c')) (w.heap.size + 2) :=
    row_off (row_down (row_down hrA (ba (Below.refl wr.heap.size wr) _)) HD2.out) hoffB 2 _
   have hoff3 : (Value.slice G qs.length cq).ownBlock ≠ some R3 := HOFF.out _ (List.mem_cons_self ..)
   obtain ⟨W2, hW2⟩ : ∃ W2, W2 = w2.setCell ⟨wr.heap.size, 2, none⟩ (.slice G' b.mails.length c') := ⟨_, rfl⟩
   rw [← hW2] at y0 y1 y2 o0 o1 p0 p1 hR32 hbs2 hrW HB2 HR2 HO2 ⊢
   have HW2 := Lib.hid hW2; have HRW := Lib.hid (hrW.alloc (.cells #[.string ⟨b.name.toArray⟩, .int .i64 b.next, .slice G' b.mails.length c'] 119))
   have hwr2 : wr.heap.size + 1 ≤ w2.heap.size := by have := HD2.out.size; simpa using this
   have hz22 : w.heap.size + 2 ≤ W2.heap.size := by rw [hW2]; simp; omega
   clear x0 x1 x2 xf hW2 hrA hrW hoffB HX2 hCm
   go_wp2_with (at_builtin; refine wpList_append_lies _ (by rfl) _ _ _ (by rfl) (w.heap.size + 2) 119 i0 _ 3 48 Tryz.underlying70 HI.out HZ0.out HZ1.out HZ2.out rfl (by omega) (.slice G qs.length cq) qs.length (bxcells qs) (by rfl) HRW.out ⟨W2.heap.size, 0, none⟩ 1 1 [.string ⟨b.name.toArray⟩, .int .i64 b.next, .slice G' b.mails.length c'] (by rfl) (by rfl) (news_of W2 _ _) (by simp [Value.oneCell']) (by omega) (by unfold maxLen; omega) (by omega) (by simp; omega) (W2.heap.size + 1) (by simp) ?_)
   intro g5 cap5 w5 hown5 hgrow5 hat5 hlt5
   have hb5 := below_row (ba HB2.out (.cells #[.string ⟨b.name.toArray⟩, .int .i64 b.next, .slice G' b.mails.length c'] 119)) (Nat.le_refl _) HRW.out (by omega) hgrow5
   have hoR : some R3 ≠ (Value.slice G qs.length cq).ownBlock := fun e => hoff3 e.symm
   have hO5 := (HO2.out.down (ba (Below.refl W2.heap.size W2) (.cells #[.string ⟨b.name.toArray⟩, .int .i64 b.next, .slice G' b.mails.length c'] 119))).kept hgrow5 hoR
   have hR5 := (HR2.out.down (ba (Below.refl W2.heap.size W2) (.cells #[.string ⟨b.name.toArray⟩, .int .i64 b.next, .slice G' b.mails.length c'] 119))).kept hgrow5 (row_apart HRW.out (by omega))
   have hrd : Hid (Rows (w5.setCell ⟨R3, 0, none⟩ (.slice (some ⟨g5, 0, none⟩) (qs.length + 1) cap5)) (w.heap.size + 2) (rowsOf (qs ++ [(b, .slice G' b.mails.length c')]) (.slice (some ⟨g5, 0, none⟩) (qs.length + 1) cap5) (.slice G2 s.spool.length c2) s.spool) ∧ OffR (rowsOf (qs ++ [(b, .slice G' b.mails.length c')]) (.slice (some ⟨g5, 0, none⟩) (qs.length + 1) cap5) (.slice G2 s.spool.length c2) s.spool) R3) := by
    refine own_round (q := (b, .slice G' b.mails.length c')) (u := .slice G' b.mails.length c') (o2 := .cells #[.string ⟨b.name.toArray⟩, .int .i64 b.next, .slice G' b.mails.length c'] 119) HROW.out HOFF.out hR3 (by omega) HD2.out HOWN.out ?_ hown5 ?_
    ·rw [← HW2.out]; exact hgrow5
    ·rw [← HW2.out]
     rcases hat5 with e | e
     ·exact .inl e
     ·exact .inr (by rw [e]; simp)
   obtain ⟨q0, q1, r0, r1⟩ := hO5.two
   have HO5 := Lib.hid hO5; have HR5 := Lib.hid hR5; have HB5 := Lib.hid hb5
   clear hown5 hgrow5 hat5 hO5 hR5 hb5 y0 y1 y2 o0 o1 p0 p1 hoR
   go_wp2_with fail
   go_roundw
   case rel => exact ⟨j + 1, qs ++ [(b, .slice G' b.mails.length c')], some ⟨g5, 0, none⟩, cap5, hlt, by go_num, HNX.out _, by rw [List.length_append]; exact HO5.out.set' (i := 0) _ (by simp), by rw [List.length_append]; exact hrd.out.1, by rw [List.length_append]; exact hrd.out.2, HR5.out.else' (by omega) _, HB5.out.setCell (p := ⟨R3, 0, none⟩) (by show w.heap.size ≤ R3; omega) _⟩
   case measure => simp [intOf]; omega
  ·obtain rfl : j = s.boxes.length := by omega
   rw [List.take_length] at hqs
   obtain ⟨c0, c1, -, -⟩ := hO.two
   obtain ⟨d0, d1, f0, f1⟩ := hR.two
   have HRR := Lib.hid hR; have HROW := Lib.hid hrow; have HBB := Lib.hid hb; have HQ := Lib.hid hqs
   clear hO hR hrow hb hqs hoff hql
   go_wp2_with fail
   refine own_end (R := w.heap.size + 1) (vB := .slice G qs.length cq) (vS := .slice G2 s.spool.length c2) rfl rfl ((HRR.out.set' (i := 0) _ (by simp)).set' (i := 1) _ (by simp)) ⟨qs, HQ.out.symm, ?_⟩ ((HBB.out.setCell (p := ⟨w.heap.size + 1, 0, none⟩) (by show w.heap.size ≤ w.heap.size + 1; omega) _).setCell (p := ⟨w.heap.size + 1, 1, none⟩) (by show w.heap.size ≤ w.heap.size + 1; omega) _)
   have hlow := offR_low HROW.out (show w.heap.size + 1 < w.heap.size + 2 by omega)
   have := ((HROW.out.else' (Go.Lib.grownBy_setB (World.grownBy.refl wr (some (w.heap.size + 1))) 0 (.slice G qs.length cq)) hlow).else' (Go.Lib.grownBy_setB (World.grownBy.refl _ (some (w.heap.size + 1))) 1 (.slice G2 s.spool.length c2)) hlow)
   exact ⟨fun r hr => row_base (by omega) (this.1 r hr), this.2⟩
theorem findc_any (b : Bx) (a : Option Addr) (n c : Nat) (name : List UInt8) (N : Nat) (w : World) (hN : w.cell? ⟨N, 0, none⟩ = some (.string ⟨name.toArray⟩)) :
    Calls Tryz.prog 128 #[.agg #[.string ⟨b.name.toArray⟩, .int .i64 b.next, .slice a n c], .pointer (some ⟨N, 0, none⟩)] w fun e w' => e = .returned (.bool (b.name == name)) ∧ Below w.heap.size w w' := by
 have hNa := moved hN (ba (Below.refl w.heap.size w) (.cells #[.string ⟨b.name.toArray⟩, .int .i64 b.next, .slice a n c] 119)) (Nat.le_refl _)
 have hA := Lib.hid (ba (Below.refl w.heap.size w) (.cells #[.string ⟨b.name.toArray⟩, .int .i64 b.next, .slice a n c] 119))
 go_enter Tryz.func128, Tryz.ntmps128
 go_wp2_with fail
 go_ret
 exact ⟨rfl, hA.out⟩
theorem indexB_any (v : Value) (l : List Bx) (F : Dom) (name : List UInt8) (N : Nat) (w : World) (h : SAt cBox w F v l) (hl : l.length ≤ 1000) (hN : w.cell? ⟨N, 0, none⟩ = some (.string ⟨name.toArray⟩)) :
    Calls Tryz.prog 127 #[v, .func (.func 128) #[] #[.pointer (some ⟨N, 0, none⟩)]] w fun e w' => e = .returned (.int .i64 (idx (findB l name))) ∧ Below w.heap.size w w' := by
 obtain ⟨G, cap, rfl, hcap⟩ := h.form
 have H := Lib.hid h; have HN := Lib.hid hN
 clear h hN
 go_enter Tryz.func127, Tryz.ntmps127
 go_wp2_with fail
 go_loopw [8] (fun i wr => ∃ j : Nat, j ≤ l.length ∧ i = .int .i64 j ∧ (∀ k (hk : k < l.length), k < j → l[k].name ≠ name) ∧ Below w.heap.size w wr) (fun i _ => l.length - (intOf i).toNat)
 case atStart => exact ⟨0, Nat.zero_le _, rfl, (fun k _ h => absurd h (Nat.not_lt_zero _)), Below.refl _ _⟩
 case round =>
  obtain ⟨j, hj, rfl, hno, hb⟩ := hrel
  have HNO := Lib.hid hno
  clear hno
  by_cases hlt : j < l.length
  ·obtain ⟨g, off, a, c, rfl, hF, hg, hac, hm, c0, c1, c2⟩ := box_get H.out hb j hlt
   have hC := Lib.hid (findc_any l[j] a l[j].mails.length c name N wr (moved HN.out hb (Nat.le_refl _)))
   have hgr : g < wr.heap.size := Nat.lt_of_lt_of_le hg hb.size
   by_cases he : l[j].name = name
   ·have hfi : Hid (idx (findB l name) = (j : Int)) := by
     have : findB l name = some j := by
      unfold findB
      rw [List.findIdx?_eq_some_iff_getElem]
      exact ⟨hlt, by simpa using he, fun k hk => by simpa using HNO.out k (by omega) hk⟩
     unfold Hid; rw [this]; rfl
    have hC2 : Hid (Calls Tryz.prog 128 #[.agg #[.string ⟨l[j].name.toArray⟩, .int .i64 l[j].next, .slice a l[j].mails.length c], .pointer (some ⟨N, 0, none⟩)] wr fun e w' => e = .returned (.bool true) ∧ Below wr.heap.size wr w') := by
     have := hC.out
     rwa [show (l[j].name == name) = true by simpa using he] at this
    clear he hC hm HNO
    generalize l[j] = b at c0 c1 c2 hC2 hac
    go_wp2_with fail
    refine hC2.out.mono ?_
    rintro e w1 ⟨rfl, hb1⟩
    have HB := Lib.hid (bt hb hb1)
    clear c0 c1 c2 hb1 hb
    go_wp2_with fail
    go_ret
    exact ⟨by rw [hfi.out]; rfl, HB.out⟩
   ·have hno2 : Hid (∀ k (hk : k < l.length), k < j + 1 → l[k].name ≠ name) := by
     intro k hk hkj
     rcases Nat.lt_succ_iff_lt_or_eq.1 hkj with h | h
     ·exact HNO.out k hk h
     ·subst h; exact he
    have hC2 : Hid (Calls Tryz.prog 128 #[.agg #[.string ⟨l[j].name.toArray⟩, .int .i64 l[j].next, .slice a l[j].mails.length c], .pointer (some ⟨N, 0, none⟩)] wr fun e w' => e = .returned (.bool false) ∧ Below wr.heap.size wr w') := by
     have := hC.out
     rwa [show (l[j].name == name) = false by simpa using he] at this
    clear he hC hm HNO
    generalize l[j] = b at c0 c1 c2 hC2 hac
    go_wp2_with fail
    refine hC2.out.mono ?_
    rintro e w1 ⟨rfl, hb1⟩
    have HB := Lib.hid (bt hb hb1)
    clear c0 c1 c2 hb1 hb
    go_wp2_with fail
    go_roundw
    case rel => exact ⟨j + 1, hlt, by go_num, hno2.out, HB.out⟩
    case measure => simp [intOf]; omega
  ·obtain rfl : j = l.length := by omega
   have hfi : Hid (idx (findB l name) = -1) := by
    have : findB l name = none := by
     unfold findB
     rw [List.findIdx?_eq_none_iff]
     intro b hb
     obtain ⟨k, hk, rfl⟩ := List.getElem_of_mem hb
     simpa using HNO.out k hk hk
    unfold Hid; rw [this]; rfl
   clear HNO
   go_wp2_with fail
   go_ret
   exact ⟨by rw [hfi.out]; rfl, hb⟩
theorem find_any (v : Value) (l : List Bx) (F : Dom) (name : List UInt8) (w : World) (h : SAt cBox w F v l) (hl : l.length ≤ 1000) :
    Calls Tryz.prog 84 #[v, .string ⟨name.toArray⟩] w fun e w' => e = .returned (.int .i64 (idx (findB l name))) ∧ Below w.heap.size w w' := by
 have hA := ba (Below.refl w.heap.size w) (.cells #[.string ⟨name.toArray⟩] 9)
 have hI := Lib.hid (indexB_any v l F name w.heap.size (w.alloc (.cells #[.string ⟨name.toArray⟩] 9)) (h.down hA) hl ((Has.alloc w [.string ⟨name.toArray⟩] 9).1 0 _ rfl))
 have HA := Lib.hid hA
 obtain ⟨G, cap, rfl, hcap⟩ := h.form
 obtain ⟨r, hr⟩ : ∃ r, r = idx (findB l name) := ⟨_, rfl⟩
 rw [← hr] at hI ⊢
 clear h hA hr
 go_enter Tryz.func84, Tryz.ntmps84
 go_wp2_with fail
 refine hI.out.mono ?_
 rintro e w1 ⟨rfl, hb1⟩
 have HB := Lib.hid (bt HA.out hb1)
 clear hb1
 go_wp2_with fail
 go_ret
 exact ⟨rfl, HB.out⟩
def lastU (l : List Mail) : Nat → Nat
 | 0 => 0
 | j + 1 => (l[j]?.map Mail.uid).getD 0
theorem mails_at (next : Nat) : ∀ (l : List Mail) (last : Nat), MailsOK next last l → ∀ j (h : j < l.length), (if j = 0 then last else lastU l j) < l[j].uid ∧ l[j].uid < next ∧ l[j].flags ≤ 31 ∧ l[j].text.length ≤ 2000
 | m :: l, last, ⟨h1, h2, h3, h4, h5⟩, 0, _ => ⟨h1, h2, h3, h4⟩
 | m :: l, last, ⟨h1, h2, h3, h4, h5⟩, j + 1, h => by
  have hj : j < l.length := by simpa using h
  have := mails_at next l m.uid h5 j hj
  rw [if_neg (by omega)]
  show lastU (m :: l) (j + 1) < l[j].uid ∧ _
  cases j with
  | zero => exact this
  | succ j => rw [if_neg (by omega)] at this; exact this
theorem lastU_succ (l : List Mail) (j : Nat) (h : j < l.length) : lastU l (j + 1) = l[j].uid := by
 show (l[j]?.map Mail.uid).getD 0 = _
 rw [List.getElem?_eq_getElem h]; rfl
theorem box_any (b : Bx) (a : Option Addr) (c : Nat) (F : Dom) (w : World) (h : SAt cMail w F (.slice a b.mails.length c) b.mails) (hok : BoxOK b) :
    Calls Tryz.prog 83 #[.agg #[.string ⟨b.name.toArray⟩, .int .i64 b.next, .slice a b.mails.length c]] w fun e w' => e = .returned (.bool true) ∧ Below w.heap.size w w' := by
 obtain ⟨hn, hx1, hx2, hml, hmo⟩ := hok
 have hnl : b.name.length ≤ 12 := by
  have := hn
  unfold nameCode at this
  split at this
  ·cases this
  ·omega
 have hN : Hid (∀ w, Calls Tryz.prog 90 #[.string ⟨b.name.toArray⟩] w fun e w' => e = .returned (.int .i64 0) ∧ w = w') := by
  intro w; have := name_list b.name w (by omega); rwa [hn] at this
 have HMO : Hid (∀ j (h : j < b.mails.length), lastU b.mails j < b.mails[j].uid ∧ b.mails[j].uid < b.next ∧ b.mails[j].flags ≤ 31 ∧ b.mails[j].text.length ≤ 2000) := by
  intro j h
  have := mails_at b.next b.mails 0 hmo j h
  cases j with
  | zero => exact this
  | succ j => rw [if_neg (by omega)] at this; exact this
 have hA := ba (Below.refl w.heap.size w) (.cells #[.string ⟨b.name.toArray⟩, .int .i64 b.next, .slice a b.mails.length c] 119)
 have HX := Lib.hid (Has.alloc w [.string ⟨b.name.toArray⟩, .int .i64 b.next, .slice a b.mails.length c] 119)
 have HS := Lib.hid (h.down hA); have HA := Lib.hid hA
 clear h hn hmo hA
 go_enter Tryz.func83, Tryz.ntmps83
 go_wp2_with fail
 refine (hN.out _).mono ?_
 rintro e w1 ⟨rfl, rfl⟩
 go_wp2_with fail
 obtain ⟨W0, hW0⟩ : ∃ W0, W0 = w.alloc (.cells #[.string ⟨b.name.toArray⟩, .int .i64 b.next, .slice a b.mails.length c] 119) := ⟨_, rfl⟩
 rw [← hW0] at HX HS HA ⊢
 clear hW0
 go_loopw [3, 29] (fun n i wr => ∃ j : Nat, j ≤ b.mails.length ∧ i = .int .i64 j ∧ n = .int .i64 (lastU b.mails j : Nat) ∧ Below W0.heap.size W0 wr) (fun _ i _ => b.mails.length - (intOf i).toNat)
 case atStart => exact ⟨0, Nat.zero_le _, rfl, rfl, Below.refl _ _⟩
 case round =>
  obtain ⟨j, hj, rfl, rfl, hb⟩ := hrel
  by_cases hlt : j < b.mails.length
  ·obtain ⟨g, off, rfl, hF, hg, m0, m1, m2⟩ := mail_get HS.out hb j hlt
   obtain ⟨k1, k2, k3, k4⟩ := HMO.out j hlt
   have hlu := Lib.hid (lastU_succ b.mails j hlt)
   have hgr : g < wr.heap.size := Nat.lt_of_lt_of_le hg hb.size
   generalize b.mails[j] = m at m0 m1 m2 k1 k2 k3 k4 hlu
   obtain ⟨la, hla⟩ : ∃ la, la = lastU b.mails j := ⟨_, rfl⟩
   rw [← hla] at k1 ⊢
   clear hla
   have hx := HX.out.down hb
   have x1 := moved (hx.1 1 _ rfl) (ba (Below.refl wr.heap.size wr) (.cells #[.int .i64 m.uid, .int .i64 m.flags, .string ⟨m.text.toArray⟩] 133)) (Nat.le_refl _)
   have HB := Lib.hid (ba hb (.cells #[.int .i64 m.uid, .int .i64 m.flags, .string ⟨m.text.toArray⟩] 133))
   have d1 : decide ((m.uid : Int) ≤ la) = false := decide_eq_false (by omega)
   have d2 : decide ((b.next : Int) ≤ m.uid) = false := decide_eq_false (by omega)
   have d3 : decide ((m.flags : Int) < 0) = false := decide_eq_false (by omega)
   have d4 : decide ((31 : Int) < m.flags) = false := decide_eq_false (by omega)
   have d5 : decide ((2000 : Int) < m.text.length) = false := decide_eq_false (by omega)
   clear hx hb
   go_wp2_with fail
   go_roundw
   case rel => exact ⟨j + 1, hlt, by go_num, by rw [hlu.out], HB.out⟩
   case measure => simp [intOf]; omega
  ·obtain rfl : j = b.mails.length := by omega
   have HB := Lib.hid (bt HA.out hb)
   clear hb
   go_wp2_with fail
   go_ret
   exact ⟨rfl, HB.out⟩
theorem findB_pre {l : List Bx} (h : l.Pairwise fun a b => a.name ≠ b.name) (j : Nat) (hj : j < l.length) : findB (l.take j) l[j].name = none := by
 unfold findB
 rw [List.findIdx?_eq_none_iff]
 intro x hx
 obtain ⟨i, hi, rfl⟩ := List.getElem_of_mem hx
 rw [List.length_take] at hi
 rw [List.getElem_take]
 have := List.pairwise_iff_getElem.1 h i j (by omega) hj (by omega)
 simpa using this
theorem checkS_any (s : St) (vB vS : Value) (F : Dom) (m : Int) (w : World) (hB : SAt cBox w F vB s.boxes) (hS : SAt cEnt w F vS s.spool) (hg : GoodS s) (hm : w.cell? ⟨6, 0, none⟩ = some (.int .i64 m)) :
    Calls Tryz.prog 51 #[.agg #[vB, vS]] w fun e w' => e = .returned (.int .i64 0) ∧ Below w.heap.size w w' := by
 obtain ⟨Gb, cb, rfl, hcb⟩ := hB.form
 obtain ⟨Gs, cS, rfl, hcs⟩ := hS.form
 obtain ⟨h1, h2, hok, hnm, hout, hroom⟩ := hg
 have hA := ba (Below.refl w.heap.size w) (.cells #[.slice Gb s.boxes.length cb, .slice Gs s.spool.length cS] 73)
 have HX := Lib.hid (Has.alloc w [.slice Gb s.boxes.length cb, .slice Gs s.spool.length cS] 73)
 have HB := Lib.hid (hB.down hA); have HS := Lib.hid (hS.down hA); have HA := Lib.hid hA
 have HM := Lib.hid (moved hm hA (Nat.le_refl _))
 have HOK := Lib.hid hok; have HNM := Lib.hid hnm; have HOUT := Lib.hid hout
 have hml : Hid (∀ b ∈ s.boxes, b.mails.length ≤ 1000) := fun b hb => by have := (hok b hb).2.2.2.1; omega
 clear hB hS hok hnm hout hm hA
 go_enter Tryz.func51, Tryz.ntmps51
 go_wp2_with fail
 obtain ⟨N, hN⟩ : ∃ N, N = w.heap.size := ⟨_, rfl⟩
 obtain ⟨W0, hW0⟩ : ∃ W0, W0 = w.alloc (.cells #[.slice Gb s.boxes.length cb, .slice Gs s.spool.length cS] 73) := ⟨_, rfl⟩
 rw [← hW0] at HX HB HS HA HM ⊢
 rw [← hN] at HX ⊢
 have hNW : N < W0.heap.size := by rw [hW0, hN]; simp
 clear hW0 hN
 go_loopw [20] (fun i wr => ∃ j : Nat, j ≤ s.boxes.length ∧ i = .int .i64 j ∧ Below W0.heap.size W0 wr) (fun i _ => s.boxes.length - (intOf i).toNat)
 case atStart => exact ⟨0, Nat.zero_le _, rfl, Below.refl _ _⟩
 case round =>
  obtain ⟨j, hj, rfl, hb⟩ := hrel
  by_cases hlt : j < s.boxes.length
  ·obtain ⟨g, off, a, c, rfl, hF, hg, hac, hm, c0, c1, c2⟩ := box_get HB.out hb j hlt
   have hbo := HOK.out s.boxes[j] (List.getElem_mem _)
   have hfp := findB_pre HNM.out j hlt
   have hgr : g < wr.heap.size := Nat.lt_of_lt_of_le hg hb.size
   have hjc : j ≤ cb := by omega
   have hFi : Hid (∀ w', Below W0.heap.size W0 w' → Calls Tryz.prog 84 #[.slice (some ⟨g, off, none⟩) j cb, .string ⟨s.boxes[j].name.toArray⟩] w' fun e w'' => e = .returned (.int .i64 (-1)) ∧ Below w'.heap.size w' w'') := by
    intro w' hb'
    have := find_any (.slice (some ⟨g, off, none⟩) j cb) (s.boxes.take j) F s.boxes[j].name w' ((HB.out.down hb').take j cb (by omega) hjc) (by rw [List.length_take]; omega)
    rwa [hfp] at this
   have hBo : Hid (∀ w', Below wr.heap.size wr w' → Calls Tryz.prog 83 #[.agg #[.string ⟨s.boxes[j].name.toArray⟩, .int .i64 s.boxes[j].next, .slice a s.boxes[j].mails.length c]] w' fun e w'' => e = .returned (.bool true) ∧ Below w'.heap.size w' w'') :=
    fun w' hb' => box_any s.boxes[j] a c F w' (hm.down hb') hbo
   clear hfp hbo hm
   generalize s.boxes[j] = b at c0 c1 c2 hFi hBo hac
   have hx := HX.out.down hb
   obtain ⟨x0, x1, -, -⟩ := hx.two
   have hA1 := ba (Below.refl wr.heap.size wr) (.cells #[.string ⟨b.name.toArray⟩, .int .i64 b.next, .slice a b.mails.length c] 119)
   have hr := Has.alloc wr [.string ⟨b.name.toArray⟩, .int .i64 b.next, .slice a b.mails.length c] 119
   have r0 := hr.1 0 _ rfl; have r1 := hr.1 1 _ rfl; have r2 := hr.1 2 _ rfl
   have y0 := moved x0 hA1 (Nat.le_refl _)
   have HBR := Lib.hid hb; have HA1 := Lib.hid hA1
   clear hx hr hA1
   go_upto_region 6 with fail
   clear c0 c1 c2 x0 x1 hb
   obtain ⟨W1, hW1⟩ : ∃ W1, W1 = wr.alloc (.cells #[.string ⟨b.name.toArray⟩, .int .i64 b.next, .slice a b.mails.length c] 119) := ⟨_, rfl⟩
   obtain ⟨R, hR⟩ : ∃ R, R = wr.heap.size := ⟨_, rfl⟩
   rw [← hW1] at r0 r1 r2 y0 HA1 ⊢
   rw [← hR] at r0 r1 r2 ⊢
   have hdr := Below.drew (Below.refl W1.heap.size W1)
   clear hW1 hR
   go_region_held3 (fun w' => w'.cell? ⟨R, 0, none⟩ = some (.string ⟨b.name.toArray⟩) ∧ w'.cell? ⟨R, 1, none⟩ = some (.int .i64 b.next) ∧ w'.cell? ⟨R, 2, none⟩ = some (.slice a b.mails.length c) ∧ w'.cell? ⟨N, 0, none⟩ = some (.slice (some ⟨g, off, none⟩) s.boxes.length cb)) (first | exact ⟨r0, r1, r2, y0⟩ | exact ⟨r0', r1', r2', y0'⟩ | exact ⟨r0'', r1'', r2'', y0''⟩) (first
    | (go_at_call 83; refine (hBo.out _ (bt HA1.out hdr)).mono ?_; rintro e w3 ⟨rfl, hb3⟩; have r0' := moved (w := W1.drew) r0 hb3 (Nat.le_refl _); have r1' := moved (w := W1.drew) r1 hb3 (Nat.le_refl _); have r2' := moved (w := W1.drew) r2 hb3 (Nat.le_refl _); have y0' := moved (w := W1.drew) y0 hb3 (Nat.le_refl _))
    | (go_at_call 84; refine (hFi.out _ (bt (bt (bt HBR.out HA1.out) hdr) hb3)).mono ?_; rintro e w4 ⟨rfl, hb4⟩; have r0'' := moved r0' hb4 (Nat.le_refl _); have r1'' := moved r1' hb4 (Nat.le_refl _); have r2'' := moved r2' hb4 (Nat.le_refl _); have y0'' := moved y0' hb4 (Nat.le_refl _)))
   all_goals
    have HB4 := Lib.hid (bt (bt (bt (bt HBR.out HA1.out) hdr) hb3) hb4)
    clear r0 r1 r2 y0 r0' r1' r2' y0' r0'' r1'' r2'' y0'' hb3 hb4 hdr
    go_wp2_with fail
    go_roundw
    case rel => exact ⟨j + 1, hlt, by go_num, HB4.out⟩
    case measure => simp [intOf]; omega
  ·obtain rfl : j = s.boxes.length := by omega
   obtain ⟨wo, rfl⟩ : ∃ wo : World, wo = wr := ⟨_, rfl⟩
   obtain ⟨x0, x1, -, -⟩ := (HX.out.down hb).two
   have HBO := Lib.hid hb
   clear hb
   go_wp2_with fail
   clear x0 x1
   go_loopw [42] (fun i wr => ∃ j : Nat, j ≤ s.spool.length ∧ i = .int .i64 j ∧ Below W0.heap.size W0 wr) (fun i _ => s.spool.length - (intOf i).toNat)
   case atStart => exact ⟨0, Nat.zero_le _, rfl, HBO.out⟩
   case round =>
    obtain ⟨k, hk, rfl, hb⟩ := hrel
    by_cases hlk : k < s.spool.length
    ·obtain ⟨g, off, rfl, hF, hg, m0, m1, m2, m3, m4, m5⟩ := ent_get HS.out hb k hlk
     obtain ⟨hk6, hfm⟩ := HOUT.out s.spool[k] (List.getElem_mem _)
     have hgr : g < wr.heap.size := Nat.lt_of_lt_of_le hg hb.size
     generalize s.spool[k] = x at m0 m1 m2 m3 m4 m5 hk6 hfm
     obtain ⟨f1, f2, f3, f4, f5, f6⟩ := small_of_form hfm
     have hFm : Hid (∀ w', Below W0.heap.size W0 w' → Calls Tryz.prog 54 #[.agg #[.int .i64 x.kind, .string ⟨x.box.toArray⟩, .int .i64 x.uid, .int .i64 x.flags, .string ⟨x.to.toArray⟩, .string ⟨x.text.toArray⟩]] w' fun e w'' => e = .returned (.int .i64 0) ∧ Below w'.heap.size w' w'') := by
      intro w' hb'
      have := form_any x m w' (by omega) (by omega) (by omega) (by omega) (by omega) (by omega) (moved HM.out hb' (Nat.le_refl _))
      rwa [hfm] at this
     have q6 : ((x.kind : Int) == 6) = true := by simp; omega
     have q6' : ((x.kind : Int) != 6) = false := by simp; omega
     have HB := Lib.hid (ba hb (.cells #[.int .i64 x.kind, .string ⟨x.box.toArray⟩, .int .i64 x.uid, .int .i64 x.flags, .string ⟨x.to.toArray⟩, .string ⟨x.text.toArray⟩] 80))
     clear hb hfm f1 f2 f3 f4 f5 f6 hk6
     go_wp2_with fail
     refine (hFm.out _ HB.out).mono ?_
     rintro e w3 ⟨rfl, hb3⟩
     have HB3 := Lib.hid (bt HB.out hb3)
     clear hb3 m0 m1 m2 m3 m4 m5
     go_wp2_with fail
     go_roundw
     case rel => exact ⟨k + 1, hlk, by go_num, HB3.out⟩
     case measure => simp [intOf]; omega
    ·obtain rfl : k = s.spool.length := by omega
     have hSz := Lib.hid (bsize_any (.slice Gb s.boxes.length cb) Gs s.spool.length cS s.boxes F wr (HB.out.down hb) (by omega) hml.out (by omega))
     obtain ⟨x0, x1, -, -⟩ := (HX.out.down hb).two
     have HBO2 := Lib.hid (bt HA.out hb)
     obtain ⟨q, hq⟩ : ∃ q, q = sumB s.boxes := ⟨_, rfl⟩
     rw [← hq] at hSz hroom
     clear hb hq
     go_wp2_with fail
     refine hSz.out.mono ?_
     rintro e w3 ⟨rfl, hb3⟩
     have HB3 := Lib.hid (bt HBO2.out hb3)
     clear hb3 x0 x1
     go_wp2_with fail
     go_ret
     exact ⟨rfl, HB3.out⟩
end Go.Proofs.YtpfbkdbblpppdaaGreatDoor
