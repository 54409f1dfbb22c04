/-
  DERIVED. WhoBad: the walk.
-/
import Derived.Test.YtkchoempejdleaaDoorBadPlain
namespace Go.Proofs.YtkchoempejdleaaDoor
open Go.RowKit

def badV : Array Value := #[.string ⟨#[]⟩, .string ⟨#[97]⟩, .string ⟨#[64, 98]⟩, .string ⟨#[97, 64]⟩, .string ⟨#[97, 64, 98, 64, 99]⟩, .string ⟨#[60, 97, 64, 98]⟩, .string ⟨#[97, 64, 98, 62]⟩, .string ⟨#[97, 64, 98, 32, 99, 64, 100]⟩, .string ⟨#[97, 32, 98, 64, 99]⟩, .string ⟨#[60, 97, 32, 64, 98, 62]⟩, .string ⟨#[60, 62]⟩, .string ⟨#[97, 46, 46, 98, 64, 99]⟩, .string ⟨#[46, 97, 64, 98]⟩, .string ⟨#[97, 46, 64, 98]⟩, .string ⟨#[34, 120, 32, 60, 97, 64, 98, 62]⟩, .string ⟨#[34, 120, 34]⟩, .string ⟨#[97, 64, 98, 59]⟩]
theorem badV_eq : badV = (badL.map fun l => Value.string ⟨l.toArray⟩).toArray := rfl
theorem bad_small : ∀ b ∈ badL, b.length ≤ 8 := by decide
theorem bad_pick (p : Nat) (hp : p < 17) : ∃ B : ByteArray, badV[p]? = some (.string B) ∧ B.data.toList ∈ badL ∧ B.size ≤ 8 := by
  have hl : p < badL.length := hp
  refine ⟨⟨(badL[p]).toArray⟩, ?_, List.getElem_mem hl, bad_small _ (List.getElem_mem hl)⟩
  rw [badV_eq, List.getElem?_toArray, List.getElem?_map, List.getElem?_eq_getElem hl]
  rfl
theorem says_none {B : Nat} {w' : World} {e : Ending} (h : ListSays B w' e none) : e = .returned (.tuple #[.slice none 0 0, .int .i64 3]) := by
  rcases h with ⟨_, h⟩ | ⟨_, h, _⟩ | ⟨_, _, h, _⟩
  · exact h
  · cases h
  · cases h
theorem list_walk_bad (T : ByteArray) (m : Int) (w : World) (hs : T.size ≤ 2000) (h : listL T.data.toList = none) (hm : w.cell? ⟨0, 0, none⟩ = some (.int .i64 m)) :
    Calls Tryd.prog 19 #[.string T] w fun e w' => e = .returned (.tuple #[.slice none 0 0, .int .i64 3]) ∧ Below w.heap.size w w' := by
  refine (list_any T m w hs hm).mono ?_
  rintro e w' ⟨hs, hb⟩
  rw [h] at hs
  exact ⟨says_none hs, hb⟩

set_option maxHeartbeats 8000000 in
set_option maxRecDepth 20000 in
theorem whoBadWalk (a d v : ByteArray) (z : Int) (m : Int) (w : World) (ha0 : a.size ≤ maxLen) (hd0 : d.size ≤ maxLen) (_hv : v.size ≤ maxLen) (hz0 : (Lit.int .i64 z).wf = true) (hm : w.cell? ⟨0, 0, none⟩ = some (.int .i64 m)) :
    Calls Tryd.prog 7 #[.agg #[.string a, .string d, .string v], .int .i64 z] w fun e w' => e = .returned (.bool true) ∧ Below w.heap.size w w' := by
  obtain ⟨hz1, hz2⟩ := wf_bd hz0
  obtain ⟨p, hp17, hp⟩ : ∃ p : Nat, p < 17 ∧ ∀ w, Calls Tryd.prog 17 #[.int .i64 z, .int .i64 17] w fun e w' => e = .returned (.int .i64 p) ∧ w = w' :=
    ⟨pick z (17 : Nat), pick_lt z 17 (by omega), fun w => picked_any z 17 w hz1 hz2 (by omega) (by omega)⟩
  have HK := Lib.hid hp
  obtain ⟨B, hB, hBm, hBs⟩ := bad_pick p hp17
  have ha : a.size ≤ 9223372036854775807 := Nat.le_trans ha0 (by decide)
  have hd : d.size ≤ 9223372036854775807 := Nat.le_trans hd0 (by decide)
  clear ha0 hd0 hp
  obtain ⟨A, hA⟩ : ∃ A, A = addrL a.data.toList := ⟨_, rfl⟩
  obtain ⟨D, hD⟩ : ∃ D, D = addrD d.data.toList := ⟨_, rfl⟩
  have hAs : A.size ≤ 8 := by rw [hA]; exact addrL_size _
  have hDs : D.size ≤ 12 := by rw [hD]; exact (addrD_size _).1
  have HAd : Hid (∀ w, Calls Tryd.prog 15 #[.agg #[.string a, .string d, .string v]] w fun e w' => e = .returned (.agg #[.string A, .string D]) ∧ Below w.heap.size w w') := by
    rw [hA, hD]; exact fun w => address_any a d v w ha hd
  have hc0 : chk A.data.toList D.data.toList = 0 := by rw [hA, hD]; exact chk_ok _ _
  have hTs : (A ++ ⟨#[64]⟩ ++ D).size ≤ 21 := by rw [hA, hD]; exact text_size _ _
  have hTl : (A ++ ⟨#[64]⟩ ++ D).data.toList = wordL a.data.toList ++ 64 :: (wordL d.data.toList ++ [46, 111, 114, 103]) := by rw [hA, hD]; exact text_one _ _
  have p1 : partV 1 A D = (A ++ ⟨#[64]⟩ ++ D, 0) := by unfold partV; rw [hc0, if_neg (by decide), if_pos rfl]
  have hL3 : ∀ w, w.cell? ⟨0, 0, none⟩ = some (.int .i64 m) → Calls Tryd.prog 19 #[.string (A ++ ⟨#[64]⟩ ++ D)] w fun e w' => (∃ v, e = .returned (.tuple #[v, .int .i64 0]) ∧ w'.ownsRow w.heap.size 25 2 v 1 [.string A, .string D]) ∧ Below w.heap.size w w' := by
    exact fun w h => list_walk_one a.data.toList d.data.toList _ _ _ m w (by rw [hA, hD]) hA hD h
  have hP : ∀ w, w.cell? ⟨0, 0, none⟩ = some (.int .i64 m) → Calls Tryd.prog 16 #[.int .i64 1, .agg #[.string A, .string D]] w fun e w' => e = .returned (.tuple #[.string (A ++ ⟨#[64]⟩ ++ D), .int .i64 0]) ∧ Below w.heap.size w w' := by
    intro w h
    have := part_any 1 A D m w (by omega) (by omega) h
    rw [p1] at this
    exact this
  obtain ⟨T, hT⟩ : ∃ T, T = A ++ ⟨#[64]⟩ ++ D := ⟨_, rfl⟩
  rw [← hT] at hTs hTl hL3 hP
  obtain ⟨hn1, hn2⟩ := bad_both a.data.toList d.data.toList _ hBm
  have HF1 : Hid (∀ w, w.cell? ⟨0, 0, none⟩ = some (.int .i64 m) → Calls Tryd.prog 19 #[.string (B ++ ⟨#[44]⟩ ++ T)] w fun e w' => e = .returned (.tuple #[.slice none 0 0, .int .i64 3]) ∧ Below w.heap.size w w') := by
    intro w h
    refine list_walk_bad _ m w ?_ ?_ h
    · rw [ByteArray.size_append, ByteArray.size_append]; show B.size + 1 + T.size ≤ 2000; omega
    · rw [ByteArray.toList_data_append, ByteArray.toList_data_append, hTl, List.append_assoc]; exact hn1
  have HF2 : Hid (∀ w, w.cell? ⟨0, 0, none⟩ = some (.int .i64 m) → Calls Tryd.prog 19 #[.string (T ++ ⟨#[44]⟩ ++ B)] w fun e w' => e = .returned (.tuple #[.slice none 0 0, .int .i64 3]) ∧ Below w.heap.size w w') := by
    intro w h
    refine list_walk_bad _ m w ?_ ?_ h
    · rw [ByteArray.size_append, ByteArray.size_append]; show T.size + 1 + B.size ≤ 2000; omega
    · rw [ByteArray.toList_data_append, ByteArray.toList_data_append, hTl, List.append_assoc]; exact hn2
  have HL3 := Lib.hid hL3; have HP := Lib.hid hP
  have hM := Lib.hid hm
  have hbase : Hid (∀ o, Below w.heap.size w (w.alloc o)) := fun o => ba (Below.refl _ w) o
  have HB : Hid (∀ (wx : World), (wx.alloc (.cells badV 9)).cell? ⟨wx.heap.size, p, none⟩ = some (.string B)) := fun wx => alloc_cell wx badV _ p _ hB
  clear hA hD hc0 hm p1 hn1 hn2 hL3 hP hT hTl hB hBm
  go_enter Tryd.func7, Tryd.ntmps7
  go_wp2_with fail
  refine (HAd.out _).mono ?_
  rintro e w1 ⟨rfl, hb1⟩
  have hw1 := bt (hbase.out _) hb1
  go_wp2_with fail
  refine (HP.out _ (moved hM.out hw1 (Nat.le_refl _))).mono ?_
  rintro e w2 ⟨rfl, hb2⟩
  have hw2 := bt hw1 hb2
  have hB2 := HB.out w2
  unfold badV at hB2
  have hw3 := ba hw2 (.cells badV 9)
  unfold badV at hw3
  go_wp2_with fail
  refine (HK.out _).mono ?_
  rintro e w3 ⟨rfl, rfl⟩
  go_wp2_with fail
  refine (HF1.out _ (moved hM.out hw3 (Nat.le_refl _))).mono ?_
  rintro e w4 ⟨rfl, hb4⟩
  have hw4 := bt hw3 hb4
  clear hB2
  go_wp2_with fail
  refine (HF2.out _ (moved hM.out hw4 (Nat.le_refl _))).mono ?_
  rintro e w5 ⟨rfl, hb5⟩
  have hw5 := bt hw4 hb5
  go_wp2_with fail
  refine (HL3.out _ (moved hM.out hw5 (Nat.le_refl _))).mono ?_
  rintro e w6 ⟨⟨l, rfl, hown⟩, hb6⟩
  have hw6 := bt hw5 hb6
  go_wp2_with fail
  go_ret
  exact ⟨rfl, hw6⟩
end Go.Proofs.YtkchoempejdleaaDoor
