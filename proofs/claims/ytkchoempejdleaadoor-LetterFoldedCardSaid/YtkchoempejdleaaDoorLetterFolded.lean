/-
  DERIVED. LetterFolded: the walk.
-/
import Derived.Test.YtkchoempejdleaaDoorFoldPlain
namespace Go.Proofs.YtkchoempejdleaaDoor
open Go.RowKit

theorem folded_size (N X Y : ByteArray) (sN : N.size ≤ 8) (sX : X.size ≤ 8) (sY : Y.size ≤ 8) : (N ++ ⟨#[58]⟩ ++ X ++ ⟨#[13, 10, 32]⟩ ++ Y ++ ⟨#[13, 10, 9]⟩ ++ X ++ ⟨#[32, 13, 10, 13, 10]⟩).size ≤ 2000 := by
  rw [ByteArray.size_append, ByteArray.size_append, ByteArray.size_append, ByteArray.size_append, ByteArray.size_append, ByteArray.size_append, ByteArray.size_append]
  have e1 : (⟨#[58]⟩ : ByteArray).size = 1 := rfl
  have e2 : (⟨#[13, 10, 32]⟩ : ByteArray).size = 3 := rfl
  have e3 : (⟨#[13, 10, 9]⟩ : ByteArray).size = 3 := rfl
  have e4 : (⟨#[32, 13, 10, 13, 10]⟩ : ByteArray).size = 5 := rfl
  omega
theorem folded_size2 (X : ByteArray) (sX : X.size ≤ 8) : (⟨#[32]⟩ ++ X ++ ⟨#[13, 10, 13, 10]⟩ : ByteArray).size ≤ 2000 := by
  rw [ByteArray.size_append, ByteArray.size_append]
  have e1 : (⟨#[32]⟩ : ByteArray).size = 1 := rfl
  have e2 : (⟨#[13, 10, 13, 10]⟩ : ByteArray).size = 4 := rfl
  omega
theorem folded_text (N X Y : ByteArray) (a b c : List UInt8) (lN : N.data.toList = wordL a) (lX : X.data.toList = wordL b) (lY : Y.data.toList = wordL c) :
    parseL 0 [] (N ++ ⟨#[58]⟩ ++ X ++ ⟨#[13, 10, 32]⟩ ++ Y ++ ⟨#[13, 10, 9]⟩ ++ X ++ ⟨#[32, 13, 10, 13, 10]⟩).data.toList = ((foldF a b c, (⟨#[]⟩ : ByteArray).data.toList), 0, 0) := by
  rw [ByteArray.toList_data_append, ByteArray.toList_data_append, ByteArray.toList_data_append, ByteArray.toList_data_append, ByteArray.toList_data_append, ByteArray.toList_data_append, ByteArray.toList_data_append, lN, lX, lY]
  exact parse_folded a b c
theorem folded_text2 (X : ByteArray) (b : List UInt8) (lX : X.data.toList = wordL b) : parseL 0 [] (⟨#[32]⟩ ++ X ++ ⟨#[13, 10, 13, 10]⟩ : ByteArray).data.toList = (([], []), 0, 3) := by
  rw [ByteArray.toList_data_append, ByteArray.toList_data_append, lX]
  exact parse_blank b
theorem folded_val (X Y T : ByteArray) (b c : List UInt8) (hT : T = X ++ ⟨#[32]⟩ ++ Y ++ ⟨#[9]⟩ ++ X) (lX : X.data.toList = wordL b) (lY : Y.data.toList = wordL c) : T.data.toList = foldV b c := by
  rw [hT, ByteArray.toList_data_append, ByteArray.toList_data_append, ByteArray.toList_data_append, ByteArray.toList_data_append, lX, lY]
  unfold foldV; simp

set_option maxHeartbeats 8000000 in
set_option maxRecDepth 20000 in
theorem letterFoldedWalk (a b c : ByteArray) (m : Int) (w : World) (ha : a.size ≤ maxLen) (hb : b.size ≤ maxLen) (hc : c.size ≤ maxLen) (hm : w.cell? ⟨0, 0, none⟩ = some (.int .i64 m)) :
    Calls Tryd.prog 14 #[.string a, .string b, .string c] w fun e w' => e = .returned (.bool true) ∧ Below w.heap.size w w' := by
  have mL : maxLen ≤ 9223372036854775807 := by decide
  obtain ⟨N, hN⟩ : ∃ N : ByteArray, N = ⟨(wordL a.data.toList).toArray⟩ := ⟨_, rfl⟩
  obtain ⟨X, hX⟩ : ∃ X : ByteArray, X = ⟨(wordL b.data.toList).toArray⟩ := ⟨_, rfl⟩
  obtain ⟨Y, hY⟩ : ∃ Y : ByteArray, Y = ⟨(wordL c.data.toList).toArray⟩ := ⟨_, rfl⟩
  have HWa : Hid (∀ w, Calls Tryd.prog 20 #[.string a] w fun e w' => e = .returned (.string N) ∧ Below w.heap.size w w') := by rw [hN]; exact fun w => word_any a w (Nat.le_trans ha mL)
  have HWb : Hid (∀ w, Calls Tryd.prog 20 #[.string b] w fun e w' => e = .returned (.string X) ∧ Below w.heap.size w w') := by rw [hX]; exact fun w => word_any b w (Nat.le_trans hb mL)
  have HWc : Hid (∀ w, Calls Tryd.prog 20 #[.string c] w fun e w' => e = .returned (.string Y) ∧ Below w.heap.size w w') := by rw [hY]; exact fun w => word_any c w (Nat.le_trans hc mL)
  have lN : N.data.toList = wordL a.data.toList := by rw [hN]
  have lX : X.data.toList = wordL b.data.toList := by rw [hX]
  have lY : Y.data.toList = wordL c.data.toList := by rw [hY]
  have sN : N.size ≤ 8 := by rw [hN]; exact addrL_size _
  have sX : X.size ≤ 8 := by rw [hX]; exact addrL_size _
  have sY : Y.size ≤ 8 := by rw [hY]; exact addrL_size _
  obtain ⟨fs, hfs⟩ : ∃ fs, fs = foldF a.data.toList b.data.toList c.data.toList := ⟨_, rfl⟩
  have hg : ∀ f ∈ fs, Good f := by rw [hfs]; exact fold_good _ _ _
  have hl1 : fs.length = 1 := by rw [hfs]; rfl
  have hsz : (showF fs).length ≤ 60 := by rw [hfs]; exact fold_size _ _ _
  obtain ⟨T, hT⟩ : ∃ T : ByteArray, T = X ++ ⟨#[32]⟩ ++ Y ++ ⟨#[9]⟩ ++ X := ⟨_, rfl⟩
  have lT := folded_val X Y T _ _ hT lX lY
  have hvals : valsL fs N.data.toList = [T.data.toList] := by rw [hfs, lN, lT]; exact fold_vals _ _ _
  have HP : Hid (∀ w, w.cell? ⟨0, 0, none⟩ = some (.int .i64 m) → Calls Tryd.prog 22 #[.string (N ++ ⟨#[58]⟩ ++ X ++ ⟨#[13, 10, 32]⟩ ++ Y ++ ⟨#[13, 10, 9]⟩ ++ X ++ ⟨#[32, 13, 10, 13, 10]⟩)] w fun e w' => (∃ v, e = .returned (.tuple #[.agg #[v, .string ⟨#[]⟩], .int .i64 0, .int .i64 0]) ∧ FldsAt w' v fs) ∧ Below w.heap.size w w') := fun w h => by
    have ht := folded_text N X Y _ _ _ lN lX lY
    rw [← hfs] at ht
    exact parse_walk _ ⟨#[]⟩ fs m w (folded_size N X Y sN sX sY) ht h
  have HP2 : Hid (∀ w, w.cell? ⟨0, 0, none⟩ = some (.int .i64 m) → Calls Tryd.prog 22 #[.string (⟨#[32]⟩ ++ X ++ ⟨#[13, 10, 13, 10]⟩)] w fun e w' => (∃ G cap, e = .returned (.tuple #[.agg #[.slice G 0 cap, .string ⟨#[]⟩], .int .i64 0, .int .i64 3])) ∧ Below w.heap.size w w') := fun w h => by
    exact parse_walk_err _ 0 3 m w (folded_size2 X sX) (folded_text2 X _ lX) h
  have HV : Hid (∀ v w, FldsAt w v fs → w.cell? ⟨0, 0, none⟩ = some (.int .i64 m) → Calls Tryd.prog 27 #[.agg #[v, .string ⟨#[]⟩], .string N] w fun e w' => (∃ u, e = .returned (.tuple #[u, .int .i64 0]) ∧ TxtAt w' u [T.data.toList]) ∧ Below w.heap.size w w') := fun v w h1 h2 => by
    refine (values_any fs v ⟨#[]⟩ N m w h1 hg (by omega) (Nat.le_trans (Nat.add_le_add_right (Nat.add_le_add_right hsz 2) 0) (by decide)) (by omega) h2).mono ?_
    rintro e w' ⟨⟨u, he, hu⟩, hb⟩
    rw [hvals] at hu
    exact ⟨⟨u, he, TxtAt.of_row hu⟩, hb⟩
  have HE : Hid (∀ u1 u2 w, TxtAt w u1 [T.data.toList] → TxtAt w u2 [T.data.toList] → Calls Tryd.prog 28 #[u1, u2] w fun e w' => e = .returned (.bool true) ∧ Below w.heap.size w w') := fun u1 u2 w h1 h2 => texts_any _ u1 u2 w h1 h2 (by show 1 ≤ 1000; omega)
  have HT := Lib.hid hT
  have hM := Lib.hid hm
  clear hm hN hX hY lN lX lY hfs hg hsz hT lT hvals hl1
  go_enter Tryd.func14, Tryd.ntmps14
  go_wp2_with fail
  refine (HWa.out _).mono ?_
  rintro e w1 ⟨rfl, hw1⟩
  go_wp2_with fail
  refine (HWb.out _).mono ?_
  rintro e w2 ⟨rfl, hb2⟩
  have hw2 := bt hw1 hb2
  go_wp2_with fail
  refine (HWc.out _).mono ?_
  rintro e w3 ⟨rfl, hb3⟩
  have hw3 := bt hw2 hb3
  go_wp2_with fail
  refine (HP.out _ (moved hM.out hw3 (Nat.le_refl _))).mono ?_
  rintro e w4 ⟨⟨v, rfl, hv⟩, hb4⟩
  have ha4 := ba (Below.refl _ w4) (.cells #[v, .string ⟨#[]⟩] 45)
  have hv4 := hv.down ha4
  have hw4 := bt (bt hw3 hb4) ha4
  obtain ⟨G, cc, hvv, _⟩ := hv
  subst hvv
  go_wp2_with fail
  refine (HV.out _ _ hv4 (moved hM.out hw4 (Nat.le_refl _))).mono ?_
  rintro e w5 ⟨⟨u, rfl, hu⟩, hb5⟩
  have hw5 := bt hw4 hb5
  go_wp2_with fail
  refine (HP2.out _ (moved hM.out hw5 (Nat.le_refl _))).mono ?_
  rintro e w6 ⟨⟨G2, c2, rfl⟩, hb6⟩
  have ha6 := ba (Below.refl _ w6) (.cells #[.slice G2 0 c2, .string ⟨#[]⟩] 45)
  have hu6 := (hu.down hb6).down ha6
  have hw6 := bt (bt hw5 hb6) ha6
  obtain ⟨W6, hW6⟩ : ∃ W6, W6 = w6.alloc (.cells #[.slice G2 0 c2, .string ⟨#[]⟩] 45) := ⟨_, rfl⟩
  rw [← hW6] at hu6 hw6
  have HW6 := Lib.hid hW6.symm
  have hz6 : W6.heap.size = w6.heap.size + 1 := by rw [hW6]; simp
  clear hW6 ha6
  have t1 := TxtAt.one W6 T
  rw [hz6] at t1
  clear hz6
  have hau := ba (Below.refl _ W6) (.cells #[.string T] 9)
  have hu7 := hu6.down hau
  have hw7 := bt hw6 hau
  go_wp2_with fail
  rw [HW6.out, ← HT.out]
  refine (HE.out _ _ _ hu7 t1).mono ?_
  rintro e w8 ⟨rfl, hb8⟩
  have hw8 := bt hw7 hb8
  go_wp2_with fail
  go_ret
  exact ⟨rfl, hw8⟩
end Go.Proofs.YtkchoempejdleaaDoor
