/-
  DERIVED. FoldTwice: the walk.
-/
import Derived.Test.YtlghlcekakbmnaaMatchAll
import Derived.Test.YtlghlcekakbmnaaPlainGlob
namespace Go.Proofs.Ytlghlcekakbmnaa
open Go.RowKit

theorem take_bd (s : ByteArray) (n m : Nat) (h : n ≤ m) : (s.data.toList.take n).length ≤ m := by have := List.length_take_le n s.data.toList; omega
theorem mk_size (l : List UInt8) : (⟨l.toArray⟩ : ByteArray).size = l.length := rfl

set_option maxHeartbeats 1000000 in
theorem foldTwiceWalk (s : ByteArray) (w : World) (ws : s.size ≤ maxLen) :
    Calls Try.prog 10 #[.string s] w fun e w' => e = .returned (.bool true) ∧ Below w.heap.size w w' := by
  unfold maxLen at ws
  have ht := take_bd s 90 90 (Nat.le_refl _)
  have hcut := cut_any s 90 w ws (by omega) (by omega)
  rw [show (90 : Int).toNat = 90 from rfl] at hcut
  obtain ⟨t, hT⟩ : ∃ t, t = s.data.toList.take 90 := ⟨_, rfl⟩
  rw [← hT] at ht hcut
  clear hT
  obtain ⟨u, hu⟩ : ∃ u, u = foldL t := ⟨_, rfl⟩
  have hul : u.length ≤ 90 := by rw [hu, foldL_length]; exact ht
  have hlen : ((u.length : Int) == (t.length : Int)) = true := by rw [hu, foldL_length]; simp
  have hff : foldL u = u := by rw [hu]; exact foldL_foldL t
  have F1 : ∀ w, Calls Try.prog 16 #[.string ⟨t.toArray⟩] w fun e w' => e = .returned (.tuple #[.string ⟨u.toArray⟩, .int .i64 0]) ∧ Below w.heap.size w w' := fun w => by
    have := Fold_any ⟨t.toArray⟩ w (by rw [mk_size]; omega); rw [hu]; exact this
  have F2 : ∀ w, Calls Try.prog 16 #[.string ⟨u.toArray⟩] w fun e w' => e = .returned (.tuple #[.string ⟨u.toArray⟩, .int .i64 0]) ∧ Below w.heap.size w w' := fun w => by
    have := Fold_any ⟨u.toArray⟩ w (by rw [mk_size]; omega); simp only [hff] at this; exact this
  have F3 : ∀ w, Calls Try.prog 15 #[.int .i64 1, .string ⟨t.toArray⟩, .string ⟨u.toArray⟩] w fun e w' => e = .returned (.tuple #[.bool true, .int .i64 0]) ∧ Below w.heap.size w w' := fun w => by
    have := match1_any ⟨t.toArray⟩ ⟨u.toArray⟩ w (by rw [mk_size]; omega) (by rw [mk_size]; omega)
    simp only [hff, ← hu, beq_self_eq_true] at this; exact this
  have HC := Lib.hid hcut; have H1 := Lib.hid F1; have H2 := Lib.hid F2; have H3 := Lib.hid F3
  clear hcut F1 F2 F3 hu hff
  go_enter Try.func10, Try.ntmps10
  go_wp2_with fail
  refine HC.out.mono ?_
  rintro e w1 ⟨rfl, rfl⟩
  go_wp2_with fail
  refine (H1.out _).mono ?_
  rintro e w1 ⟨rfl, hb1⟩
  go_wp2_with fail
  refine (H2.out _).mono ?_
  rintro e w2 ⟨rfl, hb2⟩
  go_wp2_with fail
  refine (H3.out _).mono ?_
  rintro e w3 ⟨rfl, hb3⟩
  go_wp2
  go_ret
  exact ⟨rfl, hb1.trans ((hb2.trans (hb3.mono hb2.size)).mono hb1.size)⟩
end Go.Proofs.Ytlghlcekakbmnaa
