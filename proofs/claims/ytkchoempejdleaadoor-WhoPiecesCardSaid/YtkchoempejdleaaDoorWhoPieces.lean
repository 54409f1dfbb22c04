/-
  DERIVED. WhoPieces: the walk.
-/
import Derived.Test.YtkchoempejdleaaDoorTwo
import Derived.Deep.DeepCutAuto
import Derived.Deep.CutBlock
namespace Go.Proofs.YtkchoempejdleaaDoor
open Go.RowKit

theorem bapp (a b : ByteArray) : (a ++ b).data.toList = a.data.toList ++ b.data.toList := ByteArray.toList_data_append ..
theorem bapp_size (a b : ByteArray) : (a ++ b).size = a.size + b.size := ByteArray.size_append
/-- x's behind a local part -/
def xs (l : List UInt8) (k : Nat) : ByteArray := ⟨(wordL l ++ List.replicate k 120).toArray⟩
theorem xs_zero (l : List UInt8) : xs l 0 = addrL l := by unfold xs addrL; rw [List.replicate_zero, List.append_nil]
theorem xs_succ (l : List UInt8) (k : Nat) : xs l k ++ ⟨#[120]⟩ = xs l (k + 1) := by
  have h : (xs l k ++ ⟨#[120]⟩).data.toList = (xs l (k + 1)).data.toList := by
    rw [bapp]; show (wordL l ++ List.replicate k 120) ++ [120] = wordL l ++ List.replicate (k + 1) 120
    rw [List.replicate_succ', List.append_assoc]
  exact ByteArray.ext (Array.toList_inj.1 h)
theorem xs_size (l : List UInt8) (k : Nat) : (xs l k).size = (addrL l).size + k := by
  show (wordL l ++ List.replicate k 120).length = (wordL l).length + k
  rw [List.length_append, List.length_replicate]
theorem xs_ok (l : List UInt8) (k : Nat) : dotOK true (xs l k).data.toList = true := by
  show dotOK true (wordL l ++ List.replicate k 120) = true
  have := dotOK_atoms (wordL l ++ List.replicate k 120) [] true (by rw [List.all_append, word_atoms, Bool.true_and]; exact List.all_eq_true.2 fun c hc => by rw [(List.mem_replicate.1 hc).2]; decide) (by have := word_ne l; simp [this])
  rw [List.append_nil] at this
  exact this
theorem chk_long (l d : List UInt8) (k : Nat) (h : (xs l k).size = 100) : chk (xs l k).data.toList (addrD d).data.toList = 1 := by
  unfold chk
  rw [xs_ok, addrD_ok]
  have h1 : (xs l k).data.toList.length = 100 := by simpa using h
  rw [if_pos (by rfl), if_pos (by omega)]
theorem chk_none (l : List UInt8) : chk (addrL l).data.toList (⟨#[]⟩ : ByteArray).data.toList = 3 := by
  unfold chk
  rw [show dotOK true (⟨#[]⟩ : ByteArray).data.toList = false from rfl, Bool.and_false]
  rfl

/-- the size of the string that a block begins with -/
def szAt (w : World) (b : Nat) : Nat := match w.cell? ⟨b, 0, none⟩ with
  | some (.string s) => s.size
  | _ => 0
theorem szAt_eq {w : World} {b : Nat} {s : ByteArray} (h : w.cell? ⟨b, 0, none⟩ = some (.string s)) : szAt w b = s.size := by unfold szAt; rw [h]
theorem wrap_small (n : Nat) (h : n < 9223372036854775808) : IntKind.i64.wrap (n : Int) = (n : Int) := by
  have : IntKind.i64.wrap (n : Int) = if 9223372036854775808 ≤ (n : Int) % 18446744073709551616 then (n : Int) % 18446744073709551616 - 18446744073709551616 else (n : Int) % 18446744073709551616 := by simp [IntKind.wrap, IntKind.bits, IntKind.signed]
  rw [this]
  split <;> omega

set_option maxHeartbeats 4000000 in
set_option maxRecDepth 20000 in
theorem whoPiecesWalk (a d v : ByteArray) (z : Int) (m : Int) (w : World) (ha0 : a.size ≤ maxLen) (hd0 : d.size ≤ maxLen) (_hv : v.size ≤ maxLen) (hz0 : (Lit.int .i64 z).wf = true)
    (hm : w.cell? ⟨0, 0, none⟩ = some (.int .i64 m)) :
    Calls Tryd.prog 3 #[.agg #[.string a, .string d, .string v], .int .i64 z] w fun e w' => e = .returned (.bool true) ∧ Below w.heap.size w w' := by
  have ha : a.size ≤ 9223372036854775807 := Nat.le_trans ha0 (by decide)
  have hd : d.size ≤ 9223372036854775807 := Nat.le_trans hd0 (by decide)
  obtain ⟨hz1, hz2⟩ := wf_bd hz0
  clear ha0 hd0 hz0
  obtain ⟨k, hk, hp⟩ : ∃ k : Nat, k < 9 ∧ ∀ w, Calls Tryd.prog 17 #[.int .i64 z, .int .i64 9] w fun e w' => e = .returned (.int .i64 k) ∧ w = w' :=
    ⟨pick z (9 : Nat), pick_lt z 9 (by omega), fun w => picked_any z 9 w hz1 hz2 (by omega) (by omega)⟩
  obtain ⟨A, hA⟩ : ∃ A, A = addrL a.data.toList := ⟨_, rfl⟩
  obtain ⟨D, hD⟩ : ∃ D, D = addrD d.data.toList := ⟨_, rfl⟩
  have hAs : A.size ≤ 8 := by rw [hA]; exact addrL_size _
  have hDs : D.size ≤ 12 := by rw [hD]; exact (addrD_size _).1
  have HP := Lib.hid hp
  have HAd : Hid (∀ w, Calls Tryd.prog 15 #[.agg #[.string a, .string d, .string v]] w fun e w' => e = .returned (.agg #[.string A, .string D]) ∧ Below w.heap.size w w') := by
    rw [hA, hD]; exact fun w => address_any a d v w ha hd
  have HP1 : Hid (∀ w, w.cell? ⟨0, 0, none⟩ = some (.int .i64 m) → Calls Tryd.prog 16 #[.int .i64 (IntKind.i64.wrap (4 + (k : Int))), .agg #[.string A, .string D]] w fun e w' => e = .returned (.tuple #[.string ⟨#[]⟩, .int .i64 2]) ∧ Below w.heap.size w w') := by
    intro w h
    have hwr : IntKind.i64.wrap (4 + (k : Int)) = 4 + (k : Int) := wrap_small (4 + k) (by omega)
    rw [hwr]
    have := part_any (4 + (k : Int)) A D m w (by omega) (by omega) h
    have e : partV (4 + (k : Int)) A D = (⟨#[]⟩, 2) := by
      unfold partV
      rw [hA, hD, chk_ok, if_neg (by omega), if_neg (by omega), if_neg (by omega), if_neg (by omega)]
    rw [e] at this
    exact this
  have HP2 : Hid (∀ w, w.cell? ⟨0, 0, none⟩ = some (.int .i64 m) → Calls Tryd.prog 16 #[.int .i64 2, .agg #[.string A, .string ⟨#[]⟩]] w fun e w' => e = .returned (.tuple #[.string ⟨#[]⟩, .int .i64 3]) ∧ Below w.heap.size w w') := by
    intro w h
    have := part_any 2 A ⟨#[]⟩ m w (by omega) (by decide) h
    have e : partV 2 A ⟨#[]⟩ = (⟨#[]⟩, 3) := by
      unfold partV
      rw [hA, chk_none, if_pos (by decide)]
    rw [e] at this
    exact this
  have HC : Hid (∀ j w, A.size + j = 100 → w.cell? ⟨0, 0, none⟩ = some (.int .i64 m) → Calls Tryd.prog 18 #[.agg #[.string (xs a.data.toList j), .string D]] w fun e w' => e = .returned (.int .i64 1) ∧ Below w.heap.size w w') := by
    intro j w hj h
    have hx : (xs a.data.toList j).size = 100 := by rw [xs_size, ← hA]; exact hj
    have := check_any (xs a.data.toList j) D m w (by omega) (by omega) h
    rw [hD, chk_long _ _ _ hx] at this
    rw [hD]; exact this
  have HX : Hid (∀ j, xs a.data.toList j ++ ⟨#[120]⟩ = xs a.data.toList (j + 1) ∧ (xs a.data.toList j).size = A.size + j) := by
    intro j; rw [hA]; exact ⟨xs_succ _ _, xs_size _ _⟩
  have HX0 : Hid (A = xs a.data.toList 0) := by rw [hA, ← xs_zero]; rfl
  have hM := Lib.hid hm
  have hbase : Hid (∀ o, Below w.heap.size w (w.alloc o)) := fun o => ba (Below.refl _ w) o
  clear hA hD hp hm
  go_enter Tryd.func3, Tryd.ntmps3
  go_wp2_with fail
  refine (HAd.out _).mono ?_
  rintro e w1 ⟨rfl, hb1⟩
  have hw1 := bt (hbase.out _) hb1
  have hm1 := moved hM.out hw1 (Nat.le_refl _)
  go_wp2_with fail
  have t2 := Two.alloc w1 A D 25
  have hw2 := ba hw1 (.cells #[.string A, .string D] 25)
  have hs2 : w1.heap.size + 1 ≤ (w1.alloc (.cells #[.string A, .string D] 25)).heap.size := by simp
  obtain ⟨w2, hw2e⟩ : ∃ w2, w2 = w1.alloc (.cells #[.string A, .string D] 25) := ⟨_, rfl⟩
  rw [← hw2e] at t2 hw2 hs2 ⊢
  obtain ⟨b, hb⟩ : ∃ b, b = w1.heap.size := ⟨_, rfl⟩
  have hwb : w.heap.size + 1 ≤ b := by have := hb1.size; rw [hb]; simpa using this
  rw [← hb] at t2 hs2 ⊢
  clear hw2e hw1 hm1 hb hb1
  obtain ⟨c0, c1, f0, f1, hz⟩ := t2
  have hbd := Below.drew (Below.refl w2.heap.size w2)
  go_region_with (first | (go_at_call 17; refine (HP.out _).mono ?_; rintro e w3 ⟨rfl, rfl⟩) | (go_at_call 16; refine (HP1.out _ (moved hM.out (bt hw2 hbd) (Nat.le_refl _))).mono ?_; rintro e w3 ⟨rfl, hb3⟩))
  all_goals
    have hw3 := bt (bt hw2 hbd) hb3
    have t3 : Two w3 b A D := Two.below ⟨c0, c1, f0, f1, hz⟩ (bt hbd hb3) (Nat.le_refl _)
    have hb3' : b + 1 ≤ w3.heap.size := Nat.le_trans hs2 (bt hbd hb3).size
    clear c0 c1 f0 f1 hz hbd hb3 hw2 hs2
    obtain ⟨c0, c1, f0, f1, hz⟩ := t3
    go_wp2_with fail
    refine (HP2.out _ (moved hM.out (ba hw3 _) (Nat.le_refl _))).mono ?_
    rintro e w4 ⟨rfl, hb4⟩
    have hw4 := bt (ba hw3 _) hb4
    have t4 : Two w4 b A D := Two.below ⟨c0, c1, f0, f1, hz⟩ (bt (ba (Below.refl _ w3) _) hb4) (Nat.le_refl _)
    clear c0 c1 f0 f1 hz hb4 hw3
    obtain ⟨c0, c1, f0, f1, hz⟩ := t4
    go_wp2_with fail
    go_loopw [30] (fun _ wr => ∃ j : Nat, A.size + j ≤ 100 ∧ Two wr w4.heap.size (xs a.data.toList j) D ∧ Below w.heap.size w wr) (fun _ wr => 100 - szAt wr w4.heap.size)
    case atStart =>
      refine ⟨0, by omega, ?_, ba hw4 _⟩
      rw [← HX0.out]; exact Two.alloc w4 A D _
    case round =>
      obtain ⟨j, hj, t5, hw5⟩ := hrel
      obtain ⟨e0, e1, g0, g1, hy⟩ := t5
      have hsz := (HX.out j).2
      have hb4 : w.heap.size ≤ w4.heap.size := hw4.size
      have hms := szAt_eq e0
      obtain ⟨X, hX⟩ : ∃ X, X = xs a.data.toList j := ⟨_, rfl⟩
      rw [← hX] at e0 hsz hms
      have HXe := Lib.hid hX; have HMs := Lib.hid hms
      clear hX hms
      by_cases hlt : X.size < 100
      · clear c0 c1 f0 f1 hz
        go_wp2_with fail
        go_roundw
        case rel =>
          refine ⟨j + 1, by omega, ?_, hw5.setCell hb4 _⟩
          rw [← (HX.out j).1, ← HXe.out]
          exact Two.set0 ⟨e0, e1, g0, g1, hy⟩ _
        case measure =>
          have hms2 := szAt_eq (Two.set0 ⟨e0, e1, g0, g1, hy⟩ (X ++ ⟨#[120]⟩)).1
          rw [bapp_size] at hms2
          rw [HMs.out, hms2]
          show 100 - (X.size + 1) < 100 - X.size
          omega
      · have hdx : decide (X.size < 100) = false := by simpa using hlt
        have hj' : A.size + j = 100 := by omega
        have hcc := HC.out j _ hj' (moved hM.out hw5 (Nat.le_refl _))
        rw [← HXe.out] at hcc
        go_wp2_with fail
        refine hcc.mono ?_
        rintro e w6 ⟨rfl, hb6⟩
        go_wp2_with fail
        go_ret
        exact ⟨rfl, bt hw5 hb6⟩
end Go.Proofs.YtkchoempejdleaaDoor
