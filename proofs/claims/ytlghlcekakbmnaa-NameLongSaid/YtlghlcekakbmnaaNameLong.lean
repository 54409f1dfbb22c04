/-
  DERIVED. NameLong: the walk: the law returns true, and writes nothing that was there.
-/
import Derived.Test.YtlghlcekakbmnaaName
import Derived.Test.YtlghlcekakbmnaaKit
namespace Go.Proofs.Ytlghlcekakbmnaa
open Go.RowKit


theorem nameCode_rep (k : Nat) (h1 : 1 ≤ k) (h2 : k ≤ 12) : nameCode (List.replicate k 97) = 0 := by
  unfold nameCode
  rw [if_neg (by simp; omega), if_pos]
  simp [nameByte]
theorem nameCode_blank (k j : Nat) (h1 : j < k) (h2 : k ≤ 12) : nameCode ((List.replicate k 97).set j 32) = 3 := by
  unfold nameCode
  rw [if_neg (by simp; omega), if_neg]
  rw [Bool.not_eq_true, List.all_eq_false]
  exact ⟨32, by rw [List.mem_iff_getElem?]; exact ⟨j, by simp [h1]⟩, by decide⟩
theorem nameCode_zero (k : Nat) (h : k = 0 ∨ 12 < k) : nameCode (List.replicate k 97) = 1 := by
  unfold nameCode
  rw [if_pos (by simp; omega)]
theorem rep_step (k i : Nat) (h : i < k) : (List.replicate i (97 : UInt8) ++ List.replicate (k - i) 0).set i 97 = List.replicate (i + 1) 97 ++ List.replicate (k - (i + 1)) 0 := by
  obtain ⟨m, rfl⟩ : ∃ m, k = i + 1 + m := ⟨k - (i + 1), by omega⟩
  rw [show i + 1 + m - i = m + 1 by omega, show i + 1 + m - (i + 1) = m by omega, List.replicate_succ, List.set_append_right _ _ (by simp)]
  simp [List.replicate_succ']

set_option maxHeartbeats 800000 in
theorem nameLongWalk (n at' : Int) (w : World) (wn : (Lit.int .i64 n).wf = true) (wa : (Lit.int .i64 at').wf = true) :
    Calls Try.prog 3 #[.int .i64 n, .int .i64 at'] w fun e w' => e = .returned (.bool true) ∧ Below w.heap.size w w' := by
  obtain ⟨h0, h1⟩ := wf_bd wn
  obtain ⟨a0, a1⟩ := wf_bd wa
  obtain ⟨k, hk⟩ : ∃ k, k = pick n 30 := ⟨_, rfl⟩
  have hk30 : k < 30 := by have := pick_lt n 30 (by omega); simp at this; omega
  have HP := Lib.hid (fun w => hk ▸ picked_any n 30 w h0 h1 (by omega) (by omega))
  clear hk
  obtain ⟨i0, hi, hz0, hz1, hz2⟩ := info_parts infoU8
  go_enter Try.func3, Try.ntmps3
  go_wp2_with fail
  refine (HP.out _).mono ?_
  rintro e w1 ⟨rfl, rfl⟩
  go_wp2_with (at_make; refine wpList_make_full _ rfl (.tmp 11) (.tmp 11) 23 rfl w.heap.size 5 i0 (.int .u8 0) 1 Try.underlying23 hi hz0 hz1 .i64 .i64 k k k rfl rfl rfl rfl (by rw [hz2]; omega) (by unfold maxLen; omega) (Nat.le_refl _) ?_; intro w2 hown hgr)
  rw [madeBytes] at hown
  have hb0 : Below w.heap.size w w2 := (Below.refl _ _).grown hgr (Nat.le_refl _) (fun k h => by cases h)
  clear hgr hi hz0 hz1 hz2
  go_loopw [7] (fun i wr => ∃ j : Nat, j ≤ k ∧ i = .int .i64 j ∧ wr.ownsRow w.heap.size 5 1 (.slice (some ⟨w.heap.size, 0, none⟩) k k) k (bcells (List.replicate j 97 ++ List.replicate (k - j) 0)) ∧ Below w.heap.size w wr) (fun i _ => k - (intOf i).toNat)
  case atStart => exact ⟨0, Nat.zero_le _, rfl, by simpa using hown, hb0⟩
  case round =>
    clear hown hb0
    obtain ⟨j, hj, rfl, hown, hb⟩ := hrel
    by_cases hlt : j < k
    · have hst := hown.stored j (.int .u8 97)
      have hfz := hown.frozenAt j
      have hce := hown.cellAt j (by omega)
      rw [bcells_get _ _ (by simp; omega)] at hce
      obtain ⟨x, hx⟩ : ∃ x, wr.cell? ⟨w.heap.size, j, none⟩ = some x := ⟨_, hce⟩
      clear hce
      have HS := Lib.hid hst; clear hst
      go_wp2
      go_roundw
      case rel => exact ⟨j + 1, by omega, by go_num, by have := HS.out.1; rw [show Value.int .u8 97 = Value.int .u8 ((97 : UInt8).toNat : Int) from rfl, bcells_set, rep_step k j hlt] at this; exact this, hb.setCell (Nat.le_refl _) _⟩
      case measure => simp [intOf]; omega
    · obtain rfl : j = k := by omega
      obtain ⟨L, hL⟩ : ∃ L, L = List.replicate j (97 : UInt8) := ⟨_, rfl⟩
      have hlen : L.length = j := by rw [hL]; simp
      have hown' : OwnB wr w.heap.size 5 (.slice (some ⟨w.heap.size, 0, none⟩) j j) L := by unfold OwnB; rw [hlen, hL]; simpa using hown
      have hcv := run_str_own hown' Try.underlying23 Try.underlying5 Try.underlying9
      have HC := Lib.hid (name_any ⟨L.toArray⟩ wr (by show L.length ≤ _; omega))
      have HL := Lib.hid hL
      clear hL hown
      have HLEN := Lib.hid hlen; clear hlen
      by_cases hz : j = 0 ∨ 12 < j
      · have HN : Hid (nameCode L = 1) := by rw [HL.out]; exact nameCode_zero _ hz
        rcases hz with hz | hz
        · have hz' : j < 1 := by omega
          clear hz
          go_wp2_with fail
          refine HC.out.mono ?_
          rintro e w3 ⟨rfl, rfl⟩
          rw [HN.out]
          go_wp2
          go_ret
          exact ⟨rfl, hb⟩
        · go_wp2_with fail
          refine HC.out.mono ?_
          rintro e w3 ⟨rfl, rfl⟩
          rw [HN.out]
          go_wp2
          go_ret
          exact ⟨rfl, hb⟩
      · have hz1 : 1 ≤ j := by omega
        have hz2 : j ≤ 12 := by omega
        clear hz
        have HN : Hid (nameCode L = 0) := by rw [HL.out]; exact nameCode_rep _ hz1 hz2
        obtain ⟨m, hm⟩ : ∃ m, m = pick at' j := ⟨_, rfl⟩
        have hmj : m < j := by rw [hm]; exact pick_lt at' j hz1
        have HM := Lib.hid (hm ▸ picked_any at' j wr a0 a1 (by omega) (by omega))
        clear hm
        go_wp2_with fail
        refine HC.out.mono ?_
        rintro e w3 ⟨rfl, rfl⟩
        rw [HN.out]
        go_wp2_with fail
        refine HM.out.mono ?_
        rintro e w3 ⟨rfl, rfl⟩
        have hown1 : wr.ownsRow w.heap.size 5 1 (.slice (some ⟨w.heap.size, 0, none⟩) j j) j (bcells L) := by have := hown'; unfold OwnB at this; rw [HLEN.out] at this; exact this
        have hfz := hown1.frozenAt m
        have hce := hown1.cellAt m (by omega)
        rw [bcells_get _ _ (by rw [HLEN.out]; exact hmj)] at hce
        obtain ⟨x, hx⟩ : ∃ x, wr.cell? ⟨w.heap.size, m, none⟩ = some x := ⟨_, hce⟩
        clear hce
        obtain ⟨M, hM⟩ : ∃ M, M = L.set m (32 : UInt8) := ⟨_, rfl⟩
        have hown2 : OwnB (wr.setCell ⟨w.heap.size, m, none⟩ (.int .u8 32)) w.heap.size 5 (.slice (some ⟨w.heap.size, 0, none⟩) j j) M := by
          have := (hown1.stored m (.int .u8 32)).1
          rw [show Value.int .u8 32 = Value.int .u8 ((32 : UInt8).toNat : Int) from rfl, bcells_set, ← hM] at this
          unfold OwnB
          rw [show M.length = j by rw [hM, List.length_set]; exact HLEN.out]
          exact this
        have HN2 : Hid (nameCode M = 3) := by rw [hM, HL.out]; exact nameCode_blank _ _ hmj hz2
        have hML : M.length ≤ 12 := by rw [hM, List.length_set, HLEN.out]; exact hz2
        clear hM hown1
        have hcv2 := run_str_own hown2 Try.underlying23 Try.underlying5 Try.underlying9
        have HC2 := Lib.hid (fun w => name_any ⟨M.toArray⟩ w (by show M.length ≤ _; omega))
        go_wp2_with fail
        refine (HC2.out _).mono ?_
        rintro e w3 ⟨rfl, rfl⟩
        rw [HN2.out]
        go_wp2
        go_ret
        exact ⟨rfl, hb.setCell (Nat.le_refl _) _⟩
end Go.Proofs.Ytlghlcekakbmnaa
