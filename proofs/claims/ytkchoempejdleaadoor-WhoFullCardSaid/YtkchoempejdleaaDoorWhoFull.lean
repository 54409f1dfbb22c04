/-
  DERIVED. WhoFull: the walk.
-/
import Derived.Test.YtkchoempejdleaaDoorListWalk
namespace Go.Proofs.YtkchoempejdleaaDoor
open Go.RowKit

def fullG : Nat → List UInt8
  | 0 => []
  | k + 1 => 44 :: 97 :: 64 :: 98 :: fullG k
def fullF : Nat → List UInt8
  | 0 => []
  | k + 1 => 97 :: 64 :: 98 :: fullG k
theorem fullG_snoc : ∀ k, fullG k ++ [44, 97, 64, 98] = fullG (k + 1)
  | 0 => rfl
  | k + 1 => by
    show 44 :: 97 :: 64 :: 98 :: (fullG k ++ [44, 97, 64, 98]) = _
    rw [fullG_snoc k]; rfl
theorem fullF_snoc (k : Nat) : fullF (k + 1) ++ [44, 97, 64, 98] = fullF (k + 2) := by
  show 97 :: 64 :: 98 :: (fullG k ++ [44, 97, 64, 98]) = _
  rw [fullG_snoc k]; rfl
theorem runG (k : Nat) : runT (98 :: fullG k) = [98] ∧ runR (98 :: fullG k) = fullG k := by
  cases k with
  | zero => exact ⟨by decide, by decide⟩
  | succ k =>
    have h1 : isRn 98 = true := by decide
    have h2 : isRn 44 = false := by decide
    constructor
    · show (if isRn 98 then 98 :: (if isRn 44 then _ else _) else _) = _
      rw [if_pos h1, h2]; rfl
    · show (if isRn 98 then (if isRn 44 then _ else _) else _) = _
      rw [if_pos h1, h2]; rfl
theorem addr_full (k : Nat) : addrL' true (fullF (k + 1)) = some (([97], [98]), fullG k) := by
  have hs : skipL (fullF (k + 1)) = fullF (k + 1) := rfl
  rw [addr_else true _ _ hs (by show (97 : UInt8) ≠ 34; decide) (by show (97 : UInt8) ≠ 60; decide)]
  have hT : runT (fullF (k + 1)) = [97] := by
    show (if isRn 97 then 97 :: (if isRn 64 then _ else _) else _) = _
    rw [if_pos (by decide), show isRn 64 = false by decide]; rfl
  have hR : runR (fullF (k + 1)) = 64 :: 98 :: fullG k := by
    show (if isRn 97 then (if isRn 64 then _ else _) else _) = _
    rw [if_pos (by decide), show isRn 64 = false by decide]; rfl
  rw [hT, hR, if_pos ⟨rfl, rfl⟩]
  have hB : bareL [97] (64 :: 98 :: fullG k) = some ([98], fullG k) := by
    show (if chk [97] (runT (98 :: fullG k)) = 0 then some (runT (98 :: fullG k), runR (98 :: fullG k)) else none) = _
    rw [(runG k).1, (runG k).2, if_pos (by decide)]
  rw [hB]; rfl
theorem list_full : ∀ k, listL (fullF (k + 1)) = some (List.replicate (k + 1) ([97], [98]))
  | 0 => list_end (addr_full 0) rfl
  | k + 1 => by
    rw [list_next (addr_full (k + 1)) (show skipL (fullG (k + 1)) = 44 :: fullF (k + 1) from rfl), list_full k]
    rfl

set_option maxHeartbeats 4000000 in
set_option maxRecDepth 20000 in
theorem whoFullWalk (z : Int) (m : Int) (w : World) (hz0 : (Lit.int .i64 z).wf = true) (hm : w.cell? ⟨0, 0, none⟩ = some (.int .i64 m)) :
    Calls Tryd.prog 4 #[.int .i64 z] w fun e w' => e = .returned (.bool true) ∧ Below w.heap.size w w' := by
  obtain ⟨hz1, hz2⟩ := wf_bd hz0
  obtain ⟨p, hp40, hp⟩ : ∃ p : Nat, p < 40 ∧ ∀ w, Calls Tryd.prog 17 #[.int .i64 z, .int .i64 40] w fun e w' => e = .returned (.int .i64 p) ∧ w = w' :=
    ⟨pick z (40 : Nat), pick_lt z 40 (by omega), fun w => picked_any z 40 w hz1 hz2 (by omega) (by omega)⟩
  have HP := Lib.hid hp
  have HL : Hid (∀ S : ByteArray, S.data.toList = fullF (p + 1) → S.size ≤ 2000 → Calls Tryd.prog 19 #[.string S] w fun e w' => ListSays w.heap.size w' e (some (List.replicate (p + 1) ([97], [98]))) ∧ Below w.heap.size w w') := by
    intro S h1 h2
    have := list_any S m w h2 hm
    rw [h1, list_full] at this
    exact this
  have hap : Hid (∀ (S : ByteArray) (j : Nat), S.data.toList = fullF (j + 1) → (S ++ ⟨#[44]⟩ ++ ⟨#[97, 64, 98]⟩).data.toList = fullF (j + 2)) := by
    intro S j h
    rw [ByteArray.toList_data_append, ByteArray.toList_data_append, h, List.append_assoc]; exact fullF_snoc j
  clear hp hm
  go_enter Tryd.func4, Tryd.ntmps4
  go_wp2_with fail
  refine (HP.out _).mono ?_
  rintro e w1 ⟨rfl, rfl⟩
  go_wp2_with fail
  go_loop [4, 5] (fun v i => ∃ (j : Nat) (S : ByteArray), j ≤ p + 1 ∧ i = .int .i64 j ∧ v = .string S ∧ Hid (S.data.toList = fullF j) ∧ S.size ≤ 4 * j) (fun _ i => p + 1 - (intOf i).toNat)
  case atStart => exact ⟨0, ⟨#[]⟩, by omega, rfl, rfl, rfl, Nat.le_refl 0⟩
  case round =>
    obtain ⟨j, S, hj, rfl, rfl, hS, hsz⟩ := hrel
    by_cases hlt : j < p + 1
    · cases j with
      | zero =>
        have hS0 : Hid ((S ++ ⟨#[97, 64, 98]⟩).data.toList = fullF 1) := by unfold Hid; rw [ByteArray.toList_data_append, hS.out]; rfl
        clear hS
        go_wp2_with fail
        go_round
        case rel => exact ⟨1, _, by omega, by go_num, rfl, hS0, by rw [ByteArray.size_append]; show S.size + 3 ≤ _; omega⟩
        case measure => simp [intOf]
      | succ j =>
        have hS0 := Lib.hid (hap.out S j hS.out)
        clear hS
        go_wp2_with fail
        go_round
        case rel => exact ⟨j + 2, _, by omega, by go_num, rfl, hS0, by rw [ByteArray.size_append, ByteArray.size_append]; show S.size + 1 + 3 ≤ _; omega⟩
        case measure => simp [intOf]; omega
    · obtain rfl : j = p + 1 := by omega
      have hpe : ((p : Int) + 1 == 1 + (p : Int)) = true := beq_iff_eq.2 (by omega)
      have hc := HL.out S hS.out (by omega)
      clear hS
      go_wp2_with fail
      refine hc.mono ?_
      rintro e w2 ⟨hsay, hbel⟩
      rcases hsay with ⟨h0, _⟩ | ⟨ys, h1, h2, rfl⟩ | ⟨ys, v, h1, h2, rfl, hown⟩
      · cases h0
      · obtain rfl := Option.some.inj h1
        rw [List.length_replicate] at h2
        go_wp2_with fail
        go_ret
        exact ⟨rfl, hbel⟩
      · obtain rfl := Option.some.inj h1
        rw [List.length_replicate] at h2 hown
        obtain ⟨g, cap, rfl, _, _⟩ := World.ownsRow.form hown (by omega)
        go_wp2_with fail
        go_ret
        exact ⟨rfl, hbel⟩
end Go.Proofs.YtkchoempejdleaaDoor
