/-
  DERIVED. 'sameMessage' of postroomkeep, of two messages that are the same: the walk.
-/
import Derived.Test.YtkchoempejdleaaDoorShow
import Derived.BigQuiet
import Derived.Deep.QuietTactic
namespace Go.Proofs.YtkchoempejdleaaDoor
open Go.RowKit

set_option maxHeartbeats 4000000 in
set_option maxRecDepth 20000 in
theorem same_any (fs : List Fld) (v1 v2 : Value) (body : ByteArray) (w : World) (h1 : FldsAt w v1 fs) (h2 : FldsAt w v2 fs) (hlen : fs.length ≤ 1000) :
    Calls Tryd.prog 24 #[.agg #[v1, .string body], .agg #[v2, .string body]] w fun e w' => e = .returned (.bool true) ∧ Below w.heap.size w w' := by
  obtain ⟨R, hR⟩ : ∃ R, R = w.heap.size := ⟨_, rfl⟩
  obtain ⟨G1, cap1, rfl, hc1⟩ := h1
  obtain ⟨G2, cap2, rfl, hc2⟩ := h2
  have HF : Hid (∀ j (h : j < fs.length) (wr : World), Below w.heap.size w wr → ∃ g1, G1 = some ⟨g1, 0, none⟩ ∧ ∃ g2, G2 = some ⟨g2, 0, none⟩ ∧ ∃ N V : ByteArray, wr.cell? ⟨g1, j * 2, none⟩ = some (.string N) ∧ wr.cell? ⟨g1, j * 2 + 1, none⟩ = some (.string V) ∧ wr.cell? ⟨g2, j * 2, none⟩ = some (.string N) ∧ wr.cell? ⟨g2, j * 2 + 1, none⟩ = some (.string V)) := by
    intro j h wr hb
    obtain ⟨g, hG, _, a0, a1⟩ := hc1 j fs[j] (List.getElem?_eq_getElem h)
    obtain ⟨k, hK, _, b0, b1⟩ := hc2 j fs[j] (List.getElem?_eq_getElem h)
    exact ⟨g, hG, k, hK, _, _, moved a0 hb (Nat.le_refl _), moved a1 hb (Nat.le_refl _), moved b0 hb (Nat.le_refl _), moved b1 hb (Nat.le_refl _)⟩
  obtain ⟨W1, hW1⟩ : ∃ W1, W1 = w.alloc (.cells #[.slice G1 fs.length cap1, .string body] 45) := ⟨_, rfl⟩
  obtain ⟨W0, hW0⟩ : ∃ W0, W0 = W1.alloc (.cells #[.slice G2 fs.length cap2, .string body] 45) := ⟨_, rfl⟩
  have hz1 : W1.heap.size = R + 1 := by rw [hW1, hR]; simp
  have hz0 : W0.heap.size = R + 2 := by rw [hW0]; simp [hz1]
  have b00 := alloc_cell W1 #[.slice G2 fs.length cap2, .string body] 45 0 _ rfl
  have b01 := alloc_cell W1 #[.slice G2 fs.length cap2, .string body] 45 1 _ rfl
  have a00 := alloc_cell w #[.slice G1 fs.length cap1, .string body] 45 0 _ rfl
  have a01 := alloc_cell w #[.slice G1 fs.length cap1, .string body] 45 1 _ rfl
  rw [← hW0, hz1] at b00 b01
  rw [← hW1, ← hR] at a00 a01
  have hba : Below W1.heap.size W1 W0 := by rw [hW0]; exact ba (Below.refl _ W1) _
  replace a00 := moved a00 hba (Nat.le_refl _)
  replace a01 := moved a01 hba (Nat.le_refl _)
  have hb0 : Below w.heap.size w W0 := by rw [hW0, hW1]; exact ba (ba (Below.refl _ w) _) _
  have HW0 : Hid ((w.alloc (.cells #[.slice G1 fs.length cap1, .string body] 45)).alloc (.cells #[.slice G2 fs.length cap2, .string body] 45) = W0) := by unfold Hid; rw [hW0, hW1]
  have HA : Hid (∀ wr, Below W0.heap.size W0 wr → wr.cell? ⟨R, 0, none⟩ = some (.slice G1 fs.length cap1) ∧ wr.cell? ⟨R, 1, none⟩ = some (.string body) ∧ wr.cell? ⟨R + 1, 0, none⟩ = some (.slice G2 fs.length cap2) ∧ wr.cell? ⟨R + 1, 1, none⟩ = some (.string body)) :=
    fun wr hb => ⟨moved a00 hb (Nat.le_refl _), moved a01 hb (Nat.le_refl _), moved b00 hb (Nat.le_refl _), moved b01 hb (Nat.le_refl _)⟩
  have HR := Lib.hid hR
  have HS1 : Hid ((w.alloc (.cells #[.slice G1 fs.length cap1, .string body] 45)).heap.size = R + 1) := by unfold Hid; rw [← hW1]; exact hz1
  clear hW0 hW1 hR hz1 hz0 hba a00 a01 b00 b01 hc1 hc2
  obtain ⟨c0, c1, c2, c3⟩ := HA.out W0 (Below.refl _ _)
  go_enter Tryd.func24, Tryd.ntmps24
  go_wp2_with fail
  rw [HW0.out, ← HR.out]
  try rw [HS1.out]
  clear c0 c1 c2 c3
  go_loopw [5] (fun i wr => ∃ j : Nat, j ≤ fs.length ∧ i = .int .i64 j ∧ Below W0.heap.size W0 wr) (fun i _ => fs.length - (intOf i).toNat)
  case atStart => exact ⟨0, Nat.zero_le _, rfl, Below.refl _ _⟩
  case round =>
    obtain ⟨j, hj, rfl, hbw⟩ := hrel
    have hbel : Below w.heap.size w wr := bt hb0 hbw
    obtain ⟨c0, c1, c2, c3⟩ := HA.out wr hbw
    by_cases hlt : j < fs.length
    · obtain ⟨g1, hG1, g2, hG2, N, V, d0, d1, d2, d3⟩ := HF.out j hlt wr hbel
      subst hG1; subst hG2
      go_wp2_with fail
      go_quiet (fail)
      have hbw2 := bt hbw (below_drewN (Below.refl _ wr) nq)
      clear c0 c1 c2 c3 d0 d1 d2 d3 hbel
      go_wp2_with fail
      go_roundw
      case rel => exact ⟨j + 1, by omega, by go_num, hbw2⟩
      case measure => simp [intOf]; omega
    · obtain rfl : j = fs.length := by omega
      go_wp2_with fail
      go_ret
      exact ⟨rfl, hbel⟩
end Go.Proofs.YtkchoempejdleaaDoor
