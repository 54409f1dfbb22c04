/-
  DERIVED. 'begins' of postroomkeep, of batches that are the first ones: the walk.
-/
import Derived.Test.YtdobigkhilimlaaDoorSameBatch
import Derived.StillTailTactics
namespace Go.Proofs.YtdobigkhilimlaaDoor
open Go.RowKit

theorem pre_get {α : Type} {bs0 bs : List α} (hp : bs0 <+: bs) (j : Nat) (h : j < bs0.length) : bs[j]? = some bs0[j] := by
  obtain ⟨t, rfl⟩ := hp
  rw [List.getElem?_append_left h, List.getElem?_eq_getElem h]

set_option maxHeartbeats 4000000 in
set_option maxRecDepth 20000 in
theorem begins_any (va vb : Value) (bs0 bs : List Bat) (w : World) (ha : BatsAt w va bs0) (hb : BatsAt w vb bs) (hp : bs0 <+: bs) (hg : ∀ b ∈ bs0, b.1 < 1000000 ∧ b.2.length ≤ 1000) (hl : bs.length ≤ 1000000) :
    Calls Tryd.prog 19 #[va, vb] w fun e w' => e = .returned (.bool true) ∧ Below w.heap.size w w' := by
  obtain ⟨G1, cap1, rfl, _, hc1⟩ := ha
  obtain ⟨G2, cap2, rfl, _, hc2⟩ := hb
  have hle := hp.length_le
  have HF : Hid (∀ j (h : j < bs0.length) (wr : World), Below w.heap.size w wr → ∃ g1, G1 = some ⟨g1, 0, none⟩ ∧ ∃ g2, G2 = some ⟨g2, 0, none⟩ ∧ BatIn wr g1 (j * 2) bs0[j] ∧ BatIn wr g2 (j * 2) bs0[j]) := by
    intro j h wr hb
    obtain ⟨g, hG, hg, a0⟩ := hc1 j bs0[j] (List.getElem?_eq_getElem h)
    obtain ⟨k, hK, hk, b0⟩ := hc2 j bs0[j] (pre_get hp j h)
    exact ⟨g, hG, k, hK, a0.down hb, b0.down hb⟩
  have HG := Lib.hid hg
  have d0 : decide (bs.length < bs0.length) = false := decide_eq_false (by omega)
  clear hc1 hc2 hg hp
  go_enter Tryd.func19, Tryd.ntmps19
  go_wp2_with fail
  clear d0
  go_loopw [5] (fun i wr => ∃ j : Nat, j ≤ bs0.length ∧ i = .int .i64 j ∧ Below w.heap.size w wr) (fun i _ => bs0.length - (intOf i).toNat)
  case atStart => exact ⟨0, Nat.zero_le _, rfl, Below.refl _ _⟩
  case round =>
    obtain ⟨j, hj, rfl, hbel⟩ := hrel
    by_cases hlt : j < bs0.length
    · have hlt2 : j < bs.length := by omega
      obtain ⟨g1, hG1, g2, hG2, d1, d2⟩ := HF.out j hlt wr hbel
      obtain ⟨hx1, hx2⟩ := HG.out bs0[j] (List.getElem_mem _)
      generalize bs0[j] = x at d1 d2 hx1 hx2
      have hdr := Below.drew (Below.refl wr.heap.size wr)
      obtain ⟨v1, m0, m1, e1⟩ := d1
      obtain ⟨v2, n0, n1, e2⟩ := d2
      have hS : Hid (∀ w', Below wr.heap.size wr w' → Calls Tryd.prog 13 #[.agg #[.int .i64 x.1, v1], .agg #[.int .i64 x.1, v2]] w' fun e w'' => e = .returned (.bool true) ∧ Below w'.heap.size w' w'') :=
        fun w' hb => sameBatch_any x.1 x.2 v1 v2 w' (e1.down hb) (e2.down hb) hx1 hx2
      have HB := Lib.hid hbel
      subst hG1; subst hG2
      clear e1 e2 hbel
      go_wp2_with fail
      go_still_tail 8, (by kernel_rfl)
      change wpList _ _ _ _ _ wr.drew
      go_wp2_with fail
      refine (hS.out _ hdr).mono ?_
      rintro e w3 ⟨rfl, hb3⟩
      have hb4 := bt (bt HB.out hdr) hb3
      clear m0 m1 n0 n1 hdr hb3
      go_wp2_with fail
      go_roundw
      case rel => exact ⟨j + 1, by omega, by go_num, hb4⟩
      case measure => simp [intOf]; omega
    · obtain rfl : j = bs0.length := by omega
      go_wp2_with fail
      go_ret
      exact ⟨rfl, hbel⟩
end Go.Proofs.YtdobigkhilimlaaDoor
