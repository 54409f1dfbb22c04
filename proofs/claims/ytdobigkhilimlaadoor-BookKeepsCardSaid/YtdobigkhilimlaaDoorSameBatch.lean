/-
  DERIVED. 'sameBatch' of postroomkeep, of two batches that are the same: the walk.
-/
import Derived.Test.YtdobigkhilimlaaDoorBats
import Derived.Test.YtdobigkhilimlaaDoorHas
import Derived.BigQuiet
import Derived.Deep.QuietTactic
namespace Go.Proofs.YtdobigkhilimlaaDoor
open Go.RowKit

set_option maxHeartbeats 4000000 in
set_option maxRecDepth 20000 in
theorem sameBatch_any (u : Nat) (xs : List Ent) (v1 v2 : Value) (w : World) (h1 : EntsAt w v1 xs) (h2 : EntsAt w v2 xs) (_hu : u < 1000000) (hlen : xs.length ≤ 1000) :
    Calls Tryd.prog 13 #[.agg #[.int .i64 u, v1], .agg #[.int .i64 u, v2]] w fun e w' => e = .returned (.bool true) ∧ Below w.heap.size w w' := by
  obtain ⟨G1, cap1, rfl, hc1⟩ := h1
  obtain ⟨G2, cap2, rfl, hc2⟩ := h2
  have HF : Hid (∀ j (h : j < xs.length) (wr : World), Below w.heap.size w wr → ∃ g1, G1 = some ⟨g1, 0, none⟩ ∧ ∃ g2, G2 = some ⟨g2, 0, none⟩ ∧ EntIn wr g1 j xs[j] ∧ EntIn wr g2 j xs[j]) := by
    intro j h wr hb
    obtain ⟨g, hG, hg, a0⟩ := hc1 j xs[j] (List.getElem?_eq_getElem h)
    obtain ⟨k, hK, hk, b0⟩ := hc2 j xs[j] (List.getElem?_eq_getElem h)
    exact ⟨g, hG, k, hK, a0.down hb, b0.down hb⟩
  have hb1 := ba (ba (Below.refl _ w) (.cells #[.int .i64 u, .slice G1 xs.length cap1] 25)) (.cells #[.int .i64 u, .slice G2 xs.length cap2] 25)
  have k1 := (Has.alloc w [.int .i64 u, .slice G1 xs.length cap1] 25).down (ba (Below.refl _ _) (.cells #[.int .i64 u, .slice G2 xs.length cap2] 25))
  have k2 := Has.alloc (w.alloc (.cells #[.int .i64 u, .slice G1 xs.length cap1] 25)) [.int .i64 u, .slice G2 xs.length cap2] 25
  simp only [World.size_alloc] at k2
  have HB1 := Lib.hid hb1; have K1 := Lib.hid k1; have K2 := Lib.hid k2
  clear hb1 k1 k2 hc1 hc2
  go_enter Tryd.func13, Tryd.ntmps13
  go_wp2_with fail
  go_loopw [5] (fun i wr => ∃ j : Nat, j ≤ xs.length ∧ i = .int .i64 j ∧ Below w.heap.size w wr ∧ Has wr w.heap.size [.int .i64 u, .slice G1 xs.length cap1] ∧ Has wr (w.heap.size + 1) [.int .i64 u, .slice G2 xs.length cap2]) (fun i _ => xs.length - (intOf i).toNat)
  case atStart => exact ⟨0, Nat.zero_le _, rfl, HB1.out, K1.out, K2.out⟩
  case round =>
    obtain ⟨j, hj, rfl, hbel, a1, a2⟩ := hrel
    obtain ⟨c0, c1, _, _⟩ := a1.two
    obtain ⟨c2, c3, _, _⟩ := a2.two
    have A1 := Lib.hid a1; have A2 := Lib.hid a2
    clear a1 a2
    by_cases hlt : j < xs.length
    · obtain ⟨g1, hG1, g2, hG2, d1, d2⟩ := HF.out j hlt wr hbel
      generalize xs[j] = x at d1 d2
      obtain ⟨m0, m1, m2, m3, m4, m5⟩ := d1
      obtain ⟨n0, n1, n2, n3, n4, n5⟩ := d2
      subst hG1; subst hG2
      go_wp2_with fail
      go_quiet (fail)
      have hq := below_drewN wr nq
      have hb2 := bt hbel hq
      have k1 := A1.out.down hq
      have k2 := A2.out.down hq
      clear c0 c1 c2 c3 m0 m1 m2 m3 m4 m5 n0 n1 n2 n3 n4 n5 hbel hq
      have A1' := Lib.hid k1; have A2' := Lib.hid k2
      clear k1 k2
      go_wp2_with fail
      go_roundw
      case rel => exact ⟨j + 1, by omega, by go_num, hb2, A1'.out, A2'.out⟩
      case measure => simp [intOf]; omega
    · obtain rfl : j = xs.length := by omega
      go_wp2_with fail
      go_ret
      exact ⟨rfl, hbel⟩
end Go.Proofs.YtdobigkhilimlaaDoor
