/-
  DERIVED. 'Check' of box, of a state whose one box has no next Uid: the walk.
-/
import Derived.Test.YthllhakgcnfmcaaDoorBoxUids
namespace Go.Proofs.YthllhakgcnfmcaaDoor
open Go.RowKit

set_option maxHeartbeats 4000000 in
set_option maxRecDepth 20000 in
theorem box_bad (w : World) :
    Calls Tryd.prog 30 #[.agg #[.string ⟨#[97]⟩, .int .i64 0, .slice none 0 0]] w fun e w' => e = .returned (.bool false) ∧ Below w.heap.size w w' := by
  have hN : Hid (∀ w, Calls Tryd.prog 37 #[.string ⟨#[97]⟩] w fun e w' => e = .returned (.int .i64 0) ∧ w = w') := by
    intro w; have := name_list [97] w (by simp); rwa [show nameCode [97] = 0 by decide] at this
  have HA := Lib.hid (ba (Below.refl w.heap.size w) (.cells #[.string ⟨#[97]⟩, .int .i64 0, .slice none 0 0] 39))
  go_enter Tryd.func30, Tryd.ntmps30
  go_wp2_with fail
  refine (hN.out _).mono ?_
  rintro e w1 ⟨rfl, rfl⟩
  go_wp2_with fail
  go_ret
  exact ⟨rfl, HA.out⟩

set_option maxHeartbeats 8000000 in
set_option maxRecDepth 20000 in
theorem check_bad (g : Nat) (w : World) (p0 : w.cell? ⟨g, 0, none⟩ = some (.string ⟨#[97]⟩)) (p1 : w.cell? ⟨g, 1, none⟩ = some (.int .i64 0)) (p2 : w.cell? ⟨g, 2, none⟩ = some (.slice none 0 0)) :
    Calls Tryd.prog 20 #[.agg #[.slice (some ⟨g, 0, none⟩) 1 1, .slice none 0 0]] w fun e w' => e = .returned (.int .i64 11) ∧ Below w.heap.size w w' := by
  have hg : g < w.heap.size := World.block_lt_of_cell? w ⟨g, 0, none⟩ p0
  have hA := ba (Below.refl w.heap.size w) (.cells #[.slice (some ⟨g, 0, none⟩) 1 1, .slice none 0 0] 28)
  have HX := Lib.hid (Has.alloc w [.slice (some ⟨g, 0, none⟩) 1 1, .slice none 0 0] 28)
  have c0 := moved p0 hA (Nat.le_refl _); have c1 := moved p1 hA (Nat.le_refl _); have c2 := moved p2 hA (Nat.le_refl _)
  have HA := Lib.hid hA
  clear hA p0 p1 p2
  go_enter Tryd.func20, Tryd.ntmps20
  go_wp2_with fail
  obtain ⟨N, hN⟩ : ∃ N, N = w.heap.size := ⟨_, rfl⟩
  obtain ⟨W0, hW0⟩ : ∃ W0, W0 = w.alloc (.cells #[.slice (some ⟨g, 0, none⟩) 1 1, .slice none 0 0] 28) := ⟨_, rfl⟩
  rw [← hW0] at HX HA c0 c1 c2 ⊢
  rw [← hN] at HX ⊢
  have hgr : g < W0.heap.size := by rw [hW0]; simp; omega
  clear hW0 hN
  go_loopw [20] (fun i wr => i = .int .i64 0 ∧ wr = W0) (fun _ _ => 0)
  case atStart => exact ⟨rfl, rfl⟩
  case round =>
    obtain ⟨rfl, rfl⟩ := hrel
    obtain ⟨x0, x1, -, -⟩ := HX.out.two
    have hA1 := ba (Below.refl wr.heap.size wr) (.cells #[.string ⟨#[97]⟩, .int .i64 0, .slice none 0 0] 39)
    have hr := Has.alloc wr [.string ⟨#[97]⟩, .int .i64 0, .slice none 0 0] 39
    have r0 := hr.1 0 _ rfl; have r1 := hr.1 1 _ rfl; have r2 := hr.1 2 _ rfl
    have y0 := moved x0 hA1 (Nat.le_refl _)
    have HA1 := Lib.hid hA1
    clear hr hA1
    go_upto_region 6 with fail
    clear c0 c1 c2 x0 x1
    obtain ⟨W1, hW1⟩ : ∃ W1, W1 = wr.alloc (.cells #[.string ⟨#[97]⟩, .int .i64 0, .slice none 0 0] 39) := ⟨_, rfl⟩
    obtain ⟨R, hR⟩ : ∃ R, R = wr.heap.size := ⟨_, rfl⟩
    rw [← hW1] at r0 r1 r2 y0 HA1 ⊢
    rw [← hR] at r0 r1 r2 ⊢
    have hdr := Below.drew (Below.refl W1.heap.size W1)
    clear hW1 hR
    (first | go_region_with ((go_at_call 30; refine (box_bad _).mono ?_; rintro e w3 ⟨rfl, hb3⟩)) | fail)
    all_goals
      have HB4 := Lib.hid (bt (bt (bt HA.out HA1.out) hdr) hb3)
      clear r0 r1 r2 y0 hb3 hdr
      go_wp2_with fail
      go_ret
      exact ⟨rfl, HB4.out⟩
end Go.Proofs.YthllhakgcnfmcaaDoor
