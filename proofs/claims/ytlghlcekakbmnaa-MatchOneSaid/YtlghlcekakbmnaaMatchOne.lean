/-
  DERIVED. MatchOne: the walk.
-/
import Derived.Test.YtlghlcekakbmnaaMatchWalks
import Derived.Deep.RegionWith
namespace Go.Proofs.Ytlghlcekakbmnaa
open Go.RowKit

theorem run_byte_str_at {w1 : World} {g : Nat} {c : UInt8} (h : w1.heap[g]? = some (.cells #[.int .u8 (c.toNat : Int)] 5 (0, 0))) :
    (convert 23 9 (.slice (some ⟨g, 0, none⟩) 1 1)).run Try.prog w1 = .ok (.string ⟨#[c]⟩) w1 := by
  have hh : OwnB w1 0 5 (.slice (some ⟨g, 0, none⟩) 1 1) [c] :=
    ⟨rfl, .inr ⟨g, 1, _, rfl, Nat.zero_le _, h, Nat.le_refl _, by decide, rfl, rfl⟩⟩
  exact run_str_own hh Try.underlying23 Try.underlying5 Try.underlying9

set_option maxHeartbeats 4000000 in
theorem matchOneWalk (s : ByteArray) (m : Int) (w : World) (ws : s.size ≤ maxLen) (wm : (Lit.int .u8 m).wf = true) :
    Calls Try.prog 8 #[.string s, .int .u8 m] w fun e w' => e = .returned (.bool true) ∧ Below w.heap.size w w' := by
  obtain ⟨c, rfl⟩ := wf_u8 wm
  clear wm
  obtain ⟨t, htl, ct⟩ := cutN s 30 ws (by omega)
  have hml := maskL_length t
  have M1 := m3 (t ++ [c]) (maskL t ++ [63]) true (by
    rw [foldL_app, foldL_app, foldL_mask, pcs_mask_app, mt_lits_pre]; rfl) (by simp; omega) (by simp; omega)
  have M2 := m3 t (maskL t ++ [63]) false (by
    rw [foldL_app, foldL_mask, pcs_mask_app]
    have := mt_lits_pre (foldL t) (pcs (foldL [63])) []
    rw [List.append_nil] at this
    rw [this]; rfl) (by omega) (by simp; omega)
  have M0 := fun w => match0_any ⟨t.toArray⟩ ⟨t.toArray⟩ w
  have K := mk t (by omega)
  rw [← app_mk, ← app_mk] at M1
  rw [← app_mk] at M2
  have kc := fun W => run_byte_str W c
  have kcd := fun (W : World) => run_byte_str_at (w1 := (W.alloc (.cells #[.int .u8 (c.toNat : Int)] 5)).drew) (g := W.heap.size) (c := c) (World.alloc_heap_new W _)
  obtain ⟨q, hq⟩ : ∃ q, q = maskL t := ⟨_, rfl⟩
  rw [← hq] at M1 M2 K hml
  have hql : q.length ≤ 60 := by omega
  have hq' : (⟨q.toArray⟩ : ByteArray).size ≤ 60 := hql
  have ht' : (⟨t.toArray⟩ : ByteArray).size ≤ 30 := htl
  have HC := Lib.hid ct; have H1 := Lib.hid M1; have H2 := Lib.hid M2; have HK := Lib.hid K; have H0 := Lib.hid M0
  clear ct M1 M2 M0 K hq hml
  go_enter Try.func8, Try.ntmps8
  go_wp2_with fail
  refine (HC.out _).mono ?_
  rintro e w1 ⟨rfl, rfl⟩
  go_wp2_with fail
  go_region_with (first | (go_at_call 14; refine (HK.out _).mono ?_; rintro e w1 ⟨rfl, hb1⟩; try (have kc1 := run_byte_str_at (w1 := w1) (g := w.heap.size) (c := c) (by rw [hb1.block _ (by simp)]; exact World.alloc_heap_new w _))) | (go_at_call 15; refine (H1.out _).mono ?_; rintro e w2 ⟨rfl, hb2⟩))
  all_goals
    have hB2 : Below w.heap.size w w2 := by
      first
      | exact bt (bt (Below.drew (ba (Below.refl _ w) _)) hb1) hb2
      | exact bt (ba (bt (Below.drew (Below.refl _ w)) hb1) _) hb2
    clear hb1 hb2
    go_wp2_with fail
    refine (HK.out _).mono ?_
    rintro e w3 ⟨rfl, hb3⟩
    go_wp2_with fail
    refine (H2.out _).mono ?_
    rintro e w4 ⟨rfl, hb4⟩
    go_wp2_with fail
    refine (H0.out _).mono ?_
    rintro e w5 ⟨rfl, hb5⟩
    go_wp2
    go_ret
    exact ⟨rfl, bt (bt (bt hB2 hb3) hb4) hb5⟩
end Go.Proofs.Ytlghlcekakbmnaa
