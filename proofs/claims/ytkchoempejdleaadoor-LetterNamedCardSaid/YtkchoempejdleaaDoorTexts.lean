/-
  DERIVED. 'sameTexts' of postroomkeep, of texts that are the same: the walk.
-/
import Derived.Test.YtkchoempejdleaaDoorValues
import Derived.BigQuiet
import Derived.Deep.QuietTactic
namespace Go.Proofs.YtkchoempejdleaaDoor
open Go.RowKit

/-- 'the slice u holds the texts l' -/
def TxtAt (w : World) (u : Value) (l : List (List UInt8)) : Prop :=
  ∃ G cap, u = .slice G l.length cap ∧ ∀ i s, l[i]? = some s → ∃ g, G = some ⟨g, 0, none⟩ ∧ g < w.heap.size ∧ w.cell? ⟨g, i, none⟩ = some (.string ⟨s.toArray⟩)
theorem TxtAt.down {w w' : World} {u : Value} {l : List (List UInt8)} (h : TxtAt w u l) (hb : Below w.heap.size w w') : TxtAt w' u l := by
  obtain ⟨G, cap, hv, hf⟩ := h
  refine ⟨G, cap, hv, fun i f hi => ?_⟩
  obtain ⟨g, hG, hg, h0⟩ := hf i f hi
  exact ⟨g, hG, Nat.lt_of_lt_of_le hg hb.size, moved h0 hb (Nat.le_refl _)⟩
theorem TxtAt.of_row {w : World} {base : Nat} {u : Value} {l : List (List UInt8)} (h : w.ownsRow base 9 1 u l.length (scells l)) : TxtAt w u l := by
  by_cases h0 : 0 < l.length
  · obtain ⟨g, cap, rfl, _, hg⟩ := World.ownsRow.form h h0
    refine ⟨_, cap, rfl, fun i s hi => ⟨g, rfl, hg, ?_⟩⟩
    have hl : i < l.length := (List.getElem?_eq_some_iff.1 hi).1
    refine (h.cellAt i (by omega)).trans ?_
    unfold scells
    rw [List.getElem?_map, hi]; rfl
  · rcases h.2 with ⟨h1, h2⟩ | ⟨g, cap, _, h1, _⟩
    · refine ⟨none, 0, by rw [h1, h2], fun i f hi => ?_⟩
      have hl : i < l.length := (List.getElem?_eq_some_iff.1 hi).1
      omega
    · refine ⟨_, cap, h1, fun i f hi => ?_⟩
      have hl : i < l.length := (List.getElem?_eq_some_iff.1 hi).1
      omega
/-- a new slice of one text -/
theorem TxtAt.one (w : World) (T : ByteArray) : TxtAt (w.alloc (.cells #[.string T] 9)) (.slice (some ⟨w.heap.size, 0, none⟩) 1 1) [T.data.toList] := by
  refine ⟨_, 1, rfl, fun i s hi => ⟨w.heap.size, rfl, by simp, ?_⟩⟩
  have hl : i < 1 := (List.getElem?_eq_some_iff.1 hi).1
  obtain rfl : i = 0 := by omega
  obtain rfl : T.data.toList = s := by simpa using hi
  exact alloc_cell w #[.string T] _ 0 _ rfl

set_option maxHeartbeats 4000000 in
set_option maxRecDepth 20000 in
theorem texts_any (l : List (List UInt8)) (u1 u2 : Value) (w : World) (h1 : TxtAt w u1 l) (h2 : TxtAt w u2 l) (hlen : l.length ≤ 1000) :
    Calls Tryd.prog 28 #[u1, u2] w fun e w' => e = .returned (.bool true) ∧ Below w.heap.size w w' := by
  obtain ⟨G1, cap1, rfl, hc1⟩ := h1
  obtain ⟨G2, cap2, rfl, hc2⟩ := h2
  have HF : Hid (∀ j (h : j < l.length) (wr : World), Below w.heap.size w wr → ∃ g1, G1 = some ⟨g1, 0, none⟩ ∧ ∃ g2, G2 = some ⟨g2, 0, none⟩ ∧ ∃ N : ByteArray, wr.cell? ⟨g1, j, none⟩ = some (.string N) ∧ wr.cell? ⟨g2, j, none⟩ = some (.string N)) := by
    intro j h wr hb
    obtain ⟨g, hG, _, a0⟩ := hc1 j l[j] (List.getElem?_eq_getElem h)
    obtain ⟨k, hK, _, b0⟩ := hc2 j l[j] (List.getElem?_eq_getElem h)
    exact ⟨g, hG, k, hK, _, moved a0 hb (Nat.le_refl _), moved b0 hb (Nat.le_refl _)⟩
  clear hc1 hc2
  go_enter Tryd.func28, Tryd.ntmps28
  go_wp2_with fail
  go_loopw [5] (fun i wr => ∃ j : Nat, j ≤ l.length ∧ i = .int .i64 j ∧ Below w.heap.size w wr) (fun i _ => l.length - (intOf i).toNat)
  case atStart => exact ⟨0, Nat.zero_le _, rfl, Below.refl _ _⟩
  case round =>
    obtain ⟨j, hj, rfl, hbel⟩ := hrel
    by_cases hlt : j < l.length
    · obtain ⟨g1, hG1, g2, hG2, N, d0, d1⟩ := HF.out j hlt wr hbel
      subst hG1; subst hG2
      go_wp2_with fail
      go_quiet (fail)
      have hbw2 := bt hbel (below_drewN (Below.refl wr.heap.size wr) nq)
      clear d0 d1 hbel
      go_wp2_with fail
      go_roundw
      case rel => exact ⟨j + 1, by omega, by go_num, hbw2⟩
      case measure => simp [intOf]; omega
    · obtain rfl : j = l.length := by omega
      go_wp2_with fail
      go_ret
      exact ⟨rfl, hbel⟩
end Go.Proofs.YtkchoempejdleaaDoor
