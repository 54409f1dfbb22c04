/-
  DERIVED. 'batchOf' of postroomkeep: the walk.
-/
import Derived.Test.YtaeejmggmgejcaaDoorEntriesOf
namespace Go.Proofs.YtaeejmggmgejcaaDoor
open Go.RowKit

def inboxE : Ent := ⟨4, 0, 0, [73, 78, 66, 79, 88], [], []⟩
/-- the entries of a batch -/
def batchXs (cs : List Raw) : List Ent := if cs = [] then [inboxE] else entsOf (cs.take 10)
theorem batchXs_form (cs : List Raw) : ∀ x ∈ batchXs cs, formV x = 0 := by
  intro x hx
  unfold batchXs at hx
  split at hx
  · obtain rfl := List.mem_singleton.1 hx
    decide
  · unfold entsOf at hx
    obtain ⟨c, _, rfl⟩ := List.mem_map.1 hx
    exact entOf_form c
theorem batchXs_len (cs : List Raw) : 1 ≤ (batchXs cs).length ∧ (batchXs cs).length ≤ 10 := by
  unfold batchXs
  split
  · exact ⟨Nat.le_refl _, by decide⟩
  · rename_i h
    have : 0 < cs.length := List.length_pos_iff.2 h
    unfold entsOf
    rw [List.length_map, List.length_take]
    omega
theorem EntsAt.one (w : World) (x : Ent) (t : TypeId) : EntsAt (w.alloc (.cells (entC x).toArray t)) (.slice (some ⟨w.heap.size, 0, none⟩) 1 1) [x] := by
  refine ⟨_, 1, rfl, Nat.le_refl _, fun i y hi => ⟨w.heap.size, rfl, by simp, ?_⟩⟩
  have h := (Has.alloc w (entC x) t).1
  cases i with
  | zero =>
    obtain rfl : x = y := by simpa using hi
    exact ⟨h 0 _ rfl, h 1 _ rfl, h 2 _ rfl, h 3 _ rfl, h 4 _ rfl, h 5 _ rfl⟩
  | succ i => simp at hi
theorem batchOf_end {R : Nat} {k : Nat} {v : Value} {a : Act} {W w : World} {xs : List Ent} (ht : a.tmps.getD 4 undef = .pointer (some ⟨R, 0, none⟩)) (hd : a.defers = []) (h : Has W R [.int .i64 k, v]) (he : EntsAt W v xs) (hb : Below w.heap.size w W) :
    bodyPost Tryd.prog Tryd.f9 (fun e w' => (∃ v, e = .returned (.agg #[.int .i64 k, v]) ∧ EntsAt w' v xs) ∧ Below w.heap.size w w') .ret a W := by
  obtain ⟨c0, c1, _, _⟩ := h.two
  refine bodyPost_ret (v := .agg #[.int .i64 k, v]) ?_ hd ⟨⟨_, rfl, he⟩, hb⟩
  have ht' : a.tmps[4]?.getD undef = .pointer (some ⟨R, 0, none⟩) := by simpa using ht
  simp [results, Tryd.results9, go_sem, ht', c0, c1]
theorem min_zero_iff {cs : List Raw} (h : min cs.length 10 = 0) : cs = [] := List.eq_nil_of_length_eq_zero (by omega)

set_option maxHeartbeats 4000000 in
set_option maxRecDepth 20000 in
theorem batchOf_any (a : Option Addr) (cap : Nat) (cs : List Raw) (user : Int) (w : World) (h : RawsAt w a cs) (hlen : cs.length ≤ 9223372036854775807) (hu : Int64 user) :
    Calls Tryd.prog 9 #[.slice a cs.length cap, .int .i64 user] w fun e w' => (∃ v, e = .returned (.agg #[.int .i64 (pick user (3 : Nat)), v]) ∧ EntsAt w' v (batchXs cs)) ∧ Below w.heap.size w w' := by
  have HP : Hid (∀ w, Calls Tryd.prog 5 #[.int .i64 user, .int .i64 3] w fun e w' => e = .returned (.int .i64 (pick user (3 : Nat))) ∧ w = w') := fun w => picked_any user 3 w hu.1 hu.2 (by omega) (by omega)
  have HE : Hid (∀ w', Below w.heap.size w w' → Calls Tryd.prog 16 #[.slice a cs.length cap, .int .i64 10] w' fun e w'' => (∃ v, e = .returned v ∧ w''.ownsRow w'.heap.size 44 6 v (min cs.length 10) (ecells (entsOf (cs.take 10)))) ∧ Below w'.heap.size w' w'') :=
    fun w' hb => entriesOf_any a cap cs 10 w' (h.down hb) hlen (by omega)
  generalize pick user (3 : Nat) = k at HP
  obtain ⟨n, hn⟩ : ∃ n, n = min cs.length 10 := ⟨_, rfl⟩
  rw [← hn] at HE
  have HNN := Lib.hid hn; clear hn
  have hb0 := ba (Below.refl _ w) (.cells #[.int .i64 0, .slice none 0 0] 34)
  have HB0 := Lib.hid hb0; clear hb0
  clear h hu
  go_enter Tryd.func9, Tryd.ntmps9
  go_wp2_with fail
  refine (HP.out _).mono ?_
  rintro e w1 ⟨rfl, rfl⟩
  go_wp2_with fail
  refine (HE.out _ HB0.out).mono ?_
  rintro e w2 ⟨⟨v, rfl, hown⟩, hb2⟩
  have h1 := (Has.alloc w [.int .i64 0, .slice none 0 0] 34).down hb2
  have hw2 := bt HB0.out hb2
  have hlt := h1.2.2
  obtain ⟨G, cap2, rfl⟩ := SliceOf.own hown
  by_cases hz : n = 0
  · subst hz
    obtain ⟨c0, c1, p0, p1⟩ := h1.two
    have HW := Lib.hid hw2; clear hw2
    have H1 := Lib.hid h1; clear h1
    have hcs : Hid (batchXs cs = [inboxE]) := by unfold Hid batchXs; rw [if_pos (min_zero_iff HNN.out.symm)]
    clear hown
    go_wp2_with fail
    refine batchOf_end (R := w.heap.size) rfl rfl ((((H1.out.set' (i := 0) (.int .i64 k) (by simp)).set' (i := 1) (.slice (some ⟨w2.heap.size + 1, 0, none⟩) 1 1) (by simp)).down (ba (Below.refl _ _) _)).down (ba (Below.refl _ _) _)) ?_ (ba (ba ((HW.out.setCell (Nat.le_refl _) _).setCell (Nat.le_refl _) _) _) _)
    rw [hcs.out]
    have hs : (((w2.setCell ⟨w.heap.size, 0, none⟩ (.int .i64 k)).setCell ⟨w.heap.size, 1, none⟩ (.slice (some ⟨w2.heap.size + 1, 0, none⟩) 1 1)).alloc (.cells #[.int .i64 k, .slice (some ⟨w2.heap.size + 1, 0, none⟩) 1 1] 34)).heap.size = w2.heap.size + 1 := by simp [World.setCell]
    have := EntsAt.one (((w2.setCell ⟨w.heap.size, 0, none⟩ (.int .i64 k)).setCell ⟨w.heap.size, 1, none⟩ (.slice (some ⟨w2.heap.size + 1, 0, none⟩) 1 1)).alloc (.cells #[.int .i64 k, .slice (some ⟨w2.heap.size + 1, 0, none⟩) 1 1] 34)) inboxE 44
    rw [hs] at this
    exact this
  · have hcs : Hid (batchXs cs = entsOf (cs.take 10)) := by unfold Hid batchXs; rw [if_neg (by intro e; rw [e] at HNN; exact hz (by have := HNN.out; simpa using this))]
    obtain ⟨c0, c1, p0, p1⟩ := h1.two
    have HW := Lib.hid hw2; clear hw2
    have H1 := Lib.hid h1; clear h1
    have HO := Lib.hid hown; clear hown
    go_wp2_with fail
    refine batchOf_end (R := w.heap.size) rfl rfl (((H1.out.set' (i := 0) (.int .i64 k) (by simp)).set' (i := 1) (.slice G n cap2) (by simp)).down (ba (Below.refl _ _) _)) ?_ (ba ((HW.out.setCell (Nat.le_refl _) _).setCell (Nat.le_refl _) _) _)
    have ho := HO.out
    have hl : n = (entsOf (cs.take 10)).length := by rw [HNN.out]; unfold entsOf; rw [List.length_map, List.length_take]; omega
    rw [hcs.out]
    rw [hl] at ho ⊢
    exact EntsAt.of_row ((row_else (row_else ho (by simp) 0 _) (by simp) 1 _).alloc _)
end Go.Proofs.YtaeejmggmgejcaaDoor
